/-
  reckon.value: a variable; what was put.
-/
import Derived.Test.YtedfepnekjjmnaaVal
namespace Go.Proofs.Ytedfepnekjjmnaa
open Go.RowKit
set_option linter.unusedSimpArgs false
set_option linter.unusedVariables false
section
variable {bd : List T} {self : Int} {x : T} {S : Nat → Prop} {w : World} {v vb : Value}

set_option maxHeartbeats 2000000 in
theorem val_5 (hv : RT S w x v) (hb : RSl S w bd vb) (hl : bd.length = 4) (hS : ∀ b, S b → b < w.heap.size) (hbb : bulkL bd ≤ 1099511627776) (hk : x.kind = 5) (hn : ∃ k : Nat, x.n = k ∧ k < 4) : Calls Try.prog 63 #[v, vb, .int .i64 self] w (VPost S w (valT bd self x)) := by
  obtain ⟨a, cap, rfl, hcap, hr⟩ := hv
  obtain ⟨ab, capb, rfl, hcapb, hrb⟩ := hb
  obtain ⟨k, hn, hk4⟩ := hn
  obtain ⟨b, o, rfl⟩ := hrb.addr (by omega)
  obtain ⟨a', cap', hSb, d0, d1, d2, d3, hE⟩ := hrb.elem k (by omega)
  have hE := Lib.hid hE
  have hbu := bulk_at (ts := bd) (i := k) (by omega)
  have HV := Lib.hid (valT_5 (bd := bd) (self := self) hk hn (by omega))
  have h1 : w.heap.size < w.heap.size + 1 + 1 := by omega
  have hlb : b < w.heap.size := hS b hSb
  have hlb' : b < w.heap.size + 1 := by omega
  have hlb2 : b < w.heap.size + 1 + 1 := by omega
  clear hcap hr hcapb hrb
  rw [hn, hl, hk]
  have hkl : (k : Int) < 4 := by omega
  generalize bd[k] = u at *
  go_enter Try.func63, Try.ntmps63
  go_wp2_with fail
  obtain ⟨W, hW⟩ : ∃ W : World, W = ((w.alloc (.cells #[.int .i64 5, .int .i64 k, .string x.name, .slice a x.args.length cap] 29)).alloc (.cells #[.int .i64 0, .int .i64 0, .string ⟨#[]⟩, .slice none 0 0] 29)).alloc (.cells #[.int .i64 u.kind, .int .i64 u.n, .string u.name, .slice a' u.args.length cap'] 29) := ⟨_, rfl⟩
  rw [← hW]
  have hWs : W.heap.size = w.heap.size + 1 + 1 + 1 := by rw [hW]; simp
  have hWB : Below w.heap.size w W := by rw [hW]; exact ((below_alloc _ _).alloc (by simp) _).alloc (by simp <;> omega) _
  have hWc : (fun w' : World => w'.cell? ⟨w.heap.size + 1 + 1, 0, none⟩ = some (.int .i64 u.kind) ∧ w'.cell? ⟨w.heap.size + 1 + 1, 1, none⟩ = some (.int .i64 u.n) ∧ w'.cell? ⟨w.heap.size + 1 + 1, 2, none⟩ = some (.string u.name) ∧ w'.cell? ⟨w.heap.size + 1 + 1, 3, none⟩ = some (.slice a' u.args.length cap')) W := by rw [hW]; go_simp
  have hWz : (fun w' : World => w'.cell? ⟨w.heap.size + 1, 0, none⟩ = some (.int .i64 0) ∧ w'.cell? ⟨w.heap.size + 1, 1, none⟩ = some (.int .i64 0) ∧ w'.cell? ⟨w.heap.size + 1, 2, none⟩ = some (.string ⟨#[]⟩) ∧ w'.cell? ⟨w.heap.size + 1, 3, none⟩ = some (.slice none 0 0)) W := by rw [hW]; go_simp
  have hWf : ∀ o, W.frozen? ⟨w.heap.size + 1, o, none⟩ = false := fun o => by rw [hW]; go_simp
  simp only [] at hWc hWz
  have HU := Lib.hid ((hE.out.below hWB).below (Below.drew (Below.refl W.heap.size W)))
  have HWB := Lib.hid hWB
  clear hW hWB d0 d1 d2 d3
  have hz1 : w.heap.size + 1 < W.heap.size := by omega
  have hz2 : w.heap.size + 1 + 1 < W.heap.size := by omega
  have hq : ∀ w3 : World, Below W.drew.heap.size W.drew w3 → (fun w' : World => w'.cell? ⟨w.heap.size + 1 + 1, 0, none⟩ = some (.int .i64 u.kind) ∧ w'.cell? ⟨w.heap.size + 1 + 1, 1, none⟩ = some (.int .i64 u.n) ∧ w'.cell? ⟨w.heap.size + 1 + 1, 2, none⟩ = some (.string u.name) ∧ w'.cell? ⟨w.heap.size + 1 + 1, 3, none⟩ = some (.slice a' u.args.length cap')) w3 := fun w3 h => by
    obtain ⟨q, -⟩ := bcell h
    show _ ∧ _ ∧ _ ∧ _
    rw [q _ _ hz2, q _ _ hz2, q _ _ hz2, q _ _ hz2]; exact hWc
  have hz : ∀ w3 : World, Below W.drew.heap.size W.drew w3 → (fun w' : World => w'.cell? ⟨w.heap.size + 1, 0, none⟩ = some (.int .i64 0) ∧ w'.cell? ⟨w.heap.size + 1, 1, none⟩ = some (.int .i64 0) ∧ w'.cell? ⟨w.heap.size + 1, 2, none⟩ = some (.string ⟨#[]⟩) ∧ w'.cell? ⟨w.heap.size + 1, 3, none⟩ = some (.slice none 0 0) ∧ ∀ o, w'.frozen? ⟨w.heap.size + 1, o, none⟩ = false) w3 := fun w3 h => by
    obtain ⟨q, r⟩ := bcell h
    show _ ∧ _ ∧ _ ∧ _ ∧ _
    rw [q _ _ hz1, q _ _ hz1, q _ _ hz1, q _ _ hz1]; exact ⟨hWz.1, hWz.2.1, hWz.2.2.1, hWz.2.2.2, fun o => by rw [r _ _ hz1]; exact hWf o⟩
  have hkeep : ∀ (w4 : World) (u0 u1 u2 u3 : Value), Below W.drew.heap.size W.drew w4 → (fun w' : World => w'.cell? ⟨w.heap.size + 1 + 1, 0, none⟩ = some (.int .i64 u.kind) ∧ w'.cell? ⟨w.heap.size + 1 + 1, 1, none⟩ = some (.int .i64 u.n) ∧ w'.cell? ⟨w.heap.size + 1 + 1, 2, none⟩ = some (.string u.name) ∧ w'.cell? ⟨w.heap.size + 1 + 1, 3, none⟩ = some (.slice a' u.args.length cap')) ((((w4.setCell ⟨w.heap.size + 1, 0, none⟩ u0).setCell ⟨w.heap.size + 1, 1, none⟩ u1).setCell ⟨w.heap.size + 1, 2, none⟩ u2).setCell ⟨w.heap.size + 1, 3, none⟩ u3) := fun w4 u0 u1 u2 u3 h => by
    have hne : w.heap.size + 1 + 1 ≠ w.heap.size + 1 := by omega
    have e : ∀ o', ((((w4.setCell ⟨w.heap.size + 1, 0, none⟩ u0).setCell ⟨w.heap.size + 1, 1, none⟩ u1).setCell ⟨w.heap.size + 1, 2, none⟩ u2).setCell ⟨w.heap.size + 1, 3, none⟩ u3).cell? ⟨w.heap.size + 1 + 1, o', none⟩ = w4.cell? ⟨w.heap.size + 1 + 1, o', none⟩ := fun o' => by
      refine World.cell?_of_block ?_
      simp only [setCell_other _ _ _ _ _ hne]
    simp only [e]
    exact hq _ h
  simp only [] at hq hz hkeep
  have hsd : W.drew.heap.size = W.heap.size := rfl
  go_region_held3 (fun w' => w'.cell? ⟨w.heap.size + 1 + 1, 0, none⟩ = some (.int .i64 u.kind) ∧ w'.cell? ⟨w.heap.size + 1 + 1, 1, none⟩ = some (.int .i64 u.n) ∧ w'.cell? ⟨w.heap.size + 1 + 1, 2, none⟩ = some (.string u.name) ∧ w'.cell? ⟨w.heap.size + 1 + 1, 3, none⟩ = some (.slice a' u.args.length cap'))
      (first | exact hWc | exact hq _ hBB | exact hkeep _ _ _ _ _ hBB | go_keep)
      (first
        | (go_at_call 70; refine (copied_c u S _ _ (by first | exact HU.out | exact HU.out.below hBf) (by omega)).mono ?_; rintro e wc ⟨vc, rfl, hBc, ac, capc, rfl, hcc, hrc⟩; (first | (have hBB := below_step hBf hBf.size hBc) | (have hBB := hBc)); obtain ⟨z0, z1, z2, z3, z4⟩ := hz _ hBB; obtain ⟨y0, y1, y2, y3⟩ := hq _ hBB)
        | (go_at_call 97; refine (free_c u S _ _ (by first | exact HU.out | exact HU.out.below hBc)).mono ?_; rintro e wf ⟨rfl, hBf⟩; (first | (have hBB := below_step hBc hBc.size hBf) | (have hBB := hBf)); obtain ⟨z0, z1, z2, z3, z4⟩ := hz _ hBB; obtain ⟨y0, y1, y2, y3⟩ := hq _ hBB))
  go_wp2_with fail
  refine bodyPost_ret (v := .tuple #[.agg #[.int .i64 u.kind, .int .i64 u.n, .string u.name, .slice ac u.args.length capc], .bool (!(u.kind == 6))]) (by simp [results, Try.results63, go_sem, z0, z1, z2, z3]) rfl (VPost.of u _ _ rfl ?_ ?_ ?_)
  · repeat refine Below.setCell ?_ (by simp <;> omega) _
    exact below_step (HWB.out.drew) (by omega) hBB
  · have hsc := hBc.size
    have hsf := hBf.size
    refine RT.mono (S := fun b => W.heap.size ≤ b) ?_ fun b hb => .inr (by omega)
    repeat refine RT.slot ?_ _ _ _ (fun b hb => by omega)
    exact RT.below ⟨ac, capc, rfl, hcc, hrc⟩ hBf
  · rw [HV.out, varO]; by_cases h : u.kind = 6 <;> simp [h]
end
end Go.Proofs.Ytedfepnekjjmnaa
