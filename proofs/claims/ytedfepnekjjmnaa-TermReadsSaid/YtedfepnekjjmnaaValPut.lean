/-
  reckon.value: what was put.
-/
import Derived.Test.YtedfepnekjjmnaaVal
namespace Go.Proofs.Ytedfepnekjjmnaa
open Go.RowKit
set_option linter.unusedSimpArgs false
set_option linter.unusedVariables false
section
variable {bd : List T} {self : Int} {x : T} {S : Nat → Prop} {w : World} {v vb : Value}

set_option maxHeartbeats 2000000 in
theorem val_put (hv : RT S w x v) (hS : ∀ b, S b → b < w.heap.size) (hb : bulkL [x] ≤ 1099511627776) (hk : x.kind = 4) (hs : isT x sSelf 0 = false) (hp : isT x sPut 1 = true) : Calls Try.prog 63 #[v, vb, .int .i64 self] w (VPost S w (valT bd self x)) := by
  obtain ⟨a, cap, rfl, hcap, hr⟩ := hv
  have HX : Hid (RT S w x _) := Lib.hid ⟨a, cap, rfl, hcap, hr⟩
  have hln := isT_length hp
  have hba := bulk_args x
  have hbe := bulk_at (ts := x.args) (i := 1) (by omega)
  obtain ⟨b, o, rfl⟩ := hr.addr (by omega)
  obtain ⟨a', cap', hSb, d0, d1, d2, d3, hE⟩ := hr.elem 1 (by omega)
  have hE := Lib.hid hE
  have hlb : b < w.heap.size := hS b hSb
  have HV := Lib.hid (valT_put (bd := bd) (self := self) hk hs hp (by omega))
  have h1 : w.heap.size < w.heap.size + 1 + 1 := by omega
  have h4 : (x.kind == 4) = true := by simpa using hk
  have h5 : (x.kind == 5) = false := by simp [hk]
  have h6 : (x.kind == 6) = false := by simp [hk]
  clear hk hcap hr
  simp only [Nat.one_mul] at d0 d1 d2 d3
  generalize x.args[1] = u at *
  go_enter Try.func63, Try.ntmps63
  go_wp2_with fail
  refine (is_ris x sSelf 0 S _ _ ((HX.out.alloc _).alloc _) (by omega) (by omega) (by omega)).mono ?_
  rintro e w1 ⟨rfl, hB1⟩
  rw [hs]
  have hs1 := hB1.size
  obtain ⟨hcc, hff⟩ := bcell hB1
  simp only [World.size_alloc] at hs1 hcc hff
  have g1 : w.heap.size < w1.heap.size := by omega
  have g2 : w.heap.size + 1 < w1.heap.size := by omega
  have g3 : b < w1.heap.size := by omega
  have g4 : b < w.heap.size + 1 + 1 := by omega
  have g5 : b < w.heap.size + 1 := by omega
  have HB1 := Lib.hid (below_step ((below_alloc _ _).alloc (by simp) _) (by simp <;> omega) hB1)
  have hs0 : w.heap.size ≤ w1.heap.size := by omega
  go_wp2_with fail
  refine (is_ris x sPut 1 S _ _ (HX.out.below HB1.out) (by omega) (by omega) (by omega)).mono ?_
  rintro e w2 ⟨rfl, hB2⟩
  rw [hp]
  have hs2 := hB2.size
  obtain ⟨hcc2, hff2⟩ := bcell hB2
  have HB2 := Lib.hid (below_step HB1.out (by omega) hB2)
  go_wp2_with fail
  have HE2 := Lib.hid ((hE.out.below HB2.out).mono (S' := S) fun _ h => h)
  have HE3 := Lib.hid (HE2.out.below (Below.drew (Below.refl w2.heap.size w2)))
  have g6 : w.heap.size < w2.heap.size := by omega
  have g7 : b < w2.heap.size := by omega
  have g8 : w.heap.size + 1 < w2.heap.size := by omega
  have hlu : (1 : Int) < x.args.length := by omega
  have hc3 : w2.cell? ⟨w.heap.size, 3, none⟩ = some (.slice (some ⟨b, o, none⟩) x.args.length cap) := by rw [hcc2 _ _ g1, hcc _ _ h1]; go_simp
  obtain ⟨e0, e1, e2, e3⟩ : w2.cell? ⟨b, o + 4, none⟩ = some (.int .i64 u.kind) ∧ w2.cell? ⟨b, o + 4 + 1, none⟩ = some (.int .i64 u.n) ∧ w2.cell? ⟨b, o + 4 + 2, none⟩ = some (.string u.name) ∧ w2.cell? ⟨b, o + 4 + 3, none⟩ = some (.slice a' u.args.length cap') := by
    obtain ⟨q, -⟩ := bcell HB2.out
    rw [q _ _ hlb, q _ _ hlb, q _ _ hlb, q _ _ hlb]; exact ⟨d0, d1, d2, d3⟩
  have hq : ∀ w3 : World, Below w2.drew.heap.size w2.drew w3 → w3.cell? ⟨w.heap.size, 3, none⟩ = some (.slice (some ⟨b, o, none⟩) x.args.length cap) ∧ w3.cell? ⟨b, o + 4, none⟩ = some (.int .i64 u.kind) ∧ w3.cell? ⟨b, o + 4 + 1, none⟩ = some (.int .i64 u.n) ∧ w3.cell? ⟨b, o + 4 + 2, none⟩ = some (.string u.name) ∧ w3.cell? ⟨b, o + 4 + 3, none⟩ = some (.slice a' u.args.length cap') := fun w3 h => by
    obtain ⟨q, -⟩ := bcell h
    rw [q _ _ g6, q _ _ g7, q _ _ g7, q _ _ g7, q _ _ g7]; exact ⟨hc3, e0, e1, e2, e3⟩
  have hz : ∀ w3 : World, Below w2.drew.heap.size w2.drew w3 → (∀ o, w3.frozen? ⟨w.heap.size + 1, o, none⟩ = false) ∧ w3.cell? ⟨w.heap.size + 1, 0, none⟩ = some (.int .i64 0) ∧ w3.cell? ⟨w.heap.size + 1, 1, none⟩ = some (.int .i64 0) ∧ w3.cell? ⟨w.heap.size + 1, 2, none⟩ = some (.string ⟨#[]⟩) ∧ w3.cell? ⟨w.heap.size + 1, 3, none⟩ = some (.slice none 0 0) := fun w3 h => by
    obtain ⟨q, r⟩ := bcell h
    have hx : w.heap.size + 1 < w.heap.size + 1 + 1 := by omega
    refine ⟨fun o => ?_, ?_⟩
    · rw [r _ _ g8]; show w2.frozen? _ = _; rw [hff2 _ _ g2, hff _ _ hx]; go_simp
    · rw [q _ _ g8, q _ _ g8, q _ _ g8, q _ _ g8]; show w2.cell? _ = _ ∧ w2.cell? _ = _ ∧ w2.cell? _ = _ ∧ w2.cell? _ = _; rw [hcc2 _ _ g2, hcc2 _ _ g2, hcc2 _ _ g2, hcc2 _ _ g2, hcc _ _ hx, hcc _ _ hx, hcc _ _ hx, hcc _ _ hx]; go_simp
  have hbne : b ≠ w.heap.size + 1 := by omega
  have hbne' : w.heap.size + 1 ≠ b := by omega
  have hbn2 : w.heap.size ≠ w.heap.size + 1 := by omega
  have hkeep : ∀ (w4 : World) (u0 u1 u2 u3 : Value), Below w2.drew.heap.size w2.drew w4 → (fun w' : World => w'.cell? ⟨w.heap.size, 3, none⟩ = some (.slice (some ⟨b, o, none⟩) x.args.length cap) ∧ w'.cell? ⟨b, o + 4, none⟩ = some (.int .i64 u.kind) ∧ w'.cell? ⟨b, o + 4 + 1, none⟩ = some (.int .i64 u.n) ∧ w'.cell? ⟨b, o + 4 + 2, none⟩ = some (.string u.name) ∧ w'.cell? ⟨b, o + 4 + 3, none⟩ = some (.slice a' u.args.length cap')) ((((w4.setCell ⟨w.heap.size + 1, 0, none⟩ u0).setCell ⟨w.heap.size + 1, 1, none⟩ u1).setCell ⟨w.heap.size + 1, 2, none⟩ u2).setCell ⟨w.heap.size + 1, 3, none⟩ u3) := fun w4 u0 u1 u2 u3 h => by
    have e : ∀ b' o', b' ≠ w.heap.size + 1 → ((((w4.setCell ⟨w.heap.size + 1, 0, none⟩ u0).setCell ⟨w.heap.size + 1, 1, none⟩ u1).setCell ⟨w.heap.size + 1, 2, none⟩ u2).setCell ⟨w.heap.size + 1, 3, none⟩ u3).cell? ⟨b', o', none⟩ = w4.cell? ⟨b', o', none⟩ := fun b' o' hne => by
      refine World.cell?_of_block ?_
      simp only [setCell_other _ _ _ _ _ hne]
    simp only [e _ _ hbne, e _ _ hbn2]
    exact hq _ h
  go_region_held3 (fun w' => w'.cell? ⟨w.heap.size, 3, none⟩ = some (.slice (some ⟨b, o, none⟩) x.args.length cap) ∧ w'.cell? ⟨b, o + 4, none⟩ = some (.int .i64 u.kind) ∧ w'.cell? ⟨b, o + 4 + 1, none⟩ = some (.int .i64 u.n) ∧ w'.cell? ⟨b, o + 4 + 2, none⟩ = some (.string u.name) ∧ w'.cell? ⟨b, o + 4 + 3, none⟩ = some (.slice a' u.args.length cap'))
      (first | exact ⟨hc3, e0, e1, e2, e3⟩ | exact hq _ hBB | exact hkeep _ _ _ _ _ hBB | go_keep)
      (first
        | (go_at_call 70; refine (copied_c u S _ _ (by first | exact HE3.out | exact HE3.out.below hBf) (by omega)).mono ?_; rintro e wc ⟨vc, rfl, hBc, ac, capc, rfl, hccc, hrc⟩; (first | (have hBB := below_step hBf hBf.size hBc) | (have hBB := hBc)); obtain ⟨z0, z1, z2, z3, z4⟩ := hz _ hBB; obtain ⟨y0, y1, y2, y3, y4⟩ := hq _ hBB)
        | (go_at_call 69; refine (closed_c u S _ _ (by first | exact HE3.out | exact HE3.out.below hBc) (by omega)).mono ?_; rintro e wf ⟨rfl, hBf⟩; (first | (have hBB := below_step hBc hBc.size hBf) | (have hBB := hBf)); obtain ⟨z0, z1, z2, z3, z4⟩ := hz _ hBB; obtain ⟨y0, y1, y2, y3, y4⟩ := hq _ hBB))
  go_wp2_with fail
  refine bodyPost_ret (v := .tuple #[.agg #[.int .i64 u.kind, .int .i64 u.n, .string u.name, .slice ac u.args.length capc], .bool (closedL [u])]) (by simp [results, Try.results63, go_sem, z1, z2, z3, z4]) rfl (VPost.of u _ _ rfl ?_ ?_ ?_)
  · repeat refine Below.setCell ?_ (by simp <;> omega) _
    exact below_step HB2.out.drew (by simp; omega) hBB
  · have hsc := hBc.size
    have hsf := hBf.size
    have hsd : w2.drew.heap.size = w2.heap.size := rfl
    refine RT.mono (S := fun b => w2.heap.size ≤ b) ?_ fun b hb => .inr (by omega)
    repeat refine RT.slot ?_ _ _ _ (fun b hb => by omega)
    exact RT.below ⟨ac, capc, rfl, hccc, hrc⟩ hBf
  · rw [HV.out, putO]
end
end Go.Proofs.Ytedfepnekjjmnaa
