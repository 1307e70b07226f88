/-
  match.fits: whether it fits, and what is bound afterwards. Conditions: a formed pattern, four bound ones in a row of the call's own; bounds on how much there is.
-/
import Derived.Deep.RegionHeld3
import Derived.Test.YtedfepnekjjmnaaJc
import Derived.Test.YtedfepnekjjmnaaJa
namespace Go.Proofs.Ytedfepnekjjmnaa
open Go.RowKit
set_option linter.unusedSimpArgs false
set_option linter.unusedVariables false

def FPost (base g cap : Nat) (w : World) (r : Bool × List T) (e : Ending) (w' : World) : Prop := e = .returned (.bool r.1) ∧ Keep (fun b => b = g) w w' ∧ OwnG (fun b => base ≤ b) base w' (.slice (some ⟨g, 0, none⟩) 4 cap) r.2

section
variable {p t : T} {S : Nat → Prop} {base g cap : Nat} {w : World} {vp vt : Value} {bd : List T}
theorem fits_6 (hp : RT S w p vp) (ht : RT S w t vt) (ho : OwnG (fun b => base ≤ b) base w (.slice (some ⟨g, 0, none⟩) 4 cap) bd) (hbs : base ≤ w.heap.size) (hk : p.kind = 6) :
    Calls Try.prog 71 #[vp, vt, .slice (some ⟨g, 0, none⟩) 4 cap] w (FPost base g cap w (fitT p t bd)) := by
  obtain ⟨a, capp, rfl, hcap, hr⟩ := hp
  obtain ⟨a2, cap2, rfl, hcap2, hr2⟩ := ht
  clear hcap hr hcap2 hr2
  have HO := Lib.hid ho; clear ho
  rw [fitT_6 hk]
  go_enter Try.func71, Try.ntmps71
  go_wp2_with fail
  go_ret
  exact ⟨rfl, ((Keep.refl _ _).alloc _).alloc _, (HO.out.alloc _).alloc _⟩

set_option maxHeartbeats 1000000 in
theorem fits_o (hp : RT S w p vp) (ht : RT S w t vt) (ho : OwnG (fun b => base ≤ b) base w (.slice (some ⟨g, 0, none⟩) 4 cap) bd) (hbs : base ≤ w.heap.size) (hbp : bulkL [p] ≤ 1099511627776) (hbt : bulkL [t] ≤ 1099511627776)
    (hk4 : p.kind ≠ 4) (hk5 : p.kind ≠ 5) (hk6 : p.kind ≠ 6) :
    Calls Try.prog 71 #[vp, vt, .slice (some ⟨g, 0, none⟩) 4 cap] w (FPost base g cap w (fitT p t bd)) := by
  obtain ⟨a, capp, rfl, hcap, hr⟩ := hp
  obtain ⟨a2, cap2, rfl, hcap2, hr2⟩ := ht
  have HP : Hid (RT S w p _) := Lib.hid ⟨a, capp, rfl, hcap, hr⟩
  have HT : Hid (RT S w t _) := Lib.hid ⟨a2, cap2, rfl, hcap2, hr2⟩
  clear hcap hr hcap2 hr2
  have HO := Lib.hid ho; clear ho
  rw [fitT_o hk4 hk5 hk6]
  have h4 : (p.kind == 4) = false := by simpa using hk4
  have h5 : (p.kind == 5) = false := by simpa using hk5
  have h6 : (p.kind == 6) = false := by simpa using hk6
  have h1 : w.heap.size < w.heap.size + 1 + 1 := by omega
  clear hk4 hk5 hk6
  go_enter Try.func71, Try.ntmps71
  go_wp2_with fail
  refine (order_c p t S _ _ _ ((HP.out.alloc _).alloc _) ((HT.out.alloc _).alloc _) hbp hbt).mono ?_
  rintro e w1 ⟨rfl, hB1⟩
  go_wp2_with fail
  go_ret
  exact ⟨rfl, (((Keep.refl _ _).alloc _).alloc _).then hB1, ((HO.out.alloc _).alloc _).below hB1⟩

set_option maxHeartbeats 2000000 in
theorem fits_5 (hp : RT S w p vp) (ht : RT S w t vt) (ho : OwnG (fun b => base ≤ b) base w (.slice (some ⟨g, 0, none⟩) 4 cap) bd) (hbs : base ≤ w.heap.size) (hS : ∀ b, S b → b < base) (hl : bd.length = 4) (hbt : bulkL [t] ≤ 1099511627776)
    (hbb : ∀ y ∈ bd, bulkL [y] ≤ 1099511627776) (hk : p.kind = 5) (hn : ∃ k : Nat, p.n = k ∧ k < 4) :
    Calls Try.prog 71 #[vp, vt, .slice (some ⟨g, 0, none⟩) 4 cap] w (FPost base g cap w (fitT p t bd)) := by
  obtain ⟨a, capp, rfl, hcap, hr⟩ := hp
  obtain ⟨a2, cap2, rfl, hcap2, hr2⟩ := ht
  obtain ⟨k, hn, hk4⟩ := hn
  have HT : Hid (RT S w t _) := Lib.hid ⟨a2, cap2, rfl, hcap2, hr2⟩
  clear hcap hr hcap2 hr2
  have hg := ho.block g rfl
  have HO := Lib.hid ho; clear ho
  have hkl : k < bd.length := by omega
  obtain ⟨a', cap', _, d0, d1, d2, d3, hE⟩ := (OwnT.rsl2 HO.out).elem k hkl
  rw [Nat.zero_add] at d0 d1 d2 d3
  have HE := Lib.hid hE; clear hE
  have hbu := hbb _ (List.getElem_mem hkl)
  have HL := Lib.hid hl
  have HF := Lib.hid (fun h6 => fitT_5a (t := t) hk hn hkl h6)
  have HF2 := Lib.hid (fun h6 => fitT_5b (t := t) hk hn hkl h6)
  clear hl
  rw [hn, hk]
  have hkl : (k : Int) < 4 := by omega
  have hk0 : (0 : Int) ≤ k := by omega
  have g1 : g < w.heap.size + 1 := by omega
  have g2 : g < w.heap.size + 1 + 1 := by omega
  have hg1 := hg.1
  have hg2 := hg.2
  clear hg
  generalize hu : bd[k] = u at *
  have HU := Lib.hid hu; clear hu
  go_enter Try.func71, Try.ntmps71
  go_wp2_with fail
  refine (free_c u _ _ _ ((HE.out.alloc _).alloc _)).mono ?_
  rintro e w1 ⟨rfl, hB1⟩
  have hs1 := hB1.size
  obtain ⟨hcc, hff⟩ := bcell hB1
  simp only [World.size_alloc] at hs1 hcc hff
  have HB1 : Hid (Below w.heap.size w w1) := Lib.hid (below_step ((below_alloc _ _).alloc (by simp) _) (by simp <;> omega) hB1)
  have q1 : w.heap.size < w1.heap.size := by omega
  have q2 : w.heap.size + 1 < w1.heap.size := by omega
  have q3 : g < w1.heap.size := by omega
  have hsd : w1.drew.heap.size = w1.heap.size := rfl
  have HO1 := Lib.hid (HO.out.below HB1.out)
  have HT1 := Lib.hid ((HT.out.below HB1.out).below (Below.drew (Below.refl w1.heap.size w1)))
  have HE1 := Lib.hid ((HE.out.below HB1.out).below (Below.drew (Below.refl w1.heap.size w1)))
  have hx : w.heap.size + 1 < w.heap.size + 1 + 1 := by omega
  have hx0 : w.heap.size < w.heap.size + 1 + 1 := by omega
  have hq0 : w1.cell? ⟨w.heap.size, 1, none⟩ = some (.int .i64 k) ∧ w1.cell? ⟨w.heap.size + 1, 0, none⟩ = some (.int .i64 t.kind) ∧ w1.cell? ⟨w.heap.size + 1, 1, none⟩ = some (.int .i64 t.n) ∧ w1.cell? ⟨w.heap.size + 1, 2, none⟩ = some (.string t.name) ∧ w1.cell? ⟨w.heap.size + 1, 3, none⟩ = some (.slice a2 t.args.length cap2) ∧
      w1.cell? ⟨g, k * 4, none⟩ = some (.int .i64 u.kind) ∧ w1.cell? ⟨g, k * 4 + 1, none⟩ = some (.int .i64 u.n) ∧ w1.cell? ⟨g, k * 4 + 2, none⟩ = some (.string u.name) ∧ w1.cell? ⟨g, k * 4 + 3, none⟩ = some (.slice a' u.args.length cap') := by
    rw [hcc _ _ hx0, hcc _ _ hx, hcc _ _ hx, hcc _ _ hx, hcc _ _ hx, hcc _ _ g2, hcc _ _ g2, hcc _ _ g2, hcc _ _ g2]; go_simp
  have hq : ∀ w3 : World, Below w1.drew.heap.size w1.drew w3 → w3.cell? ⟨w.heap.size, 1, none⟩ = some (.int .i64 k) ∧ w3.cell? ⟨w.heap.size + 1, 0, none⟩ = some (.int .i64 t.kind) ∧ w3.cell? ⟨w.heap.size + 1, 1, none⟩ = some (.int .i64 t.n) ∧ w3.cell? ⟨w.heap.size + 1, 2, none⟩ = some (.string t.name) ∧ w3.cell? ⟨w.heap.size + 1, 3, none⟩ = some (.slice a2 t.args.length cap2) ∧
      w3.cell? ⟨g, k * 4, none⟩ = some (.int .i64 u.kind) ∧ w3.cell? ⟨g, k * 4 + 1, none⟩ = some (.int .i64 u.n) ∧ w3.cell? ⟨g, k * 4 + 2, none⟩ = some (.string u.name) ∧ w3.cell? ⟨g, k * 4 + 3, none⟩ = some (.slice a' u.args.length cap') := fun w3 h => by
    obtain ⟨q, -⟩ := bcell h
    rw [q _ _ q1, q _ _ q2, q _ _ q2, q _ _ q2, q _ _ q2, q _ _ q3, q _ _ q3, q _ _ q3, q _ _ q3]; exact hq0
  have hf1 : ∀ w3 : World, Below w1.drew.heap.size w1.drew w3 → ∀ o, w3.frozen? ⟨g, o, none⟩ = false := fun w3 h o => by
    obtain ⟨-, r⟩ := bcell h
    rw [r _ _ q3]; exact HO1.out.frozen o
  clear hcc hff hB1 d0 d1 d2 d3 HE
  cases h6 : (u.kind == 6)
  · have HF3 := Lib.hid (HF2.out (by simpa using h6)); clear h6
    go_wp2_with fail
    go_region_held3 (fun w' => w'.cell? ⟨w.heap.size, 1, none⟩ = some (.int .i64 k) ∧ w'.cell? ⟨w.heap.size + 1, 0, none⟩ = some (.int .i64 t.kind) ∧ w'.cell? ⟨w.heap.size + 1, 1, none⟩ = some (.int .i64 t.n) ∧ w'.cell? ⟨w.heap.size + 1, 2, none⟩ = some (.string t.name) ∧ w'.cell? ⟨w.heap.size + 1, 3, none⟩ = some (.slice a2 t.args.length cap2) ∧
        w'.cell? ⟨g, k * 4, none⟩ = some (.int .i64 u.kind) ∧ w'.cell? ⟨g, k * 4 + 1, none⟩ = some (.int .i64 u.n) ∧ w'.cell? ⟨g, k * 4 + 2, none⟩ = some (.string u.name) ∧ w'.cell? ⟨g, k * 4 + 3, none⟩ = some (.slice a' u.args.length cap'))
      (first | exact hq0 | exact hq _ hBB | go_keep)
      (first | (go_at_call 14; refine (order_c u t (fun _ => True) _ _ _ (HE1.out.mono fun _ _ => trivial) (HT1.out.mono fun _ _ => trivial) hbu hbt).mono ?_; rintro e wc ⟨rfl, hBB⟩))
    go_wp2_with fail
    go_ret
    rw [HF3.out]
    exact ⟨rfl, (Keep.of HB1.out).drew.then hBB, (HO1.out.below (Below.drew (Below.refl w1.heap.size w1))).below hBB⟩
  · have HF3 := Lib.hid (HF.out (by simpa using h6)); clear h6
    have hkeep : ∀ (w4 : World) (u0 u1 u2 u3 : Value), w4.cell? ⟨w.heap.size, 1, none⟩ = some (.int .i64 k) ∧ w4.cell? ⟨w.heap.size + 1, 0, none⟩ = some (.int .i64 t.kind) ∧ w4.cell? ⟨w.heap.size + 1, 1, none⟩ = some (.int .i64 t.n) ∧ w4.cell? ⟨w.heap.size + 1, 2, none⟩ = some (.string t.name) ∧ w4.cell? ⟨w.heap.size + 1, 3, none⟩ = some (.slice a2 t.args.length cap2) →
        (fun w' : World => w'.cell? ⟨w.heap.size, 1, none⟩ = some (.int .i64 k) ∧ w'.cell? ⟨w.heap.size + 1, 0, none⟩ = some (.int .i64 t.kind) ∧ w'.cell? ⟨w.heap.size + 1, 1, none⟩ = some (.int .i64 t.n) ∧ w'.cell? ⟨w.heap.size + 1, 2, none⟩ = some (.string t.name) ∧ w'.cell? ⟨w.heap.size + 1, 3, none⟩ = some (.slice a2 t.args.length cap2)) ((((w4.setCell ⟨g, k * 4, none⟩ u0).setCell ⟨g, k * 4 + 1, none⟩ u1).setCell ⟨g, k * 4 + 2, none⟩ u2).setCell ⟨g, k * 4 + 3, none⟩ u3) := fun w4 u0 u1 u2 u3 h => by
      have e : ∀ b' o', b' ≠ g → ((((w4.setCell ⟨g, k * 4, none⟩ u0).setCell ⟨g, k * 4 + 1, none⟩ u1).setCell ⟨g, k * 4 + 2, none⟩ u2).setCell ⟨g, k * 4 + 3, none⟩ u3).cell? ⟨b', o', none⟩ = w4.cell? ⟨b', o', none⟩ := fun b' o' hne => by
        refine World.cell?_of_block ?_
        simp only [setCell_other _ _ _ _ _ hne]
      have n1 : w.heap.size ≠ g := by omega
      have n2 : w.heap.size + 1 ≠ g := by omega
      simp only [e _ _ n1, e _ _ n2]
      exact h
    simp only [] at hkeep
    have hr0 : w1.cell? ⟨w.heap.size, 1, none⟩ = some (.int .i64 k) ∧ w1.cell? ⟨w.heap.size + 1, 0, none⟩ = some (.int .i64 t.kind) ∧ w1.cell? ⟨w.heap.size + 1, 1, none⟩ = some (.int .i64 t.n) ∧ w1.cell? ⟨w.heap.size + 1, 2, none⟩ = some (.string t.name) ∧ w1.cell? ⟨w.heap.size + 1, 3, none⟩ = some (.slice a2 t.args.length cap2) := ⟨hq0.1, hq0.2.1, hq0.2.2.1, hq0.2.2.2.1, hq0.2.2.2.2.1⟩
    go_wp2_with fail
    go_region_held3 (fun w' => w'.cell? ⟨w.heap.size, 1, none⟩ = some (.int .i64 k) ∧ w'.cell? ⟨w.heap.size + 1, 0, none⟩ = some (.int .i64 t.kind) ∧ w'.cell? ⟨w.heap.size + 1, 1, none⟩ = some (.int .i64 t.n) ∧ w'.cell? ⟨w.heap.size + 1, 2, none⟩ = some (.string t.name) ∧ w'.cell? ⟨w.heap.size + 1, 3, none⟩ = some (.slice a2 t.args.length cap2))
      (first | exact hr0 | exact ⟨y0, y1, y2, y3, y4⟩ | exact hkeep _ _ _ _ _ ⟨y0, y1, y2, y3, y4⟩ | go_keep)
      (first | (go_at_call 70; refine (copied_c t S _ _ HT1.out hbt).mono ?_; rintro e wc ⟨vc, rfl, hBB, ac, capc, rfl, hcp, hrc⟩; obtain ⟨y0, y1, y2, y3, y4, z0, z1, z2, z3⟩ := hq _ hBB; have zf := hf1 _ hBB; have hsc := hBB.size; simp only [World.size_drew] at hsc))
    go_wp2_with fail
    go_ret
    rw [HF3.out]
    refine ⟨rfl, ?_, ?_⟩
    · repeat refine Keep.setCell ?_ _ (.inl rfl)
      exact (Keep.of HB1.out).drew.then hBB
    · refine OwnG.store ((HO1.out.below (Below.drew (Below.refl w1.heap.size w1))).below hBB) (by have := HL.out; omega) ⟨ac, capc, rfl, hcp, hrc⟩ fun b hb _ => ⟨by simp at hb; omega, by simp at hb; omega⟩

end
end Go.Proofs.Ytedfepnekjjmnaa
