/-
  CodeBack: the walk. Conditions: the bound, and the table of powers as its initialiser lays it.
-/
import Derived.Test.YtedfepnekjjmnabDoorJc
import Derived.Test.YtedfepnekjjmnabDoorJg
import Derived.Test.YtedfepnekjjmnabDoorTo
namespace Go.Proofs.YtedfepnekjjmnabDoor
open Go.RowKit
set_option linter.unusedSimpArgs false
set_option linter.unusedVariables false
set_option maxRecDepth 100000

set_option maxHeartbeats 4000000 in
theorem ktold_c (w : World) (htab : TabB w) : Calls Tryd.prog 17 #[] w fun e w' => e = .returned (.bool true) ∧ Below w.heap.size w w' := by
  obtain ⟨x, hx⟩ : ∃ x, x = progT [smBehv] := ⟨_, rfl⟩
  have HTO : Hid (toA [smBehv] = (x, 0)) := Lib.hid (by rw [hx]; exact small_to)
  have HFR : Hid (fromA x = ([smBehv], 0)) := Lib.hid (by rw [hx]; exact small_from)
  have HPR : Hid (printS x = smText) := Lib.hid (by rw [hx]; exact small_text)
  have HCK : Hid (checkE x = 0) := Lib.hid (by rw [hx]; exact small_check)
  have hbx : bulkL [x] ≤ 8000 := by rw [hx]; exact small_bulk.2
  have hbs := small_bulk.1
  have HT := Lib.hid htab
  clear hx htab
  go_enter Tryd.func17, Tryd.ntmps17
  go_wp2_with fail
  refine (small_c w).mono ?_
  rintro e w1 ⟨g1, rfl, hB1, hR1⟩
  have hs1 := hB1.size
  have HB1 := Lib.hid hB1
  have HR1 : Hid (RX behvE (fun b => b < w1.heap.size) (fun b => b < w1.heap.size) w1 [smBehv] (.slice (some ⟨g1, 0, none⟩) 1 1)) := Lib.hid hR1.low
  clear hB1 hR1
  go_wp2_with fail
  refine (to_c [smBehv] (some ⟨g1, 0, none⟩) 1 (fun b => b < w1.heap.size) w1 HR1.out (fun _ h => h) (by omega)).mono ?_
  rintro e w2 ⟨a2, c2, he, hB2, hT2⟩
  rw [HTO.out] at he hT2
  simp only at he hT2
  subst he
  have hs2 := hB2.size
  obtain ⟨W2, hW2⟩ : ∃ W : World, W = w2.alloc (.cells #[.int .i64 x.kind, .int .i64 x.n, .string x.name, .slice a2 x.args.length c2] 24) := ⟨_, rfl⟩
  obtain ⟨g2, hg2⟩ : ∃ g, g = w2.heap.size := ⟨_, rfl⟩
  have HX2 : Hid (Blk W2 g2 [.int .i64 x.kind, .int .i64 x.n, .string x.name, .slice a2 x.args.length c2]) := Lib.hid (by rw [hW2]; exact Blk.new _ _ _ _ hg2)
  have HB2 : Hid (Below w.heap.size w W2) := Lib.hid (by rw [hW2]; exact (HB1.out.trans (hB2.mono hs1)).alloc (by omega) _)
  have HT2 : Hid (RT (fun b => w1.heap.size ≤ b) W2 x (.agg #[.int .i64 x.kind, .int .i64 x.n, .string x.name, .slice a2 x.args.length c2])) := Lib.hid (by rw [hW2]; exact hT2.alloc _)
  have hsW2 := HB2.out.size
  have HW2 := Lib.hid hW2
  have HG2 := Lib.hid hg2
  clear hB2 hT2 hW2 hg2
  go_upto_region 2 with fail
  rw [← HW2.out, ← HG2.out]
  have y0 := HX2.out.cell 0 _ rfl
  have y1 := HX2.out.cell 1 _ rfl
  have y2 := HX2.out.cell 2 _ rfl
  have y3 := HX2.out.cell 3 _ rfl
  go_wp2_with fail
  refine (from_c x _ W2 _ HT2.out (by omega)).mono ?_
  rintro e w3 ⟨a3, c3, he, hB3, hR3⟩
  rw [HFR.out] at he hR3
  simp only [List.length_cons, List.length_nil, Nat.zero_add] at he hR3
  subst he
  have hs3 := hB3.size
  have HB3 : Hid (Below w.heap.size w w3) := Lib.hid (HB2.out.trans (hB3.mono hsW2))
  have HX3 := Lib.hid (HX2.out.step hB3)
  have HT3 := Lib.hid (HT2.out.below hB3)
  have HR3 := Lib.hid hR3.low
  clear hB3 hR3 y0 y1 y2 y3
  have y0 := HX3.out.cell 0 _ rfl
  have y1 := HX3.out.cell 1 _ rfl
  have y2 := HX3.out.cell 2 _ rfl
  have y3 := HX3.out.cell 3 _ rfl
  go_wp2_with fail
  refine (print_c x _ w3 _ HT3.out (by omega) (HT.out.on HB3.out)).mono ?_
  rw [show PrintP x w3 = fun e w' => e = .returned (.tuple #[.string smText, .int .i64 0]) ∧ Below w3.heap.size w3 w' by unfold PrintP; rw [HPR.out, HCK.out]]
  rintro e w4 ⟨rfl, hB4⟩
  have hs4 := hB4.size
  have HB4 : Hid (Below w.heap.size w w4) := Lib.hid (HB3.out.trans (hB4.mono (by omega)))
  have HR4 := Lib.hid (HR3.out.below hB4)
  clear hB4 y0 y1 y2 y3
  unfold smText
  go_wp2_with fail
  refine (small_c w4).mono ?_
  rintro e w5 ⟨g5, rfl, hB5, hR5⟩
  have hs5 := hB5.size
  have HB5 : Hid (Below w.heap.size w w5) := Lib.hid (HB4.out.trans (hB5.mono (by omega)))
  have HR45 : Hid (RX behvE (fun b => b < w5.heap.size) (fun b => b < w5.heap.size) w5 [smBehv] (.slice a3 1 c3)) := Lib.hid ((HR4.out.below hB5).mono (fun b hb => by omega) fun b hb => by omega)
  have HR5 : Hid (RX behvE (fun b => b < w5.heap.size) (fun b => b < w5.heap.size) w5 [smBehv] (.slice (some ⟨g5, 0, none⟩) 1 1)) := Lib.hid hR5.low
  clear hB5 hR5
  go_wp2_with fail
  refine (samep_c [smBehv] a3 c3 (some ⟨g5, 0, none⟩) 1 (fun b => b < w5.heap.size) w5 HR45.out HR5.out (fun _ h => h) (by omega)).mono ?_
  rintro e w6 ⟨rfl, hB6⟩
  have HB6 : Hid (Below w.heap.size w w6) := Lib.hid (HB5.out.trans (hB6.mono (by omega)))
  clear hB6
  go_wp2_with fail
  go_ret
  exact ⟨rfl, HB6.out⟩

set_option maxHeartbeats 4000000 in
theorem cback_walk (t : T) (l : List Behv) (w : World) (vt vl : Value) (ht : RT (fun b => b < w.heap.size) w t vt) (hl : RX behvE (fun b => b < w.heap.size) (fun b => b < w.heap.size) w l vl) (hb : bulkL [t] + behvsB l ≤ 1048576) (htab : TabB w) :
    Calls Tryd.prog 5 #[vt, vl] w fun e w' => e = .returned (.bool true) ∧ Below w.heap.size w w' := by
  obtain ⟨a, cap, rfl, hcap, hr⟩ := ht
  obtain ⟨a2, cap2, rfl, -⟩ := hl.form
  obtain ⟨W0, hW0⟩ : ∃ W : World, W = w.alloc (.cells #[.int .i64 t.kind, .int .i64 t.n, .string t.name, .slice a t.args.length cap] 24) := ⟨_, rfl⟩
  obtain ⟨g0, hg0⟩ : ∃ g, g = w.heap.size := ⟨_, rfl⟩
  have HX0 : Hid (Blk W0 g0 [.int .i64 t.kind, .int .i64 t.n, .string t.name, .slice a t.args.length cap]) := Lib.hid (by rw [hW0]; exact Blk.new _ _ _ _ hg0)
  have HB0 : Hid (Below w.heap.size w W0) := Lib.hid (by rw [hW0]; exact below_alloc _ _)
  have HTT : Hid (RT (fun b => b < w.heap.size) W0 t (.agg #[.int .i64 t.kind, .int .i64 t.n, .string t.name, .slice a t.args.length cap])) := Lib.hid (RT.below ⟨a, cap, rfl, hcap, hr⟩ HB0.out)
  have HL := Lib.hid (hl.below HB0.out)
  have HT0 := Lib.hid (htab.on HB0.out)
  have hs0 := HB0.out.size
  have hfb := fromA_bulk t
  have htb := toA_bulk l
  have hg0l : g0 < W0.heap.size := HX0.out.lt
  have HW0 := Lib.hid hW0
  have HG0 := Lib.hid hg0
  clear hr hcap hl htab hW0 hg0
  go_enter Tryd.func5, Tryd.ntmps5
  go_upto_region 1 with fail
  rw [← HW0.out, ← HG0.out]
  go_wp2_with fail
  refine (ktold_c W0 HT0.out).mono ?_
  rintro e w1 ⟨rfl, hB1⟩
  have hs1 := hB1.size
  have HB1 := Lib.hid hB1
  have HL1 := Lib.hid (HL.out.below hB1)
  clear hB1
  go_wp2_with fail
  refine (to_c l a2 cap2 _ w1 HL1.out (fun b hb => by omega) (by omega)).mono ?_
  rintro e w2 ⟨a3, c3, he, hB2, hT2⟩
  obtain ⟨x, hx⟩ : ∃ x, x = (toA l).1 := ⟨_, rfl⟩
  obtain ⟨n, hn⟩ : ∃ n, n = (toA l).2 := ⟨_, rfl⟩
  have hfr : n = 0 → fromA x = (l, 0) := fun h => by rw [hx]; exact to_from (by rw [← hn]; exact h)
  rw [← hx, ← hn] at he
  rw [← hx] at hT2 htb
  subst he
  have hs2 := hB2.size
  obtain ⟨W2, hW2⟩ : ∃ W : World, W = w2.alloc (.cells #[.int .i64 x.kind, .int .i64 x.n, .string x.name, .slice a3 x.args.length c3] 24) := ⟨_, rfl⟩
  obtain ⟨g2, hg2⟩ : ∃ g, g = w2.heap.size := ⟨_, rfl⟩
  have HX2 : Hid (Blk W2 g2 [.int .i64 x.kind, .int .i64 x.n, .string x.name, .slice a3 x.args.length c3]) := Lib.hid (by rw [hW2]; exact Blk.new _ _ _ _ hg2)
  have HB2 : Hid (Below W0.heap.size W0 W2) := Lib.hid (by rw [hW2]; exact (HB1.out.trans (hB2.mono hs1)).alloc (by omega) _)
  have HT2 : Hid (RT (fun b => w1.heap.size ≤ b) W2 x (.agg #[.int .i64 x.kind, .int .i64 x.n, .string x.name, .slice a3 x.args.length c3])) := Lib.hid (by rw [hW2]; exact hT2.alloc _)
  have hsW2 := HB2.out.size
  have HFR := Lib.hid hfr
  have HW2 := Lib.hid hW2
  have HG2 := Lib.hid hg2
  clear hB2 hT2 hW2 hg2 hx hn hfr
  go_upto_region 4 with fail
  rw [← HW2.out, ← HG2.out]
  go_upto_if 20 with fail
  go_cut [7] (fun _ wx => Below W0.heap.size W0 wx)
  case first =>
    by_cases hn : n = 0
    · have hnb : (n == 0) = true := by rw [hn]; rfl
      have HFA := Lib.hid (HFR.out hn)
      have y0 := HX2.out.cell 0 _ rfl
      have y1 := HX2.out.cell 1 _ rfl
      have y2 := HX2.out.cell 2 _ rfl
      have y3 := HX2.out.cell 3 _ rfl
      clear hn
      go_wp2_with fail
      refine (from_c x _ W2 _ HT2.out (by omega)).mono ?_
      rintro e w3 ⟨a5, c5, he, hB3, hR3⟩
      rw [HFA.out] at he hR3
      simp only at he hR3
      subst he
      have hs3 := hB3.size
      have HB3 : Hid (Below W0.heap.size W0 w3) := Lib.hid (HB2.out.trans (hB3.mono hsW2))
      have HR3 : Hid (RX behvE (fun b => b < w3.heap.size) (fun b => b < w3.heap.size) w3 l (.slice a5 l.length c5)) := Lib.hid hR3.low
      have HL3 : Hid (RX behvE (fun b => b < w3.heap.size) (fun b => b < w3.heap.size) w3 l (.slice a2 l.length cap2)) := Lib.hid ((HL.out.below HB3.out).mono (fun b hb => by omega) fun b hb => by omega)
      clear hB3 hR3 y0 y1 y2 y3
      go_wp2_with fail
      refine (samep_c l a2 cap2 a5 c5 (fun b => b < w3.heap.size) w3 HL3.out HR3.out (fun _ h => h) (by omega)).mono ?_
      rintro e w4 ⟨rfl, hB4⟩
      have HB4 : Hid (Below W0.heap.size W0 w4) := Lib.hid (HB3.out.trans (hB4.mono (by omega)))
      clear hB4
      go_wp2_with fail
      go_meet
      exact HB4.out
    · have hnb : (n == 0) = false := by simpa using hn
      clear hn
      go_wp2_with fail
      go_meet
      exact HB2.out
  case rest =>
    have HBc := Lib.hid hcut
    have hsc := hcut.size
    have HXc := Lib.hid (HX0.out.step hcut)
    have HTc := Lib.hid (HTT.out.below hcut)
    clear hcut
    have y0 := HXc.out.cell 0 _ rfl
    have y1 := HXc.out.cell 1 _ rfl
    have y2 := HXc.out.cell 2 _ rfl
    have y3 := HXc.out.cell 3 _ rfl
    go_wp2_with fail
    refine (from_c t _ _ _ HTc.out (by omega)).mono ?_
    rintro e w5 ⟨a9, c9, he, hB5, hR5⟩
    obtain ⟨m, hm⟩ : ∃ m, m = (fromA t).1 := ⟨_, rfl⟩
    obtain ⟨k, hk⟩ : ∃ k, k = (fromA t).2 := ⟨_, rfl⟩
    have hft : k = 0 → toA m = (t, 0) := fun h => by rw [hm]; exact from_to (by rw [← hk]; exact h)
    have hfn : k ≠ 0 → m.length = 0 := fun h => by rw [hm, from_none (by rw [← hk]; exact h)]; rfl
    rw [← hm, ← hk] at he
    rw [← hm] at hR5 hfb
    subst he
    have hs5 := hB5.size
    have HB5 : Hid (Below W0.heap.size W0 w5) := Lib.hid (HBc.out.trans (hB5.mono hsc))
    have HX5 := Lib.hid (HXc.out.step hB5)
    have HT5 := Lib.hid (HTc.out.below hB5)
    have HR5 := Lib.hid hR5.low
    have HFT := Lib.hid hft
    have HFN := Lib.hid hfn
    clear hB5 hR5 y0 y1 y2 y3 hm hk hft hfn
    by_cases hk : k = 0
    · have hkb : (k != 0) = false := by rw [hk]; rfl
      have HTO := Lib.hid (HFT.out hk)
      clear hk
      go_wp2_with fail
      refine (to_c m a9 c9 _ w5 HR5.out (fun b hb => by omega) (by omega)).mono ?_
      rintro e w6 ⟨a11, c11, he, hB6, hT6⟩
      rw [HTO.out] at he hT6
      simp only at he hT6
      subst he
      have hs6 := hB6.size
      obtain ⟨W6, hW6⟩ : ∃ W : World, W = w6.alloc (.cells #[.int .i64 t.kind, .int .i64 t.n, .string t.name, .slice a11 t.args.length c11] 24) := ⟨_, rfl⟩
      obtain ⟨g6, hg6⟩ : ∃ g, g = w6.heap.size := ⟨_, rfl⟩
      have HX6 : Hid (Blk W6 g6 [.int .i64 t.kind, .int .i64 t.n, .string t.name, .slice a11 t.args.length c11]) := Lib.hid (by rw [hW6]; exact Blk.new _ _ _ _ hg6)
      have HBW : Hid (Below w5.heap.size w5 W6) := Lib.hid (by rw [hW6]; exact hB6.alloc hs6 _)
      have HT6 : Hid (RT (fun _ => True) W6 t (.agg #[.int .i64 t.kind, .int .i64 t.n, .string t.name, .slice a11 t.args.length c11])) := Lib.hid (by rw [hW6]; exact (hT6.alloc _).mono fun _ _ => trivial)
      have HT56 : Hid (RT (fun _ => True) W6 t (.agg #[.int .i64 t.kind, .int .i64 t.n, .string t.name, .slice a t.args.length cap])) := Lib.hid ((HT5.out.below HBW.out).mono fun _ _ => trivial)
      have HX56 := Lib.hid (HX5.out.step HBW.out)
      have HW6 := Lib.hid hW6
      have HG6 := Lib.hid hg6
      have hsW6 := HBW.out.size
      clear hB6 hT6 hW6 hg6
      go_upto_region 12 with fail
      rw [← HW6.out, ← HG6.out]
      have y0 := HX56.out.cell 0 _ rfl
      have y1 := HX56.out.cell 1 _ rfl
      have y2 := HX56.out.cell 2 _ rfl
      have y3 := HX56.out.cell 3 _ rfl
      have z0 := HX6.out.cell 0 _ rfl
      have z1 := HX6.out.cell 1 _ rfl
      have z2 := HX6.out.cell 2 _ rfl
      have z3 := HX6.out.cell 3 _ rfl
      go_wp2_with fail
      refine (same_c t t (fun _ => True) W6 _ _ HT6.out HT56.out (by omega) (by omega)).mono ?_
      rw [sameT_rfl t]
      rintro e w7 ⟨rfl, hB7⟩
      have HB7 : Hid (Below w.heap.size w w7) := Lib.hid (HB0.out.trans ((HB5.out.trans ((HBW.out.trans (hB7.mono hsW6)).mono (by omega))).mono hs0))
      clear hB7 y0 y1 y2 y3 z0 z1 z2 z3
      go_wp2_with fail
      go_ret
      exact ⟨rfl, HB7.out⟩
    · have hkb : (k != 0) = true := by simp [hk]
      have hml := HFN.out hk
      clear hk
      go_wp2_with fail
      go_ret
      exact ⟨rfl, HB0.out.trans (HB5.out.mono hs0)⟩
end Go.Proofs.YtedfepnekjjmnabDoor
