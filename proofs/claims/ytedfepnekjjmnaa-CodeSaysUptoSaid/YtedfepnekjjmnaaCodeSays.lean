/-
  clerklaw.CodeSays returns true for all arguments, and each argument reads afterwards as before. Condition: together the arguments hold at most 1048576 values and letters (the given second form).
-/
import Derived.Test.YtedfepnekjjmnaaJh
import Derived.Test.YtedfepnekjjmnaaJi
import Derived.Test.YtedfepnekjjmnaaTo
import Derived.Test.YtedfepnekjjmnaaJc
namespace Go.Proofs.Ytedfepnekjjmnaa.codeSays
open Go.ChangeShapes Go.WideShapes Go.ChangeAt Go.RowKit
set_option linter.unusedSimpArgs false
set_option linter.unusedVariables false
set_option maxRecDepth 100000

set_option maxHeartbeats 8000000 in
theorem walk (t : T) (l : List Behv) (w : World) (vt vl : Value) (ht : RT (fun b => b < w.heap.size) w t vt) (hl : RX behvE (fun b => b < w.heap.size) (fun b => b < w.heap.size) w l vl) (hb : bulkL [t] + behvsB l ≤ 1048576) :
    Calls Try.prog 10 #[vt, vl] w fun e w' => e = .returned (.bool true) ∧ Below w.heap.size w w' := by
  obtain ⟨a1, cap1, rfl, hc1, hr1⟩ := ht
  obtain ⟨a2, cap2, rfl, -⟩ := hl.form
  have HT : Hid (RT (fun b => b < w.heap.size) w t _) := Lib.hid ⟨a1, cap1, rfl, hc1, hr1⟩
  have HL := Lib.hid hl
  have hfb := fromA_bulk t
  have htb := toA_bulk l
  clear hr1 hc1 hl
  obtain ⟨A, hA⟩ : ∃ A, A = (fromA t).1 := ⟨_, rfl⟩
  obtain ⟨n, hn⟩ : ∃ n, n = (fromA t).2 := ⟨_, rfl⟩
  obtain ⟨x, hx⟩ : ∃ x, x = (toA l).1 := ⟨_, rfl⟩
  obtain ⟨m, hm⟩ : ∃ m, m = (toA l).2 := ⟨_, rfl⟩
  rw [← hA] at hfb
  rw [← hx] at htb
  have HA := Lib.hid hA
  have HN := Lib.hid hn
  have HX := Lib.hid hx
  have HM := Lib.hid hm
  have HBB := Lib.hid (Box.new w (.int .i64 t.kind) (.int .i64 t.n) (.string t.name) (.slice a1 t.args.length cap1) 29)
  have HB0 := Lib.hid (below_alloc w (.cells #[.int .i64 t.kind, .int .i64 t.n, .string t.name, .slice a1 t.args.length cap1] 29))
  have HT0 := Lib.hid (HT.out.alloc (.cells #[.int .i64 t.kind, .int .i64 t.n, .string t.name, .slice a1 t.args.length cap1] 29))
  clear hA hn hx hm
  go_enter Try.func10, Try.ntmps10
  go_wp2_with fail
  refine (from_c t _ _ _ HT0.out (by omega)).mono ?_
  rintro e w1 ⟨pa, pc, he, hB, hR⟩
  rw [← HA.out, ← HN.out] at he
  rw [← HA.out] at hR
  subst he
  have hs1 := hB.size
  simp only [World.size_alloc] at hs1
  have HB1 : Hid (Below w.heap.size w w1) := Lib.hid (below_step HB0.out (by simp) hB)
  obtain ⟨x0, x1, x2, x3⟩ := HBB.out.step hB
  have HR1 := Lib.hid hR.low
  have HT1 := Lib.hid (HT0.out.below hB)
  clear hB hR
  go_wp2_with fail
  refine (rfrom_c t _ _ _ HT1.out (by omega)).mono ?_
  rintro e w2 ⟨qa, qc, he, hB, hR⟩
  rw [← HA.out, ← HN.out] at he
  rw [← HA.out] at hR
  subst he
  have hs2 := hB.size
  have HB2 : Hid (Below w.heap.size w w2) := Lib.hid (below_step HB1.out (by omega) hB)
  have HR12 := Lib.hid (HR1.out.below hB)
  have HR2 := Lib.hid hR.low
  have HL2 := Lib.hid (HL.out.below HB2.out)
  clear hB hR x0 x1 x2 x3
  go_wp2_with fail
  refine (to_c l a2 cap2 _ _ HL2.out (fun y hy => by omega) (by omega)).mono ?_
  rintro e w3 ⟨ra, rc, he, hB, hR⟩
  rw [← HX.out, ← HM.out] at he
  rw [← HX.out] at hR
  subst he
  have hs3 := hB.size
  obtain ⟨W3, hW3⟩ : ∃ W : World, W = w3.alloc (.cells #[.int .i64 x.kind, .int .i64 x.n, .string x.name, .slice ra x.args.length rc] 29) := ⟨_, rfl⟩
  obtain ⟨g3, hg3⟩ : ∃ g, g = w3.heap.size := ⟨_, rfl⟩
  have HB23 : Hid (Below w2.heap.size w2 W3) := Lib.hid (by rw [hW3]; exact hB.alloc (by omega) _)
  have HB3 : Hid (Below w.heap.size w W3) := Lib.hid (HB2.out.trans (HB23.out.mono (by omega)))
  have HG3 : Hid (Blk W3 g3 [.int .i64 x.kind, .int .i64 x.n, .string x.name, .slice ra x.args.length rc]) := Lib.hid (by rw [hW3]; exact Blk.new _ _ _ _ hg3)
  have HX3 : Hid (RT (fun _ => True) W3 x _) := Lib.hid (by rw [hW3]; exact (hR.alloc _).withbulk)
  have HR13 := Lib.hid (HR12.out.below HB23.out)
  have HR23 := Lib.hid (HR2.out.below HB23.out)
  have HL3 := Lib.hid (HL.out.below HB3.out)
  have hsW3 : w3.heap.size + 1 ≤ W3.heap.size := by rw [hW3]; simp
  have hg3w := HG3.out.lt
  clear hB hR
  go_wp2_with fail
  rw [← hW3]
  try rw [← hg3]
  clear hW3 hg3
  refine (rto_c l a2 cap2 _ _ HL3.out (fun y hy => by omega) (by omega)).mono ?_
  rintro e w4 ⟨sa, sc, he, hB, hR⟩
  rw [← HX.out, ← HM.out] at he
  rw [← HX.out] at hR
  subst he
  have hs4 := hB.size
  obtain ⟨W4, hW4⟩ : ∃ W : World, W = w4.alloc (.cells #[.int .i64 x.kind, .int .i64 x.n, .string x.name, .slice sa x.args.length sc] 29) := ⟨_, rfl⟩
  obtain ⟨g4, hg4⟩ : ∃ g, g = w4.heap.size := ⟨_, rfl⟩
  have HB34 : Hid (Below W3.heap.size W3 W4) := Lib.hid (by rw [hW4]; exact hB.alloc (by omega) _)
  have HB4 : Hid (Below w.heap.size w W4) := Lib.hid (HB3.out.trans (HB34.out.mono (by omega)))
  have HG4 : Hid (Blk W4 g4 [.int .i64 x.kind, .int .i64 x.n, .string x.name, .slice sa x.args.length sc]) := Lib.hid (by rw [hW4]; exact Blk.new _ _ _ _ hg4)
  have HX4 : Hid (RT (fun _ => True) W4 x _) := Lib.hid (by rw [hW4]; exact (hR.alloc _).withbulk)
  have HX34 := Lib.hid (HX3.out.below HB34.out)
  have HG34 := Lib.hid (HG3.out.step HB34.out)
  have HR14 := Lib.hid (HR13.out.below HB34.out).low
  have HR24 := Lib.hid (HR23.out.below HB34.out).low
  have hsW4 : w4.heap.size + 1 ≤ W4.heap.size := by rw [hW4]; simp
  have y0 := HG34.out.cell 0 _ rfl
  have y1 := HG34.out.cell 1 _ rfl
  have y2 := HG34.out.cell 2 _ rfl
  have y3 := HG34.out.cell 3 _ rfl
  have z0 := HG4.out.cell 0 _ rfl
  have z1 := HG4.out.cell 1 _ rfl
  have z2 := HG4.out.cell 2 _ rfl
  have z3 := HG4.out.cell 3 _ rfl
  clear hB hR
  go_upto_region 5 with fail
  rw [← hW4]
  try rw [← hg4]
  clear hW4 hg4
  have hll : ((A.length : Int) == A.length) = true := by simp
  have hnn : (n == n) = true := by simp
  have hmm : (m == m) = true := by simp
  by_cases h0 : n = 0
  · have hn0 : (n != 0) = false := by simp [h0]
    clear h0
    go_wp2_with fail
    refine (samep_c A pa pc qa qc (fun b => b < W4.heap.size) _ HR14.out HR24.out (fun _ h => h) (by omega)).mono ?_
    rintro e w5 ⟨rfl, hB⟩
    have hs5 := hB.size
    have HB5 : Hid (Below w.heap.size w w5) := Lib.hid (below_step HB4.out (by omega) hB)
    have HX5 := Lib.hid (HX34.out.below hB)
    have HX45 := Lib.hid (HX4.out.below hB)
    have y0 := (HG34.out.step hB).cell 0 _ rfl
    have y1 := (HG34.out.step hB).cell 1 _ rfl
    have y2 := (HG34.out.step hB).cell 2 _ rfl
    have y3 := (HG34.out.step hB).cell 3 _ rfl
    have z0 := (HG4.out.step hB).cell 0 _ rfl
    have z1 := (HG4.out.step hB).cell 1 _ rfl
    have z2 := (HG4.out.step hB).cell 2 _ rfl
    have z3 := (HG4.out.step hB).cell 3 _ rfl
    clear hB
    go_wp2_with fail
    refine (same_c x x (fun _ => True) _ _ _ HX5.out HX45.out (by omega) (by omega)).mono ?_
    rw [sameT_rfl]
    rintro e w6 ⟨rfl, hB⟩
    have HB6 : Hid (Below w.heap.size w w6) := Lib.hid (below_step HB5.out (by omega) hB)
    clear hB y0 y1 y2 y3 z0 z1 z2 z3
    go_wp2_with fail
    go_ret
    exact ⟨by simp, HB6.out⟩
  · have hn0 : (n != 0) = true := by simp [h0]
    clear h0
    go_wp2_with fail
    refine (same_c x x (fun _ => True) _ _ _ HX34.out HX4.out (by omega) (by omega)).mono ?_
    rw [sameT_rfl]
    rintro e w6 ⟨rfl, hB⟩
    have HB6 : Hid (Below w.heap.size w w6) := Lib.hid (below_step HB4.out (by omega) hB)
    clear hB y0 y1 y2 y3 z0 z1 z2 z3
    go_wp2_with fail
    go_ret
    exact ⟨by simp, HB6.out⟩

set_option maxRecDepth 100000 in
theorem contract (H : Type) (enc : TypeId × Value → H) (W : World) (base : Nat) (args : Array Value) (ds gs : List (DataW H)) (before : List MemPlace)
    (hval : ∀ (j : Nat) t v, Try.f10.params[j]? = some t → args[j]? = some v → Value.okWide Try.prog W .any base t v)
    (hW : DataW.Whole enc Try.prog Try.f10.params.toList Rows.codeSaysSpec.vars false W args.toList ds gs before) (hk : Rows.uptoSmall H (ds ++ gs) = true) :
    Calls Try.prog 10 args W fun e W' => ∃ v, e = .returned v ∧ Rows.codeSaysSpec.post enc Try.prog Try.f10 false true false false W args v W' := by
  have hW' := hW
  obtain ⟨p, q, hA0, hV, rfl, hfz, hnd⟩ := hW
  have hA : DataW.TrodAll enc Try.prog W 0 (fun _ => true) true Try.f10.params.toList args.toList ds p := hA0
  clear hA0 hfz hnd
  rw [Try.params10] at hA hval
  obtain ⟨v0, vs0, d0, ds0, p0, q0, hargs, rfl, rfl, h0, r0⟩ := trodAll_cons hA
  obtain ⟨v1, vs1, d1, ds1, p1, q1, rfl, rfl, rfl, h1, r1⟩ := trodAll_cons r0
  obtain ⟨rfl, rfl, rfl⟩ := trodAll_nil r1
  obtain rfl : args = #[v0, v1] := by cases args; simp_all
  obtain ⟨rfl, rfl⟩ := trodVars_none hV
  have hb := small_bound hk
  simp only [List.append_nil, Rows.uptoBulkAll] at hb
  obtain ⟨x0, hx0, bx0⟩ := open_term (hval 0 29 v0 rfl rfl) h0
  obtain ⟨x1, hx1, bx1⟩ := open_behvs (hval 1 58 v1 rfl rfl) h1
  refine (walk x0 x1 W v0 v1 hx0 hx1 (by omega)).mono fun e W' ⟨he, hB⟩ => ?_
  subst he
  exact ⟨_, rfl, post_true hW' rfl (by kernel_rfl) ⟨rfl, rfl, rfl⟩ (by intro t ht; rw [Try.params10] at ht; simp at ht; rcases ht with rfl | rfl <;> exact ⟨by kernel_rfl, of_decide_eq_true (by kernel_rfl)⟩) hB⟩

set_option maxRecDepth 100000 in
theorem lifted (os : Os) (started : os.Started) (H : Type) (enc : TypeId × Value → H) (F : Stop.Interp) :
    ReturnsInHanded {} Try.checked os 10 .any ((Rows.OpenSpec.upto Rows.codeSaysSpec).pre6 enc Try.prog Try.f10 Rows.codeSaysUptoRow.domain false) (((Rows.OpenSpec.upto Rows.codeSaysSpec).at F).post enc Try.prog Try.f10 false true false false) := by
  refine returnsInHanded_of_cond (C := Try.checked) (s := Rows.OpenSpec.upto Rows.codeSaysSpec) (k := Rows.uptoSmall) rfl own started (by kernel_rfl) Try.func10
    (OpenSpec.witness (enc := enc) (C := Try.checked) (s := Rows.OpenSpec.upto Rows.codeSaysSpec) (k := Rows.uptoSmall) rfl false ⟨#[], #[.agg #[.int .i64 0, .int .i64 0, .string .empty, .slice none 0 0], .slice none 0 0], []⟩ 8 (by kernel_rfl) (by kernel_rfl) (by kernel_rfl)
      (x := ([.agg [.lit (.int .i64 0), .lit (.int .i64 0), .lit (.string []), .nil], .nil], [], [])) (by kernel_rfl) rfl (by kernel_rfl)) ?_
  intro W base args ds gs before hval hW _ hk _
  exact contract H enc W base args ds gs before hval hW hk

theorem proved : Rows.CodeSaysUptoSaid :=
  OpenClaim.holds_of_cond 10 Try.f10 rfl rfl rfl rfl rfl rfl rfl ⟨rfl, rfl, rfl, rfl, rfl⟩ rfl rfl rfl rfl rfl (by kernel_rfl) Try.func10 (by kernel_rfl)
    (of_decide_eq_true (by kernel_rfl)) (by unfold Func.isWrapper; first | (rw [if_pos (by decide +kernel)]; kernel_rfl) | (rw [if_neg (by decide +kernel)]; exact ⟨rfl, rfl⟩))
    (fun os started H enc _ F => lifted os started H enc F)
end Go.Proofs.Ytedfepnekjjmnaa.codeSays
