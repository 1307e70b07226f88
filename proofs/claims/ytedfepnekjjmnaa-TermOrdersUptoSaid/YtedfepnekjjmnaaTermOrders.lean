/-
  clerklaw.TermOrders returns true for all arguments, and each argument reads afterwards as before. Condition: together the arguments hold at most 1048576 values and letters (the given second form).
-/
import Derived.Test.YtedfepnekjjmnaaROrder
import Derived.Test.YtedfepnekjjmnaaFrame
namespace Go.Proofs.Ytedfepnekjjmnaa.termOrders
open Go.ChangeShapes Go.WideShapes Go.ChangeAt Go.RowKit
set_option linter.unusedSimpArgs false
set_option linter.unusedVariables false

theorem check_form {t : T} (h : checkE t = 0) : formL [t] = true := by
  unfold checkE at h
  split at h
  · assumption
  · omega

set_option maxHeartbeats 1000000 in
theorem walk (x y : T) (w : World) (p q : Value) (hp : RT (fun b => b < w.heap.size) w x p) (hq : RT (fun b => b < w.heap.size) w y q) (hbx : bulkL [x] ≤ 1048576) (hby : bulkL [y] ≤ 1048576) :
    Calls Try.prog 4 #[p, q] w fun e w' => e = .returned (.bool true) ∧ Below w.heap.size w w' := by
  obtain ⟨a1, cap1, rfl, hc1, hr1⟩ := hp
  obtain ⟨a2, cap2, rfl, hc2, hr2⟩ := hq
  have HX : Hid (RT (fun b => b < w.heap.size) w x _) := Lib.hid ⟨a1, cap1, rfl, hc1, hr1⟩
  have HY : Hid (RT (fun b => b < w.heap.size) w y _) := Lib.hid ⟨a2, cap2, rfl, hc2, hr2⟩
  clear hr1 hr2 hc1 hc2
  have HS : Hid (∀ W : World, w.heap.size ≤ W.heap.size → ∀ b, b < w.heap.size → b < W.heap.size) := Lib.hid fun W h b hb => by omega
  have hll : w.heap.size < w.heap.size + 1 + 1 := by omega
  go_enter Try.func4, Try.ntmps4
  go_wp2_with fail
  refine (order_c x y _ _ _ _ ((HX.out.alloc _).alloc _) ((HY.out.alloc _).alloc _) (by omega) (by omega)).mono ?_
  rintro e w1 ⟨rfl, hB1⟩
  have h1 := hB1.size
  simp only [World.size_alloc] at h1
  have hs1 : w.heap.size < w1.heap.size := by omega
  have hs1' : w.heap.size + 1 < w1.heap.size := by omega
  obtain ⟨hcc, -⟩ := bcell hB1
  simp only [World.size_alloc] at hcc
  have HX1 := Lib.hid (((HX.out.alloc _).alloc _).below hB1)
  have HY1 := Lib.hid (((HY.out.alloc _).alloc _).below hB1)
  have HB1 : Below w.heap.size w w1 := below_step ((below_alloc _ _).alloc (by simp) _) (by simp <;> omega) hB1
  go_wp2_with fail
  refine (rcheck_c x _ _ _ HX1.out (HS.out _ (by omega)) (by omega)).mono ?_
  by_cases hx : checkE x = 0
  · have hxb : (checkE x != 0) = false := by simp [hx]
    have HXC := Lib.hid hx; clear hx
    rintro e w2 ⟨rfl, hB2⟩
    obtain ⟨hcc2, -⟩ := bcell hB2
    have h2 := hB2.size
    have hs2 : w.heap.size < w2.heap.size := by omega
    have hs2' : w.heap.size + 1 < w2.heap.size := by omega
    have HX2 := Lib.hid (HX1.out.below hB2)
    have HY2 := Lib.hid (HY1.out.below hB2)
    go_wp2_with fail
    refine (rcheck_c y _ _ _ HY2.out (HS.out _ (by omega)) (by omega)).mono ?_
    by_cases hy : checkE y = 0
    · have hyb : (checkE y != 0) = false := by simp [hy]
      have HYC := Lib.hid hy; clear hy
      rintro e w3 ⟨rfl, hB3⟩
      obtain ⟨hcc3, -⟩ := bcell hB3
      have h3 := hB3.size
      go_wp2_with fail
      refine (rorder_c x y _ _ _ _ (HX2.out.below hB3) (HY2.out.below hB3) (by omega) (by omega) (check_form HXC.out) (check_form HYC.out)).mono ?_
      rintro e w4 ⟨rfl, hB4⟩
      go_wp2_with fail
      go_ret
      exact ⟨rfl, below_step (below_step (below_step HB1 (by omega) hB2) (by omega) hB3) (by omega) hB4⟩
    · have hyb : (checkE y != 0) = true := by simp [hy]
      rintro e w3 ⟨rfl, hB3⟩
      go_wp2_with fail
      go_ret
      exact ⟨rfl, below_step (below_step HB1 (by omega) hB2) (by omega) hB3⟩
  · have hxb : (checkE x != 0) = true := by simp [hx]
    rintro e w2 ⟨rfl, hB2⟩
    go_wp2_with fail
    go_ret
    exact ⟨rfl, below_step HB1 (by omega) hB2⟩

set_option maxRecDepth 100000 in
theorem contract (H : Type) (enc : TypeId × Value → H) (W : World) (base : Nat) (args : Array Value) (ds gs : List (DataW H)) (before : List MemPlace)
    (hval : ∀ (j : Nat) t v, Try.f4.params[j]? = some t → args[j]? = some v → Value.okWide Try.prog W .any base t v)
    (hW : DataW.Whole enc Try.prog Try.f4.params.toList Rows.termOrdersSpec.vars false W args.toList ds gs before) (hk : Rows.uptoSmall H (ds ++ gs) = true) :
    Calls Try.prog 4 args W fun e W' => ∃ v, e = .returned v ∧ Rows.termOrdersSpec.post enc Try.prog Try.f4 false true false false W args v W' := by
  have hW' := hW
  obtain ⟨p, q, hA0, hV, rfl, hfz, hnd⟩ := hW
  have hA : DataW.TrodAll enc Try.prog W 0 (fun _ => true) true Try.f4.params.toList args.toList ds p := hA0
  rw [Try.params4] at hA hval
  obtain ⟨v0, vs0, d0, ds0, p0, q0, hargs, rfl, rfl, h0, r0⟩ := trodAll_cons hA
  obtain ⟨v1, vs1, d1, ds1, p1, q1, rfl, rfl, rfl, h1, r1⟩ := trodAll_cons r0
  obtain ⟨rfl, rfl, rfl⟩ := trodAll_nil r1
  obtain rfl : args = #[v0, v1] := by cases args; simp_all
  obtain ⟨rfl, rfl⟩ := trodVars_none hV
  have hb := small_bound hk
  simp only [List.append_nil, Rows.uptoBulkAll] at hb
  obtain ⟨x, hx, bx⟩ := open_term (hval 0 29 v0 rfl rfl) h0
  obtain ⟨y, hy, bY⟩ := open_term (hval 1 29 v1 rfl rfl) h1
  refine (walk x y W v0 v1 hx hy (by omega) (by omega)).mono fun e W' ⟨he, hB⟩ => ?_
  subst he
  exact ⟨_, rfl, post_true hW' rfl (by kernel_rfl) ⟨rfl, rfl, rfl⟩ (by intro t ht; rw [Try.params4] at ht; simp at ht; subst ht; exact ⟨by kernel_rfl, of_decide_eq_true (by kernel_rfl)⟩) hB⟩

set_option maxRecDepth 100000 in
theorem lifted (os : Os) (started : os.Started) (H : Type) (enc : TypeId × Value → H) (F : Stop.Interp) :
    ReturnsInHanded {} Try.checked os 4 .any ((Rows.OpenSpec.upto Rows.termOrdersSpec).pre6 enc Try.prog Try.f4 Rows.termOrdersUptoRow.domain false) (((Rows.OpenSpec.upto Rows.termOrdersSpec).at F).post enc Try.prog Try.f4 false true false false) := by
  refine returnsInHanded_of_cond (C := Try.checked) (s := Rows.OpenSpec.upto Rows.termOrdersSpec) (k := Rows.uptoSmall) rfl own started (by kernel_rfl) Try.func4
    (OpenSpec.witness (enc := enc) (C := Try.checked) (s := Rows.OpenSpec.upto Rows.termOrdersSpec) (k := Rows.uptoSmall) rfl false ⟨#[], #[.agg #[.int .i64 0, .int .i64 0, .string .empty, .slice none 0 0], .agg #[.int .i64 0, .int .i64 0, .string .empty, .slice none 0 0]], []⟩ 8 (by kernel_rfl) (by kernel_rfl) (by kernel_rfl)
      (x := ([.agg [.lit (.int .i64 0), .lit (.int .i64 0), .lit (.string []), .nil], .agg [.lit (.int .i64 0), .lit (.int .i64 0), .lit (.string []), .nil]], [], [])) (by kernel_rfl) rfl (by kernel_rfl)) ?_
  intro W base args ds gs before hval hW _ hk _
  exact contract H enc W base args ds gs before hval hW hk

theorem proved : Rows.TermOrdersUptoSaid :=
  OpenClaim.holds_of_cond 4 Try.f4 rfl rfl rfl rfl rfl rfl rfl ⟨rfl, rfl, rfl, rfl, rfl⟩ rfl rfl rfl rfl rfl (by kernel_rfl) Try.func4 (by kernel_rfl)
    (of_decide_eq_true (by kernel_rfl)) (by unfold Func.isWrapper; first | (rw [if_pos (by decide +kernel)]; kernel_rfl) | (rw [if_neg (by decide +kernel)]; exact ⟨rfl, rfl⟩))
    (fun os started H enc _ F => lifted os started H enc F)
end Go.Proofs.Ytedfepnekjjmnaa.termOrders
