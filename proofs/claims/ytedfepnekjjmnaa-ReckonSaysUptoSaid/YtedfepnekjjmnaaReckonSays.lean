/-
  clerklaw.ReckonSays returns true for all arguments, and each argument reads afterwards as before. Condition: together the arguments hold at most 1048576 values and letters (the given second form).
-/
import Derived.Test.YtedfepnekjjmnaaValue
import Derived.Test.YtedfepnekjjmnaaFrame
import Derived.Test.YtedfepnekjjmnaaSt
namespace Go.Proofs.Ytedfepnekjjmnaa.reckonSays
open Go.ChangeShapes Go.WideShapes Go.ChangeAt Go.RowKit
set_option linter.unusedSimpArgs false
set_option linter.unusedVariables false

theorem valF_val {bd : List T} {self : Int} {x t : T} (h : valF bd self x = some t) : valT bd self x = some t := by
  obtain ⟨u, hu, h⟩ := Option.bind_eq_some_iff.1 h
  split at h
  · rw [hu]; exact h
  · cases h
theorem sameT_self (x : T) : sameT x x = true := (sameT_iff x x).2 rfl

set_option maxHeartbeats 4000000 in
theorem walk (x : T) (bd : List T) (self : Int) (w : World) (p q : Value) (hp : RT (fun b => b < w.heap.size) w x p) (hq : RSl (fun b => b < w.heap.size) w bd q) (hb : bulkL [x] + bulkL bd ≤ 1048576) :
    Calls Try.prog 6 #[p, q, .int .i64 self] w fun e w' => e = .returned (.bool true) ∧ Below w.heap.size w w' := by
  obtain ⟨a1, cap1, rfl, hc1, hr1⟩ := hp
  obtain ⟨ab, capb, rfl, hcb, hrb⟩ := hq
  have HX : Hid (RT (fun b => b < w.heap.size) w x _) := Lib.hid ⟨a1, cap1, rfl, hc1, hr1⟩
  have HB : Hid (RSl (fun b => b < w.heap.size) w bd _) := Lib.hid ⟨ab, capb, rfl, hcb, hrb⟩
  clear hr1 hc1 hcb hrb
  have HS : Hid (∀ W : World, w.heap.size ≤ W.heap.size → ∀ b, b < w.heap.size → b < W.heap.size) := Lib.hid fun W h b hb => by omega
  have HZ := Lib.hid (sameT_self zeroT)
  have HZB : Hid (bulkL [zeroT] ≤ 1099511627776) := Lib.hid (by simp [zeroT, bulkL, ByteArray.size])
  go_enter Try.func6, Try.ntmps6
  go_wp2_with fail
  refine (rcheck_c x _ _ _ (HX.out.alloc _) (HS.out _ (by simp <;> omega)) (by omega)).mono ?_
  rintro e w1 ⟨rfl, hB1⟩
  have h1 := hB1.size
  obtain ⟨hcc, -⟩ := bcell hB1
  simp only [World.size_alloc] at h1 hcc
  have g1 : w.heap.size < w1.heap.size := by omega
  have k1 : w.heap.size < w.heap.size + 1 := by omega
  have HB1 := Lib.hid (below_step (below_alloc _ _) (by simp <;> omega) hB1)
  clear hB1
  by_cases hc : checkE x = 0
  · have hcb : (checkE x != 0) = false := by simp [hc]
    have hcb' : (checkE x == 0) = true := by simp [hc]
    have HC := Lib.hid hc; clear hc
    go_wp2_with fail
    refine (rbound_c bd _ _ _ (HB.out.below HB1.out) (HS.out _ (by omega)) (by omega)).mono ?_
    rintro e w2 ⟨rfl, hB2⟩
    have h2 := hB2.size
    obtain ⟨hcc2, -⟩ := bcell hB2
    have g2 : w.heap.size < w2.heap.size := by omega
    have HB2 := Lib.hid (below_step HB1.out (by omega) hB2)
    clear hB2
    cases hbd : boundB bd
    · have HR := Lib.hid (reckO_bound (self := self) HC.out hbd); clear hbd
      go_wp2_with fail
      refine (value_c bd self x _ _ _ _ ((HX.out.below HB2.out).alloc _) ((HB.out.below HB2.out).alloc _) (HS.out _ (by simp <;> omega)) (by omega)).mono ?_
      rw [HR.out]
      intro e v2 h
      obtain ⟨a2, cap2, rfl, hV, hr2⟩ := h.open
      have hv2 := hV.size
      obtain ⟨hccv, -⟩ := bcell hV
      simp only [World.size_alloc] at hv2 hccv
      have g9 : w2.heap.size < v2.heap.size := by omega
      have k9 : w2.heap.size < w2.heap.size + 1 := by omega
      have HT := Lib.hid (hr2.alloc (.cells #[.int .i64 zeroT.kind, .int .i64 zeroT.n, .string zeroT.name, .slice a2 zeroT.args.length cap2] 29))
      have HBV := Lib.hid (below_step (HB2.out.alloc (by omega) _) (by simp <;> omega) hV)
      clear hr2 hV
      go_wp2_with fail
      refine (same_c zeroT zeroT (fun _ => True) _ _ _ (HT.out.mono fun _ _ => trivial) (zeroT_rt _ _) HZB.out HZB.out).mono ?_
      rw [HZ.out]
      rintro e v3 ⟨rfl, hV3⟩
      go_wp2_with fail
      go_ret
      exact ⟨by simp, below_step (HBV.out.alloc (by omega) _) (by simp; omega) hV3⟩
    have HBD := Lib.hid hbd; clear hbd
    go_wp2_with fail
    refine (in_c _ _ _ _).mono ?_
    rintro e w3 ⟨rfl, rfl⟩
    cases hin : inB self 1 99
    · have HR := Lib.hid (reckO_self HC.out HBD.out hin); clear hin
      go_wp2_with fail
      refine (value_c bd self x _ _ _ _ ((HX.out.below HB2.out).alloc _) ((HB.out.below HB2.out).alloc _) (HS.out _ (by simp <;> omega)) (by omega)).mono ?_
      rw [HR.out]
      intro e v2 h
      obtain ⟨a2, cap2, rfl, hV, hr2⟩ := h.open
      have hv2 := hV.size
      obtain ⟨hccv, -⟩ := bcell hV
      simp only [World.size_alloc] at hv2 hccv
      have g9 : w2.heap.size < v2.heap.size := by omega
      have k9 : w2.heap.size < w2.heap.size + 1 := by omega
      have HT := Lib.hid (hr2.alloc (.cells #[.int .i64 zeroT.kind, .int .i64 zeroT.n, .string zeroT.name, .slice a2 zeroT.args.length cap2] 29))
      have HBV := Lib.hid (below_step (HB2.out.alloc (by omega) _) (by simp <;> omega) hV)
      clear hr2 hV
      go_wp2_with fail
      refine (same_c zeroT zeroT (fun _ => True) _ _ _ (HT.out.mono fun _ _ => trivial) (zeroT_rt _ _) HZB.out HZB.out).mono ?_
      rw [HZ.out]
      rintro e v3 ⟨rfl, hV3⟩
      go_wp2_with fail
      go_ret
      exact ⟨by simp, below_step (HBV.out.alloc (by omega) _) (by simp; omega) hV3⟩
    have HI := Lib.hid hin; clear hin
    go_wp2_with fail
    refine (rvalue_c bd self (boundB_len HBD.out) x _ _ _ _ ((HX.out.below HB2.out).alloc _) ((HB.out.below HB2.out).alloc _) (HS.out _ (by simp <;> omega)) (by omega) (check_form' HC.out)).mono ?_
    rintro e w3 ⟨v3, rfl, hB3, a3, cap3, rfl, hc3, hr3⟩
    have HT3 : Hid (RT _ w3 ((valF bd self x).getD zeroT) _) := Lib.hid ⟨a3, cap3, rfl, hc3, hr3⟩
    clear hr3 hc3
    have h3 := hB3.size
    obtain ⟨hcc3, hff3⟩ := bcell hB3
    simp only [World.size_alloc] at h3 hcc3 hff3
    have g3 : w.heap.size < w3.heap.size := by omega
    have g4 : w2.heap.size < w3.heap.size := by omega
    have k2 : w.heap.size < w2.heap.size + 1 := by omega
    have k3 : w2.heap.size < w2.heap.size + 1 := by omega
    have k4 : w.heap.size ≠ w2.heap.size := by omega
    have HB3 := Lib.hid (below_step (HB2.out.alloc (by omega) _) (by simp; omega) hB3)
    clear hB3
    have HST : Hid (∀ u0 u1 u2 u3, Below w.heap.size w ((((w3.setCell ⟨w2.heap.size, 0, none⟩ u0).setCell ⟨w2.heap.size, 1, none⟩ u1).setCell ⟨w2.heap.size, 2, none⟩ u2).setCell ⟨w2.heap.size, 3, none⟩ u3)) := Lib.hid fun u0 u1 u2 u3 => by
      repeat refine Below.setCell ?_ (by simp <;> omega) _
      exact HB3.out
    cases hv : valF bd self x with
    | none =>
      have HR := Lib.hid (reckO_none HC.out HBD.out HI.out hv)
      simp only [hv, Option.isSome_none, Option.getD_none] at *
      go_wp2_with fail
      obtain ⟨W, hW⟩ : ∃ W : World, W = st4 (st4 w3 w2.heap.size 0 (.int .i64 zeroT.kind) (.int .i64 zeroT.n) (.string zeroT.name) (.slice a3 zeroT.args.length cap3)) w2.heap.size 0 (.int .i64 0) (.int .i64 0) (.string ⟨#[]⟩) (.slice none 0 0) := ⟨_, rfl⟩
      have hW' := hW
      simp only [st4, Nat.zero_add] at hW'
      rw [← hW']
      clear hW'
      have hWs : W.heap.size = w3.heap.size := by rw [hW]; simp only [st4_size]
      have hWB : Below w.heap.size w W := by rw [hW]; exact st4_below (st4_below HB3.out (by omega)) (by omega)
      obtain ⟨q0, q1, q2, q3⟩ : W.cell? ⟨w2.heap.size, 0, none⟩ = some (.int .i64 0) ∧ W.cell? ⟨w2.heap.size, 1, none⟩ = some (.int .i64 0) ∧ W.cell? ⟨w2.heap.size, 2, none⟩ = some (.string ⟨#[]⟩) ∧ W.cell? ⟨w2.heap.size, 3, none⟩ = some (.slice none 0 0) := by
        rw [hW]
        obtain ⟨z0, z1, z2, z3⟩ : w3.cell? ⟨w2.heap.size, 0, none⟩ = some (.int .i64 0) ∧ w3.cell? ⟨w2.heap.size, 0 + 1, none⟩ = some (.int .i64 0) ∧ w3.cell? ⟨w2.heap.size, 0 + 2, none⟩ = some (.string ⟨#[]⟩) ∧ w3.cell? ⟨w2.heap.size, 0 + 3, none⟩ = some (.slice none 0 0) := by rw [hcc3 _ _ k3, hcc3 _ _ k3, hcc3 _ _ k3, hcc3 _ _ k3]; go_simp
        obtain ⟨y0, y1, y2, y3⟩ := st4_cells (c0 := .int .i64 zeroT.kind) (c1 := .int .i64 zeroT.n) (c2 := .string zeroT.name) (c3 := .slice a3 zeroT.args.length cap3) z0 z1 z2 z3
        simpa using st4_cells y0 y1 y2 y3
      have HWB := Lib.hid hWB
      clear hW hWB hcc hcc2 hcc3 hff3
      refine (value_c bd self x (fun b => b < w.heap.size) _ _ _ (HX.out.below HWB.out) (HB.out.below HWB.out) (fun b hb => by omega) (by omega)).mono ?_
      rw [HR.out]
      intro e v2 h
      obtain ⟨a2, cap2, rfl, hV, hr2⟩ := h.open
      have hv2 := hV.size
      obtain ⟨hccv, -⟩ := bcell hV
      have g9 : w2.heap.size < v2.heap.size := by omega
      have g8 : w2.heap.size < W.heap.size := by omega
      have HT := Lib.hid (hr2.alloc (.cells #[.int .i64 zeroT.kind, .int .i64 zeroT.n, .string zeroT.name, .slice a2 zeroT.args.length cap2] 29))
      have HBV : Hid (Below w.heap.size w v2) := Lib.hid (below_step HWB.out (by omega) hV)
      clear hr2 hV
      go_wp2_with fail
      refine (same_c zeroT zeroT (fun _ => True) _ _ _ (HT.out.mono fun _ _ => trivial) (zeroT_rt _ _) HZB.out HZB.out).mono ?_
      rw [sameT_self]
      rintro e v3 ⟨rfl, hV3⟩
      go_wp2_with fail
      go_ret
      exact ⟨by simp [HC.out], below_step (HBV.out.alloc (by omega) _) (by simp; omega) hV3⟩
    | some t =>
      have HR := Lib.hid (reckO_some HC.out HBD.out HI.out hv)
      have hbt := Nat.le_trans (valT_bulk bd self (boundB_len HBD.out) x t (check_form' HC.out) (valF_val hv)) (mul_small _ _ hb)
      simp only [hv, Option.isSome_some, Option.getD_some] at *
      go_wp2_with fail
      obtain ⟨W, hW⟩ : ∃ W : World, W = st4 w3 w2.heap.size 0 (.int .i64 t.kind) (.int .i64 t.n) (.string t.name) (.slice a3 t.args.length cap3) := ⟨_, rfl⟩
      have hW' := hW
      simp only [st4, Nat.zero_add] at hW'
      rw [← hW']
      clear hW'
      have hWs : W.heap.size = w3.heap.size := by rw [hW]; simp only [st4_size]
      have hWB : Below w.heap.size w W := by rw [hW]; exact st4_below HB3.out (by omega)
      obtain ⟨q0, q1, q2, q3⟩ : W.cell? ⟨w2.heap.size, 0, none⟩ = some (.int .i64 t.kind) ∧ W.cell? ⟨w2.heap.size, 1, none⟩ = some (.int .i64 t.n) ∧ W.cell? ⟨w2.heap.size, 2, none⟩ = some (.string t.name) ∧ W.cell? ⟨w2.heap.size, 3, none⟩ = some (.slice a3 t.args.length cap3) := by
        rw [hW]
        obtain ⟨z0, z1, z2, z3⟩ : w3.cell? ⟨w2.heap.size, 0, none⟩ = some (.int .i64 0) ∧ w3.cell? ⟨w2.heap.size, 0 + 1, none⟩ = some (.int .i64 0) ∧ w3.cell? ⟨w2.heap.size, 0 + 2, none⟩ = some (.string ⟨#[]⟩) ∧ w3.cell? ⟨w2.heap.size, 0 + 3, none⟩ = some (.slice none 0 0) := by rw [hcc3 _ _ k3, hcc3 _ _ k3, hcc3 _ _ k3, hcc3 _ _ k3]; go_simp
        simpa using st4_cells z0 z1 z2 z3
      have HT4 := Lib.hid (show RT _ W t _ by rw [hW]; exact HT3.out.st4 w2.heap.size 0 _ _ _ _ (fun b hb => by simp at hb; omega))
      have HWB := Lib.hid hWB
      clear hW hWB hcc hcc2 hcc3 hff3
      refine (value_c bd self x (fun b => b < w.heap.size) _ _ _ (HX.out.below HWB.out) (HB.out.below HWB.out) (fun b hb => by omega) (by omega)).mono ?_
      rw [HR.out]
      intro e v2 h
      obtain ⟨a2, cap2, rfl, hV, hr2⟩ := h.open
      have hv2 := hV.size
      obtain ⟨hccv, -⟩ := bcell hV
      have g9 : w2.heap.size < v2.heap.size := by omega
      have g8 : w2.heap.size < W.heap.size := by omega
      have HT := Lib.hid (hr2.alloc (.cells #[.int .i64 t.kind, .int .i64 t.n, .string t.name, .slice a2 t.args.length cap2] 29))
      have HT5 := Lib.hid ((HT4.out.below hV).alloc (.cells #[.int .i64 t.kind, .int .i64 t.n, .string t.name, .slice a2 t.args.length cap2] 29))
      have HBV : Hid (Below w.heap.size w v2) := Lib.hid (below_step HWB.out (by omega) hV)
      clear hr2 hV
      go_wp2_with fail
      refine (same_c t t (fun _ => True) _ _ _ (HT.out.mono fun _ _ => trivial) (HT5.out.mono fun _ _ => trivial) hbt hbt).mono ?_
      rw [sameT_self]
      rintro e v3 ⟨rfl, hV3⟩
      go_wp2_with fail
      go_ret
      exact ⟨by simp [HC.out], below_step (HBV.out.alloc (by omega) _) (by simp; omega) hV3⟩
  · have hcb : (checkE x != 0) = true := by simp [hc]
    have hcb' : (checkE x == 0) = false := by simp [hc]
    have HR := Lib.hid (reckO_check (bd := bd) (self := self) hc); clear hc
    go_wp2_with fail
    refine (value_c bd self x _ _ _ _ ((HX.out.below HB1.out).alloc _) ((HB.out.below HB1.out).alloc _) (HS.out _ (by simp <;> omega)) (by omega)).mono ?_
    rw [HR.out]
    intro e v2 h
    obtain ⟨a2, cap2, rfl, hV, hr2⟩ := h.open
    have hv2 := hV.size
    obtain ⟨hccv, -⟩ := bcell hV
    simp only [World.size_alloc] at hv2 hccv
    have g9 : w1.heap.size < v2.heap.size := by omega
    have k9 : w1.heap.size < w1.heap.size + 1 := by omega
    have HT := Lib.hid (hr2.alloc (.cells #[.int .i64 zeroT.kind, .int .i64 zeroT.n, .string zeroT.name, .slice a2 zeroT.args.length cap2] 29))
    have HBV := Lib.hid (below_step (HB1.out.alloc (by omega) _) (by simp <;> omega) hV)
    clear hr2 hV
    go_wp2_with fail
    refine (same_c zeroT zeroT (fun _ => True) _ _ _ (HT.out.mono fun _ _ => trivial) (zeroT_rt _ _) HZB.out HZB.out).mono ?_
    rw [HZ.out]
    rintro e v3 ⟨rfl, hV3⟩
    go_wp2_with fail
    go_ret
    exact ⟨by simp, below_step (HBV.out.alloc (by omega) _) (by simp; omega) hV3⟩

set_option maxRecDepth 100000 in
theorem contract (H : Type) (enc : TypeId × Value → H) (W : World) (base : Nat) (args : Array Value) (ds gs : List (DataW H)) (before : List MemPlace)
    (hval : ∀ (j : Nat) t v, Try.f6.params[j]? = some t → args[j]? = some v → Value.okWide Try.prog W .any base t v)
    (hW : DataW.Whole enc Try.prog Try.f6.params.toList Rows.reckonSaysSpec.vars false W args.toList ds gs before) (hk : Rows.uptoSmall H (ds ++ gs) = true) :
    Calls Try.prog 6 args W fun e W' => ∃ v, e = .returned v ∧ Rows.reckonSaysSpec.post enc Try.prog Try.f6 false true false false W args v W' := by
  have hW' := hW
  obtain ⟨p, q, hA0, hV, rfl, hfz, hnd⟩ := hW
  have hA : DataW.TrodAll enc Try.prog W 0 (fun _ => true) true Try.f6.params.toList args.toList ds p := hA0
  rw [Try.params6] at hA hval
  obtain ⟨v0, vs0, d0, ds0, p0, q0, hargs, rfl, rfl, h0, r0⟩ := trodAll_cons hA
  obtain ⟨v1, vs1, d1, ds1, p1, q1, rfl, rfl, rfl, h1, r1⟩ := trodAll_cons r0
  obtain ⟨v2, vs2, d2, ds2, p2, q2, rfl, rfl, rfl, h2, r2⟩ := trodAll_cons r1
  obtain ⟨rfl, rfl, rfl⟩ := trodAll_nil r2
  obtain rfl : args = #[v0, v1, v2] := by cases args; simp_all
  obtain ⟨rfl, rfl⟩ := trodVars_none hV
  have hb := small_bound hk
  simp only [List.append_nil, Rows.uptoBulkAll] at hb
  obtain ⟨x, hx, bx⟩ := open_term (hval 0 29 v0 rfl rfl) h0
  obtain ⟨bd, hbd, bb⟩ := open_terms (hval 1 27 v1 rfl rfl) h1
  obtain ⟨n, rfl⟩ := okWide_int Try.underlying3 (hval 2 3 v2 rfl rfl)
  refine (walk x bd n W v0 v1 hx hbd (by omega)).mono fun e W' ⟨he, hB⟩ => ?_
  subst he
  exact ⟨_, rfl, post_true hW' rfl (by kernel_rfl) ⟨rfl, rfl, rfl⟩ (by intro t ht; rw [Try.params6] at ht; simp at ht; rcases ht with rfl | rfl | rfl <;> exact ⟨by kernel_rfl, of_decide_eq_true (by kernel_rfl)⟩) hB⟩

set_option maxRecDepth 100000 in
theorem lifted (os : Os) (started : os.Started) (H : Type) (enc : TypeId × Value → H) (F : Stop.Interp) :
    ReturnsInHanded {} Try.checked os 6 .any ((Rows.OpenSpec.upto Rows.reckonSaysSpec).pre6 enc Try.prog Try.f6 Rows.reckonSaysUptoRow.domain false) (((Rows.OpenSpec.upto Rows.reckonSaysSpec).at F).post enc Try.prog Try.f6 false true false false) := by
  refine returnsInHanded_of_cond (C := Try.checked) (s := Rows.OpenSpec.upto Rows.reckonSaysSpec) (k := Rows.uptoSmall) rfl own started (by kernel_rfl) Try.func6
    (OpenSpec.witness (enc := enc) (C := Try.checked) (s := Rows.OpenSpec.upto Rows.reckonSaysSpec) (k := Rows.uptoSmall) rfl false ⟨#[], #[.agg #[.int .i64 0, .int .i64 0, .string .empty, .slice none 0 0], .slice none 0 0, .int .i64 0], []⟩ 8 (by kernel_rfl) (by kernel_rfl) (by kernel_rfl)
      (x := ([.agg [.lit (.int .i64 0), .lit (.int .i64 0), .lit (.string []), .nil], .nil, .lit (.int .i64 0)], [], [])) (by kernel_rfl) rfl (by kernel_rfl)) ?_
  intro W base args ds gs before hval hW _ hk _
  exact contract H enc W base args ds gs before hval hW hk

theorem proved : Rows.ReckonSaysUptoSaid :=
  OpenClaim.holds_of_cond 6 Try.f6 rfl rfl rfl rfl rfl rfl rfl ⟨rfl, rfl, rfl, rfl, rfl⟩ rfl rfl rfl rfl rfl (by kernel_rfl) Try.func6 (by kernel_rfl)
    (of_decide_eq_true (by kernel_rfl)) (by unfold Func.isWrapper; first | (rw [if_pos (by decide +kernel)]; kernel_rfl) | (rw [if_neg (by decide +kernel)]; exact ⟨rfl, rfl⟩))
    (fun os started H enc _ F => lifted os started H enc F)
end Go.Proofs.Ytedfepnekjjmnaa.reckonSays
