/-
  clerkkeep.OrderLaws returns true for all arguments, and each argument reads afterwards as before. Condition: together the arguments hold at most 1048576 values and letters (the given second form).
-/
import Derived.Test.YtedfepnekjjmnaaROrder
import Derived.Test.YtedfepnekjjmnaaFrame
import Derived.Test.YtedfepnekjjmnaaSmall
namespace Go.Proofs.Ytedfepnekjjmnaa.orderLaws
open Go.ChangeShapes Go.WideShapes Go.ChangeAt Go.RowKit
set_option linter.unusedSimpArgs false
set_option linter.unusedVariables false

theorem ord_num_two : ordT (numT 2) twoT = -1 := by simp [ordT, orI, cmpI, numT, twoT, tupT]
theorem ord_self (t : T) : ordT t t = 0 := (ordT_3 t t t).z1.2 rfl
theorem orI_range (l : List Int) (h : ∀ x ∈ l, -1 ≤ x ∧ x ≤ 1) : -1 ≤ orI l ∧ orI l ≤ 1 := by
  induction l with
  | nil => simp [orI]
  | cons x r ih => rw [orI]; split
                   · exact ih fun y hy => h y (by simp [hy])
                   · exact h x (by simp)
theorem bytes_range : ∀ a b : List UInt8, -1 ≤ Lib.compareBytes a b ∧ Lib.compareBytes a b ≤ 1
  | [], [] => by simp [Lib.compareBytes]
  | [], _ :: _ => by simp [Lib.compareBytes]
  | _ :: _, [] => by simp [Lib.compareBytes]
  | x :: a, y :: b => by rw [Lib.compareBytes]; have := bytes_range a b; split <;> (try split) <;> omega
theorem ordL_range : ∀ n (xs ys : List T), bulkL xs ≤ n → -1 ≤ ordL xs ys ∧ ordL xs ys ≤ 1 := by
  intro n
  induction n with
  | zero => intro xs ys h; cases xs with
    | nil => cases ys with
      | nil => rw [ordL_nn]; omega
      | cons y ys => rw [ordL_nc]; omega
    | cons x xs => rw [bulkL_cons] at h; omega
  | succ n ih =>
    intro xs ys h
    cases xs with
    | nil => cases ys with
      | nil => rw [ordL_nn]; omega
      | cons y ys => rw [ordL_nc]; omega
    | cons x xs => cases ys with
      | nil => rw [ordL_cn]; omega
      | cons y ys =>
        rw [bulkL_cons] at h
        rw [ordL_cons]
        refine orI_range _ fun z hz => ?_
        simp only [List.mem_cons, List.not_mem_nil, or_false] at hz
        rcases hz with rfl | rfl
        · refine orI_range _ fun z hz => ?_
          simp only [List.mem_cons, List.not_mem_nil, or_false] at hz
          rcases hz with rfl | rfl | rfl | rfl | rfl
          · simp only [cmpI]; split <;> (try split) <;> omega
          · simp only [cmpI]; split <;> (try split) <;> omega
          · exact bytes_range _ _
          · simp only [cmpI]; split <;> (try split) <;> omega
          · exact ih _ _ (by omega)
        · exact ih _ _ (by omega)
theorem ordT_range (x y : T) : -1 ≤ ordT x y ∧ ordT x y ≤ 1 := by
  have h := ordL_range _ [x] [y] (Nat.le_refl _)
  rw [ordL_cons, ordL_nn] at h
  simp only [orI] at h
  split at h
  · simp_all
  · exact h

theorem twoT_bulk : bulkL [twoT] ≤ 1099511627776 := by simp [twoT, tupT, wordT, numT, bulkL]; decide
theorem numT_bulk : bulkL [numT 2] ≤ 1099511627776 := by simp [numT, bulkL]; decide

set_option maxHeartbeats 4000000 in
theorem walk (x y z : T) (w : World) (p q r : Value) (hp : RT (fun b => b < w.heap.size) w x p) (hq : RT (fun b => b < w.heap.size) w y q) (hr : RT (fun b => b < w.heap.size) w z r)
    (hbx : bulkL [x] ≤ 1048576) (hby : bulkL [y] ≤ 1048576) (hbz : bulkL [z] ≤ 1048576) :
    Calls Try.prog 5 #[p, q, r] w fun e w' => e = .returned (.bool true) ∧ Below w.heap.size w w' := by
  obtain ⟨a1, cap1, rfl, hc1, hr1⟩ := hp
  obtain ⟨a2, cap2, rfl, hc2, hr2⟩ := hq
  obtain ⟨a3, cap3, rfl, hc3, hr3⟩ := hr
  have HX : Hid (RT (fun b => b < w.heap.size) w x _) := Lib.hid ⟨a1, cap1, rfl, hc1, hr1⟩
  have HY : Hid (RT (fun b => b < w.heap.size) w y _) := Lib.hid ⟨a2, cap2, rfl, hc2, hr2⟩
  have HZ : Hid (RT (fun b => b < w.heap.size) w z _) := Lib.hid ⟨a3, cap3, rfl, hc3, hr3⟩
  have HC : Hid (CellsT (fun b => b < w.heap.size) w [x, y, z] [.int .i64 x.kind, .int .i64 x.n, .string x.name, .slice a1 x.args.length cap1, .int .i64 y.kind, .int .i64 y.n, .string y.name, .slice a2 y.args.length cap2, .int .i64 z.kind, .int .i64 z.n, .string z.name, .slice a3 z.args.length cap3]) :=
    Lib.hid ⟨a1, cap1, _, rfl, hc1, hr1, a2, cap2, _, rfl, hc2, hr2, a3, cap3, _, rfl, hc3, hr3, rfl⟩
  clear hr1 hr2 hr3 hc1 hc2 hc3
  have HS : Hid (∀ W : World, w.heap.size ≤ W.heap.size → ∀ b, b < w.heap.size → b < W.heap.size) := Lib.hid fun W h b hb => by omega
  go_enter Try.func5, Try.ntmps5
  go_wp2_with fail
  have hB0 : Below w.heap.size w (((w.alloc (.cells #[.int .i64 x.kind, .int .i64 x.n, .string x.name, .slice a1 x.args.length cap1] 29)).alloc (.cells #[.int .i64 y.kind, .int .i64 y.n, .string y.name, .slice a2 y.args.length cap2] 29)).alloc (.cells #[.int .i64 z.kind, .int .i64 z.n, .string z.name, .slice a3 z.args.length cap3] 29)) :=
    ((below_alloc _ _).alloc (by simp) _).alloc (by simp <;> omega) _
  refine (num_c _ _).mono ?_
  rintro e w1 ⟨rfl, hB1⟩
  have h1 := hB1.size
  simp only [World.size_alloc] at h1
  go_wp2_with fail
  refine (two_c _).mono ?_
  rintro e w2 ⟨v2, rfl, hB2, hr2⟩
  have h2 := hB2.size
  go_wp2_with fail
  refine (order_c (numT 2) twoT (fun _ => True) _ _ _ (numT_rt _ _ _) (hr2.mono fun _ _ => trivial) numT_bulk twoT_bulk).mono ?_
  rintro e w3 ⟨rfl, hB3⟩
  have h3 := hB3.size
  rw [ord_num_two]
  go_wp2_with fail
  refine (two_c _).mono ?_
  rintro e w4 ⟨v4, rfl, hB4, hr4⟩
  have h4 := hB4.size
  go_wp2_with fail
  refine (two_c _).mono ?_
  rintro e w5 ⟨v5, rfl, hB5, hr5⟩
  have h5 := hB5.size
  go_wp2_with fail
  refine (order_c twoT twoT (fun _ => True) _ _ _ ((hr4.below hB5).mono fun _ _ => trivial) (hr5.mono fun _ _ => trivial) twoT_bulk twoT_bulk).mono ?_
  rintro e w6 ⟨rfl, hB6⟩
  have h6 := hB6.size
  rw [ord_self]
  have hB06 := below_step (below_step (below_step (below_step (below_step (below_step (Below.refl _ _) (Nat.le_refl _) hB1) (by simp; omega) hB2) (by simp; omega) hB3) (by simp; omega) hB4) (by simp; omega) hB5) (by simp; omega) hB6
  obtain ⟨hcc, -⟩ := bcell hB06
  simp only [World.size_alloc] at hcc
  have HB06 := Lib.hid hB06
  clear hB1 hB2 hB3 hB4 hB5 hB6 hr2 hr4 hr5 hB06
  go_wp2_with fail
  have hz1 : w.heap.size < w6.heap.size + 1 := by omega
  have hz2 : w.heap.size + 1 < w6.heap.size + 1 := by omega
  have hz3 : w.heap.size + 1 + 1 < w6.heap.size + 1 := by omega
  have HB6 : Hid (Below w.heap.size w w6) := Lib.hid (below_step hB0 (by simp <;> omega) HB06.out)
  have HL := Lib.hid (RSl2.lit (HC.out.to (S' := fun b => b < w.heap.size) (fun _ h _ => h) (fun b _ hb => HB6.out.block b hb)) 29)
  have HX6 := Lib.hid ((HX.out.below HB6.out).alloc (.cells #[.int .i64 x.kind, .int .i64 x.n, .string x.name, .slice a1 x.args.length cap1, .int .i64 y.kind, .int .i64 y.n, .string y.name, .slice a2 y.args.length cap2, .int .i64 z.kind, .int .i64 z.n, .string z.name, .slice a3 z.args.length cap3] 29))
  have HY6 := Lib.hid ((HY.out.below HB6.out).alloc (.cells #[.int .i64 x.kind, .int .i64 x.n, .string x.name, .slice a1 x.args.length cap1, .int .i64 y.kind, .int .i64 y.n, .string y.name, .slice a2 y.args.length cap2, .int .i64 z.kind, .int .i64 z.n, .string z.name, .slice a3 z.args.length cap3] 29))
  have HZ6 := Lib.hid ((HZ.out.below HB6.out).alloc (.cells #[.int .i64 x.kind, .int .i64 x.n, .string x.name, .slice a1 x.args.length cap1, .int .i64 y.kind, .int .i64 y.n, .string y.name, .slice a2 y.args.length cap2, .int .i64 z.kind, .int .i64 z.n, .string z.name, .slice a3 z.args.length cap3] 29))
  clear hB0
  go_loopw [25] (fun i wr => ∃ k : Nat, k ≤ 3 ∧ i = .int .i64 k ∧ Below (w6.alloc (.cells #[.int .i64 x.kind, .int .i64 x.n, .string x.name, .slice a1 x.args.length cap1, .int .i64 y.kind, .int .i64 y.n, .string y.name, .slice a2 y.args.length cap2, .int .i64 z.kind, .int .i64 z.n, .string z.name, .slice a3 z.args.length cap3] 29)).heap.size (w6.alloc (.cells #[.int .i64 x.kind, .int .i64 x.n, .string x.name, .slice a1 x.args.length cap1, .int .i64 y.kind, .int .i64 y.n, .string y.name, .slice a2 y.args.length cap2, .int .i64 z.kind, .int .i64 z.n, .string z.name, .slice a3 z.args.length cap3] 29)) wr) (fun i _ => 3 - (intOf i).toNat)
  case atStart => exact ⟨0, by omega, rfl, Below.refl _ _⟩
  case round =>
    obtain ⟨k, hkl, rfl, hB⟩ := hrel
    have hsr := hB.size
    simp only [World.size_alloc] at hsr
    have HBr : Hid (Below w.heap.size w _) := Lib.hid (below_step (HB6.out.alloc (by omega) _) (by simp <;> omega) hB)
    by_cases hlt : k < 3
    · obtain ⟨a', cap', _, d0, d1, d2, d3, hE⟩ := (HL.out.below hB).elem k hlt
      have hbe : bulkL [[x, y, z][k]] ≤ 1048576 := by
        match k, hlt with
        | 0, _ => exact hbx
        | 1, _ => exact hby
        | 2, _ => exact hbz
      generalize [x, y, z][k] = u at *
      rw [Nat.zero_add] at d0 d1 d2 d3
      have hE := Lib.hid hE
      go_wp2_with fail
      refine (rcheck_c u _ _ _ (hE.out.alloc _) (by simp <;> omega) (by omega)).mono ?_
      rintro e w7 ⟨rfl, hB7⟩
      by_cases hu : checkE u = 0
      · have hub : (checkE u != 0) = false := by simp [hu]
        clear hu
        go_wp2_with fail
        go_roundw
        case rel => exact ⟨k + 1, by omega, by go_num, below_step (hB.alloc (by simp only [World.size_alloc]; omega) _) (by simp <;> omega) hB7⟩
        case measure => simp [intOf]; omega
      · have hub : (checkE u != 0) = true := by simp [hu]
        clear hu
        go_wp2_with fail
        go_ret
        exact ⟨rfl, below_step (HBr.out.alloc (by omega) _) (by simp; omega) hB7⟩
    · have hk3 : k = 3 := by omega
      subst hk3
      obtain ⟨hccr, -⟩ := bcell hB
      simp only [World.size_alloc] at hccr
      have hy1 : w.heap.size < w6.heap.size := by omega
      have hy2 : w.heap.size + 1 < w6.heap.size := by omega
      have hy3 : w.heap.size + 1 + 1 < w6.heap.size := by omega
      have hx1 : w.heap.size < w.heap.size + 1 + 1 + 1 := by omega
      have hx2 : w.heap.size + 1 < w.heap.size + 1 + 1 + 1 := by omega
      have hx3 : w.heap.size < w.heap.size + 1 + 1 := by omega
      go_wp2_with fail
      refine (order_c x y _ _ _ _ (HX6.out.below hB) (HY6.out.below hB) (by omega) (by omega)).mono ?_
      rintro e v1 ⟨rfl, hV1⟩
      have hv1 := hV1.size
      obtain ⟨hcc1, -⟩ := bcell hV1
      have hs1 : w.heap.size < wr.heap.size := by omega
      have hs2 : w.heap.size + 1 < wr.heap.size := by omega
      have hs3 : w.heap.size + 1 + 1 < wr.heap.size := by omega
      have HX7 := Lib.hid ((HX6.out.below hB).below hV1)
      have HY7 := Lib.hid ((HY6.out.below hB).below hV1)
      have HZ7 := Lib.hid ((HZ6.out.below hB).below hV1)
      have HB7 := Lib.hid (below_step HBr.out (by omega) hV1)
      have r1 := ordT_range x y
      have r2 := ordT_range y x
      have hanti : (ordT x y != -ordT y x) = false := by simp [(ordT_3 x y x).a1]
      have hzs : sameT x y = (ordT x y == 0) := by simp [sameT]
      clear hB HBr HL HB6 HX6 HY6 HZ6 hV1
      go_wp2_with fail
      refine (order_c y x _ _ _ _ HY7.out HX7.out (by omega) (by omega)).mono ?_
      rintro e v2 ⟨rfl, hV2⟩
      have hv2 := hV2.size
      obtain ⟨hcc2, -⟩ := bcell hV2
      have hs1 : w.heap.size < v1.heap.size := by omega
      have hs2 : w.heap.size + 1 < v1.heap.size := by omega
      have hs3 : w.heap.size + 1 + 1 < v1.heap.size := by omega
      have HX8 := Lib.hid (HX7.out.below hV2)
      have HY8 := Lib.hid (HY7.out.below hV2)
      have HZ8 := Lib.hid (HZ7.out.below hV2)
      have HB8 := Lib.hid (below_step HB7.out (by omega) hV2)
      clear HX7 HY7 HZ7 HB7 hV2
      go_wp2_with fail
      refine (same_c x y _ _ _ _ HX8.out HY8.out (by omega) (by omega)).mono ?_
      rintro e v3 ⟨rfl, hV3⟩
      have hv3 := hV3.size
      obtain ⟨hcc3, -⟩ := bcell hV3
      have hs1 : w.heap.size < v2.heap.size := by omega
      have hs2 : w.heap.size + 1 < v2.heap.size := by omega
      have hs3 : w.heap.size + 1 + 1 < v2.heap.size := by omega
      have HX9 := Lib.hid (HX8.out.below hV3)
      have HY9 := Lib.hid (HY8.out.below hV3)
      have HZ9 := Lib.hid (HZ8.out.below hV3)
      have HB9 := Lib.hid (below_step HB8.out (by omega) hV3)
      clear HX8 HY8 HZ8 HB8 hV3
      rw [hzs]
      have hnz : Hid (∀ b, (ordT x y == 0) = b → b = (ordT x y == 0)) := Lib.hid fun b h => h.symm
      clear hzs
      generalize (ordT x y == 0) = bb
      cases bb
      all_goals
        by_cases hgt : (ordT x y : Int) > 0
        · have hgtb : decide (0 < ordT x y) = true := by simpa using hgt
          go_wp2_with fail
          go_ret
          exact ⟨rfl, HB9.out⟩
        · have hgtb : decide (0 < ordT x y) = false := by simpa using hgt
          go_wp2_with fail
          refine (order_c y z _ _ _ _ HY9.out HZ9.out (by omega) (by omega)).mono ?_
          rintro e v4 ⟨rfl, hV4⟩
          have hv4 := hV4.size
          obtain ⟨hcc4, -⟩ := bcell hV4
          have hs1 : w.heap.size < v3.heap.size := by omega
          have hs2 : w.heap.size + 1 < v3.heap.size := by omega
          have hs3 : w.heap.size + 1 + 1 < v3.heap.size := by omega
          have HX10 := Lib.hid (HX9.out.below hV4)
          have HZ10 := Lib.hid (HZ9.out.below hV4)
          have HB10 := Lib.hid (below_step HB9.out (by omega) hV4)
          clear HX9 HY9 HZ9 HB9 hV4
          by_cases hgt2 : (ordT y z : Int) > 0
          · have hgtb2 : decide (0 < ordT y z) = true := by simpa using hgt2
            go_wp2_with fail
            go_ret
            exact ⟨rfl, HB10.out⟩
          · have hgtb2 : decide (0 < ordT y z) = false := by simpa using hgt2
            have hle := (ordT_3 x y z).t (by omega) (by omega)
            have hleb : decide (ordT x z ≤ 0) = true := by simpa using hle
            go_wp2_with fail
            refine (order_c x z _ _ _ _ HX10.out HZ10.out (by omega) (by omega)).mono ?_
            rintro e v5 ⟨rfl, hV5⟩
            go_wp2_with fail
            go_ret
            exact ⟨rfl, below_step HB10.out (by omega) hV5⟩

set_option maxRecDepth 100000 in
theorem contract (H : Type) (enc : TypeId × Value → H) (W : World) (base : Nat) (args : Array Value) (ds gs : List (DataW H)) (before : List MemPlace)
    (hval : ∀ (j : Nat) t v, Try.f5.params[j]? = some t → args[j]? = some v → Value.okWide Try.prog W .any base t v)
    (hW : DataW.Whole enc Try.prog Try.f5.params.toList Rows.orderLawsSpec.vars false W args.toList ds gs before) (hk : Rows.uptoSmall H (ds ++ gs) = true) :
    Calls Try.prog 5 args W fun e W' => ∃ v, e = .returned v ∧ Rows.orderLawsSpec.post enc Try.prog Try.f5 false true false false W args v W' := by
  have hW' := hW
  obtain ⟨p, q, hA0, hV, rfl, hfz, hnd⟩ := hW
  have hA : DataW.TrodAll enc Try.prog W 0 (fun _ => true) true Try.f5.params.toList args.toList ds p := hA0
  rw [Try.params5] at hA hval
  obtain ⟨v0, vs0, d0, ds0, p0, q0, hargs, rfl, rfl, h0, r0⟩ := trodAll_cons hA
  obtain ⟨v1, vs1, d1, ds1, p1, q1, rfl, rfl, rfl, h1, r1⟩ := trodAll_cons r0
  obtain ⟨v2, vs2, d2, ds2, p2, q2, rfl, rfl, rfl, h2, r2⟩ := trodAll_cons r1
  obtain ⟨rfl, rfl, rfl⟩ := trodAll_nil r2
  obtain rfl : args = #[v0, v1, v2] := by cases args; simp_all
  obtain ⟨rfl, rfl⟩ := trodVars_none hV
  have hb := small_bound hk
  simp only [List.append_nil, Rows.uptoBulkAll] at hb
  obtain ⟨x, hx, bx⟩ := open_term (hval 0 29 v0 rfl rfl) h0
  obtain ⟨y, hy, bY⟩ := open_term (hval 1 29 v1 rfl rfl) h1
  obtain ⟨z, hz, bz⟩ := open_term (hval 2 29 v2 rfl rfl) h2
  refine (walk x y z W v0 v1 v2 hx hy hz (by omega) (by omega) (by omega)).mono fun e W' ⟨he, hB⟩ => ?_
  subst he
  exact ⟨_, rfl, post_true hW' rfl (by kernel_rfl) ⟨rfl, rfl, rfl⟩ (by intro t ht; rw [Try.params5] at ht; simp at ht; subst ht; exact ⟨by kernel_rfl, of_decide_eq_true (by kernel_rfl)⟩) hB⟩

set_option maxRecDepth 100000 in
theorem lifted (os : Os) (started : os.Started) (H : Type) (enc : TypeId × Value → H) (F : Stop.Interp) :
    ReturnsInHanded {} Try.checked os 5 .any ((Rows.OpenSpec.upto Rows.orderLawsSpec).pre6 enc Try.prog Try.f5 Rows.orderLawsUptoRow.domain false) (((Rows.OpenSpec.upto Rows.orderLawsSpec).at F).post enc Try.prog Try.f5 false true false false) := by
  refine returnsInHanded_of_cond (C := Try.checked) (s := Rows.OpenSpec.upto Rows.orderLawsSpec) (k := Rows.uptoSmall) rfl own started (by kernel_rfl) Try.func5
    (OpenSpec.witness (enc := enc) (C := Try.checked) (s := Rows.OpenSpec.upto Rows.orderLawsSpec) (k := Rows.uptoSmall) rfl false ⟨#[], #[.agg #[.int .i64 0, .int .i64 0, .string .empty, .slice none 0 0], .agg #[.int .i64 0, .int .i64 0, .string .empty, .slice none 0 0], .agg #[.int .i64 0, .int .i64 0, .string .empty, .slice none 0 0]], []⟩ 8 (by kernel_rfl) (by kernel_rfl) (by kernel_rfl)
      (x := ([.agg [.lit (.int .i64 0), .lit (.int .i64 0), .lit (.string []), .nil], .agg [.lit (.int .i64 0), .lit (.int .i64 0), .lit (.string []), .nil], .agg [.lit (.int .i64 0), .lit (.int .i64 0), .lit (.string []), .nil]], [], [])) (by kernel_rfl) rfl (by kernel_rfl)) ?_
  intro W base args ds gs before hval hW _ hk _
  exact contract H enc W base args ds gs before hval hW hk

theorem proved : Rows.OrderLawsUptoSaid :=
  OpenClaim.holds_of_cond 5 Try.f5 rfl rfl rfl rfl rfl rfl rfl ⟨rfl, rfl, rfl, rfl, rfl⟩ rfl rfl rfl rfl rfl (by kernel_rfl) Try.func5 (by kernel_rfl)
    (of_decide_eq_true (by kernel_rfl)) (by unfold Func.isWrapper; first | (rw [if_pos (by decide +kernel)]; kernel_rfl) | (rw [if_neg (by decide +kernel)]; exact ⟨rfl, rfl⟩))
    (fun os started H enc _ F => lifted os started H enc F)
end Go.Proofs.Ytedfepnekjjmnaa.orderLaws
