/-
  clerkkeep.ReckonCloses returns true for all arguments, and each argument reads afterwards as before. Condition: together the arguments hold at most 1048576 values and letters (the given second form).
-/
import Derived.Test.YtedfepnekjjmnaaClosesP
import Derived.Test.YtedfepnekjjmnaaBox
import Derived.Test.YtedfepnekjjmnaaFrame
import Derived.Deep.RegionHeld3
import Derived.Deep.DeepCutAuto
namespace Go.Proofs.Ytedfepnekjjmnaa.reckonCloses
open Go.ChangeShapes Go.WideShapes Go.ChangeAt Go.RowKit
set_option linter.unusedSimpArgs false
set_option linter.unusedVariables false
set_option maxRecDepth 100000

theorem add_bulk (x y : T) : bulkL [addT x y] = 5 + bulkL [x] + bulkL [y] := by
  rw [addT, bulk_tup, show [wordT sAdd, x, y] = [wordT sAdd] ++ ([x] ++ [y]) from rfl, bulkL_append, bulkL_append, bulk_one (wordT sAdd)]; simp [wordT, sAdd, bulkL, ByteArray.size]; omega
theorem putT_bulk (x : T) : bulkL [tupT [wordT sPut, x]] = 5 + bulkL [x] := by
  rw [bulk_tup, show [wordT sPut, x] = [wordT sPut] ++ [x] from rfl, bulkL_append, bulk_one (wordT sPut)]; simp [wordT, sPut, bulkL, ByteArray.size]; omega
theorem any_bulk : bulkL freeL = 4 := by
  have e : bulkL [anyT] = 1 := by rw [bulk_one]; simp [anyT, bulkL, ByteArray.size]
  rw [show freeL = [anyT] ++ ([anyT] ++ ([anyT] ++ [anyT])) from rfl, bulkL_append, bulkL_append, bulkL_append, e]
theorem reckO_bulk {bd : List T} {self : Int} {x : T} (h : bulkL [x] + bulkL bd ≤ 2000000) : bulkL [(reckO bd self x).1] ≤ 1099511627776 := by
  have hz : bulkL [zeroT] ≤ 1099511627776 := by rw [bulk_one]; simp [zeroT, bulkL, ByteArray.size]
  unfold reckO
  split
  · exact hz
  rename_i h1
  split
  · exact hz
  rename_i h2
  split
  · exact hz
  cases hv : valF bd self x with
  | none => exact hz
  | some t => exact Nat.le_trans (valT_bulk bd self (boundB_len (by simpa using h2)) x t (check_form' (by simpa using h1)) (valF_check hv).1) (mul_small _ _ h)
theorem sameT_refl (x : T) : sameT x x = true := (sameT_iff x x).2 rfl

set_option maxHeartbeats 8000000 in
theorem walk (x t : T) (bd : List T) (self : Int) (w : World) (vx vt vb : Value) (hp : RT (fun b => b < w.heap.size) w x vx) (ht : RT (fun b => b < w.heap.size) w t vt) (hq : RSl (fun b => b < w.heap.size) w bd vb)
    (hb : bulkL [x] + bulkL [t] + bulkL bd ≤ 1048576) :
    Calls Try.prog 9 #[vx, vt, vb, .int .i64 self] w fun e w' => e = .returned (.bool true) ∧ Below w.heap.size w w' := by
  obtain ⟨a1, cap1, rfl, hc1, hr1⟩ := hp
  obtain ⟨a2, cap2, rfl, hc2, hr2⟩ := ht
  obtain ⟨ab, capb, rfl, hcb, hrb⟩ := hq
  have HX : Hid (RT (fun b => b < w.heap.size) w x _) := Lib.hid ⟨a1, cap1, rfl, hc1, hr1⟩
  have HT : Hid (RT (fun b => b < w.heap.size) w t _) := Lib.hid ⟨a2, cap2, rfl, hc2, hr2⟩
  have HB : Hid (RSl (fun b => b < w.heap.size) w bd _) := Lib.hid ⟨ab, capb, rfl, hcb, hrb⟩
  clear hr1 hc1 hr2 hc2 hcb hrb
  have HBX := Lib.hid (Box.alloc (Box.new w (.int .i64 x.kind) (.int .i64 x.n) (.string x.name) (.slice a1 x.args.length cap1) 29) (.cells #[.int .i64 t.kind, .int .i64 t.n, .string t.name, .slice a2 t.args.length cap2] 29))
  have HBT := Lib.hid (Box.new (w.alloc (.cells #[.int .i64 x.kind, .int .i64 x.n, .string x.name, .slice a1 x.args.length cap1] 29)) (.int .i64 t.kind) (.int .i64 t.n) (.string t.name) (.slice a2 t.args.length cap2) 29)
  have HW0 := Lib.hid (show Below w.heap.size w _ from ((below_alloc w (.cells #[.int .i64 x.kind, .int .i64 x.n, .string x.name, .slice a1 x.args.length cap1] 29)).alloc (by simp) (.cells #[.int .i64 t.kind, .int .i64 t.n, .string t.name, .slice a2 t.args.length cap2] 29)))
  go_enter Try.func9, Try.ntmps9
  go_wp2_with fail
  obtain ⟨W0, hW0⟩ : ∃ W : World, W = ((w.alloc (.cells #[.int .i64 x.kind, .int .i64 x.n, .string x.name, .slice a1 x.args.length cap1] 29)).alloc (.cells #[.int .i64 t.kind, .int .i64 t.n, .string t.name, .slice a2 t.args.length cap2] 29)) := ⟨_, rfl⟩
  have hs0 : W0.heap.size = w.heap.size + 2 := by rw [hW0]; simp
  rw [← hW0] at HBX HBT HW0 ⊢
  simp only [World.size_alloc] at HBT
  clear hW0
  refine (word_c _ _).mono ?_
  rintro e w1 ⟨rfl, hB1⟩
  have h1 := hB1.size
  go_wp2_with fail
  refine (num_c _ _).mono ?_
  rintro e w2 ⟨rfl, hB2⟩
  have h2 := hB2.size
  go_wp2_with fail
  refine (num_c _ _).mono ?_
  rintro e w3 ⟨rfl, hB3⟩
  have h3 := hB3.size
  have HC : Hid (CellsT (fun _ => False) w3 [wordT sAdd, numT 2, numT 3] [.int .i64 2, .int .i64 0, .string ⟨#[97, 100, 100]⟩, .slice none 0 0, .int .i64 1, .int .i64 2, .string ⟨#[]⟩, .slice none 0 0, .int .i64 1, .int .i64 3, .string ⟨#[]⟩, .slice none 0 0]) :=
    Lib.hid ⟨none, 0, _, rfl, ⟨Nat.le_refl _, fun _ => rfl⟩, by simp [wordT, RTs], none, 0, _, rfl, ⟨Nat.le_refl _, fun _ => rfl⟩, by simp [numT, RTs], none, 0, [], rfl, ⟨Nat.le_refl _, fun _ => rfl⟩, by simp [numT, RTs], rfl⟩
  have HL := Lib.hid (RSl2.lit HC.out 29)
  have HB3 := Lib.hid (below_step (below_step hB1 (by omega) hB2) (by omega) hB3)
  clear hB1 hB2 hB3 HC
  go_wp2_with fail
  refine (tuple_c _ _ _ _).mono ?_
  rintro e w4 ⟨rfl, hB4⟩
  have h4 := hB4.size
  simp only [World.size_alloc] at h4
  have HL4 := Lib.hid (HL.out.below hB4)
  have HB4 := Lib.hid (below_step (HB3.out.alloc (by omega) _) (by simp; omega) hB4)
  clear HB3 HL hB4
  go_wp2_with fail
  refine (kfree_c _).mono ?_
  rintro e w5 ⟨v5, rfl, hB5, hr5⟩
  have h5 := hB5.size
  have HF := Lib.hid (hr5.bound)
  have HA := Lib.hid ((tupT_rt (HL4.out.below hB5).rsl).bound)
  have HB5 := Lib.hid (below_step HB4.out (by omega) hB5)
  clear hB5 hr5 HL4 HB4
  go_wp2_with fail
  refine (value_c freeL 1 (addT (numT 2) (numT 3)) _ _ _ _ HA.out HF.out (fun b hb => hb) (by rw [add_bulk, any_bulk, bulk_num, bulk_num]; omega)).mono ?_
  rw [reckO_five]
  intro e w6 h
  obtain ⟨a6, cap6, rfl, hB6, hr6⟩ := h.open
  have h6 := hB6.size
  have HN := Lib.hid hr6
  have HB6 := Lib.hid (below_step HB5.out (by omega) hB6)
  clear HB5 hB6 hr6 HF HA
  go_wp2_with fail
  obtain ⟨W1, hW1⟩ : ∃ W : World, W = w6.alloc (.cells #[.int .i64 (numT 5).kind, .int .i64 (numT 5).n, .string (numT 5).name, .slice a6 (numT 5).args.length cap6] 29) := ⟨_, rfl⟩
  have hs7 : W1.heap.size = w6.heap.size + 1 := by rw [hW1]; simp
  have HBN := Lib.hid (Box.new w6 (.int .i64 (numT 5).kind) (.int .i64 (numT 5).n) (.string (numT 5).name) (.slice a6 (numT 5).args.length cap6) 29)
  have HN1 := Lib.hid (HN.out.alloc (.cells #[.int .i64 (numT 5).kind, .int .i64 (numT 5).n, .string (numT 5).name, .slice a6 (numT 5).args.length cap6] 29))
  have HB1 := Lib.hid (show Below W0.heap.size W0 _ from HB6.out.alloc (by omega) (.cells #[.int .i64 (numT 5).kind, .int .i64 (numT 5).n, .string (numT 5).name, .slice a6 (numT 5).args.length cap6] 29))
  rw [← hW1] at HBN HN1 HB1 ⊢
  clear hW1 HB6 HN
  have hq : ∀ w', Below W1.heap.size W1 w' → w'.cell? ⟨w6.heap.size, 0, none⟩ = some (.int .i64 (numT 5).kind) ∧ w'.cell? ⟨w6.heap.size, 1, none⟩ = some (.int .i64 (numT 5).n) ∧ w'.cell? ⟨w6.heap.size, 2, none⟩ = some (.string (numT 5).name) ∧ w'.cell? ⟨w6.heap.size, 3, none⟩ = some (.slice a6 (numT 5).args.length cap6) := fun w' h => HBN.out.step h
  go_region_held3 (fun w' => w'.cell? ⟨w6.heap.size, 0, none⟩ = some (.int .i64 (numT 5).kind) ∧ w'.cell? ⟨w6.heap.size, 1, none⟩ = some (.int .i64 (numT 5).n) ∧ w'.cell? ⟨w6.heap.size, 2, none⟩ = some (.string (numT 5).name) ∧ w'.cell? ⟨w6.heap.size, 3, none⟩ = some (.slice a6 (numT 5).args.length cap6))
    (first | exact hq _ HB8 | exact hq _ HB7 | exact hq _ (Below.refl _ _).drew | go_keep)
    (first
      | (go_at_call 17; refine (num_c _ _).mono ?_; rintro e w7 ⟨rfl, hB7⟩; have h7 := hB7.size; have HB7 := (Below.refl W1.heap.size W1).drew.trans hB7; simp only [World.size_drew] at h7)
      | (go_at_call 19; refine (same_c (numT 5) (numT 5) (fun _ => True) _ _ _ ((HN1.out.below HB7).mono fun _ _ => trivial) (numT_rt _ _ _) (by rw [bulk_num]; omega) (by rw [bulk_num]; omega)).mono ?_; rw [sameT_refl]; rintro e w8 ⟨rfl, hB8⟩; have h8 := hB8.size; have HB8 := HB7.trans (hB8.mono h7)))
  have HW8 := Lib.hid (show Below W0.heap.size W0 w8 from HB1.out.trans (HB8.mono HB1.out.size))
  have hs8 := HW8.out.size
  clear hB7 hB8 HB7 HB8 hq HBN HN1 HB1
  go_wp2_with fail
  refine (rbound_c bd _ _ _ (HB.out.below (HW0.out.trans (HW8.out.mono HW0.out.size))) (fun b hb => by omega) (by omega)).mono ?_
  rintro e w9 ⟨rfl, hB9⟩
  have h9 := hB9.size
  have HW9 := Lib.hid (HW8.out.trans (hB9.mono hs8))
  clear hB9 HW8
  go_upto_if 38 with fail
  go_cut [2] (fun v wx => ∃ bd' : List T, boundB bd' = true ∧ bulkL bd' ≤ bulkL bd + 4 ∧ RSl (fun b => b < wx.heap.size) wx bd' v ∧ Below W0.heap.size W0 wx)
  case first =>
    cases hbd : boundB bd
    · go_wp2_with fail
      refine (kfree_c _).mono ?_
      rintro e w10 ⟨v, rfl, hB10, hr⟩
      go_wp2_with fail
      go_meet
      exact ⟨freeL, freeL_bound, by rw [any_bulk]; omega, hr.bound, HW9.out.trans (hB10.mono HW9.out.size)⟩
    · go_wp2_with fail
      go_meet
      exact ⟨bd, hbd, by omega, (HB.out.below (HW0.out.trans (HW9.out.mono HW0.out.size))).bound, HW9.out⟩
  case rest =>
    obtain ⟨bd', hbd', hbb, hrb, hBc⟩ := hcut
    obtain ⟨W2, rfl⟩ : ∃ W : World, W = wc := ⟨_, rfl⟩
    obtain ⟨ab', capb', rfl, hcb', hrb'⟩ := hrb
    have HRB : Hid (RSl (fun b => b < W2.heap.size) W2 bd' _) := Lib.hid ⟨ab', capb', rfl, hcb', hrb'⟩
    have HBD := Lib.hid hbd'
    have hsc := hBc.size
    have HBW := Lib.hid (HW0.out.trans (hBc.mono HW0.out.size))
    have HX2 := Lib.hid (HX.out.below HBW.out)
    have HT2 := Lib.hid (HT.out.below HBW.out)
    have HBX2 := Lib.hid (HBX.out.below hBc (by omega))
    have HBT2 := Lib.hid (HBT.out.below hBc (by omega))
    clear hcb' hrb' hBc hbd' HW9 HX HT HBX HBT HB HW0
    have HCA : Hid (CellsT (fun b => b < w.heap.size) W2 [wordT sAdd, x, t] [.int .i64 2, .int .i64 0, .string ⟨#[97, 100, 100]⟩, .slice none 0 0, .int .i64 x.kind, .int .i64 x.n, .string x.name, .slice a1 x.args.length cap1, .int .i64 t.kind, .int .i64 t.n, .string t.name, .slice a2 t.args.length cap2]) := Lib.hid (by obtain ⟨_, _, e, hcx, hrx⟩ := HX2.out; simp only [Value.agg.injEq, Array.mk.injEq, List.cons.injEq, and_true, true_and, Value.slice.injEq] at e; obtain ⟨rfl, rfl⟩ := e; obtain ⟨_, _, e', hct, hrt⟩ := HT2.out; simp only [Value.agg.injEq, Array.mk.injEq, List.cons.injEq, and_true, true_and, Value.slice.injEq] at e'; obtain ⟨rfl, rfl⟩ := e'; exact ⟨none, 0, _, rfl, ⟨Nat.le_refl _, fun _ => rfl⟩, by simp [wordT, RTs], _, _, _, rfl, hcx, hrx, _, _, [], rfl, hct, hrt, rfl⟩)
    have HCB : Hid (CellsT (fun b => b < w.heap.size) W2 [wordT sAdd, t, x] [.int .i64 2, .int .i64 0, .string ⟨#[97, 100, 100]⟩, .slice none 0 0, .int .i64 t.kind, .int .i64 t.n, .string t.name, .slice a2 t.args.length cap2, .int .i64 x.kind, .int .i64 x.n, .string x.name, .slice a1 x.args.length cap1]) := Lib.hid (by obtain ⟨_, _, e, hcx, hrx⟩ := HX2.out; simp only [Value.agg.injEq, Array.mk.injEq, List.cons.injEq, and_true, true_and, Value.slice.injEq] at e; obtain ⟨rfl, rfl⟩ := e; obtain ⟨_, _, e', hct, hrt⟩ := HT2.out; simp only [Value.agg.injEq, Array.mk.injEq, List.cons.injEq, and_true, true_and, Value.slice.injEq] at e'; obtain ⟨rfl, rfl⟩ := e'; exact ⟨none, 0, _, rfl, ⟨Nat.le_refl _, fun _ => rfl⟩, by simp [wordT, RTs], _, _, _, rfl, hct, hrt, _, _, [], rfl, hcx, hrx, rfl⟩)
    have HCP : Hid (CellsT (fun b => b < w.heap.size) W2 [wordT sPut, t] [.int .i64 2, .int .i64 0, .string ⟨#[112, 117, 116]⟩, .slice none 0 0, .int .i64 t.kind, .int .i64 t.n, .string t.name, .slice a2 t.args.length cap2]) := Lib.hid (by obtain ⟨_, _, e', hct, hrt⟩ := HT2.out; simp only [Value.agg.injEq, Array.mk.injEq, List.cons.injEq, and_true, true_and, Value.slice.injEq] at e'; obtain ⟨rfl, rfl⟩ := e'; exact ⟨none, 0, _, rfl, ⟨Nat.le_refl _, fun _ => rfl⟩, by simp [wordT, RTs], _, _, [], rfl, hct, hrt, rfl⟩)
    have e1 := Int.emod_nonneg self (b := 99) (by omega)
    have e2 := Int.emod_lt_of_pos self (b := 99) (by omega)
    have HS1 := Lib.hid (show inB (1 + self % 99) 1 99 = true by simp [inB]; omega)
    obtain ⟨x0, x1, x2, x3⟩ := HBX2.out
    go_wp2_with fail
    refine (rest_c _ _ _ (by omega) (by omega)).mono ?_
    rintro e w10 ⟨rfl, hw⟩
    obtain rfl : W2 = w10 := hw.symm
    go_wp2_with fail
    refine (value_c bd' (1 + self % 99) x _ _ _ _ HX2.out.bound HRB.out (fun b hb => hb) (by omega)).mono ?_
    have HG := Lib.hid (reckO_good (bd := bd') (self := 1 + self % 99) (x := x))
    have hbu := reckO_bulk (bd := bd') (self := 1 + self % 99) (x := x) (by omega)
    generalize reckO bd' (1 + self % 99) x = o at HG hbu ⊢
    obtain ⟨u, n⟩ := o
    simp only at HG hbu
    intro e w11 h
    obtain ⟨a11, cap11, rfl, hB11, hr11⟩ := h.open
    have h11 := hB11.size
    have HU := Lib.hid hr11
    have HW11 := Lib.hid hB11
    clear hr11 hB11 x0 x1 x2 x3
    go_upto_region 8 with fail
    go_cut [61] (fun b wx => b = .bool false ∧ Below W2.heap.size W2 wx)
    case first =>
      have HU1 := Lib.hid (HU.out.alloc (.cells #[.int .i64 u.kind, .int .i64 u.n, .string u.name, .slice a11 u.args.length cap11] 29))
      have HW12 := Lib.hid (HW11.out.alloc (by omega) (.cells #[.int .i64 u.kind, .int .i64 u.n, .string u.name, .slice a11 u.args.length cap11] 29))
      by_cases hn : n = 0
      · subst hn
        obtain ⟨hg1, hg2⟩ := HG.out rfl
        have HG1 := Lib.hid hg1
        have HG2 := Lib.hid hg2
        clear hg1 hg2
        go_wp2_with fail
        refine (rclosed_c u _ _ _ HU1.out.bound (fun b hb => hb) hbu).mono ?_
        rw [HG1.out]
        rintro e w12 ⟨rfl, hB12⟩
        have h12 := hB12.size
        simp only [World.size_alloc] at h12
        obtain ⟨u0, u1, u2, u3⟩ := (Box.new w11 (.int .i64 u.kind) (.int .i64 u.n) (.string u.name) (.slice a11 u.args.length cap11) 29).step hB12
        go_wp2_with fail
        refine (rcheck_c u _ _ _ (HU1.out.below hB12).bound (fun b hb => hb) hbu).mono ?_
        rw [HG2.out]
        rintro e w13 ⟨rfl, hB13⟩
        go_wp2_with fail
        go_meet
        exact ⟨rfl, (HW12.out.trans (hB12.mono HW12.out.size)).trans (hB13.mono (by omega))⟩
      · have hnb : (n == 0) = false := by simpa using hn
        go_wp2_with fail
        go_meet
        exact ⟨rfl, HW12.out⟩
    case rest =>
      obtain ⟨rfl, hBc⟩ := hcut
      obtain ⟨W3, rfl⟩ : ∃ W : World, W = wc := ⟨_, rfl⟩
      have HW3 := Lib.hid hBc
      have hs3 := hBc.size
      clear hBc HU HG HW11
      go_upto_region 10 with fail
      go_cut [76] (fun b wx => ∃ c : Bool, b = .bool c ∧ (c = true → checkE t = 0 ∧ closedL [t] = true ∧ checkE (tupT [wordT sPut, t]) = 0) ∧ Below W2.heap.size W2 wx)
      case first =>
        have hq : ∀ w', Below W3.heap.size W3 w' → w'.cell? ⟨w.heap.size + 1, 0, none⟩ = some (.int .i64 t.kind) ∧ w'.cell? ⟨w.heap.size + 1, 1, none⟩ = some (.int .i64 t.n) ∧ w'.cell? ⟨w.heap.size + 1, 2, none⟩ = some (.string t.name) ∧ w'.cell? ⟨w.heap.size + 1, 3, none⟩ = some (.slice a2 t.args.length cap2) := fun w' h => HBT2.out.step (HW3.out.trans (h.mono hs3))
        have HTW := Lib.hid (HT2.out.below HW3.out)
        by_cases hc1 : checkE t = 0
        · cases hc2 : closedL [t]
          · obtain ⟨t0, t1, t2, t3⟩ := hq _ (Below.refl _ _).drew
            simp only [World.cell?_drew] at t0 t1 t2 t3
            go_region_with (first
                | (go_at_call 15; refine (rcheck_c t _ _ _ (HTW.out.below (Below.refl _ _).drew).bound (fun b hb => hb) (by omega)).mono ?_; rw [hc1]; rintro e w101 ⟨rfl, hB101⟩; have h101 := hB101.size; simp only [World.size_drew] at h101; have HB101 := (Below.refl W3.heap.size W3).drew.trans hB101; obtain ⟨y0, y1, y2, y3⟩ := hq _ HB101)
                | (go_at_call 26; refine (rclosed_c t _ _ _ (HTW.out.below HB101).bound (fun b hb => hb) (by omega)).mono ?_; rw [hc2]; rintro e w102 ⟨rfl, hB102⟩; have h102 := hB102.size; have HB102 := HB101.trans (hB102.mono h101)))
            all_goals (
              go_wp2_with fail
              go_meet
              exact ⟨false, rfl, (fun h => by cases h), HW3.out.trans (HB102.mono hs3)⟩)
          · go_region_held3 (fun w' => w'.cell? ⟨w.heap.size + 1, 0, none⟩ = some (.int .i64 t.kind) ∧ w'.cell? ⟨w.heap.size + 1, 1, none⟩ = some (.int .i64 t.n) ∧ w'.cell? ⟨w.heap.size + 1, 2, none⟩ = some (.string t.name) ∧ w'.cell? ⟨w.heap.size + 1, 3, none⟩ = some (.slice a2 t.args.length cap2))
              (first | exact hq _ HB105 | exact hq _ HB104 | exact hq _ (HB103.alloc (by omega) _) | exact hq _ HB103 | exact hq _ HB102 | exact hq _ HB101 | exact hq _ (Below.refl _ _).drew | go_keep)
              (first
                | (go_at_call 15; refine (rcheck_c (tupT [wordT sPut, t]) _ _ _ (tupT_rt HL104.out.rsl).bound (fun b hb => hb) (by rw [putT_bulk]; omega)).mono ?_; rintro e w105 ⟨rfl, hB105⟩; have h105 := hB105.size; have HB105 := HB104.trans (hB105.mono (by omega)))
                | (go_at_call 15; refine (rcheck_c t _ _ _ (HTW.out.below (Below.refl _ _).drew).bound (fun b hb => hb) (by omega)).mono ?_; rw [hc1]; rintro e w101 ⟨rfl, hB101⟩; have h101 := hB101.size; simp only [World.size_drew] at h101; have HB101 := (Below.refl W3.heap.size W3).drew.trans hB101)
                | (go_at_call 26; refine (rclosed_c t _ _ _ (HTW.out.below HB101).bound (fun b hb => hb) (by omega)).mono ?_; rw [hc2]; rintro e w102 ⟨rfl, hB102⟩; have h102 := hB102.size; have HB102 := HB101.trans (hB102.mono h101))
                | (go_at_call 31; refine (word_c _ _).mono ?_; rintro e w103 ⟨rfl, hB103⟩; have h103 := hB103.size; have HB103 := HB102.trans (hB103.mono (by omega)); have HL103 := Lib.hid (RSl2.lit (HCP.out.to (S' := fun b => b < w.heap.size) (fun _ h _ => h) (fun b hb hl => (HW3.out.trans (HB103.mono hs3)).block b hl)) 29))
                | (go_at_call 30; refine (tuple_c _ _ _ _).mono ?_; rintro e w104 ⟨rfl, hB104⟩; have h104 := hB104.size; simp only [World.size_alloc] at h104; have HB104 := below_step (HB103.alloc (by omega) _) (by simp; omega) hB104; have HL104 := Lib.hid (HL103.out.below hB104)))
            go_wp2_with fail
            go_meet
            exact ⟨_, rfl, (fun h => ⟨hc1, hc2, by simpa using h⟩), HW3.out.trans (HB105.mono hs3)⟩
        · have hcb : (checkE t == 0) = false := by simpa using hc1
          obtain ⟨t0, t1, t2, t3⟩ := hq _ (Below.refl _ _).drew
          simp only [World.cell?_drew] at t0 t1 t2 t3
          go_region_with (first
              | (go_at_call 15; refine (rcheck_c t _ _ _ (HTW.out.below (Below.refl _ _).drew).bound (fun b hb => hb) (by omega)).mono ?_; rintro e w101 ⟨rfl, hB101⟩; have h101 := hB101.size; simp only [World.size_drew] at h101; have HB101 := (Below.refl W3.heap.size W3).drew.trans hB101))
          all_goals (
            go_wp2_with fail
            go_meet
            exact ⟨false, rfl, (fun h => by cases h), HW3.out.trans (HB101.mono hs3)⟩)
      case rest =>
        obtain ⟨c, rfl, hc, hBc⟩ := hcut
        obtain ⟨W4, rfl⟩ : ∃ W : World, W = wc := ⟨_, rfl⟩
        have HW4 := Lib.hid hBc
        have hs4 := hBc.size
        clear hBc HW3
        go_upto_if 76 with fail
        go_cut [] (fun wx => Below W2.heap.size W2 wx)
        case first =>
          cases c
          · go_wp2_with fail
            go_meet
            exact HW4.out
          · obtain ⟨hc1, hc2, hc3⟩ := hc rfl
            have HRP := Lib.hid (reckO_put HBD.out HS1.out hc1 hc2 hc3)
            clear hc hc1 hc2 hc3
            go_upto_region 11 with fail
            have hsW11 : W2.heap.size ≤ W4.heap.size := HW4.out.size
            have hq : ∀ w', Below W4.heap.size W4 w' → w'.cell? ⟨w.heap.size + 1, 0, none⟩ = some (.int .i64 t.kind) ∧ w'.cell? ⟨w.heap.size + 1, 1, none⟩ = some (.int .i64 t.n) ∧ w'.cell? ⟨w.heap.size + 1, 2, none⟩ = some (.string t.name) ∧ w'.cell? ⟨w.heap.size + 1, 3, none⟩ = some (.slice a2 t.args.length cap2) := fun w' h => (HBT2.out.step (HW4.out.trans (h.mono hsW11)))
            go_cut [13, 14] (fun v b wx => Fin W4 wx t v ∧ b = .int .i64 0)
            case first =>
              go_region_held3 (fun w' => w'.cell? ⟨w.heap.size + 1, 0, none⟩ = some (.int .i64 t.kind) ∧ w'.cell? ⟨w.heap.size + 1, 1, none⟩ = some (.int .i64 t.n) ∧ w'.cell? ⟨w.heap.size + 1, 2, none⟩ = some (.string t.name) ∧ w'.cell? ⟨w.heap.size + 1, 3, none⟩ = some (.slice a2 t.args.length cap2))
                (first | exact hq _ (by repeat' (first | exact HB112 | exact HB111 | exact HB110 | exact Below.refl _ _ | apply Below.drew | refine Below.alloc ?_ (by first | omega | (simp; omega) | (simp; done)) _ | refine Below.setCell ?_ (by first | omega | (simp; omega) | (simp; done)) _)) | go_keep)
                (first
                  | (go_at_call 31; refine (word_c _ _).mono ?_; rintro e w110 ⟨rfl, hB110⟩; have h110 := hB110.size; (try simp only [World.size_drew, World.size_alloc] at h110); obtain ⟨hcc110, hff110⟩ := bcell hB110; (try simp only [World.size_alloc, World.size_drew] at hcc110 hff110); have HB110 := below_step (show Below W4.heap.size W4 _ from (by repeat' (first | exact HB112 | exact HB111 | exact HB110 | exact Below.refl _ _ | apply Below.drew | refine Below.alloc ?_ (by first | omega | (simp; omega) | (simp; done)) _ | refine Below.setCell ?_ (by first | omega | (simp; omega) | (simp; done)) _))) (by first | omega | (simp; omega) | (simp; done)) hB110)
                  | (go_at_call 30; refine (tuple_c _ _ _ _).mono ?_; rintro e w111 ⟨rfl, hB111⟩; have h111 := hB111.size; (try simp only [World.size_alloc] at h111); obtain ⟨hcc111, hff111⟩ := bcell hB111; (try simp only [World.size_alloc, World.size_drew] at hcc111 hff111); have HB111 := below_step (show Below W4.heap.size W4 _ from (by repeat' (first | exact HB112 | exact HB111 | exact HB110 | exact Below.refl _ _ | apply Below.drew | refine Below.alloc ?_ (by first | omega | (simp; omega) | (simp; done)) _ | refine Below.setCell ?_ (by first | omega | (simp; omega) | (simp; done)) _))) (by first | omega | (simp; omega) | (simp; done)) hB111; have hl111 := RSl2.below (by first | exact RSl2.lit (HCP.out.to (S' := fun b => b < w.heap.size) (fun _ h _ => h) (fun b hb hl => (HW4.out.trans (Below.mono (show Below W4.heap.size W4 _ from (by repeat' (first | exact HB112 | exact HB111 | exact HB110 | exact Below.refl _ _ | apply Below.drew | refine Below.alloc ?_ (by first | omega | (simp; omega) | (simp; done)) _ | refine Below.setCell ?_ (by first | omega | (simp; omega) | (simp; done)) _))) hsW11)).block b hl)) 29 | exact (RSl2.lit (HCP.out.to (S' := fun b => b < w.heap.size) (fun _ h _ => h) (fun b hb hl => (HW4.out.trans (Below.mono (show Below W4.heap.size W4 _ from (by repeat' (first | exact HB112 | exact HB111 | exact HB110 | exact Below.refl _ _ | apply Below.drew | refine Below.alloc ?_ (by first | omega | (simp; omega) | (simp; done)) _ | refine Below.setCell ?_ (by first | omega | (simp; omega) | (simp; done)) _))) hsW11)).block b hl)) 29).below (below_alloc _ _)) hB111; (try simp only [World.size_alloc] at hl111); have HL111 := Lib.hid hl111; clear hl111)
                  | (go_at_call 23; (first | refine (value_c bd' (1 + self % 99) (tupT [wordT sPut, t]) _ _ _ _ ((tupT_rt HL111.out.rsl).mono (fun b hb => Or.imp id (fun h => (by omega : b < W2.heap.size)) hb)) ((HRB.out.below (HW4.out.trans (Below.mono (show Below W4.heap.size W4 _ from (by repeat' (first | exact HB112 | exact HB111 | exact HB110 | exact Below.refl _ _ | apply Below.drew | refine Below.alloc ?_ (by first | omega | (simp; omega) | (simp; done)) _ | refine Below.setCell ?_ (by first | omega | (simp; omega) | (simp; done)) _))) hsW11))).mono fun b hb => Or.inr hb) (fun b hb => by rcases hb with hb | hb <;> first | omega | (simp at hb ⊢; omega) | (simp; omega)) (by rw [putT_bulk]; omega)).mono ?_ | refine (value_c bd' (1 + self % 99) (tupT [wordT sPut, t]) _ _ _ _ (((tupT_rt HL111.out.rsl).alloc _).mono (fun b hb => Or.imp id (fun h => (by omega : b < W2.heap.size)) hb)) ((HRB.out.below (HW4.out.trans (Below.mono (show Below W4.heap.size W4 _ from (by repeat' (first | exact HB112 | exact HB111 | exact HB110 | exact Below.refl _ _ | apply Below.drew | refine Below.alloc ?_ (by first | omega | (simp; omega) | (simp; done)) _ | refine Below.setCell ?_ (by first | omega | (simp; omega) | (simp; done)) _))) hsW11))).mono fun b hb => Or.inr hb) (fun b hb => by rcases hb with hb | hb <;> first | omega | (simp at hb ⊢; omega) | (simp; omega)) (by rw [putT_bulk]; omega)).mono ?_); rw [HRP.out]; intro e w112 h; obtain ⟨a11, cap11, rfl, hB112, hr11⟩ := h.open; have h112 := hB112.size; (try simp only [World.size_alloc] at h112); have HR11 := Lib.hid hr11; have HB112 := below_step (show Below W4.heap.size W4 _ from (by repeat' (first | exact HB112 | exact HB111 | exact HB110 | exact Below.refl _ _ | apply Below.drew | refine Below.alloc ?_ (by first | omega | (simp; omega) | (simp; done)) _ | refine Below.setCell ?_ (by first | omega | (simp; omega) | (simp; done)) _))) (by first | omega | (simp; omega) | (simp; done)) hB112; clear hr11; obtain ⟨hcc112, hff112⟩ := bcell hB112; (try simp only [World.size_alloc, World.size_drew] at hcc112 hff112); (try (have q110 : W4.heap.size < w111.heap.size := by omega)); (try (have q111 : W4.heap.size < w110.heap.size := by omega)); (try (have q112 : W4.heap.size < w110.heap.size + 1 := by omega)); (try (have q113 : w110.heap.size < w111.heap.size := by omega)); (try (have q114 : w110.heap.size < w110.heap.size + 1 + 1 := by omega)); (try (have q115 : w110.heap.size + 1 < w111.heap.size := by omega))))
              all_goals (
                go_wp2_with fail
                go_meet
                refine ⟨?_, rfl⟩
                first
                  | exact Fin.new HR11.out HB112 _
                  | exact Fin.old HR11.out HB112 (z0 := .int .i64 0) (z1 := .int .i64 0) (z2 := .string ⟨#[]⟩) (z3 := .slice none 0 0) (by refine ⟨?_, ?_, ?_, ?_⟩ <;> go_simp) (by first | omega | (simp; omega)) (fun b hb => by first | omega | (simp at hb; omega)))
            case rest =>
              obtain ⟨⟨B, a9, cap9, rfl, hWB, hBl, ⟨y0, y1, y2, y3⟩, hr9, hB9⟩, rfl⟩ := hcut
              have H9 := Lib.hid hr9
              have HB9 := Lib.hid hB9
              obtain ⟨t0, t1, t2, t3⟩ := hq _ hB9
              have HT9 := Lib.hid (HT2.out.below (HW4.out.trans (hB9.mono hs4)))
              have hsx := hB9.size
              clear hr9 hB9
              go_wp2_with fail
              refine (same_c t t (fun _ => True) _ _ _ (H9.out.mono fun _ _ => trivial) (HT9.out.mono fun _ _ => trivial) (by omega) (by omega)).mono ?_
              rw [sameT_refl]
              rintro e w115 ⟨rfl, hB115⟩
              go_wp2_with fail
              go_meet
              exact (HW4.out.trans (HB9.out.mono hs4)).trans (hB115.mono (by omega))
        case rest =>
          obtain ⟨W5, rfl⟩ : ∃ W : World, W = wc := ⟨_, rfl⟩
          have HW5 := Lib.hid hcut
          have hs5 := hcut.size
          clear hcut HW4
          go_upto_region 14 with fail
          go_cut [102] (fun b wx => ∃ c : Bool, b = .bool c ∧ Below W2.heap.size W2 wx)
          case first =>
            obtain ⟨x0, x1, x2, x3⟩ := HBX2.out.step HW5.out
            obtain ⟨t0, t1, t2, t3⟩ := HBT2.out.step HW5.out
            have HX5 := Lib.hid (HX2.out.below HW5.out)
            have HT5 := Lib.hid (HT2.out.below HW5.out)
            go_wp2_with fail
            refine (rcheck_c x _ _ _ HX5.out.bound (fun b hb => hb) (by omega)).mono ?_
            rintro e w141 ⟨rfl, hB141⟩
            have h141 := hB141.size
            have HW141 := Lib.hid (HW5.out.trans (hB141.mono hs5))
            by_cases hc1 : checkE x = 0
            · have hcb1 : (checkE x != 0) = false := by simp [hc1]
              obtain ⟨t0, t1, t2, t3⟩ := HBT2.out.step HW141.out
              have HT141 := Lib.hid (HT5.out.below hB141)
              clear hc1 hB141
              go_wp2_with fail
              refine (rcheck_c t _ _ _ HT141.out.bound (fun b hb => hb) (by omega)).mono ?_
              rintro e w142 ⟨rfl, hB142⟩
              go_wp2_with fail
              go_meet
              exact ⟨_, rfl, HW141.out.trans (hB142.mono HW141.out.size)⟩
            · have hcb1 : (checkE x != 0) = true := by simp [hc1]
              go_wp2_with fail
              go_meet
              exact ⟨_, rfl, HW141.out⟩
          case rest =>
            obtain ⟨c, rfl, hBc⟩ := hcut
            obtain ⟨W6, rfl⟩ : ∃ W : World, W = wc := ⟨_, rfl⟩
            have HW6 := Lib.hid hBc
            have hs6 := hBc.size
            clear hBc HW5
            cases c
            case true =>
              go_wp2_with fail
              go_ret
              exact ⟨rfl, HBW.out.trans (HW6.out.mono HBW.out.size)⟩
            obtain ⟨u, n, hr1⟩ : ∃ u n, reckO bd' (1 + self % 99) (addT x t) = (u, n) := ⟨_, _, rfl⟩
            have hbu : bulkL [u] ≤ 1099511627776 := by have h := reckO_bulk (bd := bd') (self := 1 + self % 99) (x := addT x t) (by rw [add_bulk]; omega); rw [hr1] at h; exact h
            have HR2 := Lib.hid (show reckO bd' (1 + self % 99) (addT t x) = (u, n) by rw [reckO_add]; exact hr1)
            have HR1 := Lib.hid hr1
            clear hr1
            go_upto_region 16 with fail
            have hsW16 : W2.heap.size ≤ W6.heap.size := HW6.out.size
            have hq : ∀ w', Below W6.heap.size W6 w' → w'.cell? ⟨w.heap.size, 0, none⟩ = some (.int .i64 x.kind) ∧ w'.cell? ⟨w.heap.size, 1, none⟩ = some (.int .i64 x.n) ∧ w'.cell? ⟨w.heap.size, 2, none⟩ = some (.string x.name) ∧ w'.cell? ⟨w.heap.size, 3, none⟩ = some (.slice a1 x.args.length cap1) ∧ w'.cell? ⟨w.heap.size + 1, 0, none⟩ = some (.int .i64 t.kind) ∧ w'.cell? ⟨w.heap.size + 1, 1, none⟩ = some (.int .i64 t.n) ∧ w'.cell? ⟨w.heap.size + 1, 2, none⟩ = some (.string t.name) ∧ w'.cell? ⟨w.heap.size + 1, 3, none⟩ = some (.slice a2 t.args.length cap2) := fun w' h => by obtain ⟨x0, x1, x2, x3⟩ := (HBX2.out.step (HW6.out.trans (h.mono hsW16))); obtain ⟨t0, t1, t2, t3⟩ := (HBT2.out.step (HW6.out.trans (h.mono hsW16))); exact ⟨x0, x1, x2, x3, t0, t1, t2, t3⟩
            go_cut [15, 12] (fun v b wx => Fin W6 wx u v ∧ b = .int .i64 n)
            case first =>
              go_region_held3 (fun w' => w'.cell? ⟨w.heap.size, 0, none⟩ = some (.int .i64 x.kind) ∧ w'.cell? ⟨w.heap.size, 1, none⟩ = some (.int .i64 x.n) ∧ w'.cell? ⟨w.heap.size, 2, none⟩ = some (.string x.name) ∧ w'.cell? ⟨w.heap.size, 3, none⟩ = some (.slice a1 x.args.length cap1) ∧ w'.cell? ⟨w.heap.size + 1, 0, none⟩ = some (.int .i64 t.kind) ∧ w'.cell? ⟨w.heap.size + 1, 1, none⟩ = some (.int .i64 t.n) ∧ w'.cell? ⟨w.heap.size + 1, 2, none⟩ = some (.string t.name) ∧ w'.cell? ⟨w.heap.size + 1, 3, none⟩ = some (.slice a2 t.args.length cap2))
                (first | exact hq _ (by repeat' (first | exact HB162 | exact HB161 | exact HB160 | exact Below.refl _ _ | apply Below.drew | refine Below.alloc ?_ (by first | omega | (simp; omega) | (simp; done)) _ | refine Below.setCell ?_ (by first | omega | (simp; omega) | (simp; done)) _)) | go_keep)
                (first
                  | (go_at_call 31; refine (word_c _ _).mono ?_; rintro e w160 ⟨rfl, hB160⟩; have h160 := hB160.size; (try simp only [World.size_drew, World.size_alloc] at h160); obtain ⟨hcc160, hff160⟩ := bcell hB160; (try simp only [World.size_alloc, World.size_drew] at hcc160 hff160); have HB160 := below_step (show Below W6.heap.size W6 _ from (by repeat' (first | exact HB162 | exact HB161 | exact HB160 | exact Below.refl _ _ | apply Below.drew | refine Below.alloc ?_ (by first | omega | (simp; omega) | (simp; done)) _ | refine Below.setCell ?_ (by first | omega | (simp; omega) | (simp; done)) _))) (by first | omega | (simp; omega) | (simp; done)) hB160)
                  | (go_at_call 30; refine (tuple_c _ _ _ _).mono ?_; rintro e w161 ⟨rfl, hB161⟩; have h161 := hB161.size; (try simp only [World.size_alloc] at h161); obtain ⟨hcc161, hff161⟩ := bcell hB161; (try simp only [World.size_alloc, World.size_drew] at hcc161 hff161); have HB161 := below_step (show Below W6.heap.size W6 _ from (by repeat' (first | exact HB162 | exact HB161 | exact HB160 | exact Below.refl _ _ | apply Below.drew | refine Below.alloc ?_ (by first | omega | (simp; omega) | (simp; done)) _ | refine Below.setCell ?_ (by first | omega | (simp; omega) | (simp; done)) _))) (by first | omega | (simp; omega) | (simp; done)) hB161; have hl161 := RSl2.below (by first | exact RSl2.lit (HCA.out.to (S' := fun b => b < w.heap.size) (fun _ h _ => h) (fun b hb hl => (HW6.out.trans (Below.mono (show Below W6.heap.size W6 _ from (by repeat' (first | exact HB162 | exact HB161 | exact HB160 | exact Below.refl _ _ | apply Below.drew | refine Below.alloc ?_ (by first | omega | (simp; omega) | (simp; done)) _ | refine Below.setCell ?_ (by first | omega | (simp; omega) | (simp; done)) _))) hsW16)).block b hl)) 29 | exact (RSl2.lit (HCA.out.to (S' := fun b => b < w.heap.size) (fun _ h _ => h) (fun b hb hl => (HW6.out.trans (Below.mono (show Below W6.heap.size W6 _ from (by repeat' (first | exact HB162 | exact HB161 | exact HB160 | exact Below.refl _ _ | apply Below.drew | refine Below.alloc ?_ (by first | omega | (simp; omega) | (simp; done)) _ | refine Below.setCell ?_ (by first | omega | (simp; omega) | (simp; done)) _))) hsW16)).block b hl)) 29).below (below_alloc _ _)) hB161; (try simp only [World.size_alloc] at hl161); have HL161 := Lib.hid hl161; clear hl161)
                  | (go_at_call 23; (first | refine (value_c bd' (1 + self % 99) (addT x t) _ _ _ _ ((tupT_rt HL161.out.rsl).mono (fun b hb => Or.imp id (fun h => (by omega : b < W2.heap.size)) hb)) ((HRB.out.below (HW6.out.trans (Below.mono (show Below W6.heap.size W6 _ from (by repeat' (first | exact HB162 | exact HB161 | exact HB160 | exact Below.refl _ _ | apply Below.drew | refine Below.alloc ?_ (by first | omega | (simp; omega) | (simp; done)) _ | refine Below.setCell ?_ (by first | omega | (simp; omega) | (simp; done)) _))) hsW16))).mono fun b hb => Or.inr hb) (fun b hb => by rcases hb with hb | hb <;> first | omega | (simp at hb ⊢; omega) | (simp; omega)) (by rw [add_bulk]; omega)).mono ?_ | refine (value_c bd' (1 + self % 99) (addT x t) _ _ _ _ (((tupT_rt HL161.out.rsl).alloc _).mono (fun b hb => Or.imp id (fun h => (by omega : b < W2.heap.size)) hb)) ((HRB.out.below (HW6.out.trans (Below.mono (show Below W6.heap.size W6 _ from (by repeat' (first | exact HB162 | exact HB161 | exact HB160 | exact Below.refl _ _ | apply Below.drew | refine Below.alloc ?_ (by first | omega | (simp; omega) | (simp; done)) _ | refine Below.setCell ?_ (by first | omega | (simp; omega) | (simp; done)) _))) hsW16))).mono fun b hb => Or.inr hb) (fun b hb => by rcases hb with hb | hb <;> first | omega | (simp at hb ⊢; omega) | (simp; omega)) (by rw [add_bulk]; omega)).mono ?_); rw [HR1.out]; intro e w162 h; obtain ⟨a16, cap16, rfl, hB162, hr16⟩ := h.open; have h162 := hB162.size; (try simp only [World.size_alloc] at h162); have HR16 := Lib.hid hr16; have HB162 := below_step (show Below W6.heap.size W6 _ from (by repeat' (first | exact HB162 | exact HB161 | exact HB160 | exact Below.refl _ _ | apply Below.drew | refine Below.alloc ?_ (by first | omega | (simp; omega) | (simp; done)) _ | refine Below.setCell ?_ (by first | omega | (simp; omega) | (simp; done)) _))) (by first | omega | (simp; omega) | (simp; done)) hB162; clear hr16; obtain ⟨hcc162, hff162⟩ := bcell hB162; (try simp only [World.size_alloc, World.size_drew] at hcc162 hff162); (try (have q160 : W6.heap.size < w161.heap.size := by omega)); (try (have q161 : W6.heap.size < w160.heap.size := by omega)); (try (have q162 : W6.heap.size < w160.heap.size + 1 := by omega)); (try (have q163 : w160.heap.size < w161.heap.size := by omega)); (try (have q164 : w160.heap.size < w160.heap.size + 1 + 1 := by omega)); (try (have q165 : w160.heap.size + 1 < w161.heap.size := by omega))))
              all_goals (
                go_wp2_with fail
                go_meet
                refine ⟨?_, rfl⟩
                first
                  | exact Fin.new HR16.out HB162 _
                  | exact Fin.old HR16.out HB162 (z0 := .int .i64 0) (z1 := .int .i64 0) (z2 := .string ⟨#[]⟩) (z3 := .slice none 0 0) (by refine ⟨?_, ?_, ?_, ?_⟩ <;> go_simp) (by first | omega | (simp; omega)) (fun b hb => by first | omega | (simp at hb; omega)))
            case rest =>
              obtain ⟨⟨B1, a91, cap91, rfl, hWB1, hBl1, hbox1, hr91, hB91⟩, rfl⟩ := hcut
              obtain ⟨W7, rfl⟩ : ∃ W : World, W = wc := ⟨_, rfl⟩
              have HV1 := Lib.hid hr91
              have HBV1 := Lib.hid hbox1
              have HW7 := Lib.hid (HW6.out.trans (hB91.mono hs6))
              have hs7 := HW7.out.size
              clear hr91 hbox1 hB91 hq
              go_upto_region 17 with fail
              have hsW17 : W2.heap.size ≤ W7.heap.size := HW7.out.size
              have hq : ∀ w', Below W7.heap.size W7 w' → w'.cell? ⟨w.heap.size, 0, none⟩ = some (.int .i64 x.kind) ∧ w'.cell? ⟨w.heap.size, 1, none⟩ = some (.int .i64 x.n) ∧ w'.cell? ⟨w.heap.size, 2, none⟩ = some (.string x.name) ∧ w'.cell? ⟨w.heap.size, 3, none⟩ = some (.slice a1 x.args.length cap1) ∧ w'.cell? ⟨w.heap.size + 1, 0, none⟩ = some (.int .i64 t.kind) ∧ w'.cell? ⟨w.heap.size + 1, 1, none⟩ = some (.int .i64 t.n) ∧ w'.cell? ⟨w.heap.size + 1, 2, none⟩ = some (.string t.name) ∧ w'.cell? ⟨w.heap.size + 1, 3, none⟩ = some (.slice a2 t.args.length cap2) := fun w' h => by obtain ⟨x0, x1, x2, x3⟩ := (HBX2.out.step (HW7.out.trans (h.mono hsW17))); obtain ⟨t0, t1, t2, t3⟩ := (HBT2.out.step (HW7.out.trans (h.mono hsW17))); exact ⟨x0, x1, x2, x3, t0, t1, t2, t3⟩
              go_cut [16, 17] (fun v b wx => Fin W7 wx u v ∧ b = .int .i64 n)
              case first =>
                go_region_held3 (fun w' => w'.cell? ⟨w.heap.size, 0, none⟩ = some (.int .i64 x.kind) ∧ w'.cell? ⟨w.heap.size, 1, none⟩ = some (.int .i64 x.n) ∧ w'.cell? ⟨w.heap.size, 2, none⟩ = some (.string x.name) ∧ w'.cell? ⟨w.heap.size, 3, none⟩ = some (.slice a1 x.args.length cap1) ∧ w'.cell? ⟨w.heap.size + 1, 0, none⟩ = some (.int .i64 t.kind) ∧ w'.cell? ⟨w.heap.size + 1, 1, none⟩ = some (.int .i64 t.n) ∧ w'.cell? ⟨w.heap.size + 1, 2, none⟩ = some (.string t.name) ∧ w'.cell? ⟨w.heap.size + 1, 3, none⟩ = some (.slice a2 t.args.length cap2))
                  (first | exact hq _ (by repeat' (first | exact HB172 | exact HB171 | exact HB170 | exact Below.refl _ _ | apply Below.drew | refine Below.alloc ?_ (by first | omega | (simp; omega) | (simp; done)) _ | refine Below.setCell ?_ (by first | omega | (simp; omega) | (simp; done)) _)) | go_keep)
                  (first
                    | (go_at_call 31; refine (word_c _ _).mono ?_; rintro e w170 ⟨rfl, hB170⟩; have h170 := hB170.size; (try simp only [World.size_drew, World.size_alloc] at h170); obtain ⟨hcc170, hff170⟩ := bcell hB170; (try simp only [World.size_alloc, World.size_drew] at hcc170 hff170); have HB170 := below_step (show Below W7.heap.size W7 _ from (by repeat' (first | exact HB172 | exact HB171 | exact HB170 | exact Below.refl _ _ | apply Below.drew | refine Below.alloc ?_ (by first | omega | (simp; omega) | (simp; done)) _ | refine Below.setCell ?_ (by first | omega | (simp; omega) | (simp; done)) _))) (by first | omega | (simp; omega) | (simp; done)) hB170)
                    | (go_at_call 30; refine (tuple_c _ _ _ _).mono ?_; rintro e w171 ⟨rfl, hB171⟩; have h171 := hB171.size; (try simp only [World.size_alloc] at h171); obtain ⟨hcc171, hff171⟩ := bcell hB171; (try simp only [World.size_alloc, World.size_drew] at hcc171 hff171); have HB171 := below_step (show Below W7.heap.size W7 _ from (by repeat' (first | exact HB172 | exact HB171 | exact HB170 | exact Below.refl _ _ | apply Below.drew | refine Below.alloc ?_ (by first | omega | (simp; omega) | (simp; done)) _ | refine Below.setCell ?_ (by first | omega | (simp; omega) | (simp; done)) _))) (by first | omega | (simp; omega) | (simp; done)) hB171; have hl171 := RSl2.below (by first | exact RSl2.lit (HCB.out.to (S' := fun b => b < w.heap.size) (fun _ h _ => h) (fun b hb hl => (HW7.out.trans (Below.mono (show Below W7.heap.size W7 _ from (by repeat' (first | exact HB172 | exact HB171 | exact HB170 | exact Below.refl _ _ | apply Below.drew | refine Below.alloc ?_ (by first | omega | (simp; omega) | (simp; done)) _ | refine Below.setCell ?_ (by first | omega | (simp; omega) | (simp; done)) _))) hsW17)).block b hl)) 29 | exact (RSl2.lit (HCB.out.to (S' := fun b => b < w.heap.size) (fun _ h _ => h) (fun b hb hl => (HW7.out.trans (Below.mono (show Below W7.heap.size W7 _ from (by repeat' (first | exact HB172 | exact HB171 | exact HB170 | exact Below.refl _ _ | apply Below.drew | refine Below.alloc ?_ (by first | omega | (simp; omega) | (simp; done)) _ | refine Below.setCell ?_ (by first | omega | (simp; omega) | (simp; done)) _))) hsW17)).block b hl)) 29).below (below_alloc _ _)) hB171; (try simp only [World.size_alloc] at hl171); have HL171 := Lib.hid hl171; clear hl171)
                    | (go_at_call 23; (first | refine (value_c bd' (1 + self % 99) (addT t x) _ _ _ _ ((tupT_rt HL171.out.rsl).mono (fun b hb => Or.imp id (fun h => (by omega : b < W2.heap.size)) hb)) ((HRB.out.below (HW7.out.trans (Below.mono (show Below W7.heap.size W7 _ from (by repeat' (first | exact HB172 | exact HB171 | exact HB170 | exact Below.refl _ _ | apply Below.drew | refine Below.alloc ?_ (by first | omega | (simp; omega) | (simp; done)) _ | refine Below.setCell ?_ (by first | omega | (simp; omega) | (simp; done)) _))) hsW17))).mono fun b hb => Or.inr hb) (fun b hb => by rcases hb with hb | hb <;> first | omega | (simp at hb ⊢; omega) | (simp; omega)) (by rw [add_bulk]; omega)).mono ?_ | refine (value_c bd' (1 + self % 99) (addT t x) _ _ _ _ (((tupT_rt HL171.out.rsl).alloc _).mono (fun b hb => Or.imp id (fun h => (by omega : b < W2.heap.size)) hb)) ((HRB.out.below (HW7.out.trans (Below.mono (show Below W7.heap.size W7 _ from (by repeat' (first | exact HB172 | exact HB171 | exact HB170 | exact Below.refl _ _ | apply Below.drew | refine Below.alloc ?_ (by first | omega | (simp; omega) | (simp; done)) _ | refine Below.setCell ?_ (by first | omega | (simp; omega) | (simp; done)) _))) hsW17))).mono fun b hb => Or.inr hb) (fun b hb => by rcases hb with hb | hb <;> first | omega | (simp at hb ⊢; omega) | (simp; omega)) (by rw [add_bulk]; omega)).mono ?_); rw [HR2.out]; intro e w172 h; obtain ⟨a17, cap17, rfl, hB172, hr17⟩ := h.open; have h172 := hB172.size; (try simp only [World.size_alloc] at h172); have HR17 := Lib.hid hr17; have HB172 := below_step (show Below W7.heap.size W7 _ from (by repeat' (first | exact HB172 | exact HB171 | exact HB170 | exact Below.refl _ _ | apply Below.drew | refine Below.alloc ?_ (by first | omega | (simp; omega) | (simp; done)) _ | refine Below.setCell ?_ (by first | omega | (simp; omega) | (simp; done)) _))) (by first | omega | (simp; omega) | (simp; done)) hB172; clear hr17; obtain ⟨hcc172, hff172⟩ := bcell hB172; (try simp only [World.size_alloc, World.size_drew] at hcc172 hff172); (try (have q170 : W7.heap.size < w171.heap.size := by omega)); (try (have q171 : W7.heap.size < w170.heap.size := by omega)); (try (have q172 : W7.heap.size < w170.heap.size + 1 := by omega)); (try (have q173 : w170.heap.size < w171.heap.size := by omega)); (try (have q174 : w170.heap.size < w170.heap.size + 1 + 1 := by omega)); (try (have q175 : w170.heap.size + 1 < w171.heap.size := by omega))))
                all_goals (
                  go_wp2_with fail
                  go_meet
                  refine ⟨?_, rfl⟩
                  first
                    | exact Fin.new HR17.out HB172 _
                    | exact Fin.old HR17.out HB172 (z0 := .int .i64 0) (z1 := .int .i64 0) (z2 := .string ⟨#[]⟩) (z3 := .slice none 0 0) (by refine ⟨?_, ?_, ?_, ?_⟩ <;> go_simp) (by first | omega | (simp; omega)) (fun b hb => by first | omega | (simp at hb; omega)))
              case rest =>
                obtain ⟨⟨B2, a92, cap92, rfl, hWB2, hBl2, ⟨y0, y1, y2, y3⟩, hr92, hB92⟩, rfl⟩ := hcut
                obtain ⟨z0, z1, z2, z3⟩ := HBV1.out.step hB92
                have HV2 := Lib.hid hr92
                have HV3 := Lib.hid (HV1.out.below hB92)
                have HW8 := Lib.hid (HW7.out.trans (hB92.mono hs7))
                clear hr92 hB92 hq
                go_wp2_with fail
                refine (same_c u u (fun _ => True) _ _ _ (HV3.out.mono fun _ _ => trivial) (HV2.out.mono fun _ _ => trivial) hbu hbu).mono ?_
                rw [sameT_refl]
                rintro e w181 ⟨rfl, hB181⟩
                go_wp2_with fail
                go_ret
                exact ⟨rfl, HBW.out.trans ((HW8.out.trans (hB181.mono HW8.out.size)).mono HBW.out.size)⟩
set_option maxRecDepth 100000 in
theorem contract (H : Type) (enc : TypeId × Value → H) (W : World) (base : Nat) (args : Array Value) (ds gs : List (DataW H)) (before : List MemPlace)
    (hval : ∀ (j : Nat) t v, Try.f9.params[j]? = some t → args[j]? = some v → Value.okWide Try.prog W .any base t v)
    (hW : DataW.Whole enc Try.prog Try.f9.params.toList Rows.reckonClosesSpec.vars false W args.toList ds gs before) (hk : Rows.uptoSmall H (ds ++ gs) = true) :
    Calls Try.prog 9 args W fun e W' => ∃ v, e = .returned v ∧ Rows.reckonClosesSpec.post enc Try.prog Try.f9 false true false false W args v W' := by
  have hW' := hW
  obtain ⟨p, q, hA0, hV, rfl, hfz, hnd⟩ := hW
  have hA : DataW.TrodAll enc Try.prog W 0 (fun _ => true) true Try.f9.params.toList args.toList ds p := hA0
  rw [Try.params9] at hA hval
  obtain ⟨v0, vs0, d0, ds0, p0, q0, hargs, rfl, rfl, h0, r0⟩ := trodAll_cons hA
  obtain ⟨v1, vs1, d1, ds1, p1, q1, rfl, rfl, rfl, h1, r1⟩ := trodAll_cons r0
  obtain ⟨v2, vs2, d2, ds2, p2, q2, rfl, rfl, rfl, h2, r2⟩ := trodAll_cons r1
  obtain ⟨v3, vs3, d3, ds3, p3, q3, rfl, rfl, rfl, h3, r3⟩ := trodAll_cons r2
  obtain ⟨rfl, rfl, rfl⟩ := trodAll_nil r3
  obtain rfl : args = #[v0, v1, v2, v3] := by cases args; simp_all
  obtain ⟨rfl, rfl⟩ := trodVars_none hV
  have hb := small_bound hk
  simp only [List.append_nil, Rows.uptoBulkAll] at hb
  obtain ⟨x, hx, bx⟩ := open_term (hval 0 29 v0 rfl rfl) h0
  obtain ⟨y, hy, bY⟩ := open_term (hval 1 29 v1 rfl rfl) h1
  obtain ⟨bd, hbd, bb⟩ := open_terms (hval 2 27 v2 rfl rfl) h2
  obtain ⟨n, rfl⟩ := okWide_int Try.underlying3 (hval 3 3 v3 rfl rfl)
  refine (walk x y bd n W v0 v1 v2 hx hy hbd (by omega)).mono fun e W' ⟨he, hB⟩ => ?_
  subst he
  exact ⟨_, rfl, post_true hW' rfl (by kernel_rfl) ⟨rfl, rfl, rfl⟩ (by intro t ht; rw [Try.params9] at ht; simp at ht; rcases ht with rfl | rfl | rfl <;> exact ⟨by kernel_rfl, of_decide_eq_true (by kernel_rfl)⟩) hB⟩

set_option maxRecDepth 100000 in
theorem lifted (os : Os) (started : os.Started) (H : Type) (enc : TypeId × Value → H) (F : Stop.Interp) :
    ReturnsInHanded {} Try.checked os 9 .any ((Rows.OpenSpec.upto Rows.reckonClosesSpec).pre6 enc Try.prog Try.f9 Rows.reckonClosesUptoRow.domain false) (((Rows.OpenSpec.upto Rows.reckonClosesSpec).at F).post enc Try.prog Try.f9 false true false false) := by
  refine returnsInHanded_of_cond (C := Try.checked) (s := Rows.OpenSpec.upto Rows.reckonClosesSpec) (k := Rows.uptoSmall) rfl own started (by kernel_rfl) Try.func9
    (OpenSpec.witness (enc := enc) (C := Try.checked) (s := Rows.OpenSpec.upto Rows.reckonClosesSpec) (k := Rows.uptoSmall) rfl false ⟨#[], #[.agg #[.int .i64 0, .int .i64 0, .string .empty, .slice none 0 0], .agg #[.int .i64 0, .int .i64 0, .string .empty, .slice none 0 0], .slice none 0 0, .int .i64 0], []⟩ 8 (by kernel_rfl) (by kernel_rfl) (by kernel_rfl)
      (x := ([.agg [.lit (.int .i64 0), .lit (.int .i64 0), .lit (.string []), .nil], .agg [.lit (.int .i64 0), .lit (.int .i64 0), .lit (.string []), .nil], .nil, .lit (.int .i64 0)], [], [])) (by kernel_rfl) rfl (by kernel_rfl)) ?_
  intro W base args ds gs before hval hW _ hk _
  exact contract H enc W base args ds gs before hval hW hk

theorem proved : Rows.ReckonClosesUptoSaid :=
  OpenClaim.holds_of_cond 9 Try.f9 rfl rfl rfl rfl rfl rfl rfl ⟨rfl, rfl, rfl, rfl, rfl⟩ rfl rfl rfl rfl rfl (by kernel_rfl) Try.func9 (by kernel_rfl)
    (of_decide_eq_true (by kernel_rfl)) (by unfold Func.isWrapper; first | (rw [if_pos (by decide +kernel)]; kernel_rfl) | (rw [if_neg (by decide +kernel)]; exact ⟨rfl, rfl⟩))
    (fun os started H enc _ F => lifted os started H enc F)
end Go.Proofs.Ytedfepnekjjmnaa.reckonCloses
