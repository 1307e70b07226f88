/-
  clerkkeep.MatchBinds returns true for all arguments, and each argument reads afterwards as before. Condition: together the arguments hold at most 1048576 values and letters (the given second form).
-/
import Derived.Test.YtedfepnekjjmnaaKPut
import Derived.Test.YtedfepnekjjmnaaMFits
import Derived.Test.YtedfepnekjjmnaaFrame
import Derived.Deep.RegionHeld3
import Derived.Deep.DeepCutAuto
namespace Go.Proofs.Ytedfepnekjjmnaa.matchBinds
open Go.ChangeShapes Go.WideShapes Go.ChangeAt Go.RowKit
set_option linter.unusedSimpArgs false
set_option linter.unusedVariables false
set_option maxRecDepth 100000

theorem sameT_refl (x : T) : sameT x x = true := (sameT_iff x x).2 rfl
theorem sameL_refl (x : List T) : sameL x x = true := (sameL_iff x x).2 rfl
theorem openN {S : Nat → Prop} {w w' : World} {e : Ending} {n : Int} (h : FO S w (n, none) e w') : ∃ a cap, e = .returned (.tuple #[.slice a 0 cap, .bool false, .int .i64 n]) ∧ Below w.heap.size w w' := by
  obtain ⟨v, he, hB, a, cap, rfl, hr⟩ := h; exact ⟨a, cap, he, hB⟩
theorem openS {S : Nat → Prop} {w w' : World} {e : Ending} {n : Int} {l : List T} (h : FO S w (n, some l) e w') (hl : l.length = 4) : ∃ b o cap, e = .returned (.tuple #[.slice (some ⟨b, o, none⟩) 4 cap, .bool true, .int .i64 n]) ∧ Below w.heap.size w w' ∧ RSl S w' l (.slice (some ⟨b, o, none⟩) 4 cap) := by
  obtain ⟨v, he, hB, a, cap, rfl, hc, hr⟩ := h
  obtain ⟨b, o, rfl⟩ := RTs.addr hr (by simp [hl])
  refine ⟨b, o, cap, ?_, hB, _, cap, ?_, hc, hr⟩
  · rw [he]; simp only [Option.getD_some, hl]; rfl
  · simp [hl]
theorem bulk_each (M : Nat) (l : List T) (h : ∀ y ∈ l, bulkL [y] ≤ M) : bulkL l ≤ l.length * M := by
  induction l with
  | nil => simp [bulkL]
  | cons t l ih =>
    have e : bulkL (t :: l) = bulkL [t] + bulkL l := bulkL_append [t] l
    have h1 := h t (by simp)
    have h2 := ih fun y hy => h y (by simp [hy])
    rw [e, List.length_cons, Nat.add_mul]; omega
theorem fit_bulk4 {p t : T} {bd : List T} (hl : bd.length = 4) (ht : bulkL [t] ≤ 2000000) (hb : bulkL bd ≤ 2000000) : bulkL (fitT p t bd).2 ≤ 1099511627776 := by
  have h1 := bulk_each 2000000 _ (fitT_bulk 2000000 p t bd ht fun y hy => by have := bulk_mem hy; omega)
  rw [fitT_length, hl] at h1
  omega
def varT (n : Int) : T := ⟨5, n, ⟨#[]⟩, []⟩
def firstP : T := tupT [varT 0, numT 5]
def firstL : List T := [wordT ⟨#[97]⟩, anyT, anyT, anyT]
theorem first_fits : fitsR firstP twoT freeL = (0, some firstL) := by
  have e1 : checkE firstP = 0 := by simp [checkE, formL_cons, formL, headB, bareB, dpL_cons, dpL, szL_cons, szL, firstP, tupT, varT, numT, inB]
  have e2 : checkE twoT = 0 := by simp [checkE, formL_cons, formL, headB, bareB, dpL_cons, dpL, szL_cons, szL, twoT, tupT, wordT, numT, nameB, lowB, inB, ByteArray.size]
  have e3 : closedL [twoT] = true := by simp [closedL_cons, closedL, twoT, tupT, wordT, numT]
  rw [fitsR_ok e1 e2 (by rw [e3, freeL_bound]; rfl)]
  have h1 : fitT (varT 0) (wordT ⟨#[97]⟩) freeL = (true, firstL) := fitT_5a (k := 0) rfl rfl (by decide) rfl
  have h2 : fitT (numT 5) (numT 5) firstL = (true, firstL) := by rw [fitT_o (by simp [numT]) (by simp [numT]) (by simp [numT]), sameT_refl]
  have h3 : fitT firstP twoT freeL = (true, firstL) := by
    rw [fitT_4a (p := firstP) (t := twoT) rfl rfl rfl]
    show fitL [varT 0, numT 5] [wordT ⟨#[97]⟩, numT 5] freeL = _
    rw [fitL_cons, h1]
    simp only [if_true]
    rw [fitL_cons, h2]
    simp only [if_true]
    exact fitL_nil _ _
  rw [fitO_yes (by rw [h3]), h3]
theorem any_bulk : bulkL freeL = 4 := by
  have e : bulkL [anyT] = 1 := by rw [bulk_one]; simp [anyT, bulkL, ByteArray.size]
  rw [show freeL = [anyT] ++ ([anyT] ++ ([anyT] ++ [anyT])) from rfl, bulkL_append, bulkL_append, bulkL_append, e]
theorem first_bulk : bulkL [firstP] ≤ 1099511627776 := by
  rw [firstP, bulk_tup, show [varT 0, numT 5] = [varT 0] ++ [numT 5] from rfl, bulkL_append, bulk_num, bulk_one (varT 0)]; simp [varT, bulkL, ByteArray.size]
theorem two_bulk : bulkL [twoT] ≤ 1099511627776 := by
  rw [twoT, bulk_tup, show [wordT ⟨#[97]⟩, numT 5] = [wordT ⟨#[97]⟩] ++ [numT 5] from rfl, bulkL_append, bulk_num, bulk_one (wordT _)]; simp [wordT, bulkL, ByteArray.size]
theorem word_bulk : bulkL [wordT ⟨#[97]⟩] ≤ 1099511627776 := by rw [bulk_one]; simp [wordT, bulkL, ByteArray.size]

set_option maxHeartbeats 8000000 in
theorem walk (p t : T) (bd : List T) (w : World) (vp vt vb : Value) (hp : RT (fun b => b < w.heap.size) w p vp) (ht : RT (fun b => b < w.heap.size) w t vt) (hq : RSl (fun b => b < w.heap.size) w bd vb)
    (hb : bulkL [p] + bulkL [t] + bulkL bd ≤ 1048576) :
    Calls Try.prog 12 #[vp, vt, vb] w fun e w' => e = .returned (.bool true) ∧ Below w.heap.size w w' := by
  obtain ⟨a1, cap1, rfl, hc1, hr1⟩ := hp
  obtain ⟨a2, cap2, rfl, hc2, hr2⟩ := ht
  obtain ⟨ab, capb, rfl, hcb, hrb⟩ := hq
  have HP : Hid (RT (fun b => b < w.heap.size) w p _) := Lib.hid ⟨a1, cap1, rfl, hc1, hr1⟩
  have HT : Hid (RT (fun b => b < w.heap.size) w t _) := Lib.hid ⟨a2, cap2, rfl, hc2, hr2⟩
  have HB : Hid (RSl (fun b => b < w.heap.size) w bd _) := Lib.hid ⟨ab, capb, rfl, hcb, hrb⟩
  clear hr1 hc1 hr2 hc2 hcb hrb
  have HBX := Lib.hid (Box.alloc (Box.new w (.int .i64 p.kind) (.int .i64 p.n) (.string p.name) (.slice a1 p.args.length cap1) 29) (.cells #[.int .i64 t.kind, .int .i64 t.n, .string t.name, .slice a2 t.args.length cap2] 29))
  have HBT := Lib.hid (Box.new (w.alloc (.cells #[.int .i64 p.kind, .int .i64 p.n, .string p.name, .slice a1 p.args.length cap1] 29)) (.int .i64 t.kind) (.int .i64 t.n) (.string t.name) (.slice a2 t.args.length cap2) 29)
  have HW0 := Lib.hid (show Below w.heap.size w _ from ((below_alloc w (.cells #[.int .i64 p.kind, .int .i64 p.n, .string p.name, .slice a1 p.args.length cap1] 29)).alloc (by simp) (.cells #[.int .i64 t.kind, .int .i64 t.n, .string t.name, .slice a2 t.args.length cap2] 29)))
  go_enter Try.func12, Try.ntmps12
  go_wp2_with fail
  obtain ⟨W0, hW0⟩ : ∃ W : World, W = ((w.alloc (.cells #[.int .i64 p.kind, .int .i64 p.n, .string p.name, .slice a1 p.args.length cap1] 29)).alloc (.cells #[.int .i64 t.kind, .int .i64 t.n, .string t.name, .slice a2 t.args.length cap2] 29)) := ⟨_, rfl⟩
  have hs0 : W0.heap.size = w.heap.size + 2 := by rw [hW0]; simp
  rw [← hW0] at HBX HBT HW0 ⊢
  simp only [World.size_alloc] at HBT
  clear hW0
  refine (num_c _ _).mono ?_
  rintro e w3 ⟨rfl, hB3⟩
  have h3 := hB3.size
  have HC : Hid (CellsT (fun _ => False) w3 [varT 0, numT 5] [.int .i64 5, .int .i64 0, .string ⟨#[]⟩, .slice none 0 0, .int .i64 1, .int .i64 5, .string ⟨#[]⟩, .slice none 0 0]) :=
    Lib.hid ⟨none, 0, _, rfl, ⟨Nat.le_refl _, fun _ => rfl⟩, by simp [varT, RTs], none, 0, [], rfl, ⟨Nat.le_refl _, fun _ => rfl⟩, by simp [numT, RTs], rfl⟩
  have HL := Lib.hid (RSl2.lit HC.out 29)
  have HB3 := Lib.hid hB3
  clear hB3 HC
  go_wp2_with fail
  refine (tuple_c _ _ _ _).mono ?_
  rintro e w4 ⟨rfl, hB4⟩
  have h4 := hB4.size
  simp only [World.size_alloc] at h4
  have HL4 := Lib.hid (HL.out.below hB4)
  have HB4 := Lib.hid (below_step (HB3.out.alloc (by omega) _) (by simp; omega) hB4)
  clear HB3 HL hB4
  go_wp2_with fail
  refine (two_c _).mono ?_
  rintro e w5 ⟨v5, rfl, hB5, hr5⟩
  have h5 := hB5.size
  have HV5 := Lib.hid hr5.bound
  have HL5 := Lib.hid (HL4.out.below hB5)
  have HB5 := Lib.hid (below_step HB4.out (by omega) hB5)
  clear hr5 hB5 HL4 HB4
  go_wp2_with fail
  refine (kfree_c _).mono ?_
  rintro e w6 ⟨v6, rfl, hB6, hr6⟩
  have h6 := hB6.size
  have HF := Lib.hid hr6.bound
  have HV6 := Lib.hid (HV5.out.below hB6).bound
  have HA := Lib.hid ((tupT_rt (HL5.out.below hB6).rsl).bound)
  have HB6 := Lib.hid (below_step HB5.out (by omega) hB6)
  clear hB6 hr6 HL5 HB5 HV5
  go_wp2_with fail
  refine (mfits_c firstP twoT freeL _ _ _ _ HA.out HV6.out HF.out first_bulk two_bulk (by rw [any_bulk]; omega)).mono ?_
  rw [first_fits]
  intro e w7 h
  obtain ⟨b7, o7, cap7, rfl, hB7, hr7⟩ := openS h rfl
  have h7 := hB7.size
  have HB7 := Lib.hid (below_step HB6.out (by omega) hB7)
  obtain ⟨_, _, e7, hcl7, hr7⟩ := hr7
  simp only [Value.slice.injEq] at e7
  obtain ⟨rfl, -, rfl⟩ := e7
  obtain ⟨a8, cap8, hS8, d0, d1, d2, d3, hE⟩ := hr7.elem 0 (by decide)
  have hE := Lib.hid hE
  simp only [Nat.zero_mul, Nat.add_zero] at d0 d1 d2 d3
  have hb7 : b7 < w7.heap.size := World.block_lt_of_cell? w7 _ d0
  clear hcl7 hr7 hB7 HB6 HA HV6 HF
  rw [show firstL[0] = wordT ⟨#[97]⟩ from rfl] at d0 d1 d2 d3 hE
  generalize hu : wordT ⟨#[97]⟩ = u at d0 d1 d2 d3 hE
  have HU := Lib.hid hu
  clear hu
  go_wp2_with fail
  have hq : ∀ w', Below w7.heap.size w7 w' → w'.cell? ⟨b7, o7, none⟩ = some (.int .i64 u.kind) ∧ w'.cell? ⟨b7, o7 + 1, none⟩ = some (.int .i64 u.n) ∧ w'.cell? ⟨b7, o7 + 2, none⟩ = some (.string u.name) ∧ w'.cell? ⟨b7, o7 + 3, none⟩ = some (.slice a8 u.args.length cap8) := fun w' h => by
    have e : ∀ o, w'.cell? ⟨b7, o, none⟩ = w7.cell? ⟨b7, o, none⟩ := fun o => World.cell?_of_block (w := w7) (h.block b7 hb7)
    rw [e, e, e, e]; exact ⟨d0, d1, d2, d3⟩
  go_region_held3 (fun w' => w'.cell? ⟨b7, o7, none⟩ = some (.int .i64 u.kind) ∧ w'.cell? ⟨b7, o7 + 1, none⟩ = some (.int .i64 u.n) ∧ w'.cell? ⟨b7, o7 + 2, none⟩ = some (.string u.name) ∧ w'.cell? ⟨b7, o7 + 3, none⟩ = some (.slice a8 u.args.length cap8))
    (first | exact hq _ HB9 | exact hq _ HB8 | exact hq _ (Below.refl _ _).drew | go_keep)
    (first
      | (go_at_call 31; refine (word_c _ _).mono ?_; rintro e w8 ⟨rfl, hB8⟩; have h8 : w7.heap.size ≤ w8.heap.size := hB8.size; have HB8 := (Below.refl w7.heap.size w7).drew.trans hB8)
      | (go_at_call 19; refine (same_c u (wordT ⟨#[97]⟩) (fun _ => True) _ _ _ ((hE.out.below HB8).mono fun _ _ => trivial) (wordT_rt _ _ _) (by rw [← HU.out]; exact word_bulk) word_bulk).mono ?_; rw [← HU.out, sameT_refl]; rintro e w9 ⟨rfl, hB9⟩; have h9 := hB9.size; have HB9 := HB8.trans (hB9.mono h8)))
  have HW9 := Lib.hid (show Below W0.heap.size W0 w9 from HB7.out.trans (HB9.mono HB7.out.size))
  have hs9 := HW9.out.size
  clear hB8 hB9 HB8 HB9 hq HB7 d0 d1 d2 d3 hE HU
  go_upto_region 4 with fail
  go_cut [58] (fun b wx => ∃ c : Bool, b = .bool c ∧ (c = false → checkE p = 0 ∧ checkE t = 0 ∧ closedL [t] = true) ∧ Below W0.heap.size W0 wx)
  case first =>
    obtain ⟨x0, x1, x2, x3⟩ := HBX.out.below HW9.out (by omega)
    obtain ⟨t0, t1, t2, t3⟩ := HBT.out.below HW9.out (by omega)
    have HP9 := Lib.hid (HP.out.below (HW0.out.trans (HW9.out.mono HW0.out.size)))
    have HT9 := Lib.hid (HT.out.below (HW0.out.trans (HW9.out.mono HW0.out.size)))
    go_wp2_with fail
    refine (rcheck_c p _ _ _ HP9.out.bound (fun b hb => hb) (by omega)).mono ?_
    rintro e w10 ⟨rfl, hB10⟩
    have h10 := hB10.size
    have HW10 := Lib.hid (HW9.out.trans (hB10.mono hs9))
    by_cases hc1 : checkE p = 0
    · have hcb1 : (checkE p != 0) = false := by simp [hc1]
      have HC1 := Lib.hid hc1; clear hc1
      obtain ⟨t0, t1, t2, t3⟩ := HBT.out.below HW10.out (by omega)
      have HT10 := Lib.hid (HT9.out.below hB10)
      clear hB10
      go_wp2_with fail
      refine (rcheck_c t _ _ _ HT10.out.bound (fun b hb => hb) (by omega)).mono ?_
      rintro e w11 ⟨rfl, hB11⟩
      have h11 := hB11.size
      have HW11 := Lib.hid (HW10.out.trans (hB11.mono (by omega)))
      by_cases hc2 : checkE t = 0
      · have hcb2 : (checkE t != 0) = false := by simp [hc2]
        have HC2 := Lib.hid hc2; clear hc2
        obtain ⟨t0, t1, t2, t3⟩ := HBT.out.below HW11.out (by omega)
        have HT11 := Lib.hid (HT10.out.below hB11)
        clear hB11
        go_wp2_with fail
        refine (rclosed_c t _ _ _ HT11.out.bound (fun b hb => hb) (by omega)).mono ?_
        rintro e w12 ⟨rfl, hB12⟩
        go_wp2_with fail
        go_meet
        exact ⟨_, rfl, (fun h => ⟨HC1.out, HC2.out, by simpa using h⟩), HW11.out.trans (hB12.mono (by omega))⟩
      · have hcb2 : (checkE t != 0) = true := by simp [hc2]
        go_wp2_with fail
        go_meet
        exact ⟨_, rfl, (fun h => by cases h), HW11.out⟩
    · have hcb1 : (checkE p != 0) = true := by simp [hc1]
      go_wp2_with fail
      go_meet
      exact ⟨_, rfl, (fun h => by cases h), HW10.out⟩
  case rest =>
    obtain ⟨c, rfl, hc, hBc⟩ := hcut
    obtain ⟨W1, rfl⟩ : ∃ W : World, W = wc := ⟨_, rfl⟩
    have HW1 := Lib.hid hBc
    have hs1 := hBc.size
    clear hBc HW9
    cases c
    case true =>
      go_wp2_with fail
      go_ret
      exact ⟨rfl, HW0.out.trans (HW1.out.mono HW0.out.size)⟩
    obtain ⟨hc1, hc2, hc3⟩ := hc rfl
    have HC1 := Lib.hid hc1
    have HC2 := Lib.hid hc2
    have HC3 := Lib.hid hc3
    clear hc hc1 hc2 hc3
    go_wp2_with fail
    refine (rbound_c bd _ _ _ (HB.out.below (HW0.out.trans (HW1.out.mono HW0.out.size))) (fun b hb => by omega) (by omega)).mono ?_
    rintro e w9 ⟨rfl, hB9⟩
    have h9 := hB9.size
    have HW9 := Lib.hid (HW1.out.trans (hB9.mono hs1))
    clear hB9 HW1
    go_upto_if 61 with fail
    go_cut [2] (fun v wx => ∃ bd' : List T, boundB bd' = true ∧ bulkL bd' ≤ bulkL bd + 4 ∧ RSl (fun b => b < wx.heap.size) wx bd' v ∧ Below W0.heap.size W0 wx)
    case first =>
      cases hbd : boundB bd
      · go_wp2_with fail
        refine (kfree_c _).mono ?_
        rintro e w10 ⟨v, rfl, hB10, hr⟩
        go_wp2_with fail
        go_meet
        exact ⟨freeL, freeL_bound, by rw [any_bulk]; omega, hr.bound, HW9.out.trans (hB10.mono HW9.out.size)⟩
      · go_wp2_with fail
        go_meet
        exact ⟨bd, hbd, by omega, (HB.out.below (HW0.out.trans (HW9.out.mono HW0.out.size))).bound, HW9.out⟩
    case rest =>
      obtain ⟨bd', hbd', hbb, hrb, hBc⟩ := hcut
      obtain ⟨W2, rfl⟩ : ∃ W : World, W = wc := ⟨_, rfl⟩
      have hl4 := boundB_len hbd'
      obtain ⟨ab', capb', rfl, hcb', hrb'⟩ := hrb
      obtain ⟨bb, ob, rfl⟩ := RTs.addr hrb' (by omega)
      rw [hl4] at hcb' ⊢
      have HRB : Hid (RSl (fun b => b < W2.heap.size) W2 bd' (.slice (some ⟨bb, ob, none⟩) 4 capb')) := Lib.hid ⟨_, capb', by rw [hl4], by rw [hl4]; exact hcb', hrb'⟩
      have HRR := Lib.hid hrb'
      have HBD := Lib.hid hbd'
      have hsc := hBc.size
      have HBW := Lib.hid (HW0.out.trans (hBc.mono HW0.out.size))
      have HP2 := Lib.hid (HP.out.below HBW.out)
      have HT2 := Lib.hid (HT.out.below HBW.out)
      have HBX2 := Lib.hid (HBX.out.below hBc (by omega))
      have HBT2 := Lib.hid (HBT.out.below hBc (by omega))
      have HFR := Lib.hid (fitsR_ok HC1.out HC2.out (by rw [HC3.out, HBD.out]; rfl : (closedL [t] && boundB bd') = true))
      clear hcb' hrb' hBc hbd' HW9 HP HT HBX HBT HB HW0
      obtain ⟨x0, x1, x2, x3⟩ := HBX2.out
      obtain ⟨t0, t1, t2, t3⟩ := HBT2.out
      go_wp2_with fail
      refine (mfits_c p t bd' _ _ _ _ HP2.out.bound HT2.out.bound HRB.out (by omega) (by omega) (by omega)).mono ?_
      rw [HFR.out]
      cases hfit : (fitT p t bd').1
      · rw [fitO_no hfit]
        intro e w10 h
        obtain ⟨a10, cap10, rfl, hB10⟩ := openN h
        go_wp2_with fail
        go_ret
        exact ⟨rfl, HBW.out.trans (hB10.mono HBW.out.size)⟩
      rw [fitO_yes hfit]
      have hl4' : (fitT p t bd').2.length = 4 := by rw [fitT_length]; exact hl4
      have HST := Lib.hid (fitT_stay p t bd')
      have HBL := Lib.hid (fit_bound (p := p) (t := t) HBD.out HC2.out HC3.out)
      have hbl := fit_bulk4 (p := p) (t := t) (bd := bd') hl4 (by omega) (by omega)
      have HSUB := Lib.hid (bind_sub p t bd' (fitT p t bd').2 (check_form' HC1.out) (check_form' HC2.out) HC3.out hl4 hfit (Stay.refl _))
      clear hfit HFR
      generalize (fitT p t bd').2 = l at *
      intro e w10 h
      obtain ⟨bl, ol, capl, rfl, hB10, hrl⟩ := openS h hl4'
      have h10 := hB10.size
      have HRL := Lib.hid hrl
      obtain ⟨_, _, el, hcl, hrl⟩ := hrl
      simp only [Value.slice.injEq] at el
      obtain ⟨rfl, -, rfl⟩ := el
      have HRR2 := Lib.hid hrl
      have HW10 := Lib.hid hB10
      have HR10 := Lib.hid (HRR.out.below hB10)
      clear hrl hcl hB10 x0 x1 x2 x3 t0 t1 t2 t3
      go_wp2_with fail
      go_loopw [86] (fun i wr => ∃ k : Nat, k ≤ 4 ∧ i = .int .i64 k ∧ Below w10.heap.size w10 wr) (fun i _ => 4 - (intOf i).toNat)
      case atStart => exact ⟨0, by omega, rfl, Below.refl _ _⟩
      case round =>
        obtain ⟨k, hk, rfl, hB⟩ := hrel
        have hsr := hB.size
        by_cases hlt : k < 4
        · have hk1 : k < bd'.length := by omega
          have hk2 : k < l.length := by omega
          obtain ⟨ay, cy, hSy, d0, d1, d2, d3, hY⟩ := (HR10.out.below hB).elem k hk1
          obtain ⟨az, cz, hSz, e0, e1, e2, e3, hZ⟩ := (HRR2.out.below hB).elem k hk2
          have hst := HST.out.2 k hk1 hk2
          have hby : bulkL [bd'[k]] ≤ 1099511627776 := by have := bulk_at hk1; omega
          have hki : (k : Int) < 4 := by omega
          have hY := Lib.hid hY
          have hZ := Lib.hid hZ
          generalize bd'[k] = y at hst d0 d1 d2 d3 hY hby
          generalize l[k] = z at hst e0 e1 e2 e3 hZ
          have hbb1 : bb < wr.heap.size := World.block_lt_of_cell? wr _ d0
          have hbl1 : bl < wr.heap.size := World.block_lt_of_cell? wr _ e0
          have HBr := Lib.hid hB
          clear hB hSy hSz
          by_cases h6 : y.kind = 6
          · have h6b : (y.kind != 6) = false := by simp [h6]
            clear hst h6
            go_upto_region 14 with fail
            go_quiet (fail)
            go_wp2_with fail
            go_roundw
            case rel => exact ⟨k + 1, by omega, by go_num, ⟨HBr.out.os, HBr.out.tape, HBr.out.output, HBr.out.size, HBr.out.block⟩⟩
            case measure => simp [intOf]; omega
          · have h6b : (y.kind != 6) = true := by simp [h6]
            have hzy := hst h6
            clear hst h6
            rw [hzy] at e0 e1 e2 e3 hZ
            clear hzy
            have hq : ∀ w', Below wr.heap.size wr w' → w'.cell? ⟨bb, ob + k * 4, none⟩ = some (.int .i64 y.kind) ∧ w'.cell? ⟨bb, ob + k * 4 + 1, none⟩ = some (.int .i64 y.n) ∧ w'.cell? ⟨bb, ob + k * 4 + 2, none⟩ = some (.string y.name) ∧ w'.cell? ⟨bb, ob + k * 4 + 3, none⟩ = some (.slice ay y.args.length cy) ∧ w'.cell? ⟨bl, ol + k * 4, none⟩ = some (.int .i64 y.kind) ∧ w'.cell? ⟨bl, ol + k * 4 + 1, none⟩ = some (.int .i64 y.n) ∧ w'.cell? ⟨bl, ol + k * 4 + 2, none⟩ = some (.string y.name) ∧ w'.cell? ⟨bl, ol + k * 4 + 3, none⟩ = some (.slice az y.args.length cz) := fun w' h => by
              have e : ∀ b o, b < wr.heap.size → w'.cell? ⟨b, o, none⟩ = wr.cell? ⟨b, o, none⟩ := fun b o hb => World.cell?_of_block (w := wr) (h.block b hb)
              rw [e _ _ hbb1, e _ _ hbb1, e _ _ hbb1, e _ _ hbb1, e _ _ hbl1, e _ _ hbl1, e _ _ hbl1, e _ _ hbl1]
              exact ⟨d0, d1, d2, d3, e0, e1, e2, e3⟩
            go_upto_region 14 with fail
            go_region_held3 (fun w' => w'.cell? ⟨bb, ob + k * 4, none⟩ = some (.int .i64 y.kind) ∧ w'.cell? ⟨bb, ob + k * 4 + 1, none⟩ = some (.int .i64 y.n) ∧ w'.cell? ⟨bb, ob + k * 4 + 2, none⟩ = some (.string y.name) ∧ w'.cell? ⟨bb, ob + k * 4 + 3, none⟩ = some (.slice ay y.args.length cy) ∧ w'.cell? ⟨bl, ol + k * 4, none⟩ = some (.int .i64 y.kind) ∧ w'.cell? ⟨bl, ol + k * 4 + 1, none⟩ = some (.int .i64 y.n) ∧ w'.cell? ⟨bl, ol + k * 4 + 2, none⟩ = some (.string y.name) ∧ w'.cell? ⟨bl, ol + k * 4 + 3, none⟩ = some (.slice az y.args.length cz))
              (first | exact hq _ HB11 | exact hq _ (Below.refl _ _).drew | go_keep)
              (first
                | (go_at_call 19; refine (same_c y y (fun _ => True) _ _ _ ((hY.out.below (Below.refl _ _).drew).mono fun _ _ => trivial) ((hZ.out.below (Below.refl _ _).drew).mono fun _ _ => trivial) hby hby).mono ?_; rw [sameT_refl]; rintro e w11 ⟨rfl, hB11⟩; have h11 : wr.heap.size ≤ w11.heap.size := hB11.size; have HB11 := (Below.refl wr.heap.size wr).drew.trans hB11))
            clear hq
            go_wp2_with fail
            go_roundw
            case rel => exact ⟨k + 1, by omega, by go_num, HBr.out.trans (HB11.mono hsr)⟩
            case measure => simp [intOf]; omega
        · have hk4 : k = 4 := by omega
          subst hk4
          have HBr := Lib.hid (HW10.out.trans (hB.mono h10))
          have HPr := Lib.hid (HP2.out.below HBr.out)
          have HRr := Lib.hid (HRL.out.below hB)
          have HTr := Lib.hid (HT2.out.below HBr.out)
          have HXr := Lib.hid (HBX2.out.step HBr.out)
          have HYr := Lib.hid (HBT2.out.step HBr.out)
          have hsz := HBr.out.size
          obtain ⟨x0, x1, x2, x3⟩ := HXr.out
          obtain ⟨t0, t1, t2, t3⟩ := HYr.out
          clear hB HR10 HRR2 HRL HRR HRB HW10
          go_wp2_with fail
          refine (kput_c l hl4' p _ _ _ _ HPr.out.bound HRr.out.bound (fun b hb => hb) (by omega) (check_form' HC1.out)).mono ?_
          have hsub := sub_le HSUB.out
          have HCX := Lib.hid (sub_check HSUB.out HC2.out)
          generalize bindT l p = x at HSUB hsub HCX ⊢
          rintro e w12 ⟨vx, rfl, hB12, ax, cx, rfl, hcx, hrx⟩
          have h12 := hB12.size
          have HX12 : Hid (RT (fun b => b < wr.heap.size ∨ wr.heap.size ≤ b) w12 x _) := Lib.hid ⟨ax, cx, rfl, hcx, hrx⟩
          have hbx : bulkL [x] ≤ 1048576 := by omega
          have HXN := Lib.hid (HX12.out.alloc (.cells #[.int .i64 x.kind, .int .i64 x.n, .string x.name, .slice ax x.args.length cx] 29))
          have HBN := Lib.hid (Box.new w12 (.int .i64 x.kind) (.int .i64 x.n) (.string x.name) (.slice ax x.args.length cx) 29)
          have HWN := Lib.hid (hB12.alloc h12 (.cells #[.int .i64 x.kind, .int .i64 x.n, .string x.name, .slice ax x.args.length cx] 29))
          clear hcx hrx hB12 x0 x1 x2 x3 t0 t1 t2 t3
          go_wp2_with fail
          obtain ⟨W4, hW4⟩ : ∃ W : World, W = w12.alloc (.cells #[.int .i64 x.kind, .int .i64 x.n, .string x.name, .slice ax x.args.length cx] 29) := ⟨_, rfl⟩
          have hs4 : W4.heap.size = w12.heap.size + 1 := by rw [hW4]; simp
          rw [← hW4] at HXN HBN HWN ⊢
          clear hW4 HX12
          have HT4 := Lib.hid (HTr.out.below HWN.out)
          have HR4 := Lib.hid (HRr.out.below HWN.out)
          have HY4 := Lib.hid (HYr.out.step HWN.out)
          have HB4 := Lib.hid (HBr.out.trans (HWN.out.mono hsz))
          refine (rcheck_c x _ _ _ HXN.out.bound (fun b hb => hb) (by omega)).mono ?_
          rw [HCX.out]
          rintro e w13 ⟨rfl, hB13⟩
          have h13 := hB13.size
          obtain ⟨x0, x1, x2, x3⟩ := HBN.out.step hB13
          obtain ⟨t0, t1, t2, t3⟩ := HY4.out.step hB13
          have HX13 := Lib.hid (HXN.out.below hB13)
          have HT13 := Lib.hid (HT4.out.below hB13)
          have HR13 := Lib.hid (HR4.out.below hB13)
          have HB13 := Lib.hid (HB4.out.trans (hB13.mono (by omega)))
          have HBN13 := Lib.hid (HBN.out.step hB13)
          have HY13 := Lib.hid (HY4.out.step hB13)
          clear hB13
          have HFR := Lib.hid (show fitsR x t l = (0, some l) by rw [fitsR_ok HCX.out HC2.out (by rw [HC3.out, HBL.out]; rfl), fitO_yes (by rw [fit_sub HSUB.out HC3.out]), fit_sub HSUB.out HC3.out])
          go_wp2_with fail
          refine (mfits_c x t l _ _ _ _ HX13.out.bound HT13.out.bound HR13.out.bound (by omega) (by omega) hbl).mono ?_
          rw [HFR.out]
          intro e w14 h
          obtain ⟨bm, om, capm, rfl, hB14, hrm⟩ := openS h hl4'
          have h14 := hB14.size
          have HM := Lib.hid hrm
          have HR14 := Lib.hid (HR13.out.below hB14)
          have HX14 := Lib.hid (HX13.out.below hB14)
          have HT14 := Lib.hid (HT13.out.below hB14)
          have HBN14 := Lib.hid (HBN13.out.step hB14)
          have HY14 := Lib.hid (HY13.out.step hB14)
          have HB14 := Lib.hid (HB13.out.trans (hB14.mono HB13.out.size))
          clear hrm hB14 x0 x1 x2 x3 t0 t1 t2 t3
          go_wp2_with fail
          refine (sameTerms_c (fun _ => True) _ _ _ _ _ (HR14.out.mono fun _ _ => trivial) (HM.out.mono fun _ _ => trivial) hbl hbl).mono ?_
          rw [sameL_refl]
          rintro e w15 ⟨rfl, hB15⟩
          have h15 := hB15.size
          obtain ⟨x0, x1, x2, x3⟩ := HBN14.out.step hB15
          obtain ⟨t0, t1, t2, t3⟩ := HY14.out.step hB15
          have HX15 := Lib.hid (HX14.out.below hB15)
          have HT15 := Lib.hid (HT14.out.below hB15)
          have HB15 := Lib.hid (HB14.out.trans (hB15.mono HB14.out.size))
          have HBN15 := Lib.hid (HBN14.out.step hB15)
          have HY15 := Lib.hid (HY14.out.step hB15)
          clear hB15
          go_wp2_with fail
          refine (rclosed_c x _ _ _ HX15.out.bound (fun b hb => hb) (by omega)).mono ?_
          rintro e w16 ⟨rfl, hB16⟩
          have h16 := hB16.size
          have HB16 := Lib.hid (HB15.out.trans (hB16.mono HB15.out.size))
          cases hcx : closedL [x]
          · go_wp2_with fail
            go_ret
            exact ⟨rfl, HBW.out.trans (HB16.out.mono HBW.out.size)⟩
          · have hxt := sub_closed HSUB.out hcx
            have HXT := Lib.hid (show sameT x t = true by rw [hxt]; exact sameT_refl t)
            clear hxt
            obtain ⟨x0, x1, x2, x3⟩ := HBN15.out.step hB16
            obtain ⟨t0, t1, t2, t3⟩ := HY15.out.step hB16
            have HX16 := Lib.hid (HX15.out.below hB16)
            have HT16 := Lib.hid (HT15.out.below hB16)
            clear hB16
            go_wp2_with fail
            refine (same_c x t (fun _ => True) _ _ _ (HX16.out.mono fun _ _ => trivial) (HT16.out.mono fun _ _ => trivial) (by omega) (by omega)).mono ?_
            rw [HXT.out]
            rintro e w17 ⟨rfl, hB17⟩
            go_wp2_with fail
            go_ret
            exact ⟨rfl, HBW.out.trans ((HB16.out.trans (hB17.mono HB16.out.size)).mono HBW.out.size)⟩
set_option maxRecDepth 100000 in
theorem contract (H : Type) (enc : TypeId × Value → H) (W : World) (base : Nat) (args : Array Value) (ds gs : List (DataW H)) (before : List MemPlace)
    (hval : ∀ (j : Nat) t v, Try.f12.params[j]? = some t → args[j]? = some v → Value.okWide Try.prog W .any base t v)
    (hW : DataW.Whole enc Try.prog Try.f12.params.toList Rows.matchBindsSpec.vars false W args.toList ds gs before) (hk : Rows.uptoSmall H (ds ++ gs) = true) :
    Calls Try.prog 12 args W fun e W' => ∃ v, e = .returned v ∧ Rows.matchBindsSpec.post enc Try.prog Try.f12 false true false false W args v W' := by
  have hW' := hW
  obtain ⟨p, q, hA0, hV, rfl, hfz, hnd⟩ := hW
  have hA : DataW.TrodAll enc Try.prog W 0 (fun _ => true) true Try.f12.params.toList args.toList ds p := hA0
  rw [Try.params12] at hA hval
  obtain ⟨v0, vs0, d0, ds0, p0, q0, hargs, rfl, rfl, h0, r0⟩ := trodAll_cons hA
  obtain ⟨v1, vs1, d1, ds1, p1, q1, rfl, rfl, rfl, h1, r1⟩ := trodAll_cons r0
  obtain ⟨v2, vs2, d2, ds2, p2, q2, rfl, rfl, rfl, h2, r2⟩ := trodAll_cons r1
  obtain ⟨rfl, rfl, rfl⟩ := trodAll_nil r2
  obtain rfl : args = #[v0, v1, v2] := by cases args; simp_all
  obtain ⟨rfl, rfl⟩ := trodVars_none hV
  have hb := small_bound hk
  simp only [List.append_nil, Rows.uptoBulkAll] at hb
  obtain ⟨x, hx, bx⟩ := open_term (hval 0 29 v0 rfl rfl) h0
  obtain ⟨y, hy, bY⟩ := open_term (hval 1 29 v1 rfl rfl) h1
  obtain ⟨bd, hbd, bb⟩ := open_terms (hval 2 27 v2 rfl rfl) h2
  refine (walk x y bd W v0 v1 v2 hx hy hbd (by omega)).mono fun e W' ⟨he, hB⟩ => ?_
  subst he
  exact ⟨_, rfl, post_true hW' rfl (by kernel_rfl) ⟨rfl, rfl, rfl⟩ (by intro t ht; rw [Try.params12] at ht; simp at ht; rcases ht with rfl | rfl <;> exact ⟨by kernel_rfl, of_decide_eq_true (by kernel_rfl)⟩) hB⟩

set_option maxRecDepth 100000 in
theorem lifted (os : Os) (started : os.Started) (H : Type) (enc : TypeId × Value → H) (F : Stop.Interp) :
    ReturnsInHanded {} Try.checked os 12 .any ((Rows.OpenSpec.upto Rows.matchBindsSpec).pre6 enc Try.prog Try.f12 Rows.matchBindsUptoRow.domain false) (((Rows.OpenSpec.upto Rows.matchBindsSpec).at F).post enc Try.prog Try.f12 false true false false) := by
  refine returnsInHanded_of_cond (C := Try.checked) (s := Rows.OpenSpec.upto Rows.matchBindsSpec) (k := Rows.uptoSmall) rfl own started (by kernel_rfl) Try.func12
    (OpenSpec.witness (enc := enc) (C := Try.checked) (s := Rows.OpenSpec.upto Rows.matchBindsSpec) (k := Rows.uptoSmall) rfl false ⟨#[], #[.agg #[.int .i64 0, .int .i64 0, .string .empty, .slice none 0 0], .agg #[.int .i64 0, .int .i64 0, .string .empty, .slice none 0 0], .slice none 0 0], []⟩ 8 (by kernel_rfl) (by kernel_rfl) (by kernel_rfl)
      (x := ([.agg [.lit (.int .i64 0), .lit (.int .i64 0), .lit (.string []), .nil], .agg [.lit (.int .i64 0), .lit (.int .i64 0), .lit (.string []), .nil], .nil], [], [])) (by kernel_rfl) rfl (by kernel_rfl)) ?_
  intro W base args ds gs before hval hW _ hk _
  exact contract H enc W base args ds gs before hval hW hk

theorem proved : Rows.MatchBindsUptoSaid :=
  OpenClaim.holds_of_cond 12 Try.f12 rfl rfl rfl rfl rfl rfl rfl ⟨rfl, rfl, rfl, rfl, rfl⟩ rfl rfl rfl rfl rfl (by kernel_rfl) Try.func12 (by kernel_rfl)
    (of_decide_eq_true (by kernel_rfl)) (by unfold Func.isWrapper; first | (rw [if_pos (by decide +kernel)]; kernel_rfl) | (rw [if_neg (by decide +kernel)]; exact ⟨rfl, rfl⟩))
    (fun os started H enc _ F => lifted os started H enc F)
end Go.Proofs.Ytedfepnekjjmnaa.matchBinds
