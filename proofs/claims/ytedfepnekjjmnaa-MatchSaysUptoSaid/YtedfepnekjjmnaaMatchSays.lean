/-
  clerklaw.MatchSays returns true for all arguments, and each argument reads afterwards as before. Condition: together the arguments hold at most 1048576 values and letters (the given second form).
-/
import Derived.Test.YtedfepnekjjmnaaRFits
import Derived.Test.YtedfepnekjjmnaaFrame
namespace Go.Proofs.Ytedfepnekjjmnaa.matchSays
open Go.ChangeShapes Go.WideShapes Go.ChangeAt Go.RowKit
set_option linter.unusedSimpArgs false
set_option linter.unusedVariables false

theorem sameL_self (x : List T) : sameL x x = true := (sameL_iff x x).2 rfl
theorem _root_.Go.Proofs.Ytedfepnekjjmnaa.RT.bd4 {S : Nat → Prop} {w : World} {t : T} {v : Value} (h : RT S w t v) : RT (fun b => b < w.heap.size) w t v := h.to (fun _ _ hl => hl) fun _ _ _ => rfl
theorem _root_.Go.Proofs.Ytedfepnekjjmnaa.FO.openN {S : Nat → Prop} {w w' : World} {e : Ending} {n : Int} (h : FO S w (n, none) e w') : ∃ a cap, e = .returned (.tuple #[.slice a 0 cap, .bool false, .int .i64 n]) ∧ Below w.heap.size w w' ∧ RSl S w' [] (.slice a 0 cap) := by
  obtain ⟨v, he, hB, a, cap, rfl, hr⟩ := h; exact ⟨a, cap, he, hB, a, cap, rfl, hr⟩
theorem _root_.Go.Proofs.Ytedfepnekjjmnaa.FO.openS {S : Nat → Prop} {w w' : World} {e : Ending} {n : Int} {l : List T} (h : FO S w (n, some l) e w') : ∃ a cap, e = .returned (.tuple #[.slice a l.length cap, .bool true, .int .i64 n]) ∧ Below w.heap.size w w' ∧ RSl S w' l (.slice a l.length cap) := by
  obtain ⟨v, he, hB, a, cap, rfl, hr⟩ := h; exact ⟨a, cap, he, hB, a, cap, rfl, hr⟩
theorem bulk_each (M : Nat) (l : List T) (h : ∀ y ∈ l, bulkL [y] ≤ M) : bulkL l ≤ l.length * M := by
  induction l with
  | nil => simp [bulkL]
  | cons t l ih =>
    have e : bulkL (t :: l) = bulkL [t] + bulkL l := bulkL_append [t] l
    have h1 := h t (by simp)
    have h2 := ih fun y hy => h y (by simp [hy])
    rw [e, List.length_cons, Nat.add_mul]; omega
theorem fitO_bulk {p t : T} {bd l : List T} (hl : bd.length = 4) (ht : bulkL [t] ≤ 1048576) (hb : bulkL bd ≤ 1048576) (h : fitO p t bd = some l) : bulkL l ≤ 1099511627776 := by
  unfold fitO at h
  split at h
  · simp only [Option.some.injEq] at h
    subst h
    have h1 := bulk_each 1048576 _ (fitT_bulk 1048576 p t bd ht fun y hy => by have := bulk_mem hy; omega)
    rw [fitT_length, hl] at h1
    omega
  · cases h

set_option maxHeartbeats 8000000 in
theorem walk (p t : T) (bd : List T) (w : World) (vp vt vb : Value) (hp : RT (fun b => b < w.heap.size) w p vp) (ht : RT (fun b => b < w.heap.size) w t vt) (hq : RSl (fun b => b < w.heap.size) w bd vb) (hb : bulkL [p] + bulkL [t] + bulkL bd ≤ 1048576) :
    Calls Try.prog 8 #[vp, vt, vb] w fun e w' => e = .returned (.bool true) ∧ Below w.heap.size w w' := by
  obtain ⟨a1, cap1, rfl, hc1, hr1⟩ := hp
  obtain ⟨a2, cap2, rfl, hc2, hr2⟩ := ht
  obtain ⟨ab, capb, rfl, hcb, hrb⟩ := hq
  have HP : Hid (RT (fun b => b < w.heap.size) w p _) := Lib.hid ⟨a1, cap1, rfl, hc1, hr1⟩
  have HT : Hid (RT (fun b => b < w.heap.size) w t _) := Lib.hid ⟨a2, cap2, rfl, hc2, hr2⟩
  have HB : Hid (RSl (fun b => b < w.heap.size) w bd _) := Lib.hid ⟨ab, capb, rfl, hcb, hrb⟩
  clear hr1 hc1 hr2 hc2 hcb hrb
  have HS : Hid (∀ W : World, w.heap.size ≤ W.heap.size → ∀ b, b < w.heap.size → b < W.heap.size) := Lib.hid fun W h b hb => by omega
  have k1 : w.heap.size < w.heap.size + 1 + 1 := by omega
  have k2 : w.heap.size + 1 < w.heap.size + 1 + 1 := by omega
  have HC : Hid True := Lib.hid trivial
  go_enter Try.func8, Try.ntmps8
  go_wp2_with fail
  refine (rcheck_c p _ _ _ ((HP.out.alloc _).alloc _) (HS.out _ (by simp <;> omega)) (by omega)).mono ?_
  rintro e w1 ⟨rfl, hB1⟩
  have h1 := hB1.size
  obtain ⟨hcc1, -⟩ := bcell hB1
  simp only [World.size_alloc] at h1 hcc1
  have g1 : w.heap.size < w1.heap.size := by omega
  have g1' : w.heap.size + 1 < w1.heap.size := by omega
  have HB1 := Lib.hid (below_step ((below_alloc _ _).alloc (by simp) _) (by simp <;> omega) hB1)
  clear hB1
  by_cases hc : checkE p = 0
  · have hcb : (checkE p == 0) = true := by simp [hc]
    have HCP := Lib.hid hc; clear hc
    go_wp2_with fail
    refine (rcheck_c t _ _ _ (HT.out.below HB1.out) (HS.out _ (by omega)) (by omega)).mono ?_
    rintro e w2 ⟨rfl, hB2⟩
    have h2 := hB2.size
    obtain ⟨hcc2, -⟩ := bcell hB2
    have g2 : w.heap.size < w2.heap.size := by omega
    have g2' : w.heap.size + 1 < w2.heap.size := by omega
    have HB2 := Lib.hid (below_step HB1.out (by omega) hB2)
    clear hB2
    by_cases hc : checkE t = 0
    · have hcb2 : (checkE t == 0) = true := by simp [hc]
      have HC := Lib.hid hc; clear hc
      go_wp2_with fail
      refine (rclosed_c t _ _ _ (HT.out.below HB2.out) (HS.out _ (by omega)) (by omega)).mono ?_
      rintro e w3 ⟨rfl, hB3⟩
      have h3 := hB3.size
      obtain ⟨hcc3, -⟩ := bcell hB3
      have g3 : w.heap.size < w3.heap.size := by omega
      have g3' : w.heap.size + 1 < w3.heap.size := by omega
      have HB3 := Lib.hid (below_step HB2.out (by omega) hB3)
      clear hB3
      cases hcl : closedL [t]
      · have HR := Lib.hid (fitsR_form (bd := bd) HCP.out HC.out (by simp [hcl]))
        go_wp2_with fail
        refine (mfits_c p t bd _ _ _ _ (HP.out.below HB3.out).bd4 (HT.out.below HB3.out).bd4 (HB.out.below HB3.out).bound' (by omega) (by omega) (by omega)).mono ?_
        rw [HR.out]
        intro e v9 h
        obtain ⟨a9, cap9, rfl, hV, hr9⟩ := h.openN
        have hv9 := hV.size
        have HV := Lib.hid hr9
        have HBV := Lib.hid (below_step HB3.out (by omega) hV)
        have HWT := Lib.hid (RSl.nil (fun _ => True) v9)
        clear hr9 hV
        go_wp2_with fail
        refine (sameTerms_c (fun _ => True) _ _ _ _ _ (HV.out.mono fun _ _ => trivial) (HWT.out.mono fun _ _ => trivial) (by simp [bulkL]) (by simp [bulkL])).mono ?_
        rw [sameL_self]
        rintro e v3 ⟨rfl, hV3⟩
        go_wp2_with fail
        go_ret
        exact ⟨by simp [HC.out], below_step HBV.out (by omega) hV3⟩
      have HCL := Lib.hid hcl; clear hcl
      go_wp2_with fail
      refine (rbound_c bd _ _ _ (HB.out.below HB3.out) (HS.out _ (by omega)) (by omega)).mono ?_
      rintro e w4 ⟨rfl, hB4⟩
      have h4 := hB4.size
      obtain ⟨hcc4, -⟩ := bcell hB4
      have g4 : w.heap.size < w4.heap.size := by omega
      have g4' : w.heap.size + 1 < w4.heap.size := by omega
      have HB4 := Lib.hid (below_step HB3.out (by omega) hB4)
      clear hB4
      cases hbd : boundB bd
      · have HR := Lib.hid (fitsR_form (bd := bd) HCP.out HC.out (by simp [hbd]))
        go_wp2_with fail
        refine (mfits_c p t bd _ _ _ _ (HP.out.below HB4.out).bd4 (HT.out.below HB4.out).bd4 (HB.out.below HB4.out).bound' (by omega) (by omega) (by omega)).mono ?_
        rw [HR.out]
        intro e v9 h
        obtain ⟨a9, cap9, rfl, hV, hr9⟩ := h.openN
        have hv9 := hV.size
        have HV := Lib.hid hr9
        have HBV := Lib.hid (below_step HB4.out (by omega) hV)
        have HWT := Lib.hid (RSl.nil (fun _ => True) v9)
        clear hr9 hV
        go_wp2_with fail
        refine (sameTerms_c (fun _ => True) _ _ _ _ _ (HV.out.mono fun _ _ => trivial) (HWT.out.mono fun _ _ => trivial) (by simp [bulkL]) (by simp [bulkL])).mono ?_
        rw [sameL_self]
        rintro e v3 ⟨rfl, hV3⟩
        go_wp2_with fail
        go_ret
        exact ⟨by simp [HC.out], below_step HBV.out (by omega) hV3⟩
      have HBD := Lib.hid hbd; clear hbd
      have HFR := Lib.hid (fitsR_ok (bd := bd) HCP.out HC.out (by rw [HCL.out, HBD.out]; rfl))
      go_wp2_with fail
      refine (rfits_c p t bd _ _ _ _ (HP.out.below HB4.out).bd4 (HT.out.below HB4.out).bd4 (HB.out.below HB4.out).bound' (by omega) (by omega) (by omega) (boundB_len4 HBD.out) (check_form4 HCP.out)).mono ?_
      rintro e w5 ⟨v5, rfl, hB5, a5, cap5, rfl, hc5, hr5⟩
      have h5 := hB5.size
      obtain ⟨hcc5, -⟩ := bcell hB5
      have g5 : w.heap.size < w5.heap.size := by omega
      have g5' : w.heap.size + 1 < w5.heap.size := by omega
      have HB5 := Lib.hid (below_step HB4.out (by omega) hB5)
      have HR5 : Hid (RSl _ w5 ((fitO p t bd).getD []) _) := Lib.hid ⟨a5, cap5, rfl, hc5, hr5⟩
      clear hB5 hc5 hr5
      cases hfo : fitO p t bd with
      | none =>
        have HR := Lib.hid (show fitsR p t bd = (0, none) by rw [HFR.out, hfo])
        simp only [hfo, Option.isSome_none, Option.getD_none] at *
        clear hfo
        go_wp2_with fail
        refine (mfits_c p t bd _ _ _ _ (HP.out.below HB5.out).bd4 (HT.out.below HB5.out).bd4 (HB.out.below HB5.out).bound' (by omega) (by omega) (by omega)).mono ?_
        rw [HR.out]
        intro e v9 h
        obtain ⟨a9, cap9, rfl, hV, hr9⟩ := h.openN
        have hv9 := hV.size
        have HV := Lib.hid hr9
        have HBV := Lib.hid (below_step HB5.out (by omega) hV)
        have HWT := Lib.hid (HR5.out.below hV)
        clear hr9 hV
        go_wp2_with fail
        refine (sameTerms_c (fun _ => True) _ _ _ _ _ (HV.out.mono fun _ _ => trivial) (HWT.out.mono fun _ _ => trivial) (by simp [bulkL]) (by simp [bulkL])).mono ?_
        rw [sameL_self]
        rintro e v3 ⟨rfl, hV3⟩
        go_wp2_with fail
        go_ret
        exact ⟨by simp [HC.out], below_step HBV.out (by omega) hV3⟩
      | some l =>
        have HR := Lib.hid (show fitsR p t bd = (0, some l) by rw [HFR.out, hfo])
        have hbl := fitO_bulk (boundB_len4 HBD.out) (by omega) (by omega) hfo
        simp only [hfo, Option.isSome_some, Option.getD_some] at *
        clear hfo
        go_wp2_with fail
        refine (mfits_c p t bd _ _ _ _ (HP.out.below HB5.out).bd4 (HT.out.below HB5.out).bd4 (HB.out.below HB5.out).bound' (by omega) (by omega) (by omega)).mono ?_
        rw [HR.out]
        intro e v9 h
        obtain ⟨a9, cap9, rfl, hV, hr9⟩ := h.openS
        have hv9 := hV.size
        have HV := Lib.hid hr9
        have HBV := Lib.hid (below_step HB5.out (by omega) hV)
        have HWT := Lib.hid (HR5.out.below hV)
        clear hr9 hV
        go_wp2_with fail
        refine (sameTerms_c (fun _ => True) _ _ _ _ _ (HV.out.mono fun _ _ => trivial) (HWT.out.mono fun _ _ => trivial) hbl hbl).mono ?_
        rw [sameL_self]
        rintro e v3 ⟨rfl, hV3⟩
        go_wp2_with fail
        go_ret
        exact ⟨by simp [HC.out], below_step HBV.out (by omega) hV3⟩
    · have hcb2 : (checkE t == 0) = false := by simp [hc]
      have HR := Lib.hid (show fitsR p t bd = (checkE t, none) from fitsR_bad (k := 1) (by omega) (fun _ => HCP.out) hc)
      go_wp2_with fail
      refine (mfits_c p t bd _ _ _ _ (HP.out.below HB2.out).bd4 (HT.out.below HB2.out).bd4 (HB.out.below HB2.out).bound' (by omega) (by omega) (by omega)).mono ?_
      rw [HR.out]
      intro e v9 h
      obtain ⟨a9, cap9, rfl, hV, hr9⟩ := h.openN
      have hv9 := hV.size
      have HV := Lib.hid hr9
      have HBV := Lib.hid (below_step HB2.out (by omega) hV)
      have HWT := Lib.hid (RSl.nil (fun _ => True) v9)
      clear hr9 hV
      go_wp2_with fail
      refine (sameTerms_c (fun _ => True) _ _ _ _ _ (HV.out.mono fun _ _ => trivial) (HWT.out.mono fun _ _ => trivial) (by simp [bulkL]) (by simp [bulkL])).mono ?_
      rw [sameL_self]
      rintro e v3 ⟨rfl, hV3⟩
      go_wp2_with fail
      go_ret
      exact ⟨by simp [HC.out], below_step HBV.out (by omega) hV3⟩
  · have hcb : (checkE p == 0) = false := by simp [hc]
    have HR := Lib.hid (show fitsR p t bd = (checkE p, none) from fitsR_bad (k := 0) (by omega) (fun h => by omega) hc)
    go_wp2_with fail
    refine (mfits_c p t bd _ _ _ _ (HP.out.below HB1.out).bd4 (HT.out.below HB1.out).bd4 (HB.out.below HB1.out).bound' (by omega) (by omega) (by omega)).mono ?_
    rw [HR.out]
    intro e v9 h
    obtain ⟨a9, cap9, rfl, hV, hr9⟩ := h.openN
    have hv9 := hV.size
    have HV := Lib.hid hr9
    have HBV := Lib.hid (below_step HB1.out (by omega) hV)
    have HWT := Lib.hid (RSl.nil (fun _ => True) v9)
    clear hr9 hV
    go_wp2_with fail
    refine (sameTerms_c (fun _ => True) _ _ _ _ _ (HV.out.mono fun _ _ => trivial) (HWT.out.mono fun _ _ => trivial) (by simp [bulkL]) (by simp [bulkL])).mono ?_
    rw [sameL_self]
    rintro e v3 ⟨rfl, hV3⟩
    go_wp2_with fail
    go_ret
    exact ⟨by simp [HC.out], below_step HBV.out (by omega) hV3⟩

set_option maxRecDepth 100000 in
theorem contract (H : Type) (enc : TypeId × Value → H) (W : World) (base : Nat) (args : Array Value) (ds gs : List (DataW H)) (before : List MemPlace)
    (hval : ∀ (j : Nat) t v, Try.f8.params[j]? = some t → args[j]? = some v → Value.okWide Try.prog W .any base t v)
    (hW : DataW.Whole enc Try.prog Try.f8.params.toList Rows.matchSaysSpec.vars false W args.toList ds gs before) (hk : Rows.uptoSmall H (ds ++ gs) = true) :
    Calls Try.prog 8 args W fun e W' => ∃ v, e = .returned v ∧ Rows.matchSaysSpec.post enc Try.prog Try.f8 false true false false W args v W' := by
  have hW' := hW
  obtain ⟨p, q, hA0, hV, rfl, hfz, hnd⟩ := hW
  have hA : DataW.TrodAll enc Try.prog W 0 (fun _ => true) true Try.f8.params.toList args.toList ds p := hA0
  rw [Try.params8] at hA hval
  obtain ⟨v0, vs0, d0, ds0, p0, q0, hargs, rfl, rfl, h0, r0⟩ := trodAll_cons hA
  obtain ⟨v1, vs1, d1, ds1, p1, q1, rfl, rfl, rfl, h1, r1⟩ := trodAll_cons r0
  obtain ⟨v2, vs2, d2, ds2, p2, q2, rfl, rfl, rfl, h2, r2⟩ := trodAll_cons r1
  obtain ⟨rfl, rfl, rfl⟩ := trodAll_nil r2
  obtain rfl : args = #[v0, v1, v2] := by cases args; simp_all
  obtain ⟨rfl, rfl⟩ := trodVars_none hV
  have hb := small_bound hk
  simp only [List.append_nil, Rows.uptoBulkAll] at hb
  obtain ⟨x, hx, bx⟩ := open_term (hval 0 29 v0 rfl rfl) h0
  obtain ⟨y, hy, bY⟩ := open_term (hval 1 29 v1 rfl rfl) h1
  obtain ⟨bd, hbd, bb⟩ := open_terms (hval 2 27 v2 rfl rfl) h2
  refine (walk x y bd W v0 v1 v2 hx hy hbd (by omega)).mono fun e W' ⟨he, hB⟩ => ?_
  subst he
  exact ⟨_, rfl, post_true hW' rfl (by kernel_rfl) ⟨rfl, rfl, rfl⟩ (by intro t ht; rw [Try.params8] at ht; simp at ht; rcases ht with rfl | rfl <;> exact ⟨by kernel_rfl, of_decide_eq_true (by kernel_rfl)⟩) hB⟩

set_option maxRecDepth 100000 in
theorem lifted (os : Os) (started : os.Started) (H : Type) (enc : TypeId × Value → H) (F : Stop.Interp) :
    ReturnsInHanded {} Try.checked os 8 .any ((Rows.OpenSpec.upto Rows.matchSaysSpec).pre6 enc Try.prog Try.f8 Rows.matchSaysUptoRow.domain false) (((Rows.OpenSpec.upto Rows.matchSaysSpec).at F).post enc Try.prog Try.f8 false true false false) := by
  refine returnsInHanded_of_cond (C := Try.checked) (s := Rows.OpenSpec.upto Rows.matchSaysSpec) (k := Rows.uptoSmall) rfl own started (by kernel_rfl) Try.func8
    (OpenSpec.witness (enc := enc) (C := Try.checked) (s := Rows.OpenSpec.upto Rows.matchSaysSpec) (k := Rows.uptoSmall) rfl false ⟨#[], #[.agg #[.int .i64 0, .int .i64 0, .string .empty, .slice none 0 0], .agg #[.int .i64 0, .int .i64 0, .string .empty, .slice none 0 0], .slice none 0 0], []⟩ 8 (by kernel_rfl) (by kernel_rfl) (by kernel_rfl)
      (x := ([.agg [.lit (.int .i64 0), .lit (.int .i64 0), .lit (.string []), .nil], .agg [.lit (.int .i64 0), .lit (.int .i64 0), .lit (.string []), .nil], .nil], [], [])) (by kernel_rfl) rfl (by kernel_rfl)) ?_
  intro W base args ds gs before hval hW _ hk _
  exact contract H enc W base args ds gs before hval hW hk

theorem proved : Rows.MatchSaysUptoSaid :=
  OpenClaim.holds_of_cond 8 Try.f8 rfl rfl rfl rfl rfl rfl rfl ⟨rfl, rfl, rfl, rfl, rfl⟩ rfl rfl rfl rfl rfl (by kernel_rfl) Try.func8 (by kernel_rfl)
    (of_decide_eq_true (by kernel_rfl)) (by unfold Func.isWrapper; first | (rw [if_pos (by decide +kernel)]; kernel_rfl) | (rw [if_neg (by decide +kernel)]; exact ⟨rfl, rfl⟩))
    (fun os started H enc _ F => lifted os started H enc F)
end Go.Proofs.Ytedfepnekjjmnaa.matchSays
