/-
  clerklaw.WayPlays returns true for all arguments, and each argument reads afterwards as before. Condition: together the arguments hold at most 1048576 values and letters (the given second form).
-/
import Derived.Test.YtedfepnekjjmnabWayPlaysW
import Derived.Test.YtedfepnekjjmnabJc
namespace Go.Proofs.Ytedfepnekjjmnab.wayPlays
open Go.ChangeShapes Go.WideShapes Go.ChangeAt Go.RowKit
set_option linter.unusedSimpArgs false
set_option linter.unusedVariables false

theorem under_wcall : ∃ f0 f1 f2 f3 : Field, Try.prog.underlying 61 = some (.struct #[f0, f1, f2, f3]) ∧ f0.type = 3 ∧ f0.offset = 0 ∧ f1.type = 3 ∧ f1.offset = 1 ∧ f2.type = 3 ∧ f2.offset = 2 ∧ f3.type = 24 ∧ f3.offset = 3 :=
  ⟨_, _, _, _, by rw [Try.underlying61], rfl, rfl, rfl, rfl, rfl, rfl, rfl, rfl⟩
theorem cellsWC : Try.prog.cellsOf 61 = 7 := by kernel_rfl
set_option maxRecDepth 100000 in
theorem wcall_of_trod {H : Type} {enc : TypeId × Value → H} {W : World} {base : Nat} {sp : Nat → Bool} {held : Bool} (fuel : Nat) (cs : List Value) (x : DataW H × List MemPlace) (h : DataW.trod enc Try.prog W base sp held fuel 61 cs = some x) : ∃ y, wcE.C (fun b => b < W.heap.size) W y cs ∧ wcB y ≤ Rows.uptoBulk x.1 := by
  obtain ⟨f0, f1, f2, f3, hs, t0, o0, t1, o1, t2, o2, t3, o3⟩ := under_wcall
  obtain ⟨xs, n, rfl, rfl, hl, hlen, hf⟩ := DataW.trod_struct hs h
  rw [cellsWC] at hl
  match xs, hlen, cs, hl with
  | [y0, y1, y2, y3], _, [v0, v1, v2, v3, v4, v5, v6], _ =>
    have g0 := hf 0 f0 rfl
    have g1 := hf 1 f1 rfl
    have g2 := hf 2 f2 rfl
    have g3 := hf 3 f3 rfl
    simp [o0, o1, o2, o3, t0, t1, t2, t3, cellsInt, cellsTerm] at g0 g1 g2 g3
    obtain ⟨k, hv0, rfl, wk⟩ := DataW.trod_int Try.underlying3 g0
    obtain ⟨a, hv1, rfl, wa⟩ := DataW.trod_int Try.underlying3 g1
    obtain ⟨c, hv2, rfl, wc⟩ := DataW.trod_int Try.underlying3 g2
    obtain ⟨ta, a1, c1, e1, hc1, hr1, hb1⟩ := term_of_trod _ _ _ g3
    simp only [List.cons.injEq, and_true] at hv0 hv1 hv2 e1
    obtain ⟨rfl, rfl, rfl, rfl⟩ := e1
    subst hv0 hv1 hv2
    refine ⟨⟨k, a, c, ta⟩, ⟨a1, c1, rfl, wa, wc, ⟨_, _, rfl, hc1, hr1⟩⟩, ?_⟩
    simp only [wcB, Rows.uptoBulk, Rows.uptoBulkAll, List.map_cons, List.map_nil]
    omega
set_option maxRecDepth 100000 in
theorem open_wcalls {H : Type} {enc : TypeId × Value → H} {W : World} {base : Nat} {sp : Nat → Bool} {held : Bool} {v : Value} {d : DataW H} {p : List MemPlace} {r : Go.Reach} (hok : Value.okWide Try.prog W r base 50 v) (h : DataW.Trod enc Try.prog W 0 sp held 50 v d p) :
    ∃ l : List WC, RX wcE (fun b => b < W.heap.size) (fun b => b < W.heap.size) W l v ∧ wcsB l ≤ Rows.uptoBulk d := by
  obtain ⟨a, len, cap, rfl⟩ := okWide_slice Try.underlying50 hok
  obtain ⟨fuel, hf⟩ := h
  obtain ⟨l, a', cap', e, h1, h2⟩ := rows_of_trod wcF cellsWC wcB wcsB rfl (fun _ _ => rfl) wcall_of_trod fuel _ _ hf
  simp only [Value.cells, List.cons.injEq, and_true] at e
  exact ⟨l, by rw [e]; exact h1, h2⟩
set_option maxRecDepth 100000 in
theorem contract (H : Type) (enc : TypeId × Value → H) (W : World) (base : Nat) (args : Array Value) (ds gs : List (DataW H)) (before : List MemPlace)
    (hval : ∀ (j : Nat) t v, Try.f5.params[j]? = some t → args[j]? = some v → Value.okWide Try.prog W .any base t v)
    (hW : DataW.Whole enc Try.prog Try.f5.params.toList Rows.wayPlaysSpec.vars false W args.toList ds gs before) (hk : Rows.uptoSmall H (ds ++ gs) = true) :
    Calls Try.prog 5 args W fun e W' => ∃ v, e = .returned v ∧ Rows.wayPlaysSpec.post enc Try.prog Try.f5 false true false false W args v W' := by
  have hW' := hW
  obtain ⟨p, q, hA0, hV, rfl, hfz, hnd⟩ := hW
  have hA : DataW.TrodAll enc Try.prog W 0 (fun _ => true) true Try.f5.params.toList args.toList ds p := hA0
  clear hA0 hfz hnd
  rw [Try.params5] at hA hval
  obtain ⟨v0, vs0, d0, ds0, p0, q0, hargs, rfl, rfl, h0, r0⟩ := trodAll_cons hA
  obtain ⟨rfl, rfl, rfl⟩ := trodAll_nil r0
  obtain rfl : args = #[v0] := by cases args; simp_all
  obtain ⟨rfl, rfl⟩ := trodVars_none hV
  have hb := small_bound hk
  simp only [List.append_nil, Rows.uptoBulkAll] at hb
  obtain ⟨x0, hx0, bx0⟩ := open_wcalls (hval 0 50 v0 rfl rfl) h0
  refine (wayplays_walk x0 (fun b => b < W.heap.size) W v0 hx0 (fun _ h => h) (by omega) (by have := wcsB_len x0; omega)).mono fun e W' ⟨he, hB⟩ => ?_
  subst he
  exact ⟨_, rfl, post_true hW' rfl (by kernel_rfl) ⟨rfl, rfl, rfl⟩ (by intro t ht; rw [Try.params5] at ht; simp at ht; rcases ht with rfl <;> exact ⟨by kernel_rfl, of_decide_eq_true (by kernel_rfl)⟩) hB⟩

set_option maxRecDepth 100000 in
theorem lifted (os : Os) (started : os.Started) (H : Type) (enc : TypeId × Value → H) (F : Stop.Interp) :
    ReturnsInHanded {} Try.checked os 5 .any ((Rows.OpenSpec.upto Rows.wayPlaysSpec).pre6 enc Try.prog Try.f5 Rows.wayPlaysUptoRow.domain false) (((Rows.OpenSpec.upto Rows.wayPlaysSpec).at F).post enc Try.prog Try.f5 false true false false) := by
  refine returnsInHanded_of_cond (C := Try.checked) (s := Rows.OpenSpec.upto Rows.wayPlaysSpec) (k := Rows.uptoSmall) rfl own started (by kernel_rfl) Try.func5
    (OpenSpec.witness (enc := enc) (C := Try.checked) (s := Rows.OpenSpec.upto Rows.wayPlaysSpec) (k := Rows.uptoSmall) rfl false ⟨#[], #[.slice none 0 0], []⟩ 8 (by kernel_rfl) (by kernel_rfl) (by kernel_rfl)
      (x := ([.nil], [], [])) (by kernel_rfl) rfl (by kernel_rfl)) ?_
  intro W base args ds gs before hval hW _ hk _
  exact contract H enc W base args ds gs before hval hW hk

theorem proved : Rows.WayPlaysUptoSaid :=
  OpenClaim.holds_of_cond 5 Try.f5 rfl rfl rfl rfl rfl rfl rfl ⟨rfl, rfl, rfl, rfl, rfl⟩ rfl rfl rfl rfl rfl (by kernel_rfl) Try.func5 (by kernel_rfl)
    (of_decide_eq_true (by kernel_rfl)) (by unfold Func.isWrapper; first | (rw [if_pos (by decide +kernel)]; kernel_rfl) | (rw [if_neg (by decide +kernel)]; exact ⟨rfl, rfl⟩))
    (fun os started H enc _ F => lifted os started H enc F)
end Go.Proofs.Ytedfepnekjjmnab.wayPlays
