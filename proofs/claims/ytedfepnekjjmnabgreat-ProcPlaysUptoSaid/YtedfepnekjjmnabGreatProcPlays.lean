/-
  clerklaw.ProcPlays returns true for all arguments, and each argument reads afterwards as before. Condition: together the arguments hold at most 1048576 values and letters (the given second form).
-/
import Derived.Test.YtedfepnekjjmnabGreatProcPlaysW
import Derived.Test.YtedfepnekjjmnabGreatJc
namespace Go.Proofs.YtedfepnekjjmnabGreat.procPlays
open Go.ChangeShapes Go.WideShapes Go.ChangeAt Go.RowKit
set_option linter.unusedSimpArgs false
set_option linter.unusedVariables false

theorem under_pcall : ∃ f0 f1 f2 : Field, Tryz.prog.underlying 37 = some (.struct #[f0, f1, f2]) ∧ f0.type = 3 ∧ f0.offset = 0 ∧ f1.type = 3 ∧ f1.offset = 1 ∧ f2.type = 25 ∧ f2.offset = 2 :=
  ⟨_, _, _, by rw [Tryz.underlying37], rfl, rfl, rfl, rfl, rfl, rfl⟩
theorem cellsPC : Tryz.prog.cellsOf 37 = 6 := by kernel_rfl
def pcsB0 : List PC → Nat
  | [] => 0
  | x :: l => pcB x + pcsB0 l
theorem pcsB0_eq : ∀ l : List PC, pcsB l = pcsB0 l + 1
  | [] => rfl
  | x :: l => by simp only [pcsB, pcsB0, pcsB0_eq l]; omega
set_option maxRecDepth 100000 in
theorem pcall_of_trod {H : Type} {enc : TypeId × Value → H} {W : World} {base : Nat} {sp : Nat → Bool} {held : Bool} (fuel : Nat) (cs : List Value) (x : DataW H × List MemPlace) (h : DataW.trod enc Tryz.prog W base sp held fuel 37 cs = some x) : ∃ y, pcE.C (fun b => b < W.heap.size) W y cs ∧ pcB y ≤ Rows.uptoBulk x.1 := by
  obtain ⟨f0, f1, f2, hs, t0, o0, t1, o1, t2, o2⟩ := under_pcall
  obtain ⟨xs, n, rfl, rfl, hl, hlen, hf⟩ := DataW.trod_struct hs h
  rw [cellsPC] at hl
  match xs, hlen, cs, hl with
  | [y0, y1, y2], _, [v0, v1, v2, v3, v4, v5], _ =>
    have g0 := hf 0 f0 rfl
    have g1 := hf 1 f1 rfl
    have g2 := hf 2 f2 rfl
    simp [o0, o1, o2, t0, t1, t2, cellsInt, cellsTerm] at g0 g1 g2
    obtain ⟨k, hv0, rfl, wk⟩ := DataW.trod_int Tryz.underlying3 g0
    obtain ⟨a, hv1, rfl, wa⟩ := DataW.trod_int Tryz.underlying3 g1
    obtain ⟨ta, a1, c1, e1, hc1, hr1, hb1⟩ := term_of_trod _ _ _ g2
    simp only [List.cons.injEq, and_true] at hv0 hv1 e1
    obtain ⟨rfl, rfl, rfl, rfl⟩ := e1
    subst hv0 hv1
    refine ⟨⟨k, a, ta⟩, ⟨a1, c1, rfl, ⟨_, _, rfl, hc1, hr1⟩⟩, ?_⟩
    simp only [pcB, Rows.uptoBulk, Rows.uptoBulkAll, List.map_cons, List.map_nil]
    omega
set_option maxRecDepth 100000 in
theorem open_pcalls {H : Type} {enc : TypeId × Value → H} {W : World} {base : Nat} {sp : Nat → Bool} {held : Bool} {v : Value} {d : DataW H} {p : List MemPlace} {r : Go.Reach} (hok : Value.okWide Tryz.prog W r base 26 v) (h : DataW.Trod enc Tryz.prog W 0 sp held 26 v d p) :
    ∃ l : List PC, RX pcE (fun b => b < W.heap.size) (fun b => b < W.heap.size) W l v ∧ pcsB0 l ≤ Rows.uptoBulk d := by
  obtain ⟨a, len, cap, rfl⟩ := okWide_slice Tryz.underlying26 hok
  obtain ⟨fuel, hf⟩ := h
  obtain ⟨l, a', cap', e, h1, h2⟩ := rows_of_trod pcF cellsPC pcB pcsB0 rfl (fun _ _ => rfl) pcall_of_trod fuel _ _ hf
  simp only [Value.cells, List.cons.injEq, and_true] at e
  exact ⟨l, by rw [e]; exact h1, h2⟩
set_option maxRecDepth 100000 in
theorem contract (H : Type) (enc : TypeId × Value → H) (W : World) (base : Nat) (args : Array Value) (ds gs : List (DataW H)) (before : List MemPlace)
    (hval : ∀ (j : Nat) t v, Tryz.f3.params[j]? = some t → args[j]? = some v → Value.okWide Tryz.prog W .any base t v)
    (hW : DataW.Whole enc Tryz.prog Tryz.f3.params.toList Rows.procPlaysSpec.vars false W args.toList ds gs before) (hk : Rows.uptoSmall H (ds ++ gs) = true) :
    Calls Tryz.prog 3 args W fun e W' => ∃ v, e = .returned v ∧ Rows.procPlaysSpec.post enc Tryz.prog Tryz.f3 false true false false W args v W' := by
  have hW' := hW
  obtain ⟨p, q, hA0, hV, rfl, hfz, hnd⟩ := hW
  have hA : DataW.TrodAll enc Tryz.prog W 0 (fun _ => true) true Tryz.f3.params.toList args.toList ds p := hA0
  clear hA0 hfz hnd
  rw [Tryz.params3] at hA hval
  obtain ⟨v0, vs0, d0, ds0, p0, q0, hargs, rfl, rfl, h0, r0⟩ := trodAll_cons hA
  obtain ⟨v1, vs1, d1, ds1, p1, q1, rfl, rfl, rfl, h1, r1⟩ := trodAll_cons r0
  obtain ⟨v2, vs2, d2, ds2, p2, q2, rfl, rfl, rfl, h2, r2⟩ := trodAll_cons r1
  obtain ⟨v3, vs3, d3, ds3, p3, q3, rfl, rfl, rfl, h3, r3⟩ := trodAll_cons r2
  obtain ⟨v4, vs4, d4, ds4, p4, q4, rfl, rfl, rfl, h4, r4⟩ := trodAll_cons r3
  obtain ⟨rfl, rfl, rfl⟩ := trodAll_nil r4
  obtain rfl : args = #[v0, v1, v2, v3, v4] := by cases args; simp_all
  obtain ⟨rfl, rfl⟩ := trodVars_none hV
  have hb := small_bound hk
  simp only [List.append_nil, Rows.uptoBulkAll] at hb
  obtain ⟨x0, hx0, bx0⟩ := open_behvs (hval 0 22 v0 rfl rfl) h0
  obtain ⟨x1, rfl, rfl, rfl, hx1⟩ := Go.ChangeMaps.open_string Tryz.underlying9 (hval 1 9 v1 rfl rfl) h1
  obtain ⟨x2, hx2, bx2⟩ := open_term (hval 2 25 v2 rfl rfl) h2
  obtain ⟨x3, rfl⟩ := okWide_int Tryz.underlying3 (hval 3 3 v3 rfl rfl)
  obtain ⟨x4, hx4, bx4⟩ := open_pcalls (hval 4 26 v4 rfl rfl) h4
  refine (procplays_walk x0 x1 x2 x3 x4 (fun b => b < W.heap.size) W v0 v2 v4 hx0 hx2 hx4 (fun _ h => h) (by simp only [Rows.uptoBulk] at hb; have h1 : x1.data.toList.length = x1.size := (by rw [Array.length_toList]; rfl); have := pcsB0_eq x4; omega)).mono fun e W' ⟨he, hB⟩ => ?_
  subst he
  exact ⟨_, rfl, post_true hW' rfl (by kernel_rfl) ⟨rfl, rfl, rfl⟩ (by intro t ht; rw [Tryz.params3] at ht; simp at ht; rcases ht with rfl | rfl | rfl | rfl | rfl <;> exact ⟨by kernel_rfl, of_decide_eq_true (by kernel_rfl)⟩) hB⟩

set_option maxRecDepth 100000 in
theorem lifted (os : Os) (started : os.Started) (H : Type) (enc : TypeId × Value → H) (F : Stop.Interp) :
    ReturnsInHanded {} Tryz.checked os 3 .any ((Rows.OpenSpec.upto Rows.procPlaysSpec).pre6 enc Tryz.prog Tryz.f3 Rows.procPlaysUptoRow.domain false) (((Rows.OpenSpec.upto Rows.procPlaysSpec).at F).post enc Tryz.prog Tryz.f3 false true false false) := by
  refine returnsInHanded_of_cond (C := Tryz.checked) (s := Rows.OpenSpec.upto Rows.procPlaysSpec) (k := Rows.uptoSmall) rfl own started (by kernel_rfl) Tryz.func3
    (OpenSpec.witness (enc := enc) (C := Tryz.checked) (s := Rows.OpenSpec.upto Rows.procPlaysSpec) (k := Rows.uptoSmall) rfl false ⟨#[], #[.slice none 0 0, .string .empty, .agg #[.int .i64 0, .int .i64 0, .string .empty, .slice none 0 0], .int .i64 0, .slice none 0 0], []⟩ 8 (by kernel_rfl) (by kernel_rfl) (by kernel_rfl)
      (x := ([.nil, .lit (.string []), .agg [.lit (.int .i64 0), .lit (.int .i64 0), .lit (.string []), .nil], .lit (.int .i64 0), .nil], [], [])) (by kernel_rfl) rfl (by kernel_rfl)) ?_
  intro W base args ds gs before hval hW _ hk _
  exact contract H enc W base args ds gs before hval hW hk

theorem proved : Rows.ProcPlaysUptoSaid :=
  OpenClaim.holds_of_cond 3 Tryz.f3 rfl rfl rfl rfl rfl rfl rfl ⟨rfl, rfl, rfl, rfl, rfl⟩ rfl rfl rfl rfl rfl (by kernel_rfl) Tryz.func3 (by kernel_rfl)
    (of_decide_eq_true (by kernel_rfl)) (by unfold Func.isWrapper; first | (rw [if_pos (by decide +kernel)]; kernel_rfl) | (rw [if_neg (by decide +kernel)]; exact ⟨rfl, rfl⟩))
    (fun os started H enc _ F => lifted os started H enc F)
end Go.Proofs.YtedfepnekjjmnabGreat.procPlays
