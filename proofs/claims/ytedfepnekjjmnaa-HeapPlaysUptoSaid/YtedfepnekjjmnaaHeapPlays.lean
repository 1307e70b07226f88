/-
  clerklaw.HeapPlays returns true for all arguments, and each argument reads afterwards as before. Condition: together the arguments hold at most 1048576 values and letters (the given second form).
-/
import Derived.Test.YtedfepnekjjmnaaHPlayW
import Derived.Test.YtedfepnekjjmnaaJc
namespace Go.Proofs.Ytedfepnekjjmnaa.heapPlays
open Go.ChangeShapes Go.WideShapes Go.ChangeAt Go.RowKit
set_option linter.unusedSimpArgs false
set_option linter.unusedVariables false

def hcsB0 : List HC → Nat
  | [] => 0
  | x :: l => hcB x + hcsB0 l
theorem hcsB0_eq : ∀ l : List HC, hcsB l = hcsB0 l + 1
  | [] => rfl
  | x :: l => by simp only [hcsB, hcsB0, hcsB0_eq l]; omega
theorem cellsI {S S' : Nat → Prop} {w w' : World} : ∀ {l : List Int} {cs : List Value}, CellsX intE S w l cs → CellsX intE S' w' l cs
  | [], _, h => h
  | x :: l, _, ⟨c, cs', e, h1, h2⟩ => ⟨c, cs', e, h1, cellsI h2⟩
theorem RX.intS {R S S' : Nat → Prop} {w : World} {l : List Int} {v : Value} (h : RX intE R S w l v) : RX intE R S' w l v := by
  obtain ⟨a, cap, cs, rfl, h1, h2, h3⟩ := h
  exact ⟨a, cap, cs, rfl, h1, cellsI h2, h3⟩
theorem under_hcall : ∃ f0 f1 f2 : Field, Try.prog.underlying 81 = some (.struct #[f0, f1, f2]) ∧ f0.type = 3 ∧ f0.offset = 0 ∧ f1.type = 29 ∧ f1.offset = 1 ∧ f2.type = 24 ∧ f2.offset = 5 :=
  ⟨_, _, _, by rw [Try.underlying81], rfl, rfl, rfl, rfl, rfl, rfl⟩
theorem cellsHC : Try.prog.cellsOf 81 = 6 := by kernel_rfl
theorem cellsInts : Try.prog.cellsOf 24 = 1 := by kernel_rfl
set_option maxRecDepth 100000 in
theorem int_of_trod {H : Type} {enc : TypeId × Value → H} {W : World} {base : Nat} {sp : Nat → Bool} {held : Bool} (fuel : Nat) (cs : List Value) (x : DataW H × List MemPlace) (h : DataW.trod enc Try.prog W base sp held fuel 3 cs = some x) : ∃ y, intE.C (fun b => b < W.heap.size) W y cs ∧ (fun _ => 1) y ≤ Rows.uptoBulk x.1 := by
  obtain ⟨k, hv, h1, -⟩ := DataW.trod_int Try.underlying3 h
  subst hv
  refine ⟨k, rfl, ?_⟩
  rw [h1]; simp [Rows.uptoBulk]
set_option maxRecDepth 100000 in
theorem hcall_of_trod {H : Type} {enc : TypeId × Value → H} {W : World} {base : Nat} {sp : Nat → Bool} {held : Bool} (fuel : Nat) (cs : List Value) (x : DataW H × List MemPlace) (h : DataW.trod enc Try.prog W base sp held fuel 81 cs = some x) : ∃ y, hcE.C (fun b => b < W.heap.size) W y cs ∧ hcB y ≤ Rows.uptoBulk x.1 := by
  obtain ⟨f0, f1, f2, hs, t0, o0, t1, o1, t2, o2⟩ := under_hcall
  obtain ⟨xs, n, rfl, rfl, hl, hlen, hf⟩ := DataW.trod_struct hs h
  rw [cellsHC] at hl
  match xs, hlen, cs, hl with
  | [y0, y1, y2], _, [v0, v1, v2, v3, v4, v5], _ =>
    have g0 := hf 0 f0 rfl
    have g1 := hf 1 f1 rfl
    have g2 := hf 2 f2 rfl
    simp [o0, o1, o2, t0, t1, t2, cellsInt, cellsInts, cellsTerm] at g0 g1 g2
    obtain ⟨k, hv0, rfl, wk⟩ := DataW.trod_int Try.underlying3 g0
    obtain ⟨ta, a1, c1, e1, hc1, hr1, hb1⟩ := term_of_trod _ _ _ g1
    obtain ⟨l, a2, c2, e2, h2, hb2⟩ := rows_of_trod intFQ cellsInt (fun _ => 1) List.length rfl (fun x l => by simp; omega) int_of_trod _ _ _ g2
    simp only [List.cons.injEq, and_true] at hv0 e1 e2
    obtain ⟨rfl, rfl, rfl, rfl⟩ := e1
    subst hv0 e2
    refine ⟨⟨k, ta, l⟩, ⟨a1, c1, a2, c2, rfl, ⟨_, _, rfl, hc1, hr1⟩, RX.intS h2⟩, ?_⟩
    simp only [hcB, Rows.uptoBulk, Rows.uptoBulkAll, List.map_cons, List.map_nil]
    omega
set_option maxRecDepth 100000 in
theorem open_hcalls {H : Type} {enc : TypeId × Value → H} {W : World} {base : Nat} {sp : Nat → Bool} {held : Bool} {v : Value} {d : DataW H} {p : List MemPlace} {r : Go.Reach} (hok : Value.okWide Try.prog W r base 78 v) (h : DataW.Trod enc Try.prog W 0 sp held 78 v d p) :
    ∃ l : List HC, RX hcE (fun b => b < W.heap.size) (fun b => b < W.heap.size) W l v ∧ hcsB l ≤ Rows.uptoBulk d + 1 := by
  obtain ⟨a, len, cap, rfl⟩ := okWide_slice Try.underlying78 hok
  obtain ⟨fuel, hf⟩ := h
  obtain ⟨l, a', cap', e, h1, h2⟩ := rows_of_trod hcF cellsHC hcB hcsB0 rfl (fun _ _ => rfl) hcall_of_trod fuel _ _ hf
  simp only [Value.cells, List.cons.injEq, and_true] at e
  exact ⟨l, by rw [e]; exact h1, by rw [hcsB0_eq]; exact Nat.add_le_add_right h2 1⟩
set_option maxRecDepth 100000 in
theorem contract (H : Type) (enc : TypeId × Value → H) (W : World) (base : Nat) (args : Array Value) (ds gs : List (DataW H)) (before : List MemPlace)
    (hval : ∀ (j : Nat) t v, Try.f13.params[j]? = some t → args[j]? = some v → Value.okWide Try.prog W .any base t v)
    (hW : DataW.Whole enc Try.prog Try.f13.params.toList Rows.heapPlaysSpec.vars false W args.toList ds gs before) (hk : Rows.uptoSmall H (ds ++ gs) = true) :
    Calls Try.prog 13 args W fun e W' => ∃ v, e = .returned v ∧ Rows.heapPlaysSpec.post enc Try.prog Try.f13 false true false false W args v W' := by
  have hW' := hW
  obtain ⟨p, q, hA0, hV, rfl, hfz, hnd⟩ := hW
  have hA : DataW.TrodAll enc Try.prog W 0 (fun _ => true) true Try.f13.params.toList args.toList ds p := hA0
  clear hA0 hfz hnd
  rw [Try.params13] at hA hval
  obtain ⟨v0, vs0, d0, ds0, p0, q0, hargs, rfl, rfl, h0, r0⟩ := trodAll_cons hA
  obtain ⟨v1, vs1, d1, ds1, p1, q1, rfl, rfl, rfl, h1, r1⟩ := trodAll_cons r0
  obtain ⟨rfl, rfl, rfl⟩ := trodAll_nil r1
  obtain rfl : args = #[v0, v1] := by cases args; simp_all
  obtain ⟨rfl, rfl⟩ := trodVars_none hV
  have hb := small_bound hk
  simp only [List.append_nil, Rows.uptoBulkAll] at hb
  obtain ⟨x0, rfl⟩ := okWide_int Try.underlying3 (hval 0 3 v0 rfl rfl)
  obtain ⟨x1, hx1, bx1⟩ := open_hcalls (hval 1 78 v1 rfl rfl) h1
  refine (heapplays_walk x0 x1 (fun b => b < W.heap.size) W v1 hx1 (fun _ h => h) (by omega)).mono fun e W' ⟨he, hB⟩ => ?_
  subst he
  exact ⟨_, rfl, post_true hW' rfl (by kernel_rfl) ⟨rfl, rfl, rfl⟩ (by intro t ht; rw [Try.params13] at ht; simp at ht; rcases ht with rfl | rfl <;> exact ⟨by kernel_rfl, of_decide_eq_true (by kernel_rfl)⟩) hB⟩

set_option maxRecDepth 100000 in
theorem lifted (os : Os) (started : os.Started) (H : Type) (enc : TypeId × Value → H) (F : Stop.Interp) :
    ReturnsInHanded {} Try.checked os 13 .any ((Rows.OpenSpec.upto Rows.heapPlaysSpec).pre6 enc Try.prog Try.f13 Rows.heapPlaysUptoRow.domain false) (((Rows.OpenSpec.upto Rows.heapPlaysSpec).at F).post enc Try.prog Try.f13 false true false false) := by
  refine returnsInHanded_of_cond (C := Try.checked) (s := Rows.OpenSpec.upto Rows.heapPlaysSpec) (k := Rows.uptoSmall) rfl own started (by kernel_rfl) Try.func13
    (OpenSpec.witness (enc := enc) (C := Try.checked) (s := Rows.OpenSpec.upto Rows.heapPlaysSpec) (k := Rows.uptoSmall) rfl false ⟨#[], #[.int .i64 0, .slice none 0 0], []⟩ 8 (by kernel_rfl) (by kernel_rfl) (by kernel_rfl)
      (x := ([.lit (.int .i64 0), .nil], [], [])) (by kernel_rfl) rfl (by kernel_rfl)) ?_
  intro W base args ds gs before hval hW _ hk _
  exact contract H enc W base args ds gs before hval hW hk

theorem proved : Rows.HeapPlaysUptoSaid :=
  OpenClaim.holds_of_cond 13 Try.f13 rfl rfl rfl rfl rfl rfl rfl ⟨rfl, rfl, rfl, rfl, rfl⟩ rfl rfl rfl rfl rfl (by kernel_rfl) Try.func13 (by kernel_rfl)
    (of_decide_eq_true (by kernel_rfl)) (by unfold Func.isWrapper; first | (rw [if_pos (by decide +kernel)]; kernel_rfl) | (rw [if_neg (by decide +kernel)]; exact ⟨rfl, rfl⟩))
    (fun os started H enc _ F => lifted os started H enc F)
end Go.Proofs.Ytedfepnekjjmnaa.heapPlays
