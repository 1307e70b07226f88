/-
  Rows of pairs of terms: how they lie; the law of append on them. No condition.
-/
import Derived.Test.YtedfepnekjjmnaaOwn
namespace Go.Proofs.Ytedfepnekjjmnaa
open Go.RowKit
set_option linter.unusedSimpArgs false
set_option linter.unusedVariables false

def flatP : List (T × T) → List T
  | [] => []
  | p :: r => p.1 :: p.2 :: flatP r
theorem flatP_append (a b : List (T × T)) : flatP (a ++ b) = flatP a ++ flatP b := by
  induction a with
  | nil => rfl
  | cons p a ih => simp [flatP, ih]
theorem flatP_length (a : List (T × T)) : (flatP a).length = 2 * a.length := by
  induction a with
  | nil => rfl
  | cons p a ih => simp [flatP, ih]; omega

/-- A slice of pairs: its row lies in a block of R, what the parts lead to in S. -/
def RSlP (R S : Nat → Prop) (w : World) (ps : List (T × T)) (v : Value) : Prop :=
  ∃ a cap cs, v = .slice a ps.length cap ∧ CapOk a ps.length cap ∧ CellsT S w (flatP ps) cs ∧ ∀ j u, cs[j]? = some u → ∃ b o, a = some ⟨b, o, none⟩ ∧ R b ∧ w.cell? ⟨b, o + j, none⟩ = some u
theorem RSlP.to {R R' S S' : Nat → Prop} {w w' : World} {ps : List (T × T)} {v : Value} (h : RSlP R S w ps v) (hr : ∀ b, R b → b < w.heap.size → R' b) (hs : ∀ b, S b → b < w.heap.size → S' b)
    (hc : ∀ b, S b ∨ R b → b < w.heap.size → w'.heap[b]? = w.heap[b]?) : RSlP R' S' w' ps v := by
  obtain ⟨a, cap, cs, rfl, hl, hC, hj⟩ := h
  refine ⟨a, cap, cs, rfl, hl, hC.to hs (fun b hb => hc b (.inl hb)), fun j u hu => ?_⟩
  obtain ⟨b, o, rfl, hR, hcell⟩ := hj j u hu
  have hlt := World.block_lt_of_cell? w _ hcell
  exact ⟨b, o, rfl, hr b hR hlt, by rw [World.cell?_of_block (w := w) (hc b (.inr hR) hlt)]; exact hcell⟩
theorem RSlP.below {R S : Nat → Prop} {w w' : World} {ps : List (T × T)} {v : Value} (h : RSlP R S w ps v) (hB : Below w.heap.size w w') : RSlP R S w' ps v := h.to (fun _ h _ => h) (fun _ h _ => h) fun b _ hb => hB.block b hb
theorem RSlP.keep {R S K : Nat → Prop} {w w' : World} {ps : List (T × T)} {v : Value} (h : RSlP R S w ps v) (hK : Keep K w w') (hn : ∀ b, S b ∨ R b → ¬ K b) : RSlP R S w' ps v := h.to (fun _ h _ => h) (fun _ h _ => h) fun b hb hl => hK.block b hl (hn b hb)
theorem RSlP.addr {R S : Nat → Prop} {w : World} {ps : List (T × T)} {a : Option Addr} {n cap : Nat} (h : RSlP R S w ps (.slice a n cap)) (hl : 0 < ps.length) : ∃ b o, a = some ⟨b, o, none⟩ ∧ n = ps.length ∧ ps.length ≤ cap := by
  obtain ⟨a', cap', cs, e, hcl, hC, hj⟩ := h
  simp only [Value.slice.injEq] at e
  obtain ⟨rfl, rfl, rfl⟩ := e
  obtain ⟨_, _, h0, _⟩ := hC.at 0 (by rw [flatP_length]; omega)
  obtain ⟨b, o, e, _⟩ := hj _ _ h0
  exact ⟨b, o, e, rfl, hcl.1⟩

/-- The first pair's cells, and how its terms read. -/
theorem RSlP.head {R S : Nat → Prop} {w : World} {p : T × T} {ps : List (T × T)} {b o n cap : Nat} (h : RSlP R S w (p :: ps) (.slice (some ⟨b, o, none⟩) n cap)) :
    ∃ a1 c1 a2 c2, R b ∧ (w.cell? ⟨b, o, none⟩ = some (.int .i64 p.1.kind) ∧ w.cell? ⟨b, o + 1, none⟩ = some (.int .i64 p.1.n) ∧ w.cell? ⟨b, o + 2, none⟩ = some (.string p.1.name) ∧ w.cell? ⟨b, o + 3, none⟩ = some (.slice a1 p.1.args.length c1)) ∧
      (w.cell? ⟨b, o + 4, none⟩ = some (.int .i64 p.2.kind) ∧ w.cell? ⟨b, o + 5, none⟩ = some (.int .i64 p.2.n) ∧ w.cell? ⟨b, o + 6, none⟩ = some (.string p.2.name) ∧ w.cell? ⟨b, o + 7, none⟩ = some (.slice a2 p.2.args.length c2)) ∧
      RT S w p.1 (.agg #[.int .i64 p.1.kind, .int .i64 p.1.n, .string p.1.name, .slice a1 p.1.args.length c1]) ∧ RT S w p.2 (.agg #[.int .i64 p.2.kind, .int .i64 p.2.n, .string p.2.name, .slice a2 p.2.args.length c2]) := by
  obtain ⟨a', cap', cs, e, hcl, hC, hj'⟩ := h
  simp only [Value.slice.injEq] at e
  obtain ⟨rfl, _, _⟩ := e
  obtain ⟨a1, c1, cs', rfl, h1, h2, a2, c2, cs'', rfl, h3, h4, h5⟩ := hC
  have key : ∀ i u, (Value.int IntKind.i64 p.1.kind :: .int .i64 p.1.n :: .string p.1.name :: .slice a1 p.1.args.length c1 :: .int .i64 p.2.kind :: .int .i64 p.2.n :: .string p.2.name :: .slice a2 p.2.args.length c2 :: cs'')[i]? = some u → R b ∧ w.cell? ⟨b, o + i, none⟩ = some u := by
    intro i u hu
    obtain ⟨b', o', e, hR, hc⟩ := hj' i u hu
    simp only [Option.some.injEq, Addr.mk.injEq, and_true] at e
    obtain ⟨rfl, rfl⟩ := e
    exact ⟨hR, hc⟩
  exact ⟨a1, c1, a2, c2, (key 0 _ rfl).1, ⟨(key 0 _ rfl).2, (key 1 _ rfl).2, (key 2 _ rfl).2, (key 3 _ rfl).2⟩, ⟨(key 4 _ rfl).2, (key 5 _ rfl).2, (key 6 _ rfl).2, (key 7 _ rfl).2⟩, ⟨a1, c1, rfl, h1, h2⟩, ⟨a2, c2, rfl, h3, h4⟩⟩

/-- What is behind the first pair. -/
theorem RSlP.tail {R S : Nat → Prop} {w : World} {p : T × T} {ps : List (T × T)} {b o n cap : Nat} (h : RSlP R S w (p :: ps) (.slice (some ⟨b, o, none⟩) n cap)) (b' o' : Nat) (hbo : ps ≠ [] → b' = b ∧ o' = o + 8) :
    RSlP R S w ps (.slice (some ⟨b', o', none⟩) ps.length (cap - 1)) := by
  obtain ⟨a', cap', cs, e, hcl, hC, hj'⟩ := h
  simp only [Value.slice.injEq] at e
  obtain ⟨rfl, _, rfl⟩ := e
  obtain ⟨a1, c1, cs', rfl, h1, h2, a2, c2, cs'', rfl, h3, h4, h5⟩ := hC
  refine ⟨_, _, cs'', rfl, ⟨by have := hcl.1; simp at this; omega, by simp⟩, h5, fun j u hu => ?_⟩
  have hne : ps ≠ [] := by
    intro e
    subst e
    simp only [flatP, CellsT] at h5
    subst h5
    simp at hu
  obtain ⟨rfl, rfl⟩ := hbo hne
  obtain ⟨b', o', e, hR, hc⟩ := hj' (j + 8) u (by simpa using hu)
  simp only [Option.some.injEq, Addr.mk.injEq, and_true] at e
  obtain ⟨rfl, rfl⟩ := e
  exact ⟨_, _, rfl, hR, by rw [show o + 8 + j = o + (j + 8) by omega]; exact hc⟩

def OwnP (S : Nat → Prop) (base : Nat) (w : World) (v : Value) (ps : List (T × T)) : Prop := ∃ cs, w.ownsRow base 107 8 v ps.length cs ∧ CellsT S w (flatP ps) cs
theorem OwnP.nil (S : Nat → Prop) (base : Nat) (w : World) : OwnP S base w (.slice none 0 0) [] := ⟨[], World.ownsRow_nil _ _ _ _, rfl⟩
theorem OwnP.to {S S' : Nat → Prop} {base base' : Nat} {w w' : World} {v : Value} {ps : List (T × T)} (h : OwnP S base w v ps) (hb : base' ≤ base) (hs : ∀ b, S b → b < w.heap.size → S' b)
    (hc : ∀ b, (S b ∨ v.ownBlock = some b) → b < w.heap.size → w'.heap[b]? = w.heap[b]?) : OwnP S' base' w' v ps := by
  obtain ⟨cs, ⟨h1, h2⟩, hC⟩ := h
  refine ⟨cs, ⟨h1, ?_⟩, hC.to hs (fun b hb => hc b (.inl hb))⟩
  rcases h2 with h2 | ⟨g, cap, cur, rfl, hg, hh, r⟩
  · exact .inl h2
  · exact .inr ⟨g, cap, cur, rfl, by omega, by rw [hc g (.inr rfl) (Array.getElem?_eq_some_iff.1 hh).1]; exact hh, r⟩
theorem OwnP.below {S : Nat → Prop} {base : Nat} {w w' : World} {v : Value} {ps : List (T × T)} (h : OwnP S base w v ps) (hB : Below w.heap.size w w') : OwnP S base w' v ps := h.to (Nat.le_refl _) (fun _ h _ => h) fun b _ hb => hB.block b hb
theorem OwnP.alloc {S : Nat → Prop} {base : Nat} {w : World} {v : Value} {ps : List (T × T)} (h : OwnP S base w v ps) (o : Obj) : OwnP S base (w.alloc o) v ps := h.below (below_alloc w o)
theorem OwnP.block {S : Nat → Prop} {base : Nat} {w : World} {v : Value} {ps : List (T × T)} (h : OwnP S base w v ps) : ∀ b, v.ownBlock = some b → base ≤ b ∧ b < w.heap.size := by
  obtain ⟨cs, h, _⟩ := h; exact h.lt
theorem OwnP.form {S : Nat → Prop} {base : Nat} {w : World} {v : Value} {ps : List (T × T)} (h : OwnP S base w v ps) : ∃ a cap, v = .slice a ps.length cap := by
  obtain ⟨cs, ⟨h1, h2⟩, hC⟩ := h
  rcases h2 with ⟨rfl, h0⟩ | ⟨g, cap, cur, rfl, _⟩
  · exact ⟨none, 0, by rw [h0]⟩
  · exact ⟨_, _, rfl⟩
theorem OwnP.rslp {S : Nat → Prop} {base : Nat} {w : World} {v : Value} {ps : List (T × T)} (h : OwnP S base w v ps) : RSlP (fun b => v.ownBlock = some b) S w ps v := by
  obtain ⟨cs, ho, hC⟩ := h
  have hcell := fun g hg => ho.cells (g := g) hg
  obtain ⟨h1, h2⟩ := ho
  rcases h2 with ⟨rfl, h0⟩ | ⟨g, cap, cur, rfl, hg, hh, hn, r⟩
  · have : ps = [] := List.eq_nil_of_length_eq_zero h0
    subst this
    simp only [flatP, CellsT] at hC
    subst hC
    exact ⟨none, 0, [], rfl, ⟨Nat.le_refl _, fun _ => rfl⟩, rfl, fun j u h => by simp at h⟩
  · refine ⟨some ⟨g, 0, none⟩, cap, cs, rfl, ⟨hn, by simp⟩, hC, fun j u hu => ⟨g, 0, rfl, rfl, ?_⟩⟩
    have := hcell g rfl j u hu
    unfold Addr.add at this
    split at this
    · rename_i h0; subst h0; exact this
    · exact this
/-- One pair in a block of its own. -/
theorem RSlP.one {S : Nat → Prop} {w : World} {x y : T} {c0 c1 c2 c3 d0 d1 d2 d3 : Value} (hx : RT S w x (.agg #[c0, c1, c2, c3])) (hy : RT S w y (.agg #[d0, d1, d2, d3])) (e : TypeId) :
    RSlP (fun b => b = w.heap.size) S (w.alloc (.cells #[c0, c1, c2, c3, d0, d1, d2, d3] e)) [(x, y)] (.slice (some ⟨w.heap.size, 0, none⟩) 1 1) := by
  obtain ⟨a, cap, ev, hl, hr⟩ := hx
  obtain ⟨a', cap', ev', hl', hr'⟩ := hy
  simp only [Value.agg.injEq, Array.mk.injEq, List.cons.injEq, and_true] at ev ev'
  obtain ⟨rfl, rfl, rfl, rfl⟩ := ev
  obtain ⟨rfl, rfl, rfl, rfl⟩ := ev'
  refine ⟨_, 1, _, rfl, ⟨Nat.le_refl _, by simp⟩, ⟨a, cap, _, rfl, hl, hr.alloc _, a', cap', [], rfl, hl', hr'.alloc _, rfl⟩, fun j u hu => ⟨w.heap.size, 0, rfl, rfl, ?_⟩⟩
  rw [Nat.zero_add, World.cell?_alloc_new]
  simpa using hu

theorem infoPair : (Try.prog.info? 107).map (fun i => (i.zero.map (fun z => z.cells.size), i.size, i.bytes)) = some (some 8, 8, 112) := by kernel_rfl
section
variable {w : World} {ops : Array Oper} {rest : List Oper} {o : Oper} {a : Act} {Q : Exit → Act → World → Prop}
/-- 'append(x, y...)' on pairs. -/
theorem append_pairs (s x : Operand) (hgd : o.guard = none) (ho : o.op = .call { callee := .builtin .append, args := #[s, x], argTypes := #[108, 108] })
    {S R : Nat → Prop} {base : Nat} {v u : Value} {ps ls : List (T × T)} (hs : a.eval s = v) (hx : a.eval x = u) (hown : OwnP S base w v ps) (hl : RSlP R S w ls u)
    (hS : ∀ b, S b → v.ownBlock ≠ some b) (hn : ps.length + ls.length ≤ 1099511627776) (hbase : base ≤ w.heap.size)
    (h : ∀ v' w', OwnP S base w' v' (ps ++ ls) → w.grownBy w' v.ownBlock → (∀ b, v'.ownBlock = some b → v.ownBlock = some b ∨ w.heap.size ≤ b) → wpList Try.prog ops Q rest (a.put o.dst v') w') :
    wpList Try.prog ops Q (o :: rest) a w := by
  obtain ⟨i, hi, hz0⟩ : ∃ i, Try.prog.info? 107 = some i ∧ (i.zero.map (fun z => z.cells.size), i.size, i.bytes) = (some 8, 8, 112) := by
    have h := infoPair
    cases hq : Try.prog.info? 107 with
    | none => rw [hq] at h; cases h
    | some i => rw [hq] at h; simp only [Option.map_some, Option.some.injEq] at h; exact ⟨i, rfl, h⟩
  simp only [Prod.mk.injEq] at hz0
  obtain ⟨hz, hz1, hz2⟩ := hz0
  obtain ⟨z, hz0, hzc⟩ := Option.map_eq_some_iff.1 hz
  obtain ⟨cs, ho1, hC⟩ := hown
  obtain ⟨au, cap, ds, rfl, hcap, hD, hj⟩ := hl
  have hDl : ds.length = ls.length * 8 := by rw [hD.length, flatP_length]; omega
  cases au with
  | none =>
    obtain rfl : cap = 0 := hcap.2 rfl
    have h0 : ls = [] := List.eq_nil_of_length_eq_zero (by have := hcap.1; omega)
    subst h0
    refine wpList_append_own_none hgd s x 108 ho base 107 i 8 Try.underlying108 hi v _ cs hs ho1 hx ?_
    exact h v w ⟨cs, by simpa using ho1, by simpa using hC⟩ ⟨rfl, rfl, rfl, Nat.le_refl _, fun _ _ _ => rfl⟩ fun b hb => .inl hb
  | some ad =>
    refine wpList_append_own_at w hgd s x 108 ho base 107 i z 8 112 Try.underlying108 hi hz0 hz1 hz2 hzc (by decide) v _ cs hs ho1 ad ls.length cap ds hx hDl ?_ hD.oneCell ?_ ?_ hbase ?_
    · intro j u' hu
      obtain ⟨b, o', e, _, hc⟩ := hj j u' hu
      simp only [Option.some.injEq] at e
      subst e
      unfold Addr.add
      split
      · rename_i h0; subst h0; exact hc
      · exact hc
    · unfold maxLen; omega
    · omega
    · intro v' w' h1 h2 h3 h4
      refine h v' w' ⟨cs ++ ds, by simpa using h1, ?_⟩ h2 ?_
      · rw [flatP_append]
        have hblk : ∀ b, S b → b < w.heap.size → w'.heap[b]? = w.heap[b]? := fun b hb hlt => h2.block b hlt (fun e => hS b hb e.symm)
        exact (hC.to (fun _ h _ => h) hblk).append (hD.to (fun _ h _ => h) hblk)
      · intro b hb
        rcases h4 with h4 | h4
        · exact .inl (by rw [← h4]; exact hb)
        · rw [h4] at hb; simp only [Option.some.injEq] at hb; exact .inr (by omega)

/-- 'append(x, pair)' at a step of a region that draws its order. -/
theorem step_append_pair {K : Act → World → Prop} {E : Prop} {g0 H n : Nat} (s x : Operand) (hgd : o.guard = none) (ho : o.op = .call { callee := .builtin .append, args := #[s, x], argTypes := #[108, 108] })
    {S R : Nat → Prop} {base : Nat} {v : Value} {ps : List (T × T)} {q : T × T} (hs : a.eval s = v) (hx : a.eval x = .slice (some ⟨g0, 0, none⟩) 1 1) (hown : OwnP S base w v ps) (hl : RSlP R S w [q] (.slice (some ⟨g0, 0, none⟩) 1 1))
    (hS : ∀ b, S b → v.ownBlock ≠ some b) (hnl : ps.length = n) (hn : n + 1 ≤ 1099511627776) (hbase : base ≤ w.heap.size) (hH : w.heap.size = H)
    (h : ∀ g cap w', OwnP S base w' (.slice (some ⟨g, 0, none⟩) (n + 1) cap) (ps ++ [q]) → w.grownBy w' v.ownBlock → K (a.put o.dst (.slice (some ⟨g, 0, none⟩) (n + 1) cap)) w') :
    if Region.wanted o (yielded ops a.tmps) = true then Oper.wp Try.prog o a w K Q else E := by
  subst hnl
  obtain ⟨i, hi, hz0⟩ : ∃ i, Try.prog.info? 107 = some i ∧ (i.zero.map (fun z => z.cells.size), i.size, i.bytes) = (some 8, 8, 112) := by
    have h := infoPair
    cases hq : Try.prog.info? 107 with
    | none => rw [hq] at h; cases h
    | some i => rw [hq] at h; simp only [Option.map_some, Option.some.injEq] at h; exact ⟨i, rfl, h⟩
  simp only [Prod.mk.injEq] at hz0
  obtain ⟨hz, hz1, hz2⟩ := hz0
  obtain ⟨z, hz0, hzc⟩ := Option.map_eq_some_iff.1 hz
  obtain ⟨cs, ho1, hC⟩ := hown
  obtain ⟨au, cap, ds, e, hcap, hD, hj⟩ := hl
  simp only [Value.slice.injEq] at e
  obtain ⟨rfl, -, rfl⟩ := e
  have hDl : ds.length = 1 * 8 := by rw [hD.length, flatP_length]; rfl
  refine step_append_lies w hgd s x 108 ho base 107 i z 8 112 Try.underlying108 hi hz0 hz1 hz2 hzc (by decide) v _ cs hs ho1 ⟨g0, 0, none⟩ 1 1 ds hx hDl ?_ hD.oneCell (by decide) ?_ ?_ hbase H hH ?_
  · intro j u' hu
    obtain ⟨b, o', e, _, hc⟩ := hj j u' hu
    simp only [Option.some.injEq] at e
    rw [e]
    unfold Addr.add
    split
    · rename_i h0; subst h0; exact hc
    · exact hc
  · unfold maxLen; omega
  · omega
  · intro g cap w' h1 h2 _ _
    refine h g cap w' ⟨cs ++ ds, by simpa using h1, ?_⟩ h2
    rw [flatP_append]
    have hblk : ∀ b, S b → b < w.heap.size → w'.heap[b]? = w.heap[b]? := fun b hb hlt => h2.block b hlt (fun e => hS b hb e.symm)
    exact (hC.to (fun _ h _ => h) hblk).append (hD.to (fun _ h _ => h) hblk)
end
end Go.Proofs.Ytedfepnekjjmnaa
