/-
  A row of open tuples: how it lies, and what carries it from world to world. No condition.
-/
import Derived.Test.YtedfepnekjjmnaaBulkP
import Derived.Test.YtedfepnekjjmnaaOwn
import Derived.Test.YtedfepnekjjmnaaBox
namespace Go.Proofs.Ytedfepnekjjmnaa
open Go.RowKit
set_option linter.unusedSimpArgs false
set_option linter.unusedVariables false

/-- The cells of a row of open tuples whose rows of parts are given, the top first. -/
def opC : List Value → List Value
  | [] => []
  | r :: q => opC q ++ [.int .i64 (if q.isEmpty then 0 else 4), .int .i64 0, .string ⟨#[]⟩, r]
theorem opC_length (rs : List Value) : (opC rs).length = rs.length * 4 := by
  induction rs with
  | nil => rfl
  | cons r q ih => simp only [opC, List.length_append, ih, List.length_cons, List.length_nil]; omega
theorem opC_oneCell : ∀ (rs : List Value), (∀ r ∈ rs, ∃ a n cap, r = .slice a n cap) → ∀ u ∈ opC rs, u.oneCell' = true
  | [], _, u, hu => by simp [opC] at hu
  | r :: q, h, u, hu => by
    simp only [opC, List.mem_append, List.mem_cons, List.not_mem_nil, or_false] at hu
    rcases hu with hu | rfl | rfl | rfl | rfl
    · exact opC_oneCell q (fun r hr => h r (by simp [hr])) u hu
    · rfl
    · rfl
    · rfl
    · obtain ⟨a, n, cap, rfl⟩ := h u (by simp); rfl
/-- The rows of parts: each one's own, in blocks of their own; what they hold lies in blocks of F. -/
def PartR (F : Nat → Prop) (g base : Nat) (w : World) : List Value → List (List T) → Prop
  | [], [] => True
  | r :: q, a :: st => OwnT F base w r a ∧ (∀ b, r.ownBlock = some b → ¬ F b ∧ b ≠ g ∧ ∀ x ∈ q, x.ownBlock ≠ some b) ∧ PartR F g base w q st
  | _, _ => False
structure OpenR (F : Nat → Prop) (base : Nat) (w : World) (g cap : Nat) (rs : List Value) (st : List (List T)) : Prop where
  row : w.ownsRow base 29 4 (.slice (some ⟨g, 0, none⟩) rs.length cap) rs.length (opC rs)
  parts : PartR F g base w rs st
  apart : ¬ F g
  old : ∀ b, F b → base ≤ b ∧ b < w.heap.size
theorem PartR.length {F : Nat → Prop} {g base : Nat} {w : World} : ∀ {rs : List Value} {st : List (List T)}, PartR F g base w rs st → rs.length = st.length
  | [], [], _ => rfl
  | r :: q, a :: st, h => by simp [PartR.length h.2.2]
  | [], _ :: _, h => h.elim
  | _ :: _, [], h => h.elim
theorem OpenR.length {F : Nat → Prop} {base : Nat} {w : World} {g cap : Nat} {rs : List Value} {st : List (List T)} (h : OpenR F base w g cap rs st) : rs.length = st.length := h.parts.length
theorem PartR.block {F : Nat → Prop} {g base : Nat} {w : World} : ∀ {rs : List Value} {st : List (List T)}, PartR F g base w rs st → ∀ r ∈ rs, ∀ b, r.ownBlock = some b → base ≤ b ∧ b < w.heap.size ∧ ¬ F b ∧ b ≠ g
  | [], [], _, r, hr, _, _ => by cases hr
  | r :: q, a :: st, h, x, hx, b, hb => by
    rcases List.mem_cons.1 hx with rfl | hx
    · exact ⟨(h.1.block b hb).1, (h.1.block b hb).2, (h.2.1 b hb).1, (h.2.1 b hb).2.1⟩
    · exact PartR.block h.2.2 x hx b hb
  | [], _ :: _, h, _, _, _, _ => h.elim
  | _ :: _, [], h, _, _, _, _ => h.elim
/-- From world to world: what lies in F and in the rows' blocks is as it was. -/
theorem PartR.to {F : Nat → Prop} {g g' base : Nat} {w w' : World} : ∀ {rs : List Value} {st : List (List T)}, PartR F g base w rs st → (∀ b, F b → b < w.heap.size → w'.heap[b]? = w.heap[b]?) →
    (∀ r ∈ rs, ∀ b, r.ownBlock = some b → b ≠ g' ∧ w'.heap[b]? = w.heap[b]?) → PartR F g' base w' rs st
  | [], [], _, _, _ => trivial
  | r :: q, a :: st, h, hF, hr => by
    refine ⟨OwnT.to h.1 (Nat.le_refl _) (fun _ h _ => h) fun b hb hl => ?_, fun b hb => ⟨(h.2.1 b hb).1, (hr r (by simp) b hb).1, (h.2.1 b hb).2.2⟩, PartR.to h.2.2 hF fun x hx => hr x (by simp [hx])⟩
    rcases hb with hb | hb
    · exact hF b hb hl
    · exact (hr r (by simp) b hb).2
  | [], _ :: _, h, _, _ => h.elim
  | _ :: _, [], h, _, _ => h.elim
/-- More is finished. -/
theorem PartR.more {F F' : Nat → Prop} {g base : Nat} {w : World} : ∀ {rs : List Value} {st : List (List T)}, PartR F g base w rs st → (∀ b, F b → F' b) → (∀ r ∈ rs, ∀ b, r.ownBlock = some b → ¬ F' b) → PartR F' g base w rs st
  | [], [], _, _, _ => trivial
  | r :: q, a :: st, h, hF, hr =>
    ⟨OwnT.to h.1 (Nat.le_refl _) (fun b hb _ => hF b hb) (fun _ _ _ => rfl), fun b hb => ⟨hr r (by simp) b hb, (h.2.1 b hb).2⟩, PartR.more h.2.2 hF fun x hx => hr x (by simp [hx])⟩
  | [], _ :: _, h, _, _ => h.elim
  | _ :: _, [], h, _, _ => h.elim
theorem OpenR.frozen {F : Nat → Prop} {base : Nat} {w : World} {g cap : Nat} {rs : List Value} {st : List (List T)} (h : OpenR F base w g cap rs st) (o : Nat) : w.frozen? ⟨g, o, none⟩ = false := by
  obtain ⟨_, h2⟩ := h.row
  rcases h2 with ⟨h2, -⟩ | ⟨g', cap', cur, ev, hg, hh, -⟩
  · cases h2
  simp only [Value.slice.injEq, Option.some.injEq, Addr.mk.injEq, and_true] at ev
  obtain ⟨rfl, -, -⟩ := ev
  exact frozen_of_row w g o cur 29 hh
theorem OpenR.lt {F : Nat → Prop} {base : Nat} {w : World} {g cap : Nat} {rs : List Value} {st : List (List T)} (h : OpenR F base w g cap rs st) : base ≤ g ∧ g < w.heap.size := h.row.lt g rfl
theorem OpenR.cap {F : Nat → Prop} {base : Nat} {w : World} {g cap : Nat} {rs : List Value} {st : List (List T)} (h : OpenR F base w g cap rs st) : rs.length ≤ cap ∧ cap ≤ maxLen := by
  obtain ⟨_, h2⟩ := h.row
  rcases h2 with ⟨h2, -⟩ | ⟨g', cap', cur, ev, hg, hh, h1, h2, -⟩
  · cases h2
  simp only [Value.slice.injEq, Option.some.injEq, Addr.mk.injEq, and_true] at ev
  obtain ⟨rfl, -, rfl⟩ := ev
  exact ⟨h1, h2⟩
/-- The top's cells. -/
theorem OpenR.top {F : Nat → Prop} {base : Nat} {w : World} {g cap : Nat} {r : Value} {q : List Value} {st : List (List T)} (h : OpenR F base w g cap (r :: q) st) :
    w.cell? ⟨g, q.length * 4, none⟩ = some (.int .i64 (if q.isEmpty then 0 else 4)) ∧ w.cell? ⟨g, q.length * 4 + 1, none⟩ = some (.int .i64 0) ∧ w.cell? ⟨g, q.length * 4 + 2, none⟩ = some (.string ⟨#[]⟩) ∧ w.cell? ⟨g, q.length * 4 + 3, none⟩ = some r := by
  have hc := World.ownsRow.cells h.row (g := g) rfl
  have key : ∀ j u, (opC (r :: q))[j]? = some u → w.cell? ⟨g, j, none⟩ = some u := fun j u hu => by
    have := hc j u hu
    unfold Addr.add at this
    split at this
    · rename_i h0; subst h0; exact this
    · simpa using this
  have e : ∀ j, (opC (r :: q))[q.length * 4 + j]? = [Value.int .i64 (if q.isEmpty then 0 else 4), .int .i64 0, .string ⟨#[]⟩, r][j]? := fun j => by
    simp only [opC]
    rw [List.getElem?_append_right (by rw [opC_length]; omega), opC_length]
    congr 1; omega
  exact ⟨key _ _ (e 0), key _ _ (e 1), key _ _ (e 2), key _ _ (e 3)⟩
/-- The cells of the one below. -/
theorem ownsRow_pop {base : Nat} {w : World} {g cap : Nat} {r : Value} {q : List Value} (h : w.ownsRow base 29 4 (.slice (some ⟨g, 0, none⟩) (r :: q).length cap) (r :: q).length (opC (r :: q))) : w.ownsRow base 29 4 (.slice (some ⟨g, 0, none⟩) q.length cap) q.length (opC q) := by
  obtain ⟨_, h2⟩ := h
  rcases h2 with ⟨h2, -⟩ | ⟨g', cap', cur, ev, hg, hh, h1, h2, h3, h4⟩
  · cases h2
  simp only [Value.slice.injEq, Option.some.injEq, Addr.mk.injEq, and_true] at ev
  obtain ⟨rfl, -, rfl⟩ := ev
  simp only [List.length_cons] at h1 h4
  refine ⟨opC_length q, .inr ⟨g, cap, cur, rfl, hg, hh, by omega, h2, h3, ?_⟩⟩
  have : (cur.toList.take ((q.length + 1) * 4)).take (q.length * 4) = (opC (r :: q)).take (q.length * 4) := by rw [h4]
  rw [List.take_take, Nat.min_eq_left (by omega)] at this
  rw [this, opC, ← opC_length q, List.take_left]
/-- The top is closed: it is a term, and one less is open. -/
theorem OpenR.pop {F : Nat → Prop} {base : Nat} {w : World} {g cap : Nat} {r : Value} {q : List Value} {a : List T} {st : List (List T)} (h : OpenR F base w g cap (r :: q) (a :: st)) (hq : q ≠ []) :
    OpenR (fun b => F b ∨ r.ownBlock = some b) base w g cap q st ∧ RT (fun b => F b ∨ r.ownBlock = some b) w (tupT a) (.agg #[.int .i64 4, .int .i64 0, .string ⟨#[]⟩, r]) := by
  obtain ⟨h1, h2, h3⟩ := h.parts
  refine ⟨⟨ownsRow_pop h.row, h3.more (fun b hb => .inl hb) fun x hx b hb => ?_, ?_, ?_⟩, ?_⟩
  · rintro (hF | hr)
    · exact (h3.block x hx b hb).2.2.1 hF
    · exact (h2 b hr).2.2 x hx hb
  · rintro (hF | hr)
    · exact h.apart hF
    · exact (h2 g hr).2.1 rfl
  · rintro b (hF | hr)
    · exact h.old b hF
    · exact h1.block b hr
  · obtain ⟨ar, capr, e, hc, hR⟩ := h1.rsl2.rsl
    exact ⟨ar, capr, by rw [e]; rfl, hc, hR.to (fun b hb _ => by rcases hb with hb | hb; exact .inr hb; exact .inl hb) fun _ _ _ => rfl⟩

/-- One more is opened. -/
theorem OpenR.push {F : Nat → Prop} {base : Nat} {w w1 w2 : World} {g cap g' cap' : Nat} {rs : List Value} {st : List (List T)} (h : OpenR F base w g cap rs st)
    (h1 : ∀ b, b < w.heap.size → w1.heap[b]? = w.heap[b]?) (hs1 : w.heap.size ≤ w1.heap.size)
    (hrow : w2.ownsRow base 29 4 (.slice (some ⟨g', 0, none⟩) (rs.length + 1) cap') (rs.length + 1) (opC rs ++ [.int .i64 4, .int .i64 0, .string ⟨#[]⟩, .slice none 0 0])) (hne : rs ≠ [])
    (hg : w1.grownBy w2 (some g)) (hg' : g = g' ∨ w.heap.size ≤ g') : OpenR F base w2 g' cap' (.slice none 0 0 :: rs) ([] :: st) := by
  have hs2 := hg.size
  have key : ∀ b, b < w.heap.size → b ≠ g → w2.heap[b]? = w.heap[b]? := fun b hb hne => (hg.block b (by omega) (fun e => hne (by simpa using e))).trans (h1 b hb)
  refine ⟨?_, ⟨OwnT.nil _ _ _, (fun b hb => by cases hb), h.parts.to (fun b hb hl => key b hl fun e => h.apart (e ▸ hb)) fun r hr b hb => ?_⟩, fun hF => ?_, fun b hb => ⟨(h.old b hb).1, by have := (h.old b hb).2; omega⟩⟩
  · have e : opC (.slice none 0 0 :: rs) = opC rs ++ [.int .i64 4, .int .i64 0, .string ⟨#[]⟩, .slice none 0 0] := by
      rw [opC]; cases rs with
      | nil => exact absurd rfl hne
      | cons r q => rfl
    rw [e]; exact hrow
  · have hk := h.parts.block r hr b hb
    refine ⟨fun e => ?_, key b hk.2.1 hk.2.2.2⟩
    subst e
    rcases hg' with e | hl
    · exact hk.2.2.2 e.symm
    · omega
  · rcases hg' with e | hl
    · exact h.apart (e ▸ hF)
    · have := (h.old _ hF).2; omega
theorem ownsRow_put {base : Nat} {w : World} {g cap : Nat} {r r' : Value} {q : List Value} (h : w.ownsRow base 29 4 (.slice (some ⟨g, 0, none⟩) (r :: q).length cap) (r :: q).length (opC (r :: q))) :
    (w.setCell ⟨g, q.length * 4 + 3, none⟩ r').ownsRow base 29 4 (.slice (some ⟨g, 0, none⟩) (r' :: q).length cap) (r' :: q).length (opC (r' :: q)) := by
  obtain ⟨_, h2⟩ := h
  rcases h2 with ⟨h2, -⟩ | ⟨g', cap', cur, ev, hg, hh, h1, h2, h3, h4⟩
  · cases h2
  simp only [Value.slice.injEq, Option.some.injEq, Addr.mk.injEq, and_true] at ev
  obtain ⟨rfl, -, rfl⟩ := ev
  refine ⟨opC_length _, .inr ⟨g, cap, _, rfl, hg, heap_setCell_same w g (q.length * 4 + 3) cur 29 r' hh, by simpa using h1, h2, by simpa using h3, ?_⟩⟩
  simp only [List.length_cons] at h4 ⊢
  rw [Array.toList_setIfInBounds, List.take_set, h4, opC, opC, List.set_append_right _ _ (by rw [opC_length]; omega), opC_length, Nat.add_sub_cancel_left]
  rfl
/-- A term is put onto the top. -/
theorem OpenR.put {F : Nat → Prop} {base : Nat} {w w1 w2 : World} {g cap : Nat} {r r' : Value} {q : List Value} {a a' : List T} {st : List (List T)} (h : OpenR F base w g cap (r :: q) (a :: st))
    (h1 : ∀ b, b < w.heap.size → w1.heap[b]? = w.heap[b]?) (hs1 : w.heap.size ≤ w1.heap.size)
    (hown : OwnT F base w2 r' a') (hg : w1.grownBy w2 r.ownBlock) (hr' : ∀ b, r'.ownBlock = some b → r.ownBlock = some b ∨ w.heap.size ≤ b) :
    OpenR F base (w2.setCell ⟨g, q.length * 4 + 3, none⟩ r') g cap (r' :: q) (a' :: st) := by
  have hs2 := hg.size
  obtain ⟨p1, p2, p3⟩ := h.parts
  have hlt := h.lt
  have key : ∀ b, b < w.heap.size → r.ownBlock ≠ some b → w2.heap[b]? = w.heap[b]? := fun b hb hne => (hg.block b (by omega) fun e => hne e.symm).trans (h1 b hb)
  have hrg : r.ownBlock ≠ some g := fun e => (p2 g e).2.1 rfl
  have hr'b : ∀ b, r'.ownBlock = some b → ¬ F b ∧ b ≠ g ∧ ∀ x ∈ q, x.ownBlock ≠ some b := fun b hb => by
    rcases hr' b hb with h2 | h2
    · exact p2 b h2
    · exact ⟨fun hF => by have := (h.old b hF).2; omega, by omega, fun x hx e => by have := (p3.block x hx b e).2.1; omega⟩
  have hrow : w2.ownsRow base 29 4 (.slice (some ⟨g, 0, none⟩) (r :: q).length cap) (r :: q).length (opC (r :: q)) := by
    obtain ⟨h3, h4⟩ := h.row
    refine ⟨h3, ?_⟩
    rcases h4 with h4 | ⟨g', cap', cur, ev, hgb, hh, h4⟩
    · exact .inl h4
    · have ev' := ev
      simp only [Value.slice.injEq, Option.some.injEq, Addr.mk.injEq, and_true] at ev'
      obtain ⟨rfl, -, rfl⟩ := ev'
      exact .inr ⟨g, cap, cur, ev, hgb, by rw [key g hlt.2 hrg]; exact hh, h4⟩
  have hset : ∀ b, b ≠ g → (w2.setCell ⟨g, q.length * 4 + 3, none⟩ r').heap[b]? = w2.heap[b]? := fun b hb => setCell_other _ _ _ _ _ hb
  refine ⟨ownsRow_put hrow, ⟨OwnT.to hown (Nat.le_refl _) (fun _ h _ => h) fun b hb _ => hset b ?_, hr'b, p3.to (fun b hb hl => ?_) fun x hx b hb => ?_⟩, h.apart, fun b hb => ⟨(h.old b hb).1, by have := (h.old b hb).2; simp; omega⟩⟩
  · rcases hb with hb | hb
    · intro e; subst e; exact h.apart hb
    · exact (hr'b b hb).2.1
  · rw [hset b (fun e => h.apart (e ▸ hb)), key b hl fun e => (p2 b e).1 hb]
  · have hk := p3.block x hx b hb
    exact ⟨hk.2.2.2, by rw [hset b hk.2.2.2, key b hk.2.1 fun e => (p2 b e).2.2 x hx hb]⟩
theorem OpenR.to {F : Nat → Prop} {base : Nat} {w w' : World} {g cap : Nat} {rs : List Value} {st : List (List T)} (h : OpenR F base w g cap rs st) (hB : Below w.heap.size w w') : OpenR F base w' g cap rs st := by
  have hlt := h.lt
  refine ⟨?_, h.parts.to (fun b hb hl => hB.block b hl) fun r hr b hb => ?_, h.apart, fun b hb => ⟨(h.old b hb).1, by have := (h.old b hb).2; have := hB.size; omega⟩⟩
  · obtain ⟨h3, h4⟩ := h.row
    refine ⟨h3, ?_⟩
    rcases h4 with h4 | ⟨g', cap', cur, ev, hgb, hh, h4⟩
    · exact .inl h4
    · have ev' := ev
      simp only [Value.slice.injEq, Option.some.injEq, Addr.mk.injEq, and_true] at ev'
      obtain ⟨rfl, -, rfl⟩ := ev'
      exact .inr ⟨g, cap, cur, ev, hgb, by rw [hB.block g hlt.2]; exact hh, h4⟩
  · have hk := h.parts.block r hr b hb
    exact ⟨hk.2.2.2, hB.block b hk.2.1⟩
/-- The first one: below them all there is. -/
theorem OpenR.start {w : World} (base : Nat) (hb : base ≤ w.heap.size) : OpenR (fun _ => False) base (w.alloc (.cells #[.int .i64 0, .int .i64 0, .string ⟨#[]⟩, .slice none 0 0] 29)) w.heap.size 1 [.slice none 0 0] [[]] :=
  ⟨World.ownsRow_lit w _ 1 hb (by decide) rfl, ⟨OwnT.nil _ _ _, (fun b hb => by cases hb), trivial⟩, fun h => h, fun b h => h.elim⟩
theorem OpenR.start' {w : World} (base g : Nat) (hg : g = w.heap.size) (hb : base ≤ w.heap.size) : OpenR (fun _ => False) base (w.alloc (.cells #[.int .i64 0, .int .i64 0, .string ⟨#[]⟩, .slice none 0 0] 29)) g 1 [.slice none 0 0] [[]] := by
  subst hg; exact OpenR.start base hb
end Go.Proofs.Ytedfepnekjjmnaa
