/-
  Rows that a call grows one term at a time, whose parts may be new too: the law of append on them. No condition.
-/
import Derived.Test.YtedfepnekjjmnabDoorRow
namespace Go.Proofs.YtedfepnekjjmnabDoor
open Go.RowKit
set_option linter.unusedSimpArgs false
set_option linter.unusedVariables false

/-- A row of the call's own; what its terms hold lies in blocks of P that aren't the row's own. -/
def OwnG (P : Nat → Prop) (base : Nat) (w : World) (v : Value) (ts : List T) : Prop :=
  OwnT (fun b => P b ∧ b < w.heap.size ∧ v.ownBlock ≠ some b) base w v ts

theorem OwnG.nil (P : Nat → Prop) (base : Nat) (w : World) : OwnG P base w (.slice none 0 0) [] := OwnT.nil _ _ _
theorem OwnG.to {P : Nat → Prop} {base : Nat} {w w' : World} {v : Value} {ts : List T} (h : OwnG P base w v ts) (hl : w.heap.size ≤ w'.heap.size)
    (hc : ∀ b, (P b ∨ v.ownBlock = some b) → b < w.heap.size → w'.heap[b]? = w.heap[b]?) : OwnG P base w' v ts :=
  OwnT.to h (Nat.le_refl _) (fun b hb _ => ⟨hb.1, by have := hb.2.1; omega, hb.2.2⟩) fun b hb => hc b (hb.imp (·.1) id)
theorem OwnG.below {P : Nat → Prop} {base : Nat} {w w' : World} {v : Value} {ts : List T} (h : OwnG P base w v ts) (hB : Below w.heap.size w w') : OwnG P base w' v ts :=
  h.to hB.size fun b _ hb => hB.block b hb
theorem OwnG.alloc {P : Nat → Prop} {base : Nat} {w : World} {v : Value} {ts : List T} (h : OwnG P base w v ts) (o : Obj) : OwnG P base (w.alloc o) v ts := h.below (below_alloc w o)
theorem OwnG.block {P : Nat → Prop} {base : Nat} {w : World} {v : Value} {ts : List T} (h : OwnG P base w v ts) : ∀ b, v.ownBlock = some b → base ≤ b ∧ b < w.heap.size := OwnT.block h
theorem OwnG.setCell {P : Nat → Prop} {base : Nat} {w : World} {v : Value} {ts : List T} (h : OwnG P base w v ts) (B o : Nat) (u : Value) (hB : B < base) (hP : ¬ P B) : OwnG P base (w.setCell ⟨B, o, none⟩ u) v ts :=
  h.to (by simp) fun b hb _ => setCell_other w B o u b fun e => by
    subst e
    rcases hb with hb | hb
    · exact hP hb
    · have := h.block _ hb; omega
theorem OwnG.rsl {P : Nat → Prop} {base : Nat} {w : World} {v : Value} {ts : List T} (h : OwnG P base w v ts) (hP : ∀ b, base ≤ b → P b) : RSl P w ts v :=
  (OwnT.rsl2 h).rsl.mono fun b hb => by
    rcases hb with hb | hb
    · exact hP b (h.block b hb).1
    · exact hb.1

theorem OwnG.form {P : Nat → Prop} {base : Nat} {w : World} {v : Value} {ts : List T} (h : OwnG P base w v ts) : ∃ a cap, v = .slice a ts.length cap := (OwnT.rsl2 h).form

section
variable {ops : Array Oper} {rest : List Oper} {o : Oper} {a : Act} {Q : Exit → Act → World → Prop}
/-- 'append(s, x)'. -/
theorem append_grow (s x : Operand) (hgd : o.guard = none) (ho : o.op = .call { callee := .builtin .append, args := #[s, x], argTypes := #[22, 22] })
    {P R : Nat → Prop} {base : Nat} {w0 : World} {v : Value} {ts : List T} {t : T} {c0 c1 c2 c3 : Value} (hs : a.eval s = v) (hx : a.eval x = .slice (some ⟨w0.heap.size, 0, none⟩) 1 1) (hown : OwnG P base w0 v ts)
    (ht : RT R w0 t (.agg #[c0, c1, c2, c3])) (hR : ∀ b, R b → b < w0.heap.size → P b ∧ v.ownBlock ≠ some b) (hn : ts.length + 1 ≤ 1099511627776) (hbase : base ≤ w0.heap.size)
    (h : ∀ v' w', OwnG P base w' v' (ts ++ [t]) → Below base w0 w' → (∀ b, v'.ownBlock = some b → v.ownBlock = some b ∨ w0.heap.size ≤ b) → wpList Tryd.prog ops Q rest (a.put o.dst v') w') :
    wpList Tryd.prog ops Q (o :: rest) a (w0.alloc (.cells #[c0, c1, c2, c3] 24)) := by
  have hlt := hown.block
  refine append_terms (base := base) (S := fun b => P b ∧ b < w0.heap.size ∧ v.ownBlock ≠ some b) s x hgd ho hs hx (OwnT.to hown (Nat.le_refl _) (fun _ h _ => h) fun b _ hb => Below.heap_alloc _ _ _ hb)
    ((ht.to (S' := fun b => P b ∧ b < w0.heap.size ∧ v.ownBlock ≠ some b) (fun b hb hl => ⟨(hR b hb hl).1, hl, (hR b hb hl).2⟩) fun _ _ _ => rfl).one 24) (fun b hb => hb.2.2) hn (by simp; omega) ?_
  intro v' w' h1 h2 h3
  have h2s := h2.size
  simp only [World.size_alloc] at h2s h3
  refine h v' w' (h1.to (Nat.le_refl _) (fun b hb _ => ⟨hb.1, by have := hb.2.1; omega, fun e => ?_⟩) fun _ _ _ => rfl) ?_ ?_
  · rcases h3 b e with h4 | h4
    · exact hb.2.2 h4
    · have := hb.2.1; omega
  · exact grown_below ((Below.refl _ _).alloc hbase _) h2 (by simp; omega) fun b hb => (hlt b hb).1
  · intro b hb
    rcases h3 b hb with h4 | h4
    · exact .inl h4
    · exact .inr (by omega)
/-- The same, the block by its number. -/
theorem append_grow' (s x : Operand) (hgd : o.guard = none) (ho : o.op = .call { callee := .builtin .append, args := #[s, x], argTypes := #[22, 22] })
    {P R : Nat → Prop} {base : Nat} {w0 : World} {v : Value} {ts : List T} {t : T} {c0 c1 c2 c3 : Value} {g : Nat} (hs : a.eval s = v) (hx : a.eval x = .slice (some ⟨g, 0, none⟩) 1 1) (hg : g = w0.heap.size) (hown : OwnG P base w0 v ts)
    (ht : RT R w0 t (.agg #[c0, c1, c2, c3])) (hR : ∀ b, R b → b < w0.heap.size → P b ∧ v.ownBlock ≠ some b) (hn : ts.length + 1 ≤ 1099511627776) (hbase : base ≤ w0.heap.size)
    (h : ∀ v' w', OwnG P base w' v' (ts ++ [t]) → Below base w0 w' → (∀ b, v'.ownBlock = some b → v.ownBlock = some b ∨ w0.heap.size ≤ b) → wpList Tryd.prog ops Q rest (a.put o.dst v') w') :
    wpList Tryd.prog ops Q (o :: rest) a (w0.alloc (.cells #[c0, c1, c2, c3] 24)) := by
  subst hg
  exact append_grow s x hgd ho hs hx hown ht hR hn hbase h
end
end Go.Proofs.YtedfepnekjjmnabDoor
