/-
  Rows of strings: how they lie, one's own; the law of append. No condition.
-/
import Derived.Test.YtedfepnekjjmnaaRow
namespace Go.Proofs.Ytedfepnekjjmnaa
open Go.RowKit
set_option linter.unusedSimpArgs false
set_option linter.unusedVariables false

def RS (S : Nat → Prop) (w : World) (xs : List ByteArray) (v : Value) : Prop :=
  ∃ a cap, v = .slice a xs.length cap ∧ CapOk a xs.length cap ∧ ∀ j x, xs[j]? = some x → ∃ b o, a = some ⟨b, o, none⟩ ∧ S b ∧ w.cell? ⟨b, o + j, none⟩ = some (.string x)
theorem RS.to {S S' : Nat → Prop} {w w' : World} {xs : List ByteArray} {v : Value} (h : RS S w xs v) (hs : ∀ b, S b → b < w.heap.size → S' b)
    (hc : ∀ b, S b → b < w.heap.size → w'.heap[b]? = w.heap[b]?) : RS S' w' xs v := by
  obtain ⟨a, cap, rfl, hl, hj⟩ := h
  refine ⟨a, cap, rfl, hl, fun j x hx => ?_⟩
  obtain ⟨b, o, rfl, hS, hcell⟩ := hj j x hx
  have hlt := World.block_lt_of_cell? w _ hcell
  exact ⟨b, o, rfl, hs b hS hlt, by rw [World.cell?_of_block (w := w) (hc b hS hlt)]; exact hcell⟩
theorem RS.below {S : Nat → Prop} {w w' : World} {xs : List ByteArray} {v : Value} (h : RS S w xs v) (hB : Below w.heap.size w w') : RS S w' xs v := h.to (fun _ h _ => h) fun b _ hb => hB.block b hb
theorem RS.mono {S S' : Nat → Prop} {w : World} {xs : List ByteArray} {v : Value} (h : RS S w xs v) (hs : ∀ b, S b → S' b) : RS S' w xs v := h.to (fun b h _ => hs b h) fun _ _ _ => rfl
theorem RS.form {S : Nat → Prop} {w : World} {xs : List ByteArray} {v : Value} (h : RS S w xs v) : ∃ a cap, v = .slice a xs.length cap := by
  obtain ⟨a, cap, rfl, _⟩ := h; exact ⟨a, cap, rfl⟩
theorem RS.addr {S : Nat → Prop} {w : World} {xs : List ByteArray} {a : Option Addr} {n cap : Nat} (h : RS S w xs (.slice a n cap)) (hl : 0 < xs.length) : ∃ b o, a = some ⟨b, o, none⟩ := by
  obtain ⟨a', cap', e, _, hj⟩ := h
  simp only [Value.slice.injEq] at e
  obtain ⟨rfl, _, _⟩ := e
  obtain ⟨b, o, e, _⟩ := hj 0 xs[0] (by simp)
  exact ⟨b, o, e⟩
theorem RS.elem {S : Nat → Prop} {w : World} {xs : List ByteArray} {b o n cap : Nat} (h : RS S w xs (.slice (some ⟨b, o, none⟩) n cap)) (j : Nat) (hj : j < xs.length) : S b ∧ w.cell? ⟨b, o + j, none⟩ = some (.string xs[j]) := by
  obtain ⟨a', cap', e, _, hj'⟩ := h
  simp only [Value.slice.injEq] at e
  obtain ⟨rfl, _, _⟩ := e
  obtain ⟨b', o', e, hS, hc⟩ := hj' j xs[j] (by simp [hj])
  simp only [Option.some.injEq, Addr.mk.injEq, and_true] at e
  obtain ⟨rfl, rfl⟩ := e
  exact ⟨hS, hc⟩
theorem RS.lit (w : World) (xs : List ByteArray) (e : TypeId) : RS (fun b => b = w.heap.size) (w.alloc (.cells (xs.map Value.string).toArray e)) xs (.slice (some ⟨w.heap.size, 0, none⟩) xs.length xs.length) :=
  ⟨_, _, rfl, ⟨Nat.le_refl _, by simp⟩, fun j x hx => ⟨w.heap.size, 0, rfl, rfl, by rw [Nat.zero_add, World.cell?_alloc_new]; simp [hx]⟩⟩
def OwnS (base : Nat) (w : World) (v : Value) (xs : List ByteArray) : Prop := w.ownsRow base 9 1 v xs.length (xs.map Value.string)
theorem OwnS.nil (base : Nat) (w : World) : OwnS base w (.slice none 0 0) [] := World.ownsRow_nil _ _ _ _
theorem OwnS.to {base base' : Nat} {w w' : World} {v : Value} {xs : List ByteArray} (h : OwnS base w v xs) (hb : base' ≤ base)
    (hc : ∀ b, v.ownBlock = some b → b < w.heap.size → w'.heap[b]? = w.heap[b]?) : OwnS base' w' v xs := by
  obtain ⟨h1, h2⟩ := h
  refine ⟨h1, ?_⟩
  rcases h2 with h2 | ⟨g, cap, cur, rfl, hg, hh, r⟩
  · exact .inl h2
  · exact .inr ⟨g, cap, cur, rfl, by omega, by rw [hc g rfl (Array.getElem?_eq_some_iff.1 hh).1]; exact hh, r⟩
theorem OwnS.below {base : Nat} {w w' : World} {v : Value} {xs : List ByteArray} (h : OwnS base w v xs) (hB : Below w.heap.size w w') : OwnS base w' v xs := h.to (Nat.le_refl _) fun b _ hb => hB.block b hb
theorem OwnS.block {base : Nat} {w : World} {v : Value} {xs : List ByteArray} (h : OwnS base w v xs) : ∀ b, v.ownBlock = some b → base ≤ b ∧ b < w.heap.size := h.lt
theorem OwnS.rs {base : Nat} {w : World} {v : Value} {xs : List ByteArray} (h : OwnS base w v xs) : RS (fun b => v.ownBlock = some b) w xs v := by
  have hcell := fun g hg => World.ownsRow.cells h (g := g) hg
  obtain ⟨h1, h2⟩ := h
  rcases h2 with ⟨rfl, h0⟩ | ⟨g, cap, cur, rfl, hg, hh, hn, r⟩
  · have : xs = [] := List.eq_nil_of_length_eq_zero h0
    subst this
    exact ⟨none, 0, rfl, ⟨Nat.le_refl _, fun _ => rfl⟩, fun j u h => by simp at h⟩
  · refine ⟨some ⟨g, 0, none⟩, cap, rfl, ⟨hn, by simp⟩, fun j u hu => ⟨g, 0, rfl, rfl, ?_⟩⟩
    have := hcell g rfl j (.string u) (by simp [hu])
    unfold Addr.add at this
    split at this
    · rename_i h0; subst h0; exact this
    · exact this
theorem OwnS.alloc {base : Nat} {w : World} {v : Value} {xs : List ByteArray} (h : OwnS base w v xs) (o : Obj) : OwnS base (w.alloc o) v xs := h.below (below_alloc w o)
theorem infoStr : (Try.prog.info? 9).map (fun i => (i.zero, i.size, i.bytes)) = some (some (.string ⟨#[]⟩), 1, 16) := by kernel_rfl
section
variable {w : World} {ops : Array Oper} {rest : List Oper} {o : Oper} {a : Act} {Q : Exit → Act → World → Prop}
theorem append_strs (s x : Operand) (hgd : o.guard = none) (ho : o.op = .call { callee := .builtin .append, args := #[s, x], argTypes := #[102, 102] })
    {R : Nat → Prop} {base : Nat} {v u : Value} {xs ys : List ByteArray} (hs : a.eval s = v) (hx : a.eval x = u) (hown : OwnS base w v xs) (hl : RS R w ys u)
    (hn : xs.length + ys.length ≤ 1099511627776) (hbase : base ≤ w.heap.size)
    (h : ∀ v' w', OwnS base w' v' (xs ++ ys) → w.grownBy w' v.ownBlock → (∀ b, v'.ownBlock = some b → v.ownBlock = some b ∨ w.heap.size ≤ b) → wpList Try.prog ops Q rest (a.put o.dst v') w') :
    wpList Try.prog ops Q (o :: rest) a w := by
  obtain ⟨i, hi, hz0, hz1, hz2⟩ := info_parts infoStr
  have ho1 := hown
  obtain ⟨au, cap, rfl, hcap, hj⟩ := hl
  cases au with
  | none =>
    obtain rfl : cap = 0 := hcap.2 rfl
    have h0 : ys = [] := List.eq_nil_of_length_eq_zero (by have := hcap.1; omega)
    subst h0
    refine wpList_append_own_none hgd s x 102 ho base 9 i 1 Try.underlying102 hi v _ _ hs ho1 hx ?_
    exact h v w (by simpa using hown) ⟨rfl, rfl, rfl, Nat.le_refl _, fun _ _ _ => rfl⟩ fun b hb => .inl hb
  | some ad =>
    refine wpList_append_own_at w hgd s x 102 ho base 9 i _ 1 16 Try.underlying102 hi hz0 hz1 hz2 rfl (by decide) v _ _ hs ho1 ad ys.length cap (ys.map Value.string) hx (by simp) ?_ (by simp [Value.oneCell']) ?_ ?_ hbase ?_
    · intro j u' hu
      obtain ⟨y, hy, rfl⟩ : ∃ y, ys[j]? = some y ∧ u' = .string y := by
        rw [List.getElem?_map] at hu; cases hy : ys[j]? with
        | none => simp [hy] at hu
        | some y => simp [hy] at hu; exact ⟨y, rfl, hu.symm⟩
      obtain ⟨b, o', e, _, hc⟩ := hj j y hy
      simp only [Option.some.injEq] at e
      subst e
      unfold Addr.add
      split
      · rename_i h0; subst h0; exact hc
      · exact hc
    · unfold maxLen; omega
    · omega
    · intro v' w' h1 h2 h3 h4
      refine h v' w' (by unfold OwnS; simpa using h1) h2 ?_
      intro b hb
      rcases h4 with h4 | h4
      · exact .inl (by rw [← h4]; exact hb)
      · rw [h4] at hb; simp only [Option.some.injEq] at hb; exact .inr (by omega)
end
end Go.Proofs.Ytedfepnekjjmnaa
