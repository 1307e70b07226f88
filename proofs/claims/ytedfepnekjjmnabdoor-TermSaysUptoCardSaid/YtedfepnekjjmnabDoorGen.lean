/-
  Rows of whatever elements: how they lie, one's own; the laws of append in these words. No condition.
-/
import Derived.Test.YtedfepnekjjmnabDoorRow
namespace Go.Proofs.YtedfepnekjjmnabDoor
open Go.RowKit
set_option linter.unusedSimpArgs false
set_option linter.unusedVariables false

/-- What an element's cells are; what it leads to lies in S. -/
structure El (X : Type) where
  k : Nat
  C : (Nat → Prop) → World → X → List Value → Prop
  len : ∀ {S w x cs}, C S w x cs → cs.length = k
  one : ∀ {S w x cs}, C S w x cs → ∀ u ∈ cs, u.oneCell' = true
  to : ∀ {S S' w w' x cs}, C S w x cs → (∀ b, S b → b < w.heap.size → S' b) → (∀ b, S b → b < w.heap.size → w'.heap[b]? = w.heap[b]?) → C S' w' x cs
/-- The program's word for it. -/
structure ElT {X : Type} (E : El X) where
  e : TypeId
  sl : TypeId
  bytes : Nat
  z : Value
  hund : Tryd.prog.underlying sl = some (.slice e)
  info : (Tryd.prog.info? e).map (fun i => (i.zero, i.size, i.bytes)) = some (some z, E.k, bytes)
  hzs : z.cells.size = E.k
  hk : 0 < E.k
  hb : bytes ≤ 512

section
variable {X : Type} {E : El X}
def CellsX (E : El X) (S : Nat → Prop) (w : World) : List X → List Value → Prop
  | [], cs => cs = []
  | x :: xs, cs => ∃ c cs', cs = c ++ cs' ∧ E.C S w x c ∧ CellsX E S w xs cs'
theorem CellsX.length {S : Nat → Prop} {w : World} {xs : List X} {cs : List Value} (h : CellsX E S w xs cs) : cs.length = xs.length * E.k := by
  induction xs generalizing cs with
  | nil => simp only [CellsX] at h; subst h; simp
  | cons x xs ih => obtain ⟨c, cs', rfl, h1, h2⟩ := h; simp only [List.length_append, E.len h1, ih h2, List.length_cons, Nat.succ_mul]; omega
theorem CellsX.append {S : Nat → Prop} {w : World} {xs ys : List X} {cs ds : List Value} (h : CellsX E S w xs cs) (h' : CellsX E S w ys ds) : CellsX E S w (xs ++ ys) (cs ++ ds) := by
  induction xs generalizing cs with
  | nil => simp only [CellsX] at h; subst h; exact h'
  | cons x xs ih => obtain ⟨c, cs', rfl, h1, h2⟩ := h; exact ⟨c, cs' ++ ds, by simp, h1, ih h2⟩
theorem CellsX.oneCell {S : Nat → Prop} {w : World} {xs : List X} {cs : List Value} (h : CellsX E S w xs cs) : ∀ u ∈ cs, u.oneCell' = true := by
  induction xs generalizing cs with
  | nil => simp only [CellsX] at h; subst h; simp
  | cons x xs ih =>
    obtain ⟨c, cs', rfl, h1, h2⟩ := h
    intro u hu
    rcases List.mem_append.1 hu with hu | hu
    · exact E.one h1 u hu
    · exact ih h2 u hu
theorem CellsX.to {S S' : Nat → Prop} {w w' : World} {xs : List X} {cs : List Value} (h : CellsX E S w xs cs) (hs : ∀ b, S b → b < w.heap.size → S' b)
    (hc : ∀ b, S b → b < w.heap.size → w'.heap[b]? = w.heap[b]?) : CellsX E S' w' xs cs := by
  induction xs generalizing cs with
  | nil => exact h
  | cons x xs ih => obtain ⟨c, cs', rfl, h1, h2⟩ := h; exact ⟨c, cs', rfl, E.to h1 hs hc, ih h2⟩
theorem CellsX.at {S : Nat → Prop} {w : World} {xs : List X} {cs : List Value} (h : CellsX E S w xs cs) (j : Nat) (hj : j < xs.length) :
    ∃ c, E.C S w xs[j] c ∧ ∀ i u, c[i]? = some u → cs[j * E.k + i]? = some u := by
  induction xs generalizing cs j with
  | nil => cases hj
  | cons x xs ih =>
    obtain ⟨c, cs', rfl, h1, h2⟩ := h
    have hl := E.len h1
    cases j with
    | zero =>
      refine ⟨c, h1, fun i u hu => ?_⟩
      rw [Nat.zero_mul, Nat.zero_add, List.getElem?_append_left (List.getElem?_eq_some_iff.1 hu).1]; exact hu
    | succ j =>
      obtain ⟨c', g1, g2⟩ := ih h2 j (by simpa using hj)
      refine ⟨c', g1, fun i u hu => ?_⟩
      rw [List.getElem?_append_right (by rw [hl, Nat.succ_mul]; omega), hl, show (j + 1) * E.k + i - E.k = j * E.k + i by rw [Nat.succ_mul]; omega]
      exact g2 i u hu

/-- A slice: its row lies in a block of R, what the elements lead to in S. -/
def RX (E : El X) (R S : Nat → Prop) (w : World) (xs : List X) (v : Value) : Prop :=
  ∃ a cap cs, v = .slice a xs.length cap ∧ CapOk a xs.length cap ∧ CellsX E S w xs cs ∧ ∀ j u, cs[j]? = some u → ∃ b o, a = some ⟨b, o, none⟩ ∧ R b ∧ w.cell? ⟨b, o + j, none⟩ = some u
theorem RX.to {R R' S S' : Nat → Prop} {w w' : World} {xs : List X} {v : Value} (h : RX E R S w xs v) (hr : ∀ b, R b → b < w.heap.size → R' b) (hs : ∀ b, S b → b < w.heap.size → S' b)
    (hc : ∀ b, S b ∨ R b → b < w.heap.size → w'.heap[b]? = w.heap[b]?) : RX E R' S' w' xs v := by
  obtain ⟨a, cap, cs, rfl, hl, hC, hj⟩ := h
  refine ⟨a, cap, cs, rfl, hl, hC.to hs (fun b hb => hc b (.inl hb)), fun j u hu => ?_⟩
  obtain ⟨b, o, rfl, hR, hcell⟩ := hj j u hu
  have hlt := World.block_lt_of_cell? w _ hcell
  exact ⟨b, o, rfl, hr b hR hlt, by rw [World.cell?_of_block (w := w) (hc b (.inr hR) hlt)]; exact hcell⟩
theorem RX.below {R S : Nat → Prop} {w w' : World} {xs : List X} {v : Value} (h : RX E R S w xs v) (hB : Below w.heap.size w w') : RX E R S w' xs v := h.to (fun _ h _ => h) (fun _ h _ => h) fun b _ hb => hB.block b hb
theorem RX.mono {R R' S S' : Nat → Prop} {w : World} {xs : List X} {v : Value} (h : RX E R S w xs v) (hr : ∀ b, R b → R' b) (hs : ∀ b, S b → S' b) : RX E R' S' w xs v := h.to (fun b h _ => hr b h) (fun b h _ => hs b h) fun _ _ _ => rfl
theorem RX.low {R S : Nat → Prop} {w : World} {xs : List X} {v : Value} (h : RX E R S w xs v) : RX E (fun b => b < w.heap.size) (fun b => b < w.heap.size) w xs v := h.to (fun _ _ h => h) (fun _ _ h => h) fun _ _ _ => rfl
theorem RX.form {R S : Nat → Prop} {w : World} {xs : List X} {v : Value} (h : RX E R S w xs v) : ∃ a cap, v = .slice a xs.length cap ∧ CapOk a xs.length cap := by
  obtain ⟨a, cap, _, rfl, h, _⟩ := h; exact ⟨a, cap, rfl, h⟩
theorem RX.nil (R S : Nat → Prop) (w : World) : RX E R S w [] (.slice none 0 0) := ⟨none, 0, [], rfl, ⟨Nat.le_refl _, fun _ => rfl⟩, rfl, fun j u h => by simp at h⟩
theorem RX.addr {R S : Nat → Prop} {w : World} {xs : List X} {a : Option Addr} {n cap : Nat} (h : RX E R S w xs (.slice a n cap)) (hk : 0 < E.k) (hl : 0 < xs.length) : ∃ b o, a = some ⟨b, o, none⟩ := by
  obtain ⟨a', cap', cs, e, hcl, hC, hj⟩ := h
  simp only [Value.slice.injEq] at e
  obtain ⟨rfl, _, _⟩ := e
  have hcs : 0 < cs.length := by rw [hC.length]; exact Nat.mul_pos hl hk
  obtain ⟨b, o, e, _⟩ := hj 0 cs[0] (by simp)
  exact ⟨b, o, e⟩
theorem RX.elem {R S : Nat → Prop} {w : World} {xs : List X} {b o n cap : Nat} (h : RX E R S w xs (.slice (some ⟨b, o, none⟩) n cap)) (j : Nat) (hj : j < xs.length) :
    ∃ c, E.C S w xs[j] c ∧ ∀ i u, c[i]? = some u → R b ∧ w.cell? ⟨b, o + j * E.k + i, none⟩ = some u := by
  obtain ⟨a', cap', cs, e, hcl, hC, hj'⟩ := h
  simp only [Value.slice.injEq] at e
  obtain ⟨rfl, _, _⟩ := e
  obtain ⟨c, h1, h2⟩ := hC.at j hj
  refine ⟨c, h1, fun i u hu => ?_⟩
  obtain ⟨b', o', e, hR, hc⟩ := hj' _ u (h2 i u hu)
  simp only [Option.some.injEq, Addr.mk.injEq, and_true] at e
  obtain ⟨rfl, rfl⟩ := e
  exact ⟨hR, by rw [Nat.add_assoc]; exact hc⟩

/-! ### Rows of one's own -/
def OwnX (E : El X) (e : TypeId) (S : Nat → Prop) (base : Nat) (w : World) (v : Value) (xs : List X) : Prop := ∃ cs, w.ownsRow base e E.k v xs.length cs ∧ CellsX E S w xs cs
theorem OwnX.nil (e : TypeId) (S : Nat → Prop) (base : Nat) (w : World) : OwnX E e S base w (.slice none 0 0) [] := ⟨[], World.ownsRow_nil _ _ _ _, rfl⟩
theorem OwnX.to {e : TypeId} {S S' : Nat → Prop} {base base' : Nat} {w w' : World} {v : Value} {xs : List X} (h : OwnX E e S base w v xs) (hb : base' ≤ base) (hs : ∀ b, S b → b < w.heap.size → S' b)
    (hc : ∀ b, (S b ∨ v.ownBlock = some b) → b < w.heap.size → w'.heap[b]? = w.heap[b]?) : OwnX E e S' base' w' v xs := by
  obtain ⟨cs, ⟨h1, h2⟩, hC⟩ := h
  refine ⟨cs, ⟨h1, ?_⟩, hC.to hs (fun b hb => hc b (.inl hb))⟩
  rcases h2 with h2 | ⟨g, cap, cur, rfl, hg, hh, r⟩
  · exact .inl h2
  · exact .inr ⟨g, cap, cur, rfl, by omega, by rw [hc g (.inr rfl) (Array.getElem?_eq_some_iff.1 hh).1]; exact hh, r⟩
theorem OwnX.below {e : TypeId} {S : Nat → Prop} {base : Nat} {w w' : World} {v : Value} {xs : List X} (h : OwnX E e S base w v xs) (hB : Below w.heap.size w w') : OwnX E e S base w' v xs := h.to (Nat.le_refl _) (fun _ h _ => h) fun b _ hb => hB.block b hb
theorem OwnX.block {e : TypeId} {S : Nat → Prop} {base : Nat} {w : World} {v : Value} {xs : List X} (h : OwnX E e S base w v xs) : ∀ b, v.ownBlock = some b → base ≤ b ∧ b < w.heap.size := by
  obtain ⟨cs, h, _⟩ := h; exact h.lt
theorem OwnX.rx {e : TypeId} {S : Nat → Prop} {base : Nat} {w : World} {v : Value} {xs : List X} (h : OwnX E e S base w v xs) : RX E (fun b => v.ownBlock = some b) S w xs v := by
  obtain ⟨cs, ho, hC⟩ := h
  have hcell := fun g hg => ho.cells (g := g) hg
  obtain ⟨h1, h2⟩ := ho
  rcases h2 with ⟨rfl, h0⟩ | ⟨g, cap, cur, rfl, hg, hh, hn, r⟩
  · have : xs = [] := List.eq_nil_of_length_eq_zero h0
    subst this
    exact RX.nil _ _ _
  · refine ⟨some ⟨g, 0, none⟩, cap, cs, rfl, ⟨hn, by simp⟩, hC, fun j u hu => ⟨g, 0, rfl, rfl, ?_⟩⟩
    have := hcell g rfl j u hu
    unfold Addr.add at this
    split at this
    · rename_i h0; subst h0; exact this
    · exact this
theorem OwnX.frozen {e : TypeId} {S : Nat → Prop} {base : Nat} {w : World} {g n cap : Nat} {xs : List X} (h : OwnX E e S base w (.slice (some ⟨g, 0, none⟩) n cap) xs) (o : Nat) : w.frozen? ⟨g, o, none⟩ = false := by
  obtain ⟨_, ⟨_, h2⟩, _⟩ := h
  rcases h2 with ⟨h2, -⟩ | ⟨g', cap', cur, ev, hg, hh, -⟩
  · cases h2
  simp only [Value.slice.injEq, Option.some.injEq, Addr.mk.injEq, and_true] at ev
  obtain ⟨rfl, -, -⟩ := ev
  exact frozen_of_row w g o cur e hh
/-- A row of one's own; what its elements lead to lies in blocks of P that aren't the row's own. -/
def OwnXG (E : El X) (e : TypeId) (P : Nat → Prop) (base : Nat) (w : World) (v : Value) (xs : List X) : Prop := OwnX E e (fun b => P b ∧ b < w.heap.size ∧ v.ownBlock ≠ some b) base w v xs
theorem OwnXG.nil (e : TypeId) (P : Nat → Prop) (base : Nat) (w : World) : OwnXG E e P base w (.slice none 0 0) [] := OwnX.nil _ _ _ _
theorem OwnXG.to {e : TypeId} {P : Nat → Prop} {base : Nat} {w w' : World} {v : Value} {xs : List X} (h : OwnXG E e P base w v xs) (hl : w.heap.size ≤ w'.heap.size)
    (hc : ∀ b, (P b ∨ v.ownBlock = some b) → b < w.heap.size → w'.heap[b]? = w.heap[b]?) : OwnXG E e P base w' v xs :=
  OwnX.to h (Nat.le_refl _) (fun b hb _ => ⟨hb.1, by have := hb.2.1; omega, hb.2.2⟩) fun b hb => hc b (hb.imp (·.1) id)
theorem OwnXG.below {e : TypeId} {P : Nat → Prop} {base : Nat} {w w' : World} {v : Value} {xs : List X} (h : OwnXG E e P base w v xs) (hB : Below w.heap.size w w') : OwnXG E e P base w' v xs := h.to hB.size fun b _ hb => hB.block b hb
theorem OwnXG.block {e : TypeId} {P : Nat → Prop} {base : Nat} {w : World} {v : Value} {xs : List X} (h : OwnXG E e P base w v xs) : ∀ b, v.ownBlock = some b → base ≤ b ∧ b < w.heap.size := OwnX.block h
theorem OwnXG.setCell {e : TypeId} {P : Nat → Prop} {base : Nat} {w : World} {v : Value} {xs : List X} (h : OwnXG E e P base w v xs) (B o : Nat) (u : Value) (hB : B < base) (hP : ¬ P B) : OwnXG E e P base (w.setCell ⟨B, o, none⟩ u) v xs :=
  h.to (by simp) fun b hb _ => setCell_other w B o u b fun e => by
    subst e
    rcases hb with hb | hb
    · exact hP hb
    · have := h.block _ hb; omega
theorem OwnXG.rx {e : TypeId} {P : Nat → Prop} {base : Nat} {w : World} {v : Value} {xs : List X} (h : OwnXG E e P base w v xs) (hP : ∀ b, base ≤ b → P b) : RX E P P w xs v :=
  (OwnX.rx h).mono (fun b hb => hP b (h.block b hb).1) fun b hb => hb.1
theorem OwnXG.form {e : TypeId} {P : Nat → Prop} {base : Nat} {w : World} {v : Value} {xs : List X} (h : OwnXG E e P base w v xs) : ∃ a cap, v = .slice a xs.length cap ∧ CapOk a xs.length cap := (OwnX.rx h).form

variable {ops : Array Oper} {rest : List Oper} {o : Oper} {a : Act} {Q : Exit → Act → World → Prop}
theorem CellsX.single {S : Nat → Prop} {w : World} {x : X} {cs : List Value} (h : E.C S w x cs) : CellsX E S w [x] cs := ⟨cs, [], by simp, h, rfl⟩
theorem ownXG_after {F : ElT E} {P : Nat → Prop} {base : Nat} {w0 w' : World} {v : Value} {xs : List X} {x : X} {c : Array Value} {g cap : Nat} {cs : List Value} {O : Obj}
    (hC : CellsX E (fun b => P b ∧ b < w0.heap.size ∧ v.ownBlock ≠ some b) (w0.alloc O) xs cs) (hx : E.C (fun b => P b ∧ b < w0.heap.size ∧ v.ownBlock ≠ some b) (w0.alloc O) x c.toList)
    (h1 : w'.ownsRow base F.e E.k (.slice (some ⟨g, 0, none⟩) (xs.length + 1) cap) (xs.length + 1) (cs ++ c.toList)) (h2 : (w0.alloc O).grownBy w' v.ownBlock) (h3 : v.ownBlock = some g ∨ g = w0.heap.size + 1) :
    OwnXG E F.e P base w' (.slice (some ⟨g, 0, none⟩) (xs.length + 1) cap) (xs ++ [x]) := by
  have h2s := h2.size
  simp only [World.size_alloc] at h2s
  have hblk : ∀ b, (P b ∧ b < w0.heap.size ∧ v.ownBlock ≠ some b) → b < (w0.alloc O).heap.size → w'.heap[b]? = (w0.alloc O).heap[b]? := fun b hb hlt => h2.block b hlt (fun e => hb.2.2 e.symm)
  have hO : OwnX E F.e (fun b => P b ∧ b < w0.heap.size ∧ v.ownBlock ≠ some b) base w' (.slice (some ⟨g, 0, none⟩) (xs.length + 1) cap) (xs ++ [x]) :=
    ⟨cs ++ c.toList, by simpa using h1, (hC.to (fun _ h _ => h) hblk).append (CellsX.single (E.to hx (fun _ h _ => h) hblk))⟩
  refine hO.to (Nat.le_refl _) (fun b hb _ => ⟨hb.1, by have := hb.2.1; omega, fun e => ?_⟩) fun _ _ _ => rfl
  simp only [Value.ownBlock, Option.some.injEq] at e
  subst e
  rcases h3 with h5 | h5
  · exact hb.2.2 h5
  · have := hb.2.1; omega
/-- 'append(s, x)'. -/
theorem append_growX (F : ElT E) (s x : Operand) (hgd : o.guard = none) (ho : o.op = .call { callee := .builtin .append, args := #[s, x], argTypes := #[F.sl, F.sl] })
    {P R : Nat → Prop} {base : Nat} {w0 : World} {v : Value} {xs : List X} {y : X} {c : Array Value} {g0 n : Nat} (hs : a.eval s = v) (hx : a.eval x = .slice (some ⟨g0, 0, none⟩) 1 1) (hg0 : g0 = w0.heap.size) (hown : OwnXG E F.e P base w0 v xs)
    (ht : E.C R w0 y c.toList) (hR : ∀ b, R b → b < w0.heap.size → P b ∧ v.ownBlock ≠ some b) (hnl : xs.length = n) (hn : n + 1 ≤ 274877906944) (hbase : base ≤ w0.heap.size)
    (h : ∀ g cap w', OwnXG E F.e P base w' (.slice (some ⟨g, 0, none⟩) (n + 1) cap) (xs ++ [y]) → Below base w0 w' → (w0.alloc (.cells c F.e)).grownBy w' v.ownBlock → (v.ownBlock = some g ∨ w0.heap.size < g) → wpList Tryd.prog ops Q rest (a.put o.dst (.slice (some ⟨g, 0, none⟩) (n + 1) cap)) w') :
    wpList Tryd.prog ops Q (o :: rest) a (w0.alloc (.cells c F.e)) := by
  subst hg0 hnl
  obtain ⟨i, hi, hiz, his, hib⟩ := info_parts F.info
  have hlt := hown.block
  have hb := F.hb
  have hown1 : OwnX E F.e (fun b => P b ∧ b < w0.heap.size ∧ v.ownBlock ≠ some b) base (w0.alloc (.cells c F.e)) v xs := OwnX.to hown (Nat.le_refl _) (fun _ h _ => h) fun b _ hb => Below.heap_alloc _ _ _ hb
  have hx1 : E.C (fun b => P b ∧ b < w0.heap.size ∧ v.ownBlock ≠ some b) (w0.alloc (.cells c F.e)) y c.toList := E.to ht (fun b hb hl => ⟨(hR b hb hl).1, hl, (hR b hb hl).2⟩) fun b _ hb => Below.heap_alloc _ _ _ hb
  obtain ⟨cs, ho1, hC⟩ := hown1
  refine wpList_append_lies _ hgd s x F.sl ho base F.e i F.z E.k F.bytes F.hund hi hiz his hib F.hzs F.hk v _ cs hs ho1 ⟨w0.heap.size, 0, none⟩ 1 1 c.toList hx (by rw [E.len ht]; simp) ?_ (E.one ht) (by decide) (by unfold maxLen; omega) ?_ (by simp; omega) _ rfl ?_
  · exact World.news_of_block (fr := (0, 0)) (heap_alloc_new _ _)
  · exact Nat.le_trans (Nat.mul_le_mul hn hb) (by decide)
  · intro g cap w' h1 h2 h3 h4
    simp only [World.size_alloc] at h3
    refine h g cap w' (ownXG_after hC hx1 h1 h2 h3) (grown_below ((Below.refl _ _).alloc hbase _) h2 (by simp; omega) fun b hb => (hlt b hb).1) h2 ?_
    rcases h3 with h5 | h5
    · exact .inl h5
    · exact .inr (by omega)
/-- The same at a step of a region that draws its order. -/
theorem step_growX (F : ElT E) {K : Act → World → Prop} {W : Prop} (s x : Operand) (hgd : o.guard = none) (ho : o.op = .call { callee := .builtin .append, args := #[s, x], argTypes := #[F.sl, F.sl] })
    {P R : Nat → Prop} {base : Nat} {w0 : World} {v : Value} {xs : List X} {y : X} {c : Array Value} {g0 n : Nat} (hs : a.eval s = v) (hx : a.eval x = .slice (some ⟨g0, 0, none⟩) 1 1) (hg0 : g0 = w0.heap.size) (hown : OwnXG E F.e P base w0 v xs)
    (ht : E.C R w0 y c.toList) (hR : ∀ b, R b → b < w0.heap.size → P b ∧ v.ownBlock ≠ some b) (hnl : xs.length = n) (hn : n + 1 ≤ 274877906944) (hbase : base ≤ w0.heap.size)
    (h : ∀ g cap w', OwnXG E F.e P base w' (.slice (some ⟨g, 0, none⟩) (n + 1) cap) (xs ++ [y]) → Below base w0 w' → (w0.alloc (.cells c F.e)).grownBy w' v.ownBlock → (v.ownBlock = some g ∨ w0.heap.size < g) → K (a.put o.dst (.slice (some ⟨g, 0, none⟩) (n + 1) cap)) w') :
    if Region.wanted o (yielded ops a.tmps) = true then Oper.wp Tryd.prog o a (w0.alloc (.cells c F.e)) K Q else W := by
  subst hg0 hnl
  obtain ⟨i, hi, hiz, his, hib⟩ := info_parts F.info
  have hlt := hown.block
  have hb := F.hb
  have hown1 : OwnX E F.e (fun b => P b ∧ b < w0.heap.size ∧ v.ownBlock ≠ some b) base (w0.alloc (.cells c F.e)) v xs := OwnX.to hown (Nat.le_refl _) (fun _ h _ => h) fun b _ hb => Below.heap_alloc _ _ _ hb
  have hx1 : E.C (fun b => P b ∧ b < w0.heap.size ∧ v.ownBlock ≠ some b) (w0.alloc (.cells c F.e)) y c.toList := E.to ht (fun b hb hl => ⟨(hR b hb hl).1, hl, (hR b hb hl).2⟩) fun b _ hb => Below.heap_alloc _ _ _ hb
  obtain ⟨cs, ho1, hC⟩ := hown1
  refine step_append_lies _ hgd s x F.sl ho base F.e i F.z E.k F.bytes F.hund hi hiz his hib F.hzs F.hk v _ cs hs ho1 ⟨w0.heap.size, 0, none⟩ 1 1 c.toList hx (by rw [E.len ht]; simp) ?_ (E.one ht) (by decide) (by unfold maxLen; omega) ?_ (by simp; omega) _ rfl ?_
  · exact World.news_of_block (fr := (0, 0)) (heap_alloc_new _ _)
  · exact Nat.le_trans (Nat.mul_le_mul hn hb) (by decide)
  · intro g cap w' h1 h2 h3 h4
    simp only [World.size_alloc] at h3
    refine h g cap w' (ownXG_after hC hx1 h1 h2 h3) (grown_below ((Below.refl _ _).alloc hbase _) h2 (by simp; omega) fun b hb => (hlt b hb).1) h2 ?_
    rcases h3 with h5 | h5
    · exact .inl h5
    · exact .inr (by omega)
end
end Go.Proofs.YtedfepnekjjmnabDoor
