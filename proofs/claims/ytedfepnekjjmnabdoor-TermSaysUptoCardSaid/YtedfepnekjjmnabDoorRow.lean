/-
  Rows of terms and of ints that a call itself appends to; the append laws in these words. No condition.
-/
import Derived.Test.YtedfepnekjjmnabDoorBase
import Derived.Deep.AppendLies
import Derived.Laws.AppendOwnNone
namespace Go.Proofs.YtedfepnekjjmnabDoor
open Go.RowKit
set_option linter.unusedSimpArgs false
set_option linter.unusedVariables false

/-- The cells of a list of terms, one term behind the other; what their parts lead to lies in S. -/
def CellsT (S : Nat → Prop) (w : World) : List T → List Value → Prop
  | [], cs => cs = []
  | t :: ts, cs => ∃ a cap cs', cs = .int .i64 t.kind :: .int .i64 t.n :: .string t.name :: .slice a t.args.length cap :: cs' ∧ CapOk a t.args.length cap ∧ RTs S w t.args a 0 ∧ CellsT S w ts cs'

theorem CellsT.length {S : Nat → Prop} {w : World} {ts : List T} {cs : List Value} (h : CellsT S w ts cs) : cs.length = ts.length * 4 := by
  induction ts generalizing cs with
  | nil => simp only [CellsT] at h; subst h; rfl
  | cons t ts ih => obtain ⟨a, cap, cs', rfl, _, _, h'⟩ := h; simp only [List.length_cons, ih h']; omega

theorem CellsT.append {S : Nat → Prop} {w : World} {ts ls : List T} {cs ds : List Value} (h : CellsT S w ts cs) (h' : CellsT S w ls ds) : CellsT S w (ts ++ ls) (cs ++ ds) := by
  induction ts generalizing cs with
  | nil => simp only [CellsT] at h; subst h; exact h'
  | cons t ts ih => obtain ⟨a, cap, cs', rfl, h1, h2, h3⟩ := h; exact ⟨a, cap, cs' ++ ds, rfl, h1, h2, ih h3⟩

theorem CellsT.oneCell {S : Nat → Prop} {w : World} {ts : List T} {cs : List Value} (h : CellsT S w ts cs) : ∀ u ∈ cs, u.oneCell' = true := by
  induction ts generalizing cs with
  | nil => simp only [CellsT] at h; subst h; simp
  | cons t ts ih =>
    obtain ⟨a, cap, cs', rfl, h1, h2, h3⟩ := h
    intro u hu
    simp only [List.mem_cons] at hu
    rcases hu with rfl | rfl | rfl | rfl | hu
    · rfl
    · rfl
    · rfl
    · rfl
    · exact ih h3 u hu

theorem CellsT.to {S S' : Nat → Prop} {w w' : World} {ts : List T} {cs : List Value} (h : CellsT S w ts cs) (hs : ∀ b, S b → b < w.heap.size → S' b)
    (hc : ∀ b, S b → b < w.heap.size → w'.heap[b]? = w.heap[b]?) : CellsT S' w' ts cs := by
  induction ts generalizing cs with
  | nil => exact h
  | cons t ts ih => obtain ⟨a, cap, cs', rfl, h1, h2, h3⟩ := h; exact ⟨a, cap, cs', rfl, h1, h2.to hs hc, ih h3⟩

theorem CellsT.at {S : Nat → Prop} {w : World} {ts : List T} {cs : List Value} (h : CellsT S w ts cs) (j : Nat) (hj : j < ts.length) :
    ∃ a cap, cs[j * 4]? = some (.int .i64 ts[j].kind) ∧ cs[j * 4 + 1]? = some (.int .i64 ts[j].n) ∧ cs[j * 4 + 2]? = some (.string ts[j].name) ∧ cs[j * 4 + 3]? = some (.slice a ts[j].args.length cap) ∧
      CapOk a ts[j].args.length cap ∧ RTs S w ts[j].args a 0 := by
  induction ts generalizing cs j with
  | nil => cases hj
  | cons t ts ih =>
    obtain ⟨a, cap, cs', rfl, h1, h2, h3⟩ := h
    cases j with
    | zero => exact ⟨a, cap, rfl, rfl, rfl, rfl, h1, h2⟩
    | succ j =>
      obtain ⟨a', cap', g0, g1, g2, g3, g4, g5⟩ := ih h3 j (by simpa using hj)
      refine ⟨a', cap', ?_, ?_, ?_, ?_, g4, g5⟩
      · rw [show (j + 1) * 4 = j * 4 + 1 + 1 + 1 + 1 by omega]; exact g0
      · rw [show (j + 1) * 4 + 1 = j * 4 + 1 + 1 + 1 + 1 + 1 by omega]; exact g1
      · rw [show (j + 1) * 4 + 2 = j * 4 + 2 + 1 + 1 + 1 + 1 by omega]; exact g2
      · rw [show (j + 1) * 4 + 3 = j * 4 + 3 + 1 + 1 + 1 + 1 by omega]; exact g3

/-- A slice of terms: its row lies in a block of R, what the parts lead to in S. -/
def RSl2 (R S : Nat → Prop) (w : World) (ts : List T) (v : Value) : Prop :=
  ∃ a cap cs, v = .slice a ts.length cap ∧ CapOk a ts.length cap ∧ CellsT S w ts cs ∧ ∀ j u, cs[j]? = some u → ∃ b o, a = some ⟨b, o, none⟩ ∧ R b ∧ w.cell? ⟨b, o + j, none⟩ = some u

theorem RSl2.to {R R' S S' : Nat → Prop} {w w' : World} {ts : List T} {v : Value} (h : RSl2 R S w ts v) (hr : ∀ b, R b → b < w.heap.size → R' b) (hs : ∀ b, S b → b < w.heap.size → S' b)
    (hc : ∀ b, S b ∨ R b → b < w.heap.size → w'.heap[b]? = w.heap[b]?) : RSl2 R' S' w' ts v := by
  obtain ⟨a, cap, cs, rfl, hl, hC, hj⟩ := h
  refine ⟨a, cap, cs, rfl, hl, hC.to hs (fun b hb => hc b (.inl hb)), fun j u hu => ?_⟩
  obtain ⟨b, o, rfl, hR, hcell⟩ := hj j u hu
  have hlt := World.block_lt_of_cell? w _ hcell
  exact ⟨b, o, rfl, hr b hR hlt, by rw [World.cell?_of_block (w := w) (hc b (.inr hR) hlt)]; exact hcell⟩

theorem RSl2.below {R S : Nat → Prop} {w w' : World} {ts : List T} {v : Value} (h : RSl2 R S w ts v) (hB : Below w.heap.size w w') : RSl2 R S w' ts v := h.to (fun _ h _ => h) (fun _ h _ => h) fun b _ hb => hB.block b hb
theorem RSl2.mono {R R' S S' : Nat → Prop} {w : World} {ts : List T} {v : Value} (h : RSl2 R S w ts v) (hr : ∀ b, R b → R' b) (hs : ∀ b, S b → S' b) : RSl2 R' S' w ts v := h.to (fun b h _ => hr b h) (fun b h _ => hs b h) fun _ _ _ => rfl

theorem RSl2.form {R S : Nat → Prop} {w : World} {ts : List T} {v : Value} (h : RSl2 R S w ts v) : ∃ a cap, v = .slice a ts.length cap := by
  obtain ⟨a, cap, _, rfl, _⟩ := h; exact ⟨a, cap, rfl⟩

theorem RSl2.addr {R S : Nat → Prop} {w : World} {ts : List T} {a : Option Addr} {n cap : Nat} (h : RSl2 R S w ts (.slice a n cap)) (hl : 0 < ts.length) : ∃ b o, a = some ⟨b, o, none⟩ := by
  obtain ⟨a', cap', cs, e, hcl, hC, hj⟩ := h
  simp only [Value.slice.injEq] at e
  obtain ⟨rfl, _, _⟩ := e
  obtain ⟨_, _, h0, _⟩ := hC.at 0 hl
  obtain ⟨b, o, e, _⟩ := hj _ _ h0
  exact ⟨b, o, e⟩

theorem RSl2.elem {R S : Nat → Prop} {w : World} {ts : List T} {b o n cap : Nat} (h : RSl2 R S w ts (.slice (some ⟨b, o, none⟩) n cap)) (j : Nat) (hj : j < ts.length) :
    ∃ a' cap', R b ∧ w.cell? ⟨b, o + j * 4, none⟩ = some (.int .i64 ts[j].kind) ∧ w.cell? ⟨b, o + j * 4 + 1, none⟩ = some (.int .i64 ts[j].n) ∧
      w.cell? ⟨b, o + j * 4 + 2, none⟩ = some (.string ts[j].name) ∧ w.cell? ⟨b, o + j * 4 + 3, none⟩ = some (.slice a' ts[j].args.length cap') ∧
      RT S w ts[j] (.agg #[.int .i64 ts[j].kind, .int .i64 ts[j].n, .string ts[j].name, .slice a' ts[j].args.length cap']) := by
  obtain ⟨a', cap', cs, e, hcl, hC, hj'⟩ := h
  simp only [Value.slice.injEq] at e
  obtain ⟨rfl, _, _⟩ := e
  obtain ⟨a', cap', h0, h1, h2, h3, h4, h5⟩ := hC.at j hj
  have key : ∀ i u, cs[i]? = some u → R b ∧ w.cell? ⟨b, o + i, none⟩ = some u := by
    intro i u hu
    obtain ⟨b', o', e, hR, hc⟩ := hj' i u hu
    simp only [Option.some.injEq, Addr.mk.injEq, and_true] at e
    obtain ⟨rfl, rfl⟩ := e
    exact ⟨hR, hc⟩
  exact ⟨a', cap', (key _ _ h0).1, (key _ _ h0).2, (key _ _ h1).2, (key _ _ h2).2, (key _ _ h3).2, a', cap', rfl, h4, h5⟩

/-- Both words for one slice. -/
theorem RSl2.rsl {R S : Nat → Prop} {w : World} {ts : List T} {v : Value} (h : RSl2 R S w ts v) : RSl (fun b => R b ∨ S b) w ts v := by
  obtain ⟨a, cap, cs, rfl, hl, hC, hj⟩ := h
  refine ⟨a, cap, rfl, hl, RTs_of _ _ _ _ _ fun j hjl => ?_⟩
  obtain ⟨a', cap', h0, h1, h2, h3, h4, h5⟩ := hC.at j hjl
  obtain ⟨b, o, rfl, hR, hc0⟩ := hj _ _ h0
  have key : ∀ i u, cs[i]? = some u → w.cell? ⟨b, o + i, none⟩ = some u := by
    intro i u hu
    obtain ⟨b', o', e, _, hc⟩ := hj i u hu
    simp only [Option.some.injEq, Addr.mk.injEq, and_true] at e
    obtain ⟨rfl, rfl⟩ := e
    exact hc
  rw [Nat.zero_add]
  exact ⟨b, o, a', cap', rfl, .inl hR, key _ _ h0, key _ _ h1, key _ _ h2, key _ _ h3, h4, h5.to (fun _ h _ => .inr h) fun _ _ _ => rfl⟩

theorem RTs.cells {S : Nat → Prop} {w : World} : ∀ {ts : List T} {a : Option Addr} {i : Nat}, RTs S w ts a i →
    ∃ cs, CellsT S w ts cs ∧ ∀ j u, cs[j]? = some u → ∃ b o, a = some ⟨b, o, none⟩ ∧ S b ∧ w.cell? ⟨b, o + i * 4 + j, none⟩ = some u
  | [], _, _, _ => ⟨[], rfl, fun j u h => by simp at h⟩
  | t :: ts, a, i, h => by
    rw [RTs_cons] at h
    obtain ⟨⟨b, o, a', cap, rfl, hS, h0, h1, h2, h3, h4, h5⟩, hr⟩ := h
    obtain ⟨cs, hC, hj⟩ := RTs.cells hr
    refine ⟨_, ⟨a', cap, cs, rfl, h4, h5, hC⟩, fun j u hu => ?_⟩
    match j, hu with
    | 0, hu => exact ⟨b, o, rfl, hS, by simp only [List.getElem?_cons_zero] at hu; rw [← hu]; exact h0⟩
    | 1, hu => exact ⟨b, o, rfl, hS, by simp only [List.getElem?_cons_succ, List.getElem?_cons_zero] at hu; rw [← hu]; exact h1⟩
    | 2, hu => exact ⟨b, o, rfl, hS, by simp only [List.getElem?_cons_succ, List.getElem?_cons_zero] at hu; rw [← hu]; exact h2⟩
    | 3, hu => exact ⟨b, o, rfl, hS, by simp only [List.getElem?_cons_succ, List.getElem?_cons_zero] at hu; rw [← hu]; exact h3⟩
    | j + 4, hu =>
      obtain ⟨b', o', e, hS', hc⟩ := hj j u (by simpa using hu)
      simp only [Option.some.injEq, Addr.mk.injEq, and_true] at e
      obtain ⟨rfl, rfl⟩ := e
      exact ⟨b, o, rfl, hS, by rw [show o + i * 4 + (j + 4) = o + (i + 1) * 4 + j by omega]; exact hc⟩

theorem RSl.rsl2 {S : Nat → Prop} {w : World} {ts : List T} {v : Value} (h : RSl S w ts v) : RSl2 S S w ts v := by
  obtain ⟨a, cap, rfl, hl, hr⟩ := h
  obtain ⟨cs, hC, hj⟩ := hr.cells
  exact ⟨a, cap, cs, rfl, hl, hC, fun j u hu => by simpa using hj j u hu⟩

/-- One term in a block of its own: what 'append(.., x)' hands to append. -/
theorem RT.one {S : Nat → Prop} {w : World} {t : T} {c0 c1 c2 c3 : Value} (h : RT S w t (.agg #[c0, c1, c2, c3])) (e : TypeId) :
    RSl2 (fun b => b = w.heap.size) S (w.alloc (.cells #[c0, c1, c2, c3] e)) [t] (.slice (some ⟨w.heap.size, 0, none⟩) 1 1) := by
  obtain ⟨a, cap, ev, hl, hr⟩ := h
  simp only [Value.agg.injEq, Array.mk.injEq, List.cons.injEq, and_true] at ev
  obtain ⟨rfl, rfl, rfl, rfl⟩ := ev
  refine ⟨_, 1, _, rfl, ⟨Nat.le_refl _, by simp⟩, ⟨a, cap, [], rfl, hl, hr.alloc _, rfl⟩, fun j u hu => ⟨w.heap.size, 0, rfl, rfl, ?_⟩⟩
  rw [Nat.zero_add, World.cell?_alloc_new]
  simpa using hu

/-- A slice of ints. -/
def RI (S : Nat → Prop) (w : World) (xs : List Int) (v : Value) : Prop :=
  ∃ a cap, v = .slice a xs.length cap ∧ CapOk a xs.length cap ∧ ∀ j x, xs[j]? = some x → ∃ b o, a = some ⟨b, o, none⟩ ∧ S b ∧ w.cell? ⟨b, o + j, none⟩ = some (.int .i64 x)

theorem RI.to {S S' : Nat → Prop} {w w' : World} {xs : List Int} {v : Value} (h : RI S w xs v) (hs : ∀ b, S b → b < w.heap.size → S' b)
    (hc : ∀ b, S b → b < w.heap.size → w'.heap[b]? = w.heap[b]?) : RI S' w' xs v := by
  obtain ⟨a, cap, rfl, hl, hj⟩ := h
  refine ⟨a, cap, rfl, hl, fun j x hx => ?_⟩
  obtain ⟨b, o, rfl, hS, hcell⟩ := hj j x hx
  have hlt := World.block_lt_of_cell? w _ hcell
  exact ⟨b, o, rfl, hs b hS hlt, by rw [World.cell?_of_block (w := w) (hc b hS hlt)]; exact hcell⟩
theorem RI.below {S : Nat → Prop} {w w' : World} {xs : List Int} {v : Value} (h : RI S w xs v) (hB : Below w.heap.size w w') : RI S w' xs v := h.to (fun _ h _ => h) fun b _ hb => hB.block b hb
theorem RI.mono {S S' : Nat → Prop} {w : World} {xs : List Int} {v : Value} (h : RI S w xs v) (hs : ∀ b, S b → S' b) : RI S' w xs v := h.to (fun b h _ => hs b h) fun _ _ _ => rfl

theorem RI.form {S : Nat → Prop} {w : World} {xs : List Int} {v : Value} (h : RI S w xs v) : ∃ a cap, v = .slice a xs.length cap := by
  obtain ⟨a, cap, rfl, _⟩ := h; exact ⟨a, cap, rfl⟩

theorem RI.addr {S : Nat → Prop} {w : World} {xs : List Int} {a : Option Addr} {n cap : Nat} (h : RI S w xs (.slice a n cap)) (hl : 0 < xs.length) : ∃ b o, a = some ⟨b, o, none⟩ := by
  obtain ⟨a', cap', e, _, hj⟩ := h
  simp only [Value.slice.injEq] at e
  obtain ⟨rfl, _, _⟩ := e
  obtain ⟨b, o, e, _⟩ := hj 0 xs[0] (by simp)
  exact ⟨b, o, e⟩
theorem RI.elem {S : Nat → Prop} {w : World} {xs : List Int} {b o n cap : Nat} (h : RI S w xs (.slice (some ⟨b, o, none⟩) n cap)) (j : Nat) (hj : j < xs.length) : S b ∧ w.cell? ⟨b, o + j, none⟩ = some (.int .i64 xs[j]) := by
  obtain ⟨a', cap', e, _, hj'⟩ := h
  simp only [Value.slice.injEq] at e
  obtain ⟨rfl, _, _⟩ := e
  obtain ⟨b', o', e, hS, hc⟩ := hj' j xs[j] (by simp [hj])
  simp only [Option.some.injEq, Addr.mk.injEq, and_true] at e
  obtain ⟨rfl, rfl⟩ := e
  exact ⟨hS, hc⟩

/-- A written-out slice of ints. -/
theorem RI.lit (w : World) (xs : List Int) (e : TypeId) : RI (fun b => b = w.heap.size) (w.alloc (.cells (xs.map (Value.int .i64)).toArray e)) xs (.slice (some ⟨w.heap.size, 0, none⟩) xs.length xs.length) :=
  ⟨_, _, rfl, ⟨Nat.le_refl _, by simp⟩, fun j x hx => ⟨w.heap.size, 0, rfl, rfl, by rw [Nat.zero_add, World.cell?_alloc_new]; simp [hx]⟩⟩

/-! ### Rows that the call appends to -/

def OwnT (S : Nat → Prop) (base : Nat) (w : World) (v : Value) (ts : List T) : Prop := ∃ cs, w.ownsRow base 24 4 v ts.length cs ∧ CellsT S w ts cs
def OwnI (base : Nat) (w : World) (v : Value) (xs : List Int) : Prop := w.ownsRow base 3 1 v xs.length (xs.map (Value.int .i64))

theorem OwnT.nil (S : Nat → Prop) (base : Nat) (w : World) : OwnT S base w (.slice none 0 0) [] := ⟨[], World.ownsRow_nil _ _ _ _, rfl⟩
theorem OwnI.nil (base : Nat) (w : World) : OwnI base w (.slice none 0 0) [] := World.ownsRow_nil _ _ _ _

/-- Nothing that these rows are has turned. -/
theorem OwnT.to {S S' : Nat → Prop} {base base' : Nat} {w w' : World} {v : Value} {ts : List T} (h : OwnT S base w v ts) (hb : base' ≤ base) (hs : ∀ b, S b → b < w.heap.size → S' b)
    (hc : ∀ b, (S b ∨ v.ownBlock = some b) → b < w.heap.size → w'.heap[b]? = w.heap[b]?) : OwnT S' base' w' v ts := by
  obtain ⟨cs, ⟨h1, h2⟩, hC⟩ := h
  refine ⟨cs, ⟨h1, ?_⟩, hC.to hs (fun b hb => hc b (.inl hb))⟩
  rcases h2 with h2 | ⟨g, cap, cur, rfl, hg, hh, r⟩
  · exact .inl h2
  · exact .inr ⟨g, cap, cur, rfl, by omega, by rw [hc g (.inr rfl) (Array.getElem?_eq_some_iff.1 hh).1]; exact hh, r⟩
theorem OwnI.to {base base' : Nat} {w w' : World} {v : Value} {xs : List Int} (h : OwnI base w v xs) (hb : base' ≤ base)
    (hc : ∀ b, v.ownBlock = some b → b < w.heap.size → w'.heap[b]? = w.heap[b]?) : OwnI base' w' v xs := by
  obtain ⟨h1, h2⟩ := h
  refine ⟨h1, ?_⟩
  rcases h2 with h2 | ⟨g, cap, cur, rfl, hg, hh, r⟩
  · exact .inl h2
  · exact .inr ⟨g, cap, cur, rfl, by omega, by rw [hc g rfl (Array.getElem?_eq_some_iff.1 hh).1]; exact hh, r⟩

theorem OwnT.below {S : Nat → Prop} {base : Nat} {w w' : World} {v : Value} {ts : List T} (h : OwnT S base w v ts) (hB : Below w.heap.size w w') : OwnT S base w' v ts := h.to (Nat.le_refl _) (fun _ h _ => h) fun b _ hb => hB.block b hb
theorem OwnI.below {base : Nat} {w w' : World} {v : Value} {xs : List Int} (h : OwnI base w v xs) (hB : Below w.heap.size w w') : OwnI base w' v xs := h.to (Nat.le_refl _) fun b _ hb => hB.block b hb

theorem OwnT.block {S : Nat → Prop} {base : Nat} {w : World} {v : Value} {ts : List T} (h : OwnT S base w v ts) : ∀ b, v.ownBlock = some b → base ≤ b ∧ b < w.heap.size := by
  obtain ⟨cs, h, _⟩ := h; exact h.lt
theorem OwnI.block {base : Nat} {w : World} {v : Value} {xs : List Int} (h : OwnI base w v xs) : ∀ b, v.ownBlock = some b → base ≤ b ∧ b < w.heap.size := h.lt

theorem OwnT.rsl2 {S : Nat → Prop} {base : Nat} {w : World} {v : Value} {ts : List T} (h : OwnT S base w v ts) : RSl2 (fun b => v.ownBlock = some b) S w ts v := by
  obtain ⟨cs, ho, hC⟩ := h
  have hcell := fun g hg => ho.cells (g := g) hg
  obtain ⟨h1, h2⟩ := ho
  rcases h2 with ⟨rfl, h0⟩ | ⟨g, cap, cur, rfl, hg, hh, hn, r⟩
  · have : ts = [] := List.eq_nil_of_length_eq_zero h0
    subst this
    simp only [CellsT] at hC
    subst hC
    exact ⟨none, 0, [], rfl, ⟨Nat.le_refl _, fun _ => rfl⟩, rfl, fun j u h => by simp at h⟩
  · refine ⟨some ⟨g, 0, none⟩, cap, cs, rfl, ⟨hn, by simp⟩, hC, fun j u hu => ⟨g, 0, rfl, rfl, ?_⟩⟩
    have := hcell g rfl j u hu
    unfold Addr.add at this
    split at this
    · rename_i h0; subst h0; exact this
    · exact this
theorem OwnI.ri {base : Nat} {w : World} {v : Value} {xs : List Int} (h : OwnI base w v xs) : RI (fun b => v.ownBlock = some b) w xs v := by
  have hcell := fun g hg => World.ownsRow.cells h (g := g) hg
  obtain ⟨h1, h2⟩ := h
  rcases h2 with ⟨rfl, h0⟩ | ⟨g, cap, cur, rfl, hg, hh, hn, r⟩
  · have : xs = [] := List.eq_nil_of_length_eq_zero h0
    subst this
    exact ⟨none, 0, rfl, ⟨Nat.le_refl _, fun _ => rfl⟩, fun j u h => by simp at h⟩
  · refine ⟨some ⟨g, 0, none⟩, cap, rfl, ⟨hn, by simp⟩, fun j u hu => ⟨g, 0, rfl, rfl, ?_⟩⟩
    have := hcell g rfl j (.int .i64 u) (by simp [hu])
    unfold Addr.add at this
    split at this
    · rename_i h0; subst h0; exact this
    · exact this

theorem OwnT.alloc {S : Nat → Prop} {base : Nat} {w : World} {v : Value} {ts : List T} (h : OwnT S base w v ts) (o : Obj) : OwnT S base (w.alloc o) v ts := h.below (below_alloc w o)
theorem OwnI.alloc {base : Nat} {w : World} {v : Value} {xs : List Int} (h : OwnI base w v xs) (o : Obj) : OwnI base (w.alloc o) v xs := h.below (below_alloc w o)

theorem OwnT.one {S : Nat → Prop} {base : Nat} {w : World} {t : T} {c0 c1 c2 c3 : Value} (h : RT S w t (.agg #[c0, c1, c2, c3])) (hb : base ≤ w.heap.size) :
    OwnT S base (w.alloc (.cells #[c0, c1, c2, c3] 24)) (.slice (some ⟨w.heap.size, 0, none⟩) 1 1) [t] := by
  obtain ⟨a, cap, ev, hl, hr⟩ := h
  simp only [Value.agg.injEq, Array.mk.injEq, List.cons.injEq, and_true] at ev
  obtain ⟨rfl, rfl, rfl, rfl⟩ := ev
  exact ⟨_, World.ownsRow_lit w _ 1 hb (by decide) rfl, a, cap, [], rfl, hl, hr.alloc _, rfl⟩
theorem OwnI.one {base : Nat} {w : World} (x : Int) (hb : base ≤ w.heap.size) : OwnI base (w.alloc (.cells #[.int .i64 x] 3)) (.slice (some ⟨w.heap.size, 0, none⟩) 1 1) [x] :=
  World.ownsRow_lit w _ 1 hb (by decide) rfl

/-- Steps of 'Below' over an append. -/
theorem grown_below {B : Nat} {a w w' : World} {v : Value} (h : Below B a w) (hg : w.grownBy w' v.ownBlock) (hB : B ≤ w.heap.size) (hv : ∀ b, v.ownBlock = some b → B ≤ b) : Below B a w' :=
  h.grown hg hB hv

theorem info24 : (Tryd.prog.info? 24).map (fun i => (i.zero, i.size, i.bytes)) = some (some (.agg #[.int .i64 0, .int .i64 0, .string ⟨#[]⟩, .slice none 0 0]), 4, 56) := by kernel_rfl
theorem info3 : (Tryd.prog.info? 3).map (fun i => (i.zero, i.size, i.bytes)) = some (some (.int .i64 0), 1, 8) := by kernel_rfl

section
variable {w : World} {ops : Array Oper} {rest : List Oper} {o : Oper} {a : Act} {Q : Exit → Act → World → Prop}

/-- 'append(x, y...)' on terms. -/
theorem append_terms (s x : Operand) (hgd : o.guard = none) (ho : o.op = .call { callee := .builtin .append, args := #[s, x], argTypes := #[22, 22] })
    {S R : Nat → Prop} {base : Nat} {v u : Value} {ts ls : List T} (hs : a.eval s = v) (hx : a.eval x = u) (hown : OwnT S base w v ts) (hl : RSl2 R S w ls u)
    (hS : ∀ b, S b → v.ownBlock ≠ some b) (hn : ts.length + ls.length ≤ 1099511627776) (hbase : base ≤ w.heap.size)
    (h : ∀ v' w', OwnT S base w' v' (ts ++ ls) → w.grownBy w' v.ownBlock → (∀ b, v'.ownBlock = some b → v.ownBlock = some b ∨ w.heap.size ≤ b) → wpList Tryd.prog ops Q rest (a.put o.dst v') w') :
    wpList Tryd.prog ops Q (o :: rest) a w := by
  obtain ⟨i, hi, hz0, hz1, hz2⟩ := info_parts info24
  obtain ⟨cs, ho1, hC⟩ := hown
  obtain ⟨au, cap, ds, rfl, hcap, hD, hj⟩ := hl
  cases au with
  | none =>
    obtain rfl : cap = 0 := hcap.2 rfl
    have h0 : ls = [] := List.eq_nil_of_length_eq_zero (by have := hcap.1; omega)
    subst h0
    refine wpList_append_own_none hgd s x 22 ho base 24 i 4 Tryd.underlying22 hi v _ cs hs ho1 hx ?_
    exact h v w ⟨cs, by simpa using ho1, by simpa using hC⟩ ⟨rfl, rfl, rfl, Nat.le_refl _, fun _ _ _ => rfl⟩ fun b hb => .inl hb
  | some ad =>
    refine wpList_append_own_at w hgd s x 22 ho base 24 i _ 4 56 Tryd.underlying22 hi hz0 hz1 hz2 rfl (by decide) v _ cs hs ho1 ad ls.length cap ds hx hD.length ?_ hD.oneCell ?_ ?_ hbase ?_
    · intro j u' hu
      obtain ⟨b, o', e, _, hc⟩ := hj j u' hu
      simp only [Option.some.injEq] at e
      subst e
      unfold Addr.add
      split
      · rename_i h0; subst h0; exact hc
      · exact hc
    · unfold maxLen; omega
    · omega
    · intro v' w' h1 h2 h3 h4
      refine h v' w' ⟨cs ++ ds, by simpa using h1, ?_⟩ h2 ?_
      · have hblk : ∀ b, S b → b < w.heap.size → w'.heap[b]? = w.heap[b]? := fun b hb hlt => h2.block b hlt (fun e => hS b hb e.symm)
        exact (hC.to (fun _ h _ => h) hblk).append (hD.to (fun _ h _ => h) hblk)
      · intro b hb
        rcases h4 with h4 | h4
        · exact .inl (by rw [← h4]; exact hb)
        · rw [h4] at hb; simp only [Option.some.injEq] at hb; exact .inr (by omega)

/-- 'append(x, y...)' on ints. -/
theorem append_ints (s x : Operand) (hgd : o.guard = none) (ho : o.op = .call { callee := .builtin .append, args := #[s, x], argTypes := #[44, 44] })
    {R : Nat → Prop} {base : Nat} {v u : Value} {xs ys : List Int} (hs : a.eval s = v) (hx : a.eval x = u) (hown : OwnI base w v xs) (hl : RI R w ys u)
    (hn : xs.length + ys.length ≤ 1099511627776) (hbase : base ≤ w.heap.size)
    (h : ∀ v' w', OwnI base w' v' (xs ++ ys) → w.grownBy w' v.ownBlock → (∀ b, v'.ownBlock = some b → v.ownBlock = some b ∨ w.heap.size ≤ b) → wpList Tryd.prog ops Q rest (a.put o.dst v') w') :
    wpList Tryd.prog ops Q (o :: rest) a w := by
  obtain ⟨i, hi, hz0, hz1, hz2⟩ := info_parts info3
  have ho1 := hown
  obtain ⟨au, cap, rfl, hcap, hj⟩ := hl
  cases au with
  | none =>
    obtain rfl : cap = 0 := hcap.2 rfl
    have h0 : ys = [] := List.eq_nil_of_length_eq_zero (by have := hcap.1; omega)
    subst h0
    refine wpList_append_own_none hgd s x 44 ho base 3 i 1 Tryd.underlying44 hi v _ _ hs ho1 hx ?_
    exact h v w (by simpa using hown) ⟨rfl, rfl, rfl, Nat.le_refl _, fun _ _ _ => rfl⟩ fun b hb => .inl hb
  | some ad =>
    refine wpList_append_own_at w hgd s x 44 ho base 3 i _ 1 8 Tryd.underlying44 hi hz0 hz1 hz2 rfl (by decide) v _ _ hs ho1 ad ys.length cap (ys.map (Value.int .i64)) hx (by simp) ?_ (by simp [Value.oneCell']) ?_ ?_ hbase ?_
    · intro j u' hu
      obtain ⟨y, hy, rfl⟩ : ∃ y, ys[j]? = some y ∧ u' = .int .i64 y := by
        rw [List.getElem?_map] at hu; cases hy : ys[j]? with
        | none => simp [hy] at hu
        | some y => simp [hy] at hu; exact ⟨y, rfl, hu.symm⟩
      obtain ⟨b, o', e, _, hc⟩ := hj j y hy
      simp only [Option.some.injEq] at e
      subst e
      unfold Addr.add
      split
      · rename_i h0; subst h0; exact hc
      · exact hc
    · unfold maxLen; omega
    · omega
    · intro v' w' h1 h2 h3 h4
      refine h v' w' (by unfold OwnI; simpa using h1) h2 ?_
      intro b hb
      rcases h4 with h4 | h4
      · exact .inl (by rw [← h4]; exact hb)
      · rw [h4] at hb; simp only [Option.some.injEq] at hb; exact .inr (by omega)
end
end Go.Proofs.YtedfepnekjjmnabDoor
