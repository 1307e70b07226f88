/-
  Plain ground for the seat's walks: terms as Lean data, how a Go value reads as one in memory, and what carries a reading from world to world. No condition.
-/
import Derived.Test.YtedfepnekjjmnabDoorRows
import Derived.WalkKit
import Derived.WalkSpells
import Derived.WalkLawsBesides
import Derived.BigQuiet
import Derived.Lib.Hide
namespace Go.Proofs.YtedfepnekjjmnabDoor
open Go.RowKit
set_option linter.unusedSimpArgs false
set_option linter.unusedVariables false

/-- A term of the Go program, right or not. -/
structure T where
  kind : Int
  n : Int
  name : ByteArray
  args : List T

/-- How many terms, and letters, each time they are reached. -/
def bulkL : List T → Nat
  | [] => 0
  | ⟨_, _, s, l⟩ :: ts => 1 + s.size + bulkL l + bulkL ts

theorem bulkL_cons (t : T) (ts : List T) : bulkL (t :: ts) = 1 + t.name.size + bulkL t.args + bulkL ts := by
  obtain ⟨k, n, s, l⟩ := t; rw [bulkL]

theorem bulkL_append (a b : List T) : bulkL (a ++ b) = bulkL a + bulkL b := by
  induction a with
  | nil => simp [bulkL]
  | cons t ts ih => simp only [List.cons_append, bulkL_cons, ih]; omega

theorem length_le_bulk (ts : List T) : ts.length ≤ bulkL ts := by
  induction ts with
  | nil => simp [bulkL]
  | cons t ts ih => simp only [List.length_cons, bulkL_cons]; omega

theorem bulk_mem {t : T} {ts : List T} (h : t ∈ ts) : bulkL [t] ≤ bulkL ts := by
  induction ts with
  | nil => cases h
  | cons x ts ih =>
    rcases List.mem_cons.1 h with rfl | h
    · simp only [bulkL_cons, bulkL]; omega
    · have := ih h; rw [bulkL_cons x]; omega

theorem bulk_args (t : T) : bulkL t.args < bulkL [t] := by simp only [bulkL_cons, bulkL]; omega
theorem bulk_name (t : T) : t.name.size < bulkL [t] := by simp only [bulkL_cons, bulkL]; omega

theorem bulk_at {ts : List T} {i : Nat} (h : i < ts.length) : bulkL [ts[i]] ≤ bulkL ts := bulk_mem (List.getElem_mem h)

/-- Induction over a term by its parts. -/
theorem T.ind {p : T → Prop} (h : ∀ t : T, (∀ x ∈ t.args, p x) → p t) (t : T) : p t := by
  have key : ∀ m (t : T), bulkL [t] ≤ m → p t := by
    intro m
    induction m with
    | zero => intro t ht; have := bulk_args t; omega
    | succ m ih => exact fun t ht => h t fun x hx => ih x (by have := bulk_args t; have := bulk_mem hx; omega)
  exact key _ t (Nat.le_refl _)

/-- Length and capacity of a slice; a nil one has none. -/
def CapOk (a : Option Addr) (n cap : Nat) : Prop := n ≤ cap ∧ (a = none → cap = 0)

/-- The cells of a row of terms, from index i on, lie in blocks of S. -/
def RTs (S : Nat → Prop) (w : World) : List T → Option Addr → Nat → Prop
  | [], _, _ => True
  | ⟨k, n, s, l⟩ :: ts, a, i =>
    (∃ b o a' cap, a = some ⟨b, o, none⟩ ∧ S b ∧ w.cell? ⟨b, o + i * 4, none⟩ = some (.int .i64 k) ∧ w.cell? ⟨b, o + i * 4 + 1, none⟩ = some (.int .i64 n) ∧
      w.cell? ⟨b, o + i * 4 + 2, none⟩ = some (.string s) ∧ w.cell? ⟨b, o + i * 4 + 3, none⟩ = some (.slice a' l.length cap) ∧ CapOk a' l.length cap ∧ RTs S w l a' 0) ∧ RTs S w ts a (i + 1)

/-- A value whose cells are a term's. -/
def RT (S : Nat → Prop) (w : World) (t : T) (v : Value) : Prop :=
  ∃ a cap, v = .agg #[.int .i64 t.kind, .int .i64 t.n, .string t.name, .slice a t.args.length cap] ∧ CapOk a t.args.length cap ∧ RTs S w t.args a 0

/-- A slice of terms. -/
def RSl (S : Nat → Prop) (w : World) (ts : List T) (v : Value) : Prop :=
  ∃ a cap, v = .slice a ts.length cap ∧ CapOk a ts.length cap ∧ RTs S w ts a 0

theorem RTs_cons (S : Nat → Prop) (w : World) (t : T) (ts : List T) (a : Option Addr) (i : Nat) : RTs S w (t :: ts) a i ↔
    (∃ b o a' cap, a = some ⟨b, o, none⟩ ∧ S b ∧ w.cell? ⟨b, o + i * 4, none⟩ = some (.int .i64 t.kind) ∧ w.cell? ⟨b, o + i * 4 + 1, none⟩ = some (.int .i64 t.n) ∧
      w.cell? ⟨b, o + i * 4 + 2, none⟩ = some (.string t.name) ∧ w.cell? ⟨b, o + i * 4 + 3, none⟩ = some (.slice a' t.args.length cap) ∧ CapOk a' t.args.length cap ∧ RTs S w t.args a' 0) ∧ RTs S w ts a (i + 1) := by
  obtain ⟨k, n, s, l⟩ := t; rw [RTs]

/-- By index: up. -/
theorem RTs_of (S : Nat → Prop) (w : World) (ts : List T) (a : Option Addr) (i : Nat)
    (h : ∀ j (hj : j < ts.length), ∃ b o a' cap, a = some ⟨b, o, none⟩ ∧ S b ∧ w.cell? ⟨b, o + (i + j) * 4, none⟩ = some (.int .i64 ts[j].kind) ∧ w.cell? ⟨b, o + (i + j) * 4 + 1, none⟩ = some (.int .i64 ts[j].n) ∧
      w.cell? ⟨b, o + (i + j) * 4 + 2, none⟩ = some (.string ts[j].name) ∧ w.cell? ⟨b, o + (i + j) * 4 + 3, none⟩ = some (.slice a' ts[j].args.length cap) ∧ CapOk a' ts[j].args.length cap ∧ RTs S w ts[j].args a' 0) : RTs S w ts a i := by
  induction ts generalizing i with
  | nil => simp [RTs]
  | cons t ts ih =>
    rw [RTs_cons]
    refine ⟨h 0 (by simp), ih (i + 1) fun j hj => ?_⟩
    have := h (j + 1) (by simpa using hj)
    rw [show i + 1 + j = i + (j + 1) by omega]
    exact this

/-- By index: down. -/
theorem RTs.at {S : Nat → Prop} {w : World} {ts : List T} {a : Option Addr} {i : Nat} (h : RTs S w ts a i) :
    ∀ j (hj : j < ts.length), ∃ b o a' cap, a = some ⟨b, o, none⟩ ∧ S b ∧ w.cell? ⟨b, o + (i + j) * 4, none⟩ = some (.int .i64 ts[j].kind) ∧ w.cell? ⟨b, o + (i + j) * 4 + 1, none⟩ = some (.int .i64 ts[j].n) ∧
      w.cell? ⟨b, o + (i + j) * 4 + 2, none⟩ = some (.string ts[j].name) ∧ w.cell? ⟨b, o + (i + j) * 4 + 3, none⟩ = some (.slice a' ts[j].args.length cap) ∧ CapOk a' ts[j].args.length cap ∧ RTs S w ts[j].args a' 0 := by
  induction ts generalizing i with
  | nil => intro j hj; cases hj
  | cons t ts ih =>
    rw [RTs_cons] at h
    intro j hj
    cases j with
    | zero => exact h.1
    | succ j =>
      have := ih h.2 j (by simpa using hj)
      rw [show i + 1 + j = i + (j + 1) by omega] at this
      exact this

/-- The address of a row that isn't empty. -/
theorem RTs.addr {S : Nat → Prop} {w : World} {ts : List T} {a : Option Addr} {i : Nat} (h : RTs S w ts a i) (hl : 0 < ts.length) : ∃ b o, a = some ⟨b, o, none⟩ := by
  obtain ⟨b, o, _, _, rfl, _⟩ := h.at 0 hl; exact ⟨b, o, rfl⟩

/-- One element of a row whose address is known. -/
theorem RTs.elem {S : Nat → Prop} {w : World} {ts : List T} {b o : Nat} (h : RTs S w ts (some ⟨b, o, none⟩) 0) (j : Nat) (hj : j < ts.length) :
    ∃ a' cap, S b ∧ w.cell? ⟨b, o + j * 4, none⟩ = some (.int .i64 ts[j].kind) ∧ w.cell? ⟨b, o + j * 4 + 1, none⟩ = some (.int .i64 ts[j].n) ∧
      w.cell? ⟨b, o + j * 4 + 2, none⟩ = some (.string ts[j].name) ∧ w.cell? ⟨b, o + j * 4 + 3, none⟩ = some (.slice a' ts[j].args.length cap) ∧
      RT S w ts[j] (.agg #[.int .i64 ts[j].kind, .int .i64 ts[j].n, .string ts[j].name, .slice a' ts[j].args.length cap]) := by
  obtain ⟨b', o', a', cap, e, hS, h0, h1, h2, h3, h4, h5⟩ := h.at j hj
  simp only [Option.some.injEq, Addr.mk.injEq, and_true] at e
  obtain ⟨rfl, rfl⟩ := e
  rw [Nat.zero_add] at h0 h1 h2 h3
  exact ⟨a', cap, hS, h0, h1, h2, h3, a', cap, rfl, h4, h5⟩

/-- From world to world, cell by cell. -/
theorem RTs.move {S S' : Nat → Prop} {w w' : World} (hs : ∀ b, S b → b < w.heap.size → S' b) (hc : ∀ b o v, S b → w.cell? ⟨b, o, none⟩ = some v → w'.cell? ⟨b, o, none⟩ = some v) :
    ∀ m (ts : List T) (a : Option Addr) (i : Nat), bulkL ts ≤ m → RTs S w ts a i → RTs S' w' ts a i := by
  intro m
  induction m with
  | zero => intro ts a i hm _; cases ts with
    | nil => simp [RTs]
    | cons t ts => rw [bulkL_cons] at hm; omega
  | succ m ih =>
    intro ts a i hm h
    refine RTs_of _ _ _ _ _ fun j hj => ?_
    obtain ⟨b, o, a', cap, e, hS, h0, h1, h2, h3, h4, h5⟩ := h.at j hj
    have hb := bulk_at hj
    have ha := bulk_args ts[j]
    exact ⟨b, o, a', cap, e, hs b hS (World.block_lt_of_cell? w _ h0), hc _ _ _ hS h0, hc _ _ _ hS h1, hc _ _ _ hS h2, hc _ _ _ hS h3, h4, ih _ _ _ (by omega) h5⟩

theorem RTs.to {S S' : Nat → Prop} {w w' : World} {ts : List T} {a : Option Addr} {i : Nat} (h : RTs S w ts a i) (hs : ∀ b, S b → b < w.heap.size → S' b)
    (hc : ∀ b, S b → b < w.heap.size → w'.heap[b]? = w.heap[b]?) : RTs S' w' ts a i :=
  RTs.move hs (fun b o v hS hv => by rw [World.cell?_of_block (w := w) (hc b hS (World.block_lt_of_cell? w _ hv))]; exact hv) _ ts a i (Nat.le_refl _) h

theorem RT.to {S S' : Nat → Prop} {w w' : World} {t : T} {v : Value} (h : RT S w t v) (hs : ∀ b, S b → b < w.heap.size → S' b)
    (hc : ∀ b, S b → b < w.heap.size → w'.heap[b]? = w.heap[b]?) : RT S' w' t v := by
  obtain ⟨a, cap, e, hl, hr⟩ := h; exact ⟨a, cap, e, hl, hr.to hs hc⟩

theorem RSl.to {S S' : Nat → Prop} {w w' : World} {ts : List T} {v : Value} (h : RSl S w ts v) (hs : ∀ b, S b → b < w.heap.size → S' b)
    (hc : ∀ b, S b → b < w.heap.size → w'.heap[b]? = w.heap[b]?) : RSl S' w' ts v := by
  obtain ⟨a, cap, e, hl, hr⟩ := h; exact ⟨a, cap, e, hl, hr.to hs hc⟩

/-- Old memory stays. -/
theorem RT.below {S : Nat → Prop} {w w' : World} {t : T} {v : Value} (h : RT S w t v) (hB : Below w.heap.size w w') : RT S w' t v := h.to (fun _ h _ => h) fun b _ hb => hB.block b hb
theorem RTs.below {S : Nat → Prop} {w w' : World} {ts : List T} {a : Option Addr} {i : Nat} (h : RTs S w ts a i) (hB : Below w.heap.size w w') : RTs S w' ts a i := h.to (fun _ h _ => h) fun b _ hb => hB.block b hb
theorem RSl.below {S : Nat → Prop} {w w' : World} {ts : List T} {v : Value} (h : RSl S w ts v) (hB : Below w.heap.size w w') : RSl S w' ts v := h.to (fun _ h _ => h) fun b _ hb => hB.block b hb
theorem RT.mono {S S' : Nat → Prop} {w : World} {t : T} {v : Value} (h : RT S w t v) (hs : ∀ b, S b → S' b) : RT S' w t v := h.to (fun b h _ => hs b h) fun _ _ _ => rfl
theorem RSl.mono {S S' : Nat → Prop} {w : World} {ts : List T} {v : Value} (h : RSl S w ts v) (hs : ∀ b, S b → S' b) : RSl S' w ts v := h.to (fun b h _ => hs b h) fun _ _ _ => rfl

/-- A new block, old memory. -/
theorem below_alloc (w : World) (o : Obj) : Below w.heap.size w (w.alloc o) := (Below.refl _ _).alloc (Nat.le_refl _) o

theorem RT.alloc {S : Nat → Prop} {w : World} {t : T} {v : Value} (h : RT S w t v) (o : Obj) : RT S (w.alloc o) t v := h.below (below_alloc w o)
theorem RTs.alloc {S : Nat → Prop} {w : World} {ts : List T} {a : Option Addr} {i : Nat} (h : RTs S w ts a i) (o : Obj) : RTs S (w.alloc o) ts a i := h.below (below_alloc w o)
theorem RSl.alloc {S : Nat → Prop} {w : World} {ts : List T} {v : Value} (h : RSl S w ts v) (o : Obj) : RSl S (w.alloc o) ts v := h.below (below_alloc w o)

/-- What is below stays, cell by cell: two rules for the walk. -/
theorem bcell {W w1 : World} (hb : Below W.heap.size W w1) : (∀ b o, b < W.heap.size → w1.cell? ⟨b, o, none⟩ = W.cell? ⟨b, o, none⟩) ∧ (∀ b o, b < W.heap.size → w1.frozen? ⟨b, o, none⟩ = W.frozen? ⟨b, o, none⟩) :=
  ⟨fun b o h => hb.cell (p := ⟨b, o, none⟩) h, fun b o h => hb.frozen (p := ⟨b, o, none⟩) h⟩

/-- Steps of 'Below' over new memory. -/
theorem below_step {B : Nat} {a w w' : World} (h : Below B a w) (hB : B ≤ w.heap.size) (h' : Below w.heap.size w w') : Below B a w' := h.trans (h'.mono hB)

/-- A list's sum of sizes by its first k ones. -/
theorem take_snoc' {α : Type} (l : List α) (k : Nat) (h : k < l.length) : l.take (k + 1) = l.take k ++ [l[k]] := by
  rw [List.take_succ_eq_append_getElem h]

theorem bulk_take (l : List T) (k : Nat) : bulkL (l.take k) ≤ bulkL l := by
  have h := bulkL_append (l.take k) (l.drop k)
  rw [List.take_append_drop] at h
  omega

theorem bulk_snoc {l : List T} {k : Nat} (h : k < l.length) : bulkL (l.take k) + bulkL [l[k]] ≤ bulkL l := by
  have h1 := bulk_take l (k + 1)
  rw [take_snoc' l k h, bulkL_append] at h1
  exact h1

theorem ret_int {k : IntKind} {a b : Int} (h : a = b) : Ending.returned (.int k a) = .returned (.int k b) := by rw [h]
theorem ret_bool {a b : Bool} (h : a = b) : Ending.returned (.bool a) = .returned (.bool b) := by rw [h]

/-- A fresh struct variable's block, behind calls that left old memory alone: its cells, and that it may be written. -/
theorem slot_facts {w w3 : World} {cs : Array Value} {e : TypeId} (hB : Below (w.heap.size + 1) (w.alloc (.cells cs e)) w3) :
    (∀ o, w3.cell? ⟨w.heap.size, o, none⟩ = cs[o]?) ∧ (∀ o, w3.frozen? ⟨w.heap.size, o, none⟩ = false) ∧ w.heap.size < w3.heap.size := by
  have h : w3.heap[w.heap.size]? = some (.cells cs e (0, 0)) := by rw [hB.block _ (by omega)]; exact heap_alloc_new w _
  have := hB.size
  simp only [World.size_alloc] at this
  exact ⟨fun o => cell_of_row w3 _ o cs e (0, 0) h, fun o => frozen_of_row w3 _ o cs e h, by omega⟩

theorem below_slot {B : Nat} {a w : World} (h : Below B a w) (o : Nat) (u : Value) : Below B a (w.setCell ⟨B, o, none⟩ u) := h.setCell (p := ⟨B, o, none⟩) (Nat.le_refl _) u

/-- What lies in other blocks than B stays when B's cells are written. -/
theorem setCell_other (w : World) (B o : Nat) (v : Value) (b : Nat) (h : b ≠ B) : (w.setCell ⟨B, o, none⟩ v).heap[b]? = w.heap[b]? := Below.heap_setCell w ⟨B, o, none⟩ v b h

end Go.Proofs.YtedfepnekjjmnabDoor
