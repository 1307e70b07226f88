/-
  Contracts and plain laws, joined: Base Row All Frame Gen Grow Copied Is Own PtrM RowQ Size St. Conditions stand in each.
-/
import Derived.Test.YtedfepnekjjmnabRows
import Derived.WalkKit
import Derived.WalkSpells
import Derived.WalkLawsBesides
import Derived.BigQuiet
import Derived.Lib.Hide
import Derived.Deep.AppendLies
import Derived.Laws.AppendOwnNone
import Derived.ProofKit
import Derived.OpenShut
import Derived.JoinedCond
import Derived.Carry
import Derived.Deep.Slices
import Derived.Laws.Rows
import Derived.LaidEql
import Derived.Maps.Own
/-
 Plain ground for the seat's walks: terms as Lean data, how a Go value reads as one in memory, and what carries a reading from world to world. No condition.
-/
namespace Go.Proofs.Ytedfepnekjjmnab
open Go.RowKit
set_option linter.unusedSimpArgs false
set_option linter.unusedVariables false

/-- A term of the Go program, right or not. -/
structure T where
 kind : Int
 n : Int
 name : ByteArray
 args : List T

/-- How many terms, and letters, each time they are reached. -/
def bulkL : List T → Nat
 | [] => 0
 | ⟨_, _, s, l⟩ :: ts => 1 + s.size + bulkL l + bulkL ts

theorem bulkL_cons (t : T) (ts : List T) : bulkL (t :: ts) = 1 + t.name.size + bulkL t.args + bulkL ts := by
 obtain ⟨k, n, s, l⟩ := t; rw [bulkL]

theorem bulkL_append (a b : List T) : bulkL (a ++ b) = bulkL a + bulkL b := by
 induction a with
 | nil => simp [bulkL]
 | cons t ts ih => simp only [List.cons_append, bulkL_cons, ih]; omega

theorem length_le_bulk (ts : List T) : ts.length ≤ bulkL ts := by
 induction ts with
 | nil => simp [bulkL]
 | cons t ts ih => simp only [List.length_cons, bulkL_cons]; omega

theorem bulk_mem {t : T} {ts : List T} (h : t ∈ ts) : bulkL [t] ≤ bulkL ts := by
 induction ts with
 | nil => cases h
 | cons x ts ih =>
  rcases List.mem_cons.1 h with rfl | h
  ·simp only [bulkL_cons, bulkL]; omega
  ·have := ih h; rw [bulkL_cons x]; omega

theorem bulk_args (t : T) : bulkL t.args < bulkL [t] := by simp only [bulkL_cons, bulkL]; omega
theorem bulk_name (t : T) : t.name.size < bulkL [t] := by simp only [bulkL_cons, bulkL]; omega

theorem bulk_at {ts : List T} {i : Nat} (h : i < ts.length) : bulkL [ts[i]] ≤ bulkL ts := bulk_mem (List.getElem_mem h)

/-- Induction over a term by its parts. -/
theorem T.ind {p : T → Prop} (h : ∀ t : T, (∀ x ∈ t.args, p x) → p t) (t : T) : p t := by
 have key : ∀ m (t : T), bulkL [t] ≤ m → p t := by
  intro m
  induction m with
  | zero => intro t ht; have := bulk_args t; omega
  | succ m ih => exact fun t ht => h t fun x hx => ih x (by have := bulk_args t; have := bulk_mem hx; omega)
 exact key _ t (Nat.le_refl _)

/-- Length and capacity of a slice; a nil one has none. -/
def CapOk (a : Option Addr) (n cap : Nat) : Prop := n ≤ cap ∧ (a = none → cap = 0)

/-- The cells of a row of terms, from index i on, lie in blocks of S. -/
def RTs (S : Nat → Prop) (w : World) : List T → Option Addr → Nat → Prop
 | [], _, _ => True
 | ⟨k, n, s, l⟩ :: ts, a, i =>
  (∃ b o a' cap, a = some ⟨b, o, none⟩ ∧ S b ∧ w.cell? ⟨b, o + i * 4, none⟩ = some (.int .i64 k) ∧ w.cell? ⟨b, o + i * 4 + 1, none⟩ = some (.int .i64 n) ∧
   w.cell? ⟨b, o + i * 4 + 2, none⟩ = some (.string s) ∧ w.cell? ⟨b, o + i * 4 + 3, none⟩ = some (.slice a' l.length cap) ∧ CapOk a' l.length cap ∧ RTs S w l a' 0) ∧ RTs S w ts a (i + 1)

/-- A value whose cells are a term's. -/
def RT (S : Nat → Prop) (w : World) (t : T) (v : Value) : Prop :=
 ∃ a cap, v = .agg #[.int .i64 t.kind, .int .i64 t.n, .string t.name, .slice a t.args.length cap] ∧ CapOk a t.args.length cap ∧ RTs S w t.args a 0

/-- A slice of terms. -/
def RSl (S : Nat → Prop) (w : World) (ts : List T) (v : Value) : Prop :=
 ∃ a cap, v = .slice a ts.length cap ∧ CapOk a ts.length cap ∧ RTs S w ts a 0

theorem RTs_cons (S : Nat → Prop) (w : World) (t : T) (ts : List T) (a : Option Addr) (i : Nat) : RTs S w (t :: ts) a i ↔
  (∃ b o a' cap, a = some ⟨b, o, none⟩ ∧ S b ∧ w.cell? ⟨b, o + i * 4, none⟩ = some (.int .i64 t.kind) ∧ w.cell? ⟨b, o + i * 4 + 1, none⟩ = some (.int .i64 t.n) ∧
   w.cell? ⟨b, o + i * 4 + 2, none⟩ = some (.string t.name) ∧ w.cell? ⟨b, o + i * 4 + 3, none⟩ = some (.slice a' t.args.length cap) ∧ CapOk a' t.args.length cap ∧ RTs S w t.args a' 0) ∧ RTs S w ts a (i + 1) := by
 obtain ⟨k, n, s, l⟩ := t; rw [RTs]

/-- By index: up. -/
theorem RTs_of (S : Nat → Prop) (w : World) (ts : List T) (a : Option Addr) (i : Nat)
  (h : ∀ j (hj : j < ts.length), ∃ b o a' cap, a = some ⟨b, o, none⟩ ∧ S b ∧ w.cell? ⟨b, o + (i + j) * 4, none⟩ = some (.int .i64 ts[j].kind) ∧ w.cell? ⟨b, o + (i + j) * 4 + 1, none⟩ = some (.int .i64 ts[j].n) ∧
   w.cell? ⟨b, o + (i + j) * 4 + 2, none⟩ = some (.string ts[j].name) ∧ w.cell? ⟨b, o + (i + j) * 4 + 3, none⟩ = some (.slice a' ts[j].args.length cap) ∧ CapOk a' ts[j].args.length cap ∧ RTs S w ts[j].args a' 0) : RTs S w ts a i := by
 induction ts generalizing i with
 | nil => simp [RTs]
 | cons t ts ih =>
  rw [RTs_cons]
  refine ⟨h 0 (by simp), ih (i + 1) fun j hj => ?_⟩
  have := h (j + 1) (by simpa using hj)
  rw [show i + 1 + j = i + (j + 1) by omega]
  exact this

/-- By index: down. -/
theorem RTs.at {S : Nat → Prop} {w : World} {ts : List T} {a : Option Addr} {i : Nat} (h : RTs S w ts a i) :
  ∀ j (hj : j < ts.length), ∃ b o a' cap, a = some ⟨b, o, none⟩ ∧ S b ∧ w.cell? ⟨b, o + (i + j) * 4, none⟩ = some (.int .i64 ts[j].kind) ∧ w.cell? ⟨b, o + (i + j) * 4 + 1, none⟩ = some (.int .i64 ts[j].n) ∧
   w.cell? ⟨b, o + (i + j) * 4 + 2, none⟩ = some (.string ts[j].name) ∧ w.cell? ⟨b, o + (i + j) * 4 + 3, none⟩ = some (.slice a' ts[j].args.length cap) ∧ CapOk a' ts[j].args.length cap ∧ RTs S w ts[j].args a' 0 := by
 induction ts generalizing i with
 | nil => intro j hj; cases hj
 | cons t ts ih =>
  rw [RTs_cons] at h
  intro j hj
  cases j with
  | zero => exact h.1
  | succ j =>
   have := ih h.2 j (by simpa using hj)
   rw [show i + 1 + j = i + (j + 1) by omega] at this
   exact this

/-- The address of a row that isn't empty. -/
theorem RTs.addr {S : Nat → Prop} {w : World} {ts : List T} {a : Option Addr} {i : Nat} (h : RTs S w ts a i) (hl : 0 < ts.length) : ∃ b o, a = some ⟨b, o, none⟩ := by
 obtain ⟨b, o, _, _, rfl, _⟩ := h.at 0 hl; exact ⟨b, o, rfl⟩

/-- One element of a row whose address is known. -/
theorem RTs.elem {S : Nat → Prop} {w : World} {ts : List T} {b o : Nat} (h : RTs S w ts (some ⟨b, o, none⟩) 0) (j : Nat) (hj : j < ts.length) :
  ∃ a' cap, S b ∧ w.cell? ⟨b, o + j * 4, none⟩ = some (.int .i64 ts[j].kind) ∧ w.cell? ⟨b, o + j * 4 + 1, none⟩ = some (.int .i64 ts[j].n) ∧
   w.cell? ⟨b, o + j * 4 + 2, none⟩ = some (.string ts[j].name) ∧ w.cell? ⟨b, o + j * 4 + 3, none⟩ = some (.slice a' ts[j].args.length cap) ∧
   RT S w ts[j] (.agg #[.int .i64 ts[j].kind, .int .i64 ts[j].n, .string ts[j].name, .slice a' ts[j].args.length cap]) := by
 obtain ⟨b', o', a', cap, e, hS, h0, h1, h2, h3, h4, h5⟩ := h.at j hj
 simp only [Option.some.injEq, Addr.mk.injEq, and_true] at e
 obtain ⟨rfl, rfl⟩ := e
 rw [Nat.zero_add] at h0 h1 h2 h3
 exact ⟨a', cap, hS, h0, h1, h2, h3, a', cap, rfl, h4, h5⟩

/-- From world to world, cell by cell. -/
theorem RTs.move {S S' : Nat → Prop} {w w' : World} (hs : ∀ b, S b → b < w.heap.size → S' b) (hc : ∀ b o v, S b → w.cell? ⟨b, o, none⟩ = some v → w'.cell? ⟨b, o, none⟩ = some v) :
  ∀ m (ts : List T) (a : Option Addr) (i : Nat), bulkL ts ≤ m → RTs S w ts a i → RTs S' w' ts a i := by
 intro m
 induction m with
 | zero => intro ts a i hm _; cases ts with
  | nil => simp [RTs]
  | cons t ts => rw [bulkL_cons] at hm; omega
 | succ m ih =>
  intro ts a i hm h
  refine RTs_of _ _ _ _ _ fun j hj => ?_
  obtain ⟨b, o, a', cap, e, hS, h0, h1, h2, h3, h4, h5⟩ := h.at j hj
  have hb := bulk_at hj
  have ha := bulk_args ts[j]
  exact ⟨b, o, a', cap, e, hs b hS (World.block_lt_of_cell? w _ h0), hc _ _ _ hS h0, hc _ _ _ hS h1, hc _ _ _ hS h2, hc _ _ _ hS h3, h4, ih _ _ _ (by omega) h5⟩

theorem RTs.to {S S' : Nat → Prop} {w w' : World} {ts : List T} {a : Option Addr} {i : Nat} (h : RTs S w ts a i) (hs : ∀ b, S b → b < w.heap.size → S' b)
  (hc : ∀ b, S b → b < w.heap.size → w'.heap[b]? = w.heap[b]?) : RTs S' w' ts a i :=
 RTs.move hs (fun b o v hS hv => by rw [World.cell?_of_block (w := w) (hc b hS (World.block_lt_of_cell? w _ hv))]; exact hv) _ ts a i (Nat.le_refl _) h

theorem RT.to {S S' : Nat → Prop} {w w' : World} {t : T} {v : Value} (h : RT S w t v) (hs : ∀ b, S b → b < w.heap.size → S' b)
  (hc : ∀ b, S b → b < w.heap.size → w'.heap[b]? = w.heap[b]?) : RT S' w' t v := by
 obtain ⟨a, cap, e, hl, hr⟩ := h; exact ⟨a, cap, e, hl, hr.to hs hc⟩

theorem RSl.to {S S' : Nat → Prop} {w w' : World} {ts : List T} {v : Value} (h : RSl S w ts v) (hs : ∀ b, S b → b < w.heap.size → S' b)
  (hc : ∀ b, S b → b < w.heap.size → w'.heap[b]? = w.heap[b]?) : RSl S' w' ts v := by
 obtain ⟨a, cap, e, hl, hr⟩ := h; exact ⟨a, cap, e, hl, hr.to hs hc⟩

/-- Old memory stays. -/
theorem RT.below {S : Nat → Prop} {w w' : World} {t : T} {v : Value} (h : RT S w t v) (hB : Below w.heap.size w w') : RT S w' t v := h.to (fun _ h _ => h) fun b _ hb => hB.block b hb
theorem RTs.below {S : Nat → Prop} {w w' : World} {ts : List T} {a : Option Addr} {i : Nat} (h : RTs S w ts a i) (hB : Below w.heap.size w w') : RTs S w' ts a i := h.to (fun _ h _ => h) fun b _ hb => hB.block b hb
theorem RSl.below {S : Nat → Prop} {w w' : World} {ts : List T} {v : Value} (h : RSl S w ts v) (hB : Below w.heap.size w w') : RSl S w' ts v := h.to (fun _ h _ => h) fun b _ hb => hB.block b hb
theorem RT.mono {S S' : Nat → Prop} {w : World} {t : T} {v : Value} (h : RT S w t v) (hs : ∀ b, S b → S' b) : RT S' w t v := h.to (fun b h _ => hs b h) fun _ _ _ => rfl
theorem RSl.mono {S S' : Nat → Prop} {w : World} {ts : List T} {v : Value} (h : RSl S w ts v) (hs : ∀ b, S b → S' b) : RSl S' w ts v := h.to (fun b h _ => hs b h) fun _ _ _ => rfl

/-- A new block, old memory. -/
theorem below_alloc (w : World) (o : Obj) : Below w.heap.size w (w.alloc o) := (Below.refl _ _).alloc (Nat.le_refl _) o

theorem RT.alloc {S : Nat → Prop} {w : World} {t : T} {v : Value} (h : RT S w t v) (o : Obj) : RT S (w.alloc o) t v := h.below (below_alloc w o)
theorem RTs.alloc {S : Nat → Prop} {w : World} {ts : List T} {a : Option Addr} {i : Nat} (h : RTs S w ts a i) (o : Obj) : RTs S (w.alloc o) ts a i := h.below (below_alloc w o)
theorem RSl.alloc {S : Nat → Prop} {w : World} {ts : List T} {v : Value} (h : RSl S w ts v) (o : Obj) : RSl S (w.alloc o) ts v := h.below (below_alloc w o)

/-- What is below stays, cell by cell: two rules for the walk. -/
theorem bcell {W w1 : World} (hb : Below W.heap.size W w1) : (∀ b o, b < W.heap.size → w1.cell? ⟨b, o, none⟩ = W.cell? ⟨b, o, none⟩) ∧ (∀ b o, b < W.heap.size → w1.frozen? ⟨b, o, none⟩ = W.frozen? ⟨b, o, none⟩) :=
 ⟨fun b o h => hb.cell (p := ⟨b, o, none⟩) h, fun b o h => hb.frozen (p := ⟨b, o, none⟩) h⟩

/-- Steps of 'Below' over new memory. -/
theorem below_step {B : Nat} {a w w' : World} (h : Below B a w) (hB : B ≤ w.heap.size) (h' : Below w.heap.size w w') : Below B a w' := h.trans (h'.mono hB)

/-- A list's sum of sizes by its first k ones. -/
theorem take_snoc' {α : Type} (l : List α) (k : Nat) (h : k < l.length) : l.take (k + 1) = l.take k ++ [l[k]] := by
 rw [List.take_succ_eq_append_getElem h]

theorem bulk_take (l : List T) (k : Nat) : bulkL (l.take k) ≤ bulkL l := by
 have h := bulkL_append (l.take k) (l.drop k)
 rw [List.take_append_drop] at h
 omega

theorem bulk_snoc {l : List T} {k : Nat} (h : k < l.length) : bulkL (l.take k) + bulkL [l[k]] ≤ bulkL l := by
 have h1 := bulk_take l (k + 1)
 rw [take_snoc' l k h, bulkL_append] at h1
 exact h1

theorem ret_int {k : IntKind} {a b : Int} (h : a = b) : Ending.returned (.int k a) = .returned (.int k b) := by rw [h]
theorem ret_bool {a b : Bool} (h : a = b) : Ending.returned (.bool a) = .returned (.bool b) := by rw [h]

/-- What lies in other blocks than B stays when B's cells are written. -/
theorem setCell_other (w : World) (B o : Nat) (v : Value) (b : Nat) (h : b ≠ B) : (w.setCell ⟨B, o, none⟩ v).heap[b]? = w.heap[b]? := Below.heap_setCell w ⟨B, o, none⟩ v b h

theorem pA {α : Type _} (l : List α) (i : Nat) (a : α) : l.toArray.setIfInBounds i a = (l.set i a).toArray := List.setIfInBounds_toArray ..
theorem pB {α : Type _} (x : α) (l : List α) (a : α) : (x :: l).set 0 a = a :: l := rfl
theorem pC {α : Type _} (x : α) (l : List α) (n : Nat) (a : α) : (x :: l).set (n + 1) a = x :: l.set n a := rfl
end Go.Proofs.Ytedfepnekjjmnab

/-
 Rows of terms and of ints that a call itself appends to; the append laws in these words. No condition.
-/
namespace Go.Proofs.Ytedfepnekjjmnab
open Go.RowKit
set_option linter.unusedSimpArgs false
set_option linter.unusedVariables false

/-- The cells of a list of terms, one term behind the other; what their parts lead to lies in S. -/
def CellsT (S : Nat → Prop) (w : World) : List T → List Value → Prop
 | [], cs => cs = []
 | t :: ts, cs => ∃ a cap cs', cs = .int .i64 t.kind :: .int .i64 t.n :: .string t.name :: .slice a t.args.length cap :: cs' ∧ CapOk a t.args.length cap ∧ RTs S w t.args a 0 ∧ CellsT S w ts cs'

theorem CellsT.length {S : Nat → Prop} {w : World} {ts : List T} {cs : List Value} (h : CellsT S w ts cs) : cs.length = ts.length * 4 := by
 induction ts generalizing cs with
 | nil => simp only [CellsT] at h; subst h; rfl
 | cons t ts ih => obtain ⟨a, cap, cs', rfl, _, _, h'⟩ := h; simp only [List.length_cons, ih h']; omega

theorem CellsT.append {S : Nat → Prop} {w : World} {ts ls : List T} {cs ds : List Value} (h : CellsT S w ts cs) (h' : CellsT S w ls ds) : CellsT S w (ts ++ ls) (cs ++ ds) := by
 induction ts generalizing cs with
 | nil => simp only [CellsT] at h; subst h; exact h'
 | cons t ts ih => obtain ⟨a, cap, cs', rfl, h1, h2, h3⟩ := h; exact ⟨a, cap, cs' ++ ds, rfl, h1, h2, ih h3⟩

theorem CellsT.oneCell {S : Nat → Prop} {w : World} {ts : List T} {cs : List Value} (h : CellsT S w ts cs) : ∀ u ∈ cs, u.oneCell' = true := by
 induction ts generalizing cs with
 | nil => simp only [CellsT] at h; subst h; simp
 | cons t ts ih =>
  obtain ⟨a, cap, cs', rfl, h1, h2, h3⟩ := h
  intro u hu
  simp only [List.mem_cons] at hu
  rcases hu with rfl | rfl | rfl | rfl | hu
  ·rfl
  ·rfl
  ·rfl
  ·rfl
  ·exact ih h3 u hu

theorem CellsT.to {S S' : Nat → Prop} {w w' : World} {ts : List T} {cs : List Value} (h : CellsT S w ts cs) (hs : ∀ b, S b → b < w.heap.size → S' b)
  (hc : ∀ b, S b → b < w.heap.size → w'.heap[b]? = w.heap[b]?) : CellsT S' w' ts cs := by
 induction ts generalizing cs with
 | nil => exact h
 | cons t ts ih => obtain ⟨a, cap, cs', rfl, h1, h2, h3⟩ := h; exact ⟨a, cap, cs', rfl, h1, h2.to hs hc, ih h3⟩

theorem CellsT.at {S : Nat → Prop} {w : World} {ts : List T} {cs : List Value} (h : CellsT S w ts cs) (j : Nat) (hj : j < ts.length) :
  ∃ a cap, cs[j * 4]? = some (.int .i64 ts[j].kind) ∧ cs[j * 4 + 1]? = some (.int .i64 ts[j].n) ∧ cs[j * 4 + 2]? = some (.string ts[j].name) ∧ cs[j * 4 + 3]? = some (.slice a ts[j].args.length cap) ∧
   CapOk a ts[j].args.length cap ∧ RTs S w ts[j].args a 0 := by
 induction ts generalizing cs j with
 | nil => cases hj
 | cons t ts ih =>
  obtain ⟨a, cap, cs', rfl, h1, h2, h3⟩ := h
  cases j with
  | zero => exact ⟨a, cap, rfl, rfl, rfl, rfl, h1, h2⟩
  | succ j =>
   obtain ⟨a', cap', g0, g1, g2, g3, g4, g5⟩ := ih h3 j (by simpa using hj)
   refine ⟨a', cap', ?_, ?_, ?_, ?_, g4, g5⟩
   ·rw [show (j + 1) * 4 = j * 4 + 1 + 1 + 1 + 1 by omega]; exact g0
   ·rw [show (j + 1) * 4 + 1 = j * 4 + 1 + 1 + 1 + 1 + 1 by omega]; exact g1
   ·rw [show (j + 1) * 4 + 2 = j * 4 + 2 + 1 + 1 + 1 + 1 by omega]; exact g2
   ·rw [show (j + 1) * 4 + 3 = j * 4 + 3 + 1 + 1 + 1 + 1 by omega]; exact g3

/-- A slice of terms: its row lies in a block of R, what the parts lead to in S. -/
def RSl2 (R S : Nat → Prop) (w : World) (ts : List T) (v : Value) : Prop :=
 ∃ a cap cs, v = .slice a ts.length cap ∧ CapOk a ts.length cap ∧ CellsT S w ts cs ∧ ∀ j u, cs[j]? = some u → ∃ b o, a = some ⟨b, o, none⟩ ∧ R b ∧ w.cell? ⟨b, o + j, none⟩ = some u

theorem RSl2.to {R R' S S' : Nat → Prop} {w w' : World} {ts : List T} {v : Value} (h : RSl2 R S w ts v) (hr : ∀ b, R b → b < w.heap.size → R' b) (hs : ∀ b, S b → b < w.heap.size → S' b)
  (hc : ∀ b, S b ∨ R b → b < w.heap.size → w'.heap[b]? = w.heap[b]?) : RSl2 R' S' w' ts v := by
 obtain ⟨a, cap, cs, rfl, hl, hC, hj⟩ := h
 refine ⟨a, cap, cs, rfl, hl, hC.to hs (fun b hb => hc b (.inl hb)), fun j u hu => ?_⟩
 obtain ⟨b, o, rfl, hR, hcell⟩ := hj j u hu
 have hlt := World.block_lt_of_cell? w _ hcell
 exact ⟨b, o, rfl, hr b hR hlt, by rw [World.cell?_of_block (w := w) (hc b (.inr hR) hlt)]; exact hcell⟩

theorem RSl2.below {R S : Nat → Prop} {w w' : World} {ts : List T} {v : Value} (h : RSl2 R S w ts v) (hB : Below w.heap.size w w') : RSl2 R S w' ts v := h.to (fun _ h _ => h) (fun _ h _ => h) fun b _ hb => hB.block b hb
theorem RSl2.mono {R R' S S' : Nat → Prop} {w : World} {ts : List T} {v : Value} (h : RSl2 R S w ts v) (hr : ∀ b, R b → R' b) (hs : ∀ b, S b → S' b) : RSl2 R' S' w ts v := h.to (fun b h _ => hr b h) (fun b h _ => hs b h) fun _ _ _ => rfl

theorem RSl2.form {R S : Nat → Prop} {w : World} {ts : List T} {v : Value} (h : RSl2 R S w ts v) : ∃ a cap, v = .slice a ts.length cap := by
 obtain ⟨a, cap, _, rfl, _⟩ := h; exact ⟨a, cap, rfl⟩

theorem RSl2.addr {R S : Nat → Prop} {w : World} {ts : List T} {a : Option Addr} {n cap : Nat} (h : RSl2 R S w ts (.slice a n cap)) (hl : 0 < ts.length) : ∃ b o, a = some ⟨b, o, none⟩ := by
 obtain ⟨a', cap', cs, e, hcl, hC, hj⟩ := h
 simp only [Value.slice.injEq] at e
 obtain ⟨rfl, _, _⟩ := e
 obtain ⟨_, _, h0, _⟩ := hC.at 0 hl
 obtain ⟨b, o, e, _⟩ := hj _ _ h0
 exact ⟨b, o, e⟩

theorem RSl2.elem {R S : Nat → Prop} {w : World} {ts : List T} {b o n cap : Nat} (h : RSl2 R S w ts (.slice (some ⟨b, o, none⟩) n cap)) (j : Nat) (hj : j < ts.length) :
  ∃ a' cap', R b ∧ w.cell? ⟨b, o + j * 4, none⟩ = some (.int .i64 ts[j].kind) ∧ w.cell? ⟨b, o + j * 4 + 1, none⟩ = some (.int .i64 ts[j].n) ∧
   w.cell? ⟨b, o + j * 4 + 2, none⟩ = some (.string ts[j].name) ∧ w.cell? ⟨b, o + j * 4 + 3, none⟩ = some (.slice a' ts[j].args.length cap') ∧
   RT S w ts[j] (.agg #[.int .i64 ts[j].kind, .int .i64 ts[j].n, .string ts[j].name, .slice a' ts[j].args.length cap']) := by
 obtain ⟨a', cap', cs, e, hcl, hC, hj'⟩ := h
 simp only [Value.slice.injEq] at e
 obtain ⟨rfl, _, _⟩ := e
 obtain ⟨a', cap', h0, h1, h2, h3, h4, h5⟩ := hC.at j hj
 have key : ∀ i u, cs[i]? = some u → R b ∧ w.cell? ⟨b, o + i, none⟩ = some u := by
  intro i u hu
  obtain ⟨b', o', e, hR, hc⟩ := hj' i u hu
  simp only [Option.some.injEq, Addr.mk.injEq, and_true] at e
  obtain ⟨rfl, rfl⟩ := e
  exact ⟨hR, hc⟩
 exact ⟨a', cap', (key _ _ h0).1, (key _ _ h0).2, (key _ _ h1).2, (key _ _ h2).2, (key _ _ h3).2, a', cap', rfl, h4, h5⟩

/-- Both words for one slice. -/
theorem RSl2.rsl {R S : Nat → Prop} {w : World} {ts : List T} {v : Value} (h : RSl2 R S w ts v) : RSl (fun b => R b ∨ S b) w ts v := by
 obtain ⟨a, cap, cs, rfl, hl, hC, hj⟩ := h
 refine ⟨a, cap, rfl, hl, RTs_of _ _ _ _ _ fun j hjl => ?_⟩
 obtain ⟨a', cap', h0, h1, h2, h3, h4, h5⟩ := hC.at j hjl
 obtain ⟨b, o, rfl, hR, hc0⟩ := hj _ _ h0
 have key : ∀ i u, cs[i]? = some u → w.cell? ⟨b, o + i, none⟩ = some u := by
  intro i u hu
  obtain ⟨b', o', e, _, hc⟩ := hj i u hu
  simp only [Option.some.injEq, Addr.mk.injEq, and_true] at e
  obtain ⟨rfl, rfl⟩ := e
  exact hc
 rw [Nat.zero_add]
 exact ⟨b, o, a', cap', rfl, .inl hR, key _ _ h0, key _ _ h1, key _ _ h2, key _ _ h3, h4, h5.to (fun _ h _ => .inr h) fun _ _ _ => rfl⟩

theorem RTs.cells {S : Nat → Prop} {w : World} : ∀ {ts : List T} {a : Option Addr} {i : Nat}, RTs S w ts a i →
  ∃ cs, CellsT S w ts cs ∧ ∀ j u, cs[j]? = some u → ∃ b o, a = some ⟨b, o, none⟩ ∧ S b ∧ w.cell? ⟨b, o + i * 4 + j, none⟩ = some u
 | [], _, _, _ => ⟨[], rfl, fun j u h => by simp at h⟩
 | t :: ts, a, i, h => by
  rw [RTs_cons] at h
  obtain ⟨⟨b, o, a', cap, rfl, hS, h0, h1, h2, h3, h4, h5⟩, hr⟩ := h
  obtain ⟨cs, hC, hj⟩ := RTs.cells hr
  refine ⟨_, ⟨a', cap, cs, rfl, h4, h5, hC⟩, fun j u hu => ?_⟩
  match j, hu with
  | 0, hu => exact ⟨b, o, rfl, hS, by simp only [List.getElem?_cons_zero] at hu; rw [← hu]; exact h0⟩
  | 1, hu => exact ⟨b, o, rfl, hS, by simp only [List.getElem?_cons_succ, List.getElem?_cons_zero] at hu; rw [← hu]; exact h1⟩
  | 2, hu => exact ⟨b, o, rfl, hS, by simp only [List.getElem?_cons_succ, List.getElem?_cons_zero] at hu; rw [← hu]; exact h2⟩
  | 3, hu => exact ⟨b, o, rfl, hS, by simp only [List.getElem?_cons_succ, List.getElem?_cons_zero] at hu; rw [← hu]; exact h3⟩
  | j + 4, hu =>
   obtain ⟨b', o', e, hS', hc⟩ := hj j u (by simpa using hu)
   simp only [Option.some.injEq, Addr.mk.injEq, and_true] at e
   obtain ⟨rfl, rfl⟩ := e
   exact ⟨b, o, rfl, hS, by rw [show o + i * 4 + (j + 4) = o + (i + 1) * 4 + j by omega]; exact hc⟩

theorem RSl.rsl2 {S : Nat → Prop} {w : World} {ts : List T} {v : Value} (h : RSl S w ts v) : RSl2 S S w ts v := by
 obtain ⟨a, cap, rfl, hl, hr⟩ := h
 obtain ⟨cs, hC, hj⟩ := hr.cells
 exact ⟨a, cap, cs, rfl, hl, hC, fun j u hu => by simpa using hj j u hu⟩

/-- One term in a block of its own: what 'append(.., x)' hands to append. -/
theorem RT.one {S : Nat → Prop} {w : World} {t : T} {c0 c1 c2 c3 : Value} (h : RT S w t (.agg #[c0, c1, c2, c3])) (e : TypeId) :
  RSl2 (fun b => b = w.heap.size) S (w.alloc (.cells #[c0, c1, c2, c3] e)) [t] (.slice (some ⟨w.heap.size, 0, none⟩) 1 1) := by
 obtain ⟨a, cap, ev, hl, hr⟩ := h
 simp only [Value.agg.injEq, Array.mk.injEq, List.cons.injEq, and_true] at ev
 obtain ⟨rfl, rfl, rfl, rfl⟩ := ev
 refine ⟨_, 1, _, rfl, ⟨Nat.le_refl _, by simp⟩, ⟨a, cap, [], rfl, hl, hr.alloc _, rfl⟩, fun j u hu => ⟨w.heap.size, 0, rfl, rfl, ?_⟩⟩
 rw [Nat.zero_add, World.cell?_alloc_new]
 simpa using hu

/-- A slice of ints. -/
def RI (S : Nat → Prop) (w : World) (xs : List Int) (v : Value) : Prop :=
 ∃ a cap, v = .slice a xs.length cap ∧ CapOk a xs.length cap ∧ ∀ j x, xs[j]? = some x → ∃ b o, a = some ⟨b, o, none⟩ ∧ S b ∧ w.cell? ⟨b, o + j, none⟩ = some (.int .i64 x)

theorem RI.to {S S' : Nat → Prop} {w w' : World} {xs : List Int} {v : Value} (h : RI S w xs v) (hs : ∀ b, S b → b < w.heap.size → S' b)
  (hc : ∀ b, S b → b < w.heap.size → w'.heap[b]? = w.heap[b]?) : RI S' w' xs v := by
 obtain ⟨a, cap, rfl, hl, hj⟩ := h
 refine ⟨a, cap, rfl, hl, fun j x hx => ?_⟩
 obtain ⟨b, o, rfl, hS, hcell⟩ := hj j x hx
 have hlt := World.block_lt_of_cell? w _ hcell
 exact ⟨b, o, rfl, hs b hS hlt, by rw [World.cell?_of_block (w := w) (hc b hS hlt)]; exact hcell⟩
theorem RI.below {S : Nat → Prop} {w w' : World} {xs : List Int} {v : Value} (h : RI S w xs v) (hB : Below w.heap.size w w') : RI S w' xs v := h.to (fun _ h _ => h) fun b _ hb => hB.block b hb
theorem RI.mono {S S' : Nat → Prop} {w : World} {xs : List Int} {v : Value} (h : RI S w xs v) (hs : ∀ b, S b → S' b) : RI S' w xs v := h.to (fun b h _ => hs b h) fun _ _ _ => rfl

theorem RI.form {S : Nat → Prop} {w : World} {xs : List Int} {v : Value} (h : RI S w xs v) : ∃ a cap, v = .slice a xs.length cap := by
 obtain ⟨a, cap, rfl, _⟩ := h; exact ⟨a, cap, rfl⟩

theorem RI.addr {S : Nat → Prop} {w : World} {xs : List Int} {a : Option Addr} {n cap : Nat} (h : RI S w xs (.slice a n cap)) (hl : 0 < xs.length) : ∃ b o, a = some ⟨b, o, none⟩ := by
 obtain ⟨a', cap', e, _, hj⟩ := h
 simp only [Value.slice.injEq] at e
 obtain ⟨rfl, _, _⟩ := e
 obtain ⟨b, o, e, _⟩ := hj 0 xs[0] (by simp)
 exact ⟨b, o, e⟩
theorem RI.elem {S : Nat → Prop} {w : World} {xs : List Int} {b o n cap : Nat} (h : RI S w xs (.slice (some ⟨b, o, none⟩) n cap)) (j : Nat) (hj : j < xs.length) : S b ∧ w.cell? ⟨b, o + j, none⟩ = some (.int .i64 xs[j]) := by
 obtain ⟨a', cap', e, _, hj'⟩ := h
 simp only [Value.slice.injEq] at e
 obtain ⟨rfl, _, _⟩ := e
 obtain ⟨b', o', e, hS, hc⟩ := hj' j xs[j] (by simp [hj])
 simp only [Option.some.injEq, Addr.mk.injEq, and_true] at e
 obtain ⟨rfl, rfl⟩ := e
 exact ⟨hS, hc⟩

/-- A written-out slice of ints. -/
theorem RI.lit (w : World) (xs : List Int) (e : TypeId) : RI (fun b => b = w.heap.size) (w.alloc (.cells (xs.map (Value.int .i64)).toArray e)) xs (.slice (some ⟨w.heap.size, 0, none⟩) xs.length xs.length) :=
 ⟨_, _, rfl, ⟨Nat.le_refl _, by simp⟩, fun j x hx => ⟨w.heap.size, 0, rfl, rfl, by rw [Nat.zero_add, World.cell?_alloc_new]; simp [hx]⟩⟩

/-! ### Rows that the call appends to -/

def OwnT (S : Nat → Prop) (base : Nat) (w : World) (v : Value) (ts : List T) : Prop := ∃ cs, w.ownsRow base 24 4 v ts.length cs ∧ CellsT S w ts cs
def OwnI (base : Nat) (w : World) (v : Value) (xs : List Int) : Prop := w.ownsRow base 3 1 v xs.length (xs.map (Value.int .i64))

theorem OwnT.nil (S : Nat → Prop) (base : Nat) (w : World) : OwnT S base w (.slice none 0 0) [] := ⟨[], World.ownsRow_nil _ _ _ _, rfl⟩
theorem OwnI.nil (base : Nat) (w : World) : OwnI base w (.slice none 0 0) [] := World.ownsRow_nil _ _ _ _

/-- Nothing that these rows are has turned. -/
theorem OwnT.to {S S' : Nat → Prop} {base base' : Nat} {w w' : World} {v : Value} {ts : List T} (h : OwnT S base w v ts) (hb : base' ≤ base) (hs : ∀ b, S b → b < w.heap.size → S' b)
  (hc : ∀ b, (S b ∨ v.ownBlock = some b) → b < w.heap.size → w'.heap[b]? = w.heap[b]?) : OwnT S' base' w' v ts := by
 obtain ⟨cs, ⟨h1, h2⟩, hC⟩ := h
 refine ⟨cs, ⟨h1, ?_⟩, hC.to hs (fun b hb => hc b (.inl hb))⟩
 rcases h2 with h2 | ⟨g, cap, cur, rfl, hg, hh, r⟩
 ·exact .inl h2
 ·exact .inr ⟨g, cap, cur, rfl, by omega, by rw [hc g (.inr rfl) (Array.getElem?_eq_some_iff.1 hh).1]; exact hh, r⟩
theorem OwnI.to {base base' : Nat} {w w' : World} {v : Value} {xs : List Int} (h : OwnI base w v xs) (hb : base' ≤ base)
  (hc : ∀ b, v.ownBlock = some b → b < w.heap.size → w'.heap[b]? = w.heap[b]?) : OwnI base' w' v xs := by
 obtain ⟨h1, h2⟩ := h
 refine ⟨h1, ?_⟩
 rcases h2 with h2 | ⟨g, cap, cur, rfl, hg, hh, r⟩
 ·exact .inl h2
 ·exact .inr ⟨g, cap, cur, rfl, by omega, by rw [hc g rfl (Array.getElem?_eq_some_iff.1 hh).1]; exact hh, r⟩

theorem OwnT.below {S : Nat → Prop} {base : Nat} {w w' : World} {v : Value} {ts : List T} (h : OwnT S base w v ts) (hB : Below w.heap.size w w') : OwnT S base w' v ts := h.to (Nat.le_refl _) (fun _ h _ => h) fun b _ hb => hB.block b hb
theorem OwnI.below {base : Nat} {w w' : World} {v : Value} {xs : List Int} (h : OwnI base w v xs) (hB : Below w.heap.size w w') : OwnI base w' v xs := h.to (Nat.le_refl _) fun b _ hb => hB.block b hb

theorem OwnT.block {S : Nat → Prop} {base : Nat} {w : World} {v : Value} {ts : List T} (h : OwnT S base w v ts) : ∀ b, v.ownBlock = some b → base ≤ b ∧ b < w.heap.size := by
 obtain ⟨cs, h, _⟩ := h; exact h.lt
theorem OwnI.block {base : Nat} {w : World} {v : Value} {xs : List Int} (h : OwnI base w v xs) : ∀ b, v.ownBlock = some b → base ≤ b ∧ b < w.heap.size := h.lt

theorem OwnT.rsl2 {S : Nat → Prop} {base : Nat} {w : World} {v : Value} {ts : List T} (h : OwnT S base w v ts) : RSl2 (fun b => v.ownBlock = some b) S w ts v := by
 obtain ⟨cs, ho, hC⟩ := h
 have hcell := fun g hg => ho.cells (g := g) hg
 obtain ⟨h1, h2⟩ := ho
 rcases h2 with ⟨rfl, h0⟩ | ⟨g, cap, cur, rfl, hg, hh, hn, r⟩
 ·have : ts = [] := List.eq_nil_of_length_eq_zero h0
  subst this
  simp only [CellsT] at hC
  subst hC
  exact ⟨none, 0, [], rfl, ⟨Nat.le_refl _, fun _ => rfl⟩, rfl, fun j u h => by simp at h⟩
 ·refine ⟨some ⟨g, 0, none⟩, cap, cs, rfl, ⟨hn, by simp⟩, hC, fun j u hu => ⟨g, 0, rfl, rfl, ?_⟩⟩
  have := hcell g rfl j u hu
  unfold Addr.add at this
  split at this
  ·rename_i h0; subst h0; exact this
  ·exact this
theorem OwnT.alloc {S : Nat → Prop} {base : Nat} {w : World} {v : Value} {ts : List T} (h : OwnT S base w v ts) (o : Obj) : OwnT S base (w.alloc o) v ts := h.below (below_alloc w o)
theorem OwnI.alloc {base : Nat} {w : World} {v : Value} {xs : List Int} (h : OwnI base w v xs) (o : Obj) : OwnI base (w.alloc o) v xs := h.below (below_alloc w o)

theorem OwnT.one {S : Nat → Prop} {base : Nat} {w : World} {t : T} {c0 c1 c2 c3 : Value} (h : RT S w t (.agg #[c0, c1, c2, c3])) (hb : base ≤ w.heap.size) :
  OwnT S base (w.alloc (.cells #[c0, c1, c2, c3] 24)) (.slice (some ⟨w.heap.size, 0, none⟩) 1 1) [t] := by
 obtain ⟨a, cap, ev, hl, hr⟩ := h
 simp only [Value.agg.injEq, Array.mk.injEq, List.cons.injEq, and_true] at ev
 obtain ⟨rfl, rfl, rfl, rfl⟩ := ev
 exact ⟨_, World.ownsRow_lit w _ 1 hb (by decide) rfl, a, cap, [], rfl, hl, hr.alloc _, rfl⟩
theorem OwnI.one {base : Nat} {w : World} (x : Int) (hb : base ≤ w.heap.size) : OwnI base (w.alloc (.cells #[.int .i64 x] 3)) (.slice (some ⟨w.heap.size, 0, none⟩) 1 1) [x] :=
 World.ownsRow_lit w _ 1 hb (by decide) rfl

/-- Steps of 'Below' over an append. -/
theorem grown_below {B : Nat} {a w w' : World} {v : Value} (h : Below B a w) (hg : w.grownBy w' v.ownBlock) (hB : B ≤ w.heap.size) (hv : ∀ b, v.ownBlock = some b → B ≤ b) : Below B a w' :=
 h.grown hg hB hv

theorem info24 : (Try.prog.info? 24).map (fun i => (i.zero, i.size, i.bytes)) = some (some (.agg #[.int .i64 0, .int .i64 0, .string ⟨#[]⟩, .slice none 0 0]), 4, 56) := by kernel_rfl
theorem info3 : (Try.prog.info? 3).map (fun i => (i.zero, i.size, i.bytes)) = some (some (.int .i64 0), 1, 8) := by kernel_rfl

section
variable {w : World} {ops : Array Oper} {rest : List Oper} {o : Oper} {a : Act} {Q : Exit → Act → World → Prop}

/-- 'append(x, y...)' on terms. -/
theorem append_terms (s x : Operand) (hgd : o.guard = none) (ho : o.op = .call { callee := .builtin .append, args := #[s, x], argTypes := #[22, 22] })
  {S R : Nat → Prop} {base : Nat} {v u : Value} {ts ls : List T} (hs : a.eval s = v) (hx : a.eval x = u) (hown : OwnT S base w v ts) (hl : RSl2 R S w ls u)
  (hS : ∀ b, S b → v.ownBlock ≠ some b) (hn : ts.length + ls.length ≤ 1099511627776) (hbase : base ≤ w.heap.size)
  (h : ∀ v' w', OwnT S base w' v' (ts ++ ls) → w.grownBy w' v.ownBlock → (∀ b, v'.ownBlock = some b → v.ownBlock = some b ∨ w.heap.size ≤ b) → wpList Try.prog ops Q rest (a.put o.dst v') w') :
  wpList Try.prog ops Q (o :: rest) a w := by
 obtain ⟨i, hi, hz0, hz1, hz2⟩ := info_parts info24
 obtain ⟨cs, ho1, hC⟩ := hown
 obtain ⟨au, cap, ds, rfl, hcap, hD, hj⟩ := hl
 cases au with
 | none =>
  obtain rfl : cap = 0 := hcap.2 rfl
  have h0 : ls = [] := List.eq_nil_of_length_eq_zero (by have := hcap.1; omega)
  subst h0
  refine wpList_append_own_none hgd s x 22 ho base 24 i 4 Try.underlying22 hi v _ cs hs ho1 hx ?_
  exact h v w ⟨cs, by simpa using ho1, by simpa using hC⟩ ⟨rfl, rfl, rfl, Nat.le_refl _, fun _ _ _ => rfl⟩ fun b hb => .inl hb
 | some ad =>
  refine wpList_append_own_at w hgd s x 22 ho base 24 i _ 4 56 Try.underlying22 hi hz0 hz1 hz2 rfl (by decide) v _ cs hs ho1 ad ls.length cap ds hx hD.length ?_ hD.oneCell ?_ ?_ hbase ?_
  ·intro j u' hu
   obtain ⟨b, o', e, _, hc⟩ := hj j u' hu
   simp only [Option.some.injEq] at e
   subst e
   unfold Addr.add
   split
   ·rename_i h0; subst h0; exact hc
   ·exact hc
  ·unfold maxLen; omega
  ·omega
  ·intro v' w' h1 h2 h3 h4
   refine h v' w' ⟨cs ++ ds, by simpa using h1, ?_⟩ h2 ?_
   ·have hblk : ∀ b, S b → b < w.heap.size → w'.heap[b]? = w.heap[b]? := fun b hb hlt => h2.block b hlt (fun e => hS b hb e.symm)
    exact (hC.to (fun _ h _ => h) hblk).append (hD.to (fun _ h _ => h) hblk)
   ·intro b hb
    rcases h4 with h4 | h4
    ·exact .inl (by rw [← h4]; exact hb)
    ·rw [h4] at hb; simp only [Option.some.injEq] at hb; exact .inr (by omega)

end
end Go.Proofs.Ytedfepnekjjmnab

/-
 clerkref.all: the terms in a term, and how deep each stands. No condition but a bound on how much there is.
-/
namespace Go.Proofs.Ytedfepnekjjmnab
open Go.RowKit
set_option linter.unusedSimpArgs false
set_option linter.unusedVariables false

end Go.Proofs.Ytedfepnekjjmnab

/-
 From a walk to a law's statement: what every law of the seat shares. How a term that came in reads; the arguments read behind the call as they did. No condition.
-/
namespace Go.Proofs.Ytedfepnekjjmnab
open Go.ChangeShapes Go.WideShapes Go.ChangeAt Go.RowKit
set_option linter.unusedSimpArgs false
set_option linter.unusedVariables false

theorem own : ownKnob Try.prog.godebug = none := by kernel_rfl
theorem laidOut : laidOutB Try.prog = true := by kernel_rfl
theorem cellsTerm : Try.prog.cellsOf 24 = 4 := by kernel_rfl
theorem cellsInt : Try.prog.cellsOf 3 = 1 := by kernel_rfl

theorem small_bound {H : Type} {l : List (DataW H)} (hk : Rows.uptoSmall H l = true) : Rows.uptoBulkAll l ≤ 1048576 := of_decide_eq_true hk

section
variable {H : Type} {enc : TypeId × Value → H} {W : World} {base : Nat} {sp : Nat → Bool} {held : Bool}

theorem add_at (b off i j : Nat) : ((⟨b, off, none⟩ : Addr).add (i * 4)).add j = ⟨b, off + i * 4 + j, none⟩ := by
 unfold Addr.add
 by_cases h1 : i * 4 = 0 <;> by_cases h2 : j = 0 <;> simp [h1, h2]

/-- The fields of the terms' type. -/
theorem under_term : ∃ f0 f1 f2 f3 : Field, Try.prog.underlying 24 = some (.struct #[f0, f1, f2, f3]) ∧ f0.type = 3 ∧ f0.offset = 0 ∧ f1.type = 3 ∧ f1.offset = 1 ∧ f2.type = 9 ∧ f2.offset = 2 ∧ f3.type = 22 ∧ f3.offset = 3 :=
 ⟨_, _, _, _, by rw [Try.underlying24], rfl, rfl, rfl, rfl, rfl, rfl, rfl, rfl⟩

theorem choose_list {α : Type} {p : Nat → α → Prop} (n : Nat) (h : ∀ i, i < n → ∃ x, p i x) : ∃ l : List α, l.length = n ∧ ∀ i (hi : i < l.length), p i l[i] := by
 induction n with
 | zero => exact ⟨[], rfl, fun i hi => by cases hi⟩
 | succ n ih =>
  obtain ⟨l, hl, hp⟩ := ih fun i hi => h i (by omega)
  obtain ⟨x, hx⟩ := h n (by omega)
  refine ⟨l ++ [x], by simp [hl], fun i hi => ?_⟩
  by_cases hlt : i < l.length
  ·rw [List.getElem_append_left hlt]; exact hp i hlt
  ·have : i = l.length := by simp at hi; omega
   subst this
   rw [List.getElem_append_right (Nat.le_refl _)]
   simpa [hl] using hx

theorem bulk_list {H : Type} : ∀ (ts : List T) (ds : List (DataW H)), ts.length = ds.length → (∀ i (h1 : i < ts.length) (h2 : i < ds.length), bulkL [ts[i]] ≤ Rows.uptoBulk ds[i]) → bulkL ts ≤ Rows.uptoBulkAll ds
 | [], _, _, _ => by simp [bulkL]
 | t :: ts, [], h, _ => by simp at h
 | t :: ts, d :: ds, h, hp => by
  have h0 := hp 0 (by simp) (by simp)
  have := bulk_list ts ds (by simpa using h) fun i h1 h2 => hp (i + 1) (by simpa using h1) (by simpa using h2)
  simp only [List.getElem_cons_zero] at h0
  have e : bulkL (t :: ts) = bulkL [t] + bulkL ts := bulkL_append [t] ts
  rw [e, Rows.uptoBulkAll]
  omega

set_option maxRecDepth 100000 in
/-- A term's cells that read as data are a term's. -/
theorem term_of_trod : ∀ (fuel : Nat) (cs : List Value) (x : DataW H × List MemPlace), DataW.trod enc Try.prog W base sp held fuel 24 cs = some x →
    ∃ (t : T) (a : Option Addr) (cap : Nat), cs = [.int .i64 t.kind, .int .i64 t.n, .string t.name, .slice a t.args.length cap] ∧ CapOk a t.args.length cap ∧ RTs (fun b => b < W.heap.size) W t.args a 0 ∧ bulkL [t] ≤ Rows.uptoBulk x.1 := by
  intro fuel
  induction fuel using Nat.strongRecOn with
  | _ fuel ih =>
    intro cs x h
    obtain ⟨f0, f1, f2, f3, hs, t0, o0, t1, o1, t2, o2, t3, o3⟩ := under_term
    obtain ⟨xs, n, rfl, rfl, hl, hlen, hf⟩ := DataW.trod_struct hs h
    rw [cellsTerm] at hl
    match xs, hlen, cs, hl with
    | [y0, y1, y2, y3], _, [v0, v1, v2, v3], _ =>
      have g0 := hf 0 f0 rfl
      have g1 := hf 1 f1 rfl
      have g2 := hf 2 f2 rfl
      have g3 := hf 3 f3 rfl
      have c9 : Try.prog.cellsOf 9 = 1 := by kernel_rfl
      have c27 : Try.prog.cellsOf 22 = 1 := by kernel_rfl
      simp [o0, o1, o2, o3, t0, t1, t2, t3, cellsInt, c9, c27] at g0 g1 g2 g3
      obtain ⟨k, hv0, rfl, wk⟩ := DataW.trod_int Try.underlying3 g0
      obtain ⟨m, hv1, rfl, wm⟩ := DataW.trod_int Try.underlying3 g1
      obtain ⟨s, hv2, rfl, ws⟩ := DataW.trod_string Try.underlying9 g2
      simp only [List.cons.injEq, and_true] at hv0 hv1 hv2
      subst hv0 hv1 hv2
      have hss : s.data.toList.length = s.size := by rw [Array.length_toList]; rfl
      rcases DataW.trod_slice Try.underlying22 g3 with ⟨hv3, rfl⟩ | ⟨a, len, cap, elems, rest, n', rfl, hv3, rfl, hb, hlc, hcm, hel, hget, -, -⟩
      · simp only [List.cons.injEq, and_true] at hv3
        subst hv3
        refine ⟨⟨k, m, s, []⟩, none, 0, rfl, ⟨Nat.le_refl _, fun _ => rfl⟩, by simp [RTs], ?_⟩
        simp only [bulkL, Rows.uptoBulk, Rows.uptoBulkAll, List.map_cons, List.map_nil]
        omega
      · simp only [List.cons.injEq, and_true] at hv3
        subst hv3
        have key : ∀ i, i < len → ∃ t : T, ∃ (a' : Option Addr) (cap' : Nat) (cs' : List Value) (hi : i < elems.length), W.cells? base (a.add (i * 4)) 4 = some cs' ∧ cs' = [.int .i64 t.kind, .int .i64 t.n, .string t.name, .slice a' t.args.length cap'] ∧
            CapOk a' t.args.length cap' ∧ RTs (fun b => b < W.heap.size) W t.args a' 0 ∧ bulkL [t] ≤ Rows.uptoBulk (elems[i]).1 := by
          intro i hi
          have h1 := hget i hi
          rw [cellsTerm, List.getElem?_eq_getElem (by omega)] at h1
          obtain ⟨cs', hc, ht⟩ := Option.bind_eq_some_iff.1 h1
          obtain ⟨t, a', cap', e, h2, h3, h4⟩ := ih n' (by omega) cs' _ ht
          exact ⟨t, a', cap', cs', by omega, hc, e, h2, h3, h4⟩
        obtain ⟨ts, hts, hp⟩ := choose_list len key
        subst hts
        refine ⟨⟨k, m, s, ts⟩, some a, cap, rfl, ⟨hlc, by simp⟩, RTs_of _ _ _ _ _ fun j hj => ?_, ?_⟩
        · obtain ⟨a', cap', cs', _, hc, rfl, h2, h3, _⟩ := hp j hj
          obtain ⟨b, off, spot⟩ := a
          have hspot : spot = none := by
            obtain ⟨_, _, cs0, _, hc0, rfl, _⟩ := hp 0 (by omega)
            have h0 := (World.cells?_some hc0).2.2 0 (by omega)
            simpa [Addr.add] using World.cell?_spot h0
          subst hspot
          obtain ⟨_, _, hcell⟩ := World.cells?_some hc
          have q0 := hcell 0 (by omega)
          have q1 := hcell 1 (by omega)
          have q2 := hcell 2 (by omega)
          have q3 := hcell 3 (by omega)
          rw [add_at] at q0 q1 q2 q3
          rw [Nat.zero_add]
          exact ⟨b, off, a', cap', rfl, World.block_lt_of_cell? W _ q0, q0, q1, q2, q3, h2, h3⟩
        · have hbl := bulk_list ts (elems.map (·.1)) (by simp [hel]) fun i h1 h2 => by
            obtain ⟨_, _, _, _, _, _, _, _, h4⟩ := hp i h1
            simpa using h4
          simp only [bulkL, Rows.uptoBulk, Rows.uptoBulkAll, List.map_cons, List.map_nil]
          omega

set_option maxRecDepth 100000 in
/-- An argument that is a term. -/
theorem open_term {v : Value} {d : DataW H} {p : List MemPlace} {r : Reach} (hok : Value.okWide Try.prog W r base 24 v) (h : DataW.Trod enc Try.prog W 0 sp held 24 v d p) :
  ∃ t, RT (fun b => b < W.heap.size) W t v ∧ bulkL [t] ≤ Rows.uptoBulk d := by
 obtain ⟨fuel, hf⟩ := h
 obtain ⟨t, a, cap, e, h1, h2, h3⟩ := term_of_trod fuel _ _ hf
 obtain ⟨f0, f1, f2, f3, hs, -⟩ := under_term
 have : ∃ cs, v = .agg cs := by
  simp only [Value.okWide, hs] at hok
  obtain ⟨cs, rfl, _⟩ := hok
  exact ⟨cs, rfl⟩
 obtain ⟨cs, rfl⟩ := this
 refine ⟨t, ⟨a, cap, ?_, h1, h2⟩, h3⟩
 simp only [Value.cells] at e
 rw [← e]

/-- The arguments read behind the call as they did. -/
theorem trodAll_below {W' : World} (hB : Below W.heap.size W W') : ∀ (ts : List TypeId) (vs : List Value) (ds : List (DataW H)) (ps : List MemPlace), (∀ t ∈ ts, Try.prog.readableRec t = true ∧ t < Try.prog.types.size) →
  DataW.TrodAll enc Try.prog W 0 (fun _ => true) true ts vs ds ps → (∀ x ∈ ps, x.block < W.heap.size) → DataW.TrodAll enc Try.prog W' 0 (fun b => decide (b < W.heap.size)) true ts vs ds ps
 | [], [], [], ps, _, h, _ => h
 | t :: ts, v :: vs, d :: ds, ps, hr, h, hp => by
  obtain ⟨p, q, h1, h2, rfl⟩ := h
  exact ⟨p, q, Below.trod laidOut (hr t (by simp)).1 (hr t (by simp)).2 h1 hB fun x hx => hp x (List.mem_append_left _ hx),
   trodAll_below hB ts vs ds q (fun t ht => hr t (by simp [ht])) h2 fun x hx => hp x (List.mem_append_right _ hx), rfl⟩
 | [], _ :: _, _, _, _, h, _ => h.elim
 | [], [], _ :: _, _, _, h, _ => h.elim
 | _ :: _, [], _, _, _, h, _ => h.elim
 | _ :: _, _ :: _, [], _, _, h, _ => h.elim

set_option maxRecDepth 100000 in
/-- WHAT A LAW OWES: true, and old memory as it was. -/
theorem post_true {f : Func} {s : ChangeSpec} {W' : World} {args : Array Value} {ds gs : List (DataW H)} {before : List MemPlace}
  (hW : DataW.Whole enc Try.prog f.params.toList s.vars false W args.toList ds gs before) (hv : s.vars = []) (hrt : f.resultTypes = #[4])
  (hs : (s.fn H (ds ++ gs)).results = [.lit (.bool true)] ∧ (s.fn H (ds ++ gs)).args = ds ∧ (s.fn H (ds ++ gs)).vars = [])
  (hr : ∀ t ∈ f.params.toList, Try.prog.readableRec t = true ∧ t < Try.prog.types.size) (hB : Below W.heap.size W W') :
  s.post enc Try.prog f false true false false W args (.bool true) W' := by
 have hW' := hW
 have hlt : ∀ p ∈ before, p.block < W.heap.size := fun p hp => hW.lt p hp
 obtain ⟨p, q, hA, hV, rfl, hfz, hnd⟩ := hW
 rw [hv] at hV
 refine ⟨ds, gs, p ++ q, [], p, [], hW', ?_, ?_, ?_, hB.frame _, fun h => by cases h⟩
 ·rw [hs.1, hrt]
  exact trodAll_cons_mk (shut_bool Try.underlying4 _) trodAll_mk0
 ·rw [hs.2.1]
  exact trodAll_below hB _ _ _ _ hr hA fun x hx => hlt x (List.mem_append_left _ hx)
 ·rw [hs.2.2, hv]
  rfl
end
end Go.Proofs.Ytedfepnekjjmnab

/-
 Rows of whatever elements: how they lie, one's own; the laws of append in these words. No condition.
-/
namespace Go.Proofs.Ytedfepnekjjmnab
open Go.RowKit
set_option linter.unusedSimpArgs false
set_option linter.unusedVariables false

/-- What an element's cells are; what it leads to lies in S. -/
structure El (X : Type) where
 k : Nat
 C : (Nat → Prop) → World → X → List Value → Prop
 len : ∀ {S w x cs}, C S w x cs → cs.length = k
 one : ∀ {S w x cs}, C S w x cs → ∀ u ∈ cs, u.oneCell' = true
 «to» : ∀ {S S' w w' x cs}, C S w x cs → (∀ b, S b → b < w.heap.size → S' b) → (∀ b, S b → b < w.heap.size → w'.heap[b]? = w.heap[b]?) → C S' w' x cs
/-- The program's word for it. -/
structure ElT {X : Type} (E : El X) where
 e : TypeId
 sl : TypeId
 bytes : Nat
 z : Value
 hund : Try.prog.underlying sl = some (.slice e)
 info : (Try.prog.info? e).map (fun i => (i.zero, i.size, i.bytes)) = some (some z, E.k, bytes)
 hzs : z.cells.size = E.k
 hk : 0 < E.k
 hb : bytes ≤ 512

section
variable {X : Type} {E : El X}
def CellsX (E : El X) (S : Nat → Prop) (w : World) : List X → List Value → Prop
 | [], cs => cs = []
 | x :: xs, cs => ∃ c cs', cs = c ++ cs' ∧ E.C S w x c ∧ CellsX E S w xs cs'
theorem CellsX.length {S : Nat → Prop} {w : World} {xs : List X} {cs : List Value} (h : CellsX E S w xs cs) : cs.length = xs.length * E.k := by
 induction xs generalizing cs with
 | nil => simp only [CellsX] at h; subst h; simp
 | cons x xs ih => obtain ⟨c, cs', rfl, h1, h2⟩ := h; simp only [List.length_append, E.len h1, ih h2, List.length_cons, Nat.succ_mul]; omega
theorem CellsX.append {S : Nat → Prop} {w : World} {xs ys : List X} {cs ds : List Value} (h : CellsX E S w xs cs) (h' : CellsX E S w ys ds) : CellsX E S w (xs ++ ys) (cs ++ ds) := by
 induction xs generalizing cs with
 | nil => simp only [CellsX] at h; subst h; exact h'
 | cons x xs ih => obtain ⟨c, cs', rfl, h1, h2⟩ := h; exact ⟨c, cs' ++ ds, by simp, h1, ih h2⟩
theorem CellsX.oneCell {S : Nat → Prop} {w : World} {xs : List X} {cs : List Value} (h : CellsX E S w xs cs) : ∀ u ∈ cs, u.oneCell' = true := by
 induction xs generalizing cs with
 | nil => simp only [CellsX] at h; subst h; simp
 | cons x xs ih =>
  obtain ⟨c, cs', rfl, h1, h2⟩ := h
  intro u hu
  rcases List.mem_append.1 hu with hu | hu
  ·exact E.one h1 u hu
  ·exact ih h2 u hu
theorem CellsX.to {S S' : Nat → Prop} {w w' : World} {xs : List X} {cs : List Value} (h : CellsX E S w xs cs) (hs : ∀ b, S b → b < w.heap.size → S' b)
  (hc : ∀ b, S b → b < w.heap.size → w'.heap[b]? = w.heap[b]?) : CellsX E S' w' xs cs := by
 induction xs generalizing cs with
 | nil => exact h
 | cons x xs ih => obtain ⟨c, cs', rfl, h1, h2⟩ := h; exact ⟨c, cs', rfl, E.to h1 hs hc, ih h2⟩
theorem CellsX.at {S : Nat → Prop} {w : World} {xs : List X} {cs : List Value} (h : CellsX E S w xs cs) (j : Nat) (hj : j < xs.length) :
  ∃ c, E.C S w xs[j] c ∧ ∀ i u, c[i]? = some u → cs[j * E.k + i]? = some u := by
 induction xs generalizing cs j with
 | nil => cases hj
 | cons x xs ih =>
  obtain ⟨c, cs', rfl, h1, h2⟩ := h
  have hl := E.len h1
  cases j with
  | zero =>
   refine ⟨c, h1, fun i u hu => ?_⟩
   rw [Nat.zero_mul, Nat.zero_add, List.getElem?_append_left (List.getElem?_eq_some_iff.1 hu).1]; exact hu
  | succ j =>
   obtain ⟨c', g1, g2⟩ := ih h2 j (by simpa using hj)
   refine ⟨c', g1, fun i u hu => ?_⟩
   rw [List.getElem?_append_right (by rw [hl, Nat.succ_mul]; omega), hl, show (j + 1) * E.k + i - E.k = j * E.k + i by rw [Nat.succ_mul]; omega]
   exact g2 i u hu

/-- A slice: its row lies in a block of R, what the elements lead to in S. -/
def RX (E : El X) (R S : Nat → Prop) (w : World) (xs : List X) (v : Value) : Prop :=
 ∃ a cap cs, v = .slice a xs.length cap ∧ CapOk a xs.length cap ∧ CellsX E S w xs cs ∧ ∀ j u, cs[j]? = some u → ∃ b o, a = some ⟨b, o, none⟩ ∧ R b ∧ w.cell? ⟨b, o + j, none⟩ = some u
theorem RX.to {R R' S S' : Nat → Prop} {w w' : World} {xs : List X} {v : Value} (h : RX E R S w xs v) (hr : ∀ b, R b → b < w.heap.size → R' b) (hs : ∀ b, S b → b < w.heap.size → S' b)
  (hc : ∀ b, S b ∨ R b → b < w.heap.size → w'.heap[b]? = w.heap[b]?) : RX E R' S' w' xs v := by
 obtain ⟨a, cap, cs, rfl, hl, hC, hj⟩ := h
 refine ⟨a, cap, cs, rfl, hl, hC.to hs (fun b hb => hc b (.inl hb)), fun j u hu => ?_⟩
 obtain ⟨b, o, rfl, hR, hcell⟩ := hj j u hu
 have hlt := World.block_lt_of_cell? w _ hcell
 exact ⟨b, o, rfl, hr b hR hlt, by rw [World.cell?_of_block (w := w) (hc b (.inr hR) hlt)]; exact hcell⟩
theorem RX.below {R S : Nat → Prop} {w w' : World} {xs : List X} {v : Value} (h : RX E R S w xs v) (hB : Below w.heap.size w w') : RX E R S w' xs v := h.to (fun _ h _ => h) (fun _ h _ => h) fun b _ hb => hB.block b hb
theorem RX.mono {R R' S S' : Nat → Prop} {w : World} {xs : List X} {v : Value} (h : RX E R S w xs v) (hr : ∀ b, R b → R' b) (hs : ∀ b, S b → S' b) : RX E R' S' w xs v := h.to (fun b h _ => hr b h) (fun b h _ => hs b h) fun _ _ _ => rfl
theorem RX.low {R S : Nat → Prop} {w : World} {xs : List X} {v : Value} (h : RX E R S w xs v) : RX E (fun b => b < w.heap.size) (fun b => b < w.heap.size) w xs v := h.to (fun _ _ h => h) (fun _ _ h => h) fun _ _ _ => rfl
theorem RX.form {R S : Nat → Prop} {w : World} {xs : List X} {v : Value} (h : RX E R S w xs v) : ∃ a cap, v = .slice a xs.length cap ∧ CapOk a xs.length cap := by
 obtain ⟨a, cap, _, rfl, h, _⟩ := h; exact ⟨a, cap, rfl, h⟩
theorem RX.nil (R S : Nat → Prop) (w : World) : RX E R S w [] (.slice none 0 0) := ⟨none, 0, [], rfl, ⟨Nat.le_refl _, fun _ => rfl⟩, rfl, fun j u h => by simp at h⟩
theorem RX.addr {R S : Nat → Prop} {w : World} {xs : List X} {a : Option Addr} {n cap : Nat} (h : RX E R S w xs (.slice a n cap)) (hk : 0 < E.k) (hl : 0 < xs.length) : ∃ b o, a = some ⟨b, o, none⟩ := by
 obtain ⟨a', cap', cs, e, hcl, hC, hj⟩ := h
 simp only [Value.slice.injEq] at e
 obtain ⟨rfl, _, _⟩ := e
 have hcs : 0 < cs.length := by rw [hC.length]; exact Nat.mul_pos hl hk
 obtain ⟨b, o, e, _⟩ := hj 0 cs[0] (by simp)
 exact ⟨b, o, e⟩
theorem RX.elem {R S : Nat → Prop} {w : World} {xs : List X} {b o n cap : Nat} (h : RX E R S w xs (.slice (some ⟨b, o, none⟩) n cap)) (j : Nat) (hj : j < xs.length) :
  ∃ c, E.C S w xs[j] c ∧ ∀ i u, c[i]? = some u → R b ∧ w.cell? ⟨b, o + j * E.k + i, none⟩ = some u := by
 obtain ⟨a', cap', cs, e, hcl, hC, hj'⟩ := h
 simp only [Value.slice.injEq] at e
 obtain ⟨rfl, _, _⟩ := e
 obtain ⟨c, h1, h2⟩ := hC.at j hj
 refine ⟨c, h1, fun i u hu => ?_⟩
 obtain ⟨b', o', e, hR, hc⟩ := hj' _ u (h2 i u hu)
 simp only [Option.some.injEq, Addr.mk.injEq, and_true] at e
 obtain ⟨rfl, rfl⟩ := e
 exact ⟨hR, by rw [Nat.add_assoc]; exact hc⟩

/-! ### Rows of one's own -/
def OwnX (E : El X) (e : TypeId) (S : Nat → Prop) (base : Nat) (w : World) (v : Value) (xs : List X) : Prop := ∃ cs, w.ownsRow base e E.k v xs.length cs ∧ CellsX E S w xs cs
theorem OwnX.nil (e : TypeId) (S : Nat → Prop) (base : Nat) (w : World) : OwnX E e S base w (.slice none 0 0) [] := ⟨[], World.ownsRow_nil _ _ _ _, rfl⟩
theorem OwnX.to {e : TypeId} {S S' : Nat → Prop} {base base' : Nat} {w w' : World} {v : Value} {xs : List X} (h : OwnX E e S base w v xs) (hb : base' ≤ base) (hs : ∀ b, S b → b < w.heap.size → S' b)
  (hc : ∀ b, (S b ∨ v.ownBlock = some b) → b < w.heap.size → w'.heap[b]? = w.heap[b]?) : OwnX E e S' base' w' v xs := by
 obtain ⟨cs, ⟨h1, h2⟩, hC⟩ := h
 refine ⟨cs, ⟨h1, ?_⟩, hC.to hs (fun b hb => hc b (.inl hb))⟩
 rcases h2 with h2 | ⟨g, cap, cur, rfl, hg, hh, r⟩
 ·exact .inl h2
 ·exact .inr ⟨g, cap, cur, rfl, by omega, by rw [hc g (.inr rfl) (Array.getElem?_eq_some_iff.1 hh).1]; exact hh, r⟩
theorem OwnX.below {e : TypeId} {S : Nat → Prop} {base : Nat} {w w' : World} {v : Value} {xs : List X} (h : OwnX E e S base w v xs) (hB : Below w.heap.size w w') : OwnX E e S base w' v xs := h.to (Nat.le_refl _) (fun _ h _ => h) fun b _ hb => hB.block b hb
theorem OwnX.block {e : TypeId} {S : Nat → Prop} {base : Nat} {w : World} {v : Value} {xs : List X} (h : OwnX E e S base w v xs) : ∀ b, v.ownBlock = some b → base ≤ b ∧ b < w.heap.size := by
 obtain ⟨cs, h, _⟩ := h; exact h.lt
theorem OwnX.rx {e : TypeId} {S : Nat → Prop} {base : Nat} {w : World} {v : Value} {xs : List X} (h : OwnX E e S base w v xs) : RX E (fun b => v.ownBlock = some b) S w xs v := by
 obtain ⟨cs, ho, hC⟩ := h
 have hcell := fun g hg => ho.cells (g := g) hg
 obtain ⟨h1, h2⟩ := ho
 rcases h2 with ⟨rfl, h0⟩ | ⟨g, cap, cur, rfl, hg, hh, hn, r⟩
 ·have : xs = [] := List.eq_nil_of_length_eq_zero h0
  subst this
  exact RX.nil _ _ _
 ·refine ⟨some ⟨g, 0, none⟩, cap, cs, rfl, ⟨hn, by simp⟩, hC, fun j u hu => ⟨g, 0, rfl, rfl, ?_⟩⟩
  have := hcell g rfl j u hu
  unfold Addr.add at this
  split at this
  ·rename_i h0; subst h0; exact this
  ·exact this
theorem OwnX.frozen {e : TypeId} {S : Nat → Prop} {base : Nat} {w : World} {g n cap : Nat} {xs : List X} (h : OwnX E e S base w (.slice (some ⟨g, 0, none⟩) n cap) xs) (o : Nat) : w.frozen? ⟨g, o, none⟩ = false := by
 obtain ⟨_, ⟨_, h2⟩, _⟩ := h
 rcases h2 with ⟨h2, -⟩ | ⟨g', cap', cur, ev, hg, hh, -⟩
 ·cases h2
 simp only [Value.slice.injEq, Option.some.injEq, Addr.mk.injEq, and_true] at ev
 obtain ⟨rfl, -, -⟩ := ev
 exact frozen_of_row w g o cur e hh
/-- A row of one's own; what its elements lead to lies in blocks of P that aren't the row's own. -/
def OwnXG (E : El X) (e : TypeId) (P : Nat → Prop) (base : Nat) (w : World) (v : Value) (xs : List X) : Prop := OwnX E e (fun b => P b ∧ b < w.heap.size ∧ v.ownBlock ≠ some b) base w v xs
theorem OwnXG.nil (e : TypeId) (P : Nat → Prop) (base : Nat) (w : World) : OwnXG E e P base w (.slice none 0 0) [] := OwnX.nil _ _ _ _
theorem OwnXG.to {e : TypeId} {P : Nat → Prop} {base : Nat} {w w' : World} {v : Value} {xs : List X} (h : OwnXG E e P base w v xs) (hl : w.heap.size ≤ w'.heap.size)
  (hc : ∀ b, (P b ∨ v.ownBlock = some b) → b < w.heap.size → w'.heap[b]? = w.heap[b]?) : OwnXG E e P base w' v xs :=
 OwnX.to h (Nat.le_refl _) (fun b hb _ => ⟨hb.1, by have := hb.2.1; omega, hb.2.2⟩) fun b hb => hc b (hb.imp (·.1) id)
theorem OwnXG.below {e : TypeId} {P : Nat → Prop} {base : Nat} {w w' : World} {v : Value} {xs : List X} (h : OwnXG E e P base w v xs) (hB : Below w.heap.size w w') : OwnXG E e P base w' v xs := h.to hB.size fun b _ hb => hB.block b hb
theorem OwnXG.block {e : TypeId} {P : Nat → Prop} {base : Nat} {w : World} {v : Value} {xs : List X} (h : OwnXG E e P base w v xs) : ∀ b, v.ownBlock = some b → base ≤ b ∧ b < w.heap.size := OwnX.block h
theorem OwnXG.setCell {e : TypeId} {P : Nat → Prop} {base : Nat} {w : World} {v : Value} {xs : List X} (h : OwnXG E e P base w v xs) (B o : Nat) (u : Value) (hB : B < base) (hP : ¬ P B) : OwnXG E e P base (w.setCell ⟨B, o, none⟩ u) v xs :=
 h.to (by simp) fun b hb _ => setCell_other w B o u b fun e => by
  subst e
  rcases hb with hb | hb
  ·exact hP hb
  ·have := h.block _ hb; omega
theorem OwnXG.rx {e : TypeId} {P : Nat → Prop} {base : Nat} {w : World} {v : Value} {xs : List X} (h : OwnXG E e P base w v xs) (hP : ∀ b, base ≤ b → P b) : RX E P P w xs v :=
 (OwnX.rx h).mono (fun b hb => hP b (h.block b hb).1) fun b hb => hb.1
theorem OwnXG.form {e : TypeId} {P : Nat → Prop} {base : Nat} {w : World} {v : Value} {xs : List X} (h : OwnXG E e P base w v xs) : ∃ a cap, v = .slice a xs.length cap ∧ CapOk a xs.length cap := (OwnX.rx h).form

variable {ops : Array Oper} {rest : List Oper} {o : Oper} {a : Act} {Q : Exit → Act → World → Prop}
theorem CellsX.single {S : Nat → Prop} {w : World} {x : X} {cs : List Value} (h : E.C S w x cs) : CellsX E S w [x] cs := ⟨cs, [], by simp, h, rfl⟩
theorem ownXG_after {F : ElT E} {P : Nat → Prop} {base : Nat} {w0 w' : World} {v : Value} {xs : List X} {x : X} {c : Array Value} {g cap : Nat} {cs : List Value} {O : Obj}
  (hC : CellsX E (fun b => P b ∧ b < w0.heap.size ∧ v.ownBlock ≠ some b) (w0.alloc O) xs cs) (hx : E.C (fun b => P b ∧ b < w0.heap.size ∧ v.ownBlock ≠ some b) (w0.alloc O) x c.toList)
  (h1 : w'.ownsRow base F.e E.k (.slice (some ⟨g, 0, none⟩) (xs.length + 1) cap) (xs.length + 1) (cs ++ c.toList)) (h2 : (w0.alloc O).grownBy w' v.ownBlock) (h3 : v.ownBlock = some g ∨ g = w0.heap.size + 1) :
  OwnXG E F.e P base w' (.slice (some ⟨g, 0, none⟩) (xs.length + 1) cap) (xs ++ [x]) := by
 have h2s := h2.size
 simp only [World.size_alloc] at h2s
 have hblk : ∀ b, (P b ∧ b < w0.heap.size ∧ v.ownBlock ≠ some b) → b < (w0.alloc O).heap.size → w'.heap[b]? = (w0.alloc O).heap[b]? := fun b hb hlt => h2.block b hlt (fun e => hb.2.2 e.symm)
 have hO : OwnX E F.e (fun b => P b ∧ b < w0.heap.size ∧ v.ownBlock ≠ some b) base w' (.slice (some ⟨g, 0, none⟩) (xs.length + 1) cap) (xs ++ [x]) :=
  ⟨cs ++ c.toList, by simpa using h1, (hC.to (fun _ h _ => h) hblk).append (CellsX.single (E.to hx (fun _ h _ => h) hblk))⟩
 refine hO.to (Nat.le_refl _) (fun b hb _ => ⟨hb.1, by have := hb.2.1; omega, fun e => ?_⟩) fun _ _ _ => rfl
 simp only [Value.ownBlock, Option.some.injEq] at e
 subst e
 rcases h3 with h5 | h5
 ·exact hb.2.2 h5
 ·have := hb.2.1; omega
/-- 'append(s, x)'. -/
theorem append_growX (F : ElT E) (s x : Operand) (hgd : o.guard = none) (ho : o.op = .call { callee := .builtin .append, args := #[s, x], argTypes := #[F.sl, F.sl] })
  {P R : Nat → Prop} {base : Nat} {w0 : World} {v : Value} {xs : List X} {y : X} {c : Array Value} {g0 n : Nat} (hs : a.eval s = v) (hx : a.eval x = .slice (some ⟨g0, 0, none⟩) 1 1) (hg0 : g0 = w0.heap.size) (hown : OwnXG E F.e P base w0 v xs)
  (ht : E.C R w0 y c.toList) (hR : ∀ b, R b → b < w0.heap.size → P b ∧ v.ownBlock ≠ some b) (hnl : xs.length = n) (hn : n + 1 ≤ 274877906944) (hbase : base ≤ w0.heap.size)
  (h : ∀ g cap w', OwnXG E F.e P base w' (.slice (some ⟨g, 0, none⟩) (n + 1) cap) (xs ++ [y]) → Below base w0 w' → (w0.alloc (.cells c F.e)).grownBy w' v.ownBlock → (v.ownBlock = some g ∨ w0.heap.size < g) → wpList Try.prog ops Q rest (a.put o.dst (.slice (some ⟨g, 0, none⟩) (n + 1) cap)) w') :
  wpList Try.prog ops Q (o :: rest) a (w0.alloc (.cells c F.e)) := by
 subst hg0 hnl
 obtain ⟨i, hi, hiz, his, hib⟩ := info_parts F.info
 have hlt := hown.block
 have hb := F.hb
 have hown1 : OwnX E F.e (fun b => P b ∧ b < w0.heap.size ∧ v.ownBlock ≠ some b) base (w0.alloc (.cells c F.e)) v xs := OwnX.to hown (Nat.le_refl _) (fun _ h _ => h) fun b _ hb => Below.heap_alloc _ _ _ hb
 have hx1 : E.C (fun b => P b ∧ b < w0.heap.size ∧ v.ownBlock ≠ some b) (w0.alloc (.cells c F.e)) y c.toList := E.to ht (fun b hb hl => ⟨(hR b hb hl).1, hl, (hR b hb hl).2⟩) fun b _ hb => Below.heap_alloc _ _ _ hb
 obtain ⟨cs, ho1, hC⟩ := hown1
 refine wpList_append_lies _ hgd s x F.sl ho base F.e i F.z E.k F.bytes F.hund hi hiz his hib F.hzs F.hk v _ cs hs ho1 ⟨w0.heap.size, 0, none⟩ 1 1 c.toList hx (by rw [E.len ht]; simp) ?_ (E.one ht) (by decide) (by unfold maxLen; omega) ?_ (by simp; omega) _ rfl ?_
 ·exact World.news_of_block (fr := (0, 0)) (heap_alloc_new _ _)
 ·exact Nat.le_trans (Nat.mul_le_mul hn hb) (by decide)
 ·intro g cap w' h1 h2 h3 h4
  simp only [World.size_alloc] at h3
  refine h g cap w' (ownXG_after hC hx1 h1 h2 h3) (grown_below ((Below.refl _ _).alloc hbase _) h2 (by simp; omega) fun b hb => (hlt b hb).1) h2 ?_
  rcases h3 with h5 | h5
  ·exact .inl h5
  ·exact .inr (by omega)
/-- The same at a step of a region that draws its order. -/
theorem step_growX (F : ElT E) {K : Act → World → Prop} {W : Prop} (s x : Operand) (hgd : o.guard = none) (ho : o.op = .call { callee := .builtin .append, args := #[s, x], argTypes := #[F.sl, F.sl] })
  {P R : Nat → Prop} {base : Nat} {w0 : World} {v : Value} {xs : List X} {y : X} {c : Array Value} {g0 n : Nat} (hs : a.eval s = v) (hx : a.eval x = .slice (some ⟨g0, 0, none⟩) 1 1) (hg0 : g0 = w0.heap.size) (hown : OwnXG E F.e P base w0 v xs)
  (ht : E.C R w0 y c.toList) (hR : ∀ b, R b → b < w0.heap.size → P b ∧ v.ownBlock ≠ some b) (hnl : xs.length = n) (hn : n + 1 ≤ 274877906944) (hbase : base ≤ w0.heap.size)
  (h : ∀ g cap w', OwnXG E F.e P base w' (.slice (some ⟨g, 0, none⟩) (n + 1) cap) (xs ++ [y]) → Below base w0 w' → (w0.alloc (.cells c F.e)).grownBy w' v.ownBlock → (v.ownBlock = some g ∨ w0.heap.size < g) → K (a.put o.dst (.slice (some ⟨g, 0, none⟩) (n + 1) cap)) w') :
  if Region.wanted o (yielded ops a.tmps) = true then Oper.wp Try.prog o a (w0.alloc (.cells c F.e)) K Q else W := by
 subst hg0 hnl
 obtain ⟨i, hi, hiz, his, hib⟩ := info_parts F.info
 have hlt := hown.block
 have hb := F.hb
 have hown1 : OwnX E F.e (fun b => P b ∧ b < w0.heap.size ∧ v.ownBlock ≠ some b) base (w0.alloc (.cells c F.e)) v xs := OwnX.to hown (Nat.le_refl _) (fun _ h _ => h) fun b _ hb => Below.heap_alloc _ _ _ hb
 have hx1 : E.C (fun b => P b ∧ b < w0.heap.size ∧ v.ownBlock ≠ some b) (w0.alloc (.cells c F.e)) y c.toList := E.to ht (fun b hb hl => ⟨(hR b hb hl).1, hl, (hR b hb hl).2⟩) fun b _ hb => Below.heap_alloc _ _ _ hb
 obtain ⟨cs, ho1, hC⟩ := hown1
 refine step_append_lies _ hgd s x F.sl ho base F.e i F.z E.k F.bytes F.hund hi hiz his hib F.hzs F.hk v _ cs hs ho1 ⟨w0.heap.size, 0, none⟩ 1 1 c.toList hx (by rw [E.len ht]; simp) ?_ (E.one ht) (by decide) (by unfold maxLen; omega) ?_ (by simp; omega) _ rfl ?_
 ·exact World.news_of_block (fr := (0, 0)) (heap_alloc_new _ _)
 ·exact Nat.le_trans (Nat.mul_le_mul hn hb) (by decide)
 ·intro g cap w' h1 h2 h3 h4
  simp only [World.size_alloc] at h3
  refine h g cap w' (ownXG_after hC hx1 h1 h2 h3) (grown_below ((Below.refl _ _).alloc hbase _) h2 (by simp; omega) fun b hb => (hlt b hb).1) h2 ?_
  rcases h3 with h5 | h5
  ·exact .inl h5
  ·exact .inr (by omega)
end
end Go.Proofs.Ytedfepnekjjmnab

/-
 Rows that a call grows one term at a time, whose parts may be new too: the law of append on them. No condition.
-/
namespace Go.Proofs.Ytedfepnekjjmnab
open Go.RowKit
set_option linter.unusedSimpArgs false
set_option linter.unusedVariables false

/-- A row of the call's own; what its terms hold lies in blocks of P that aren't the row's own. -/
def OwnG (P : Nat → Prop) (base : Nat) (w : World) (v : Value) (ts : List T) : Prop :=
 OwnT (fun b => P b ∧ b < w.heap.size ∧ v.ownBlock ≠ some b) base w v ts

theorem OwnG.nil (P : Nat → Prop) (base : Nat) (w : World) : OwnG P base w (.slice none 0 0) [] := OwnT.nil _ _ _
theorem OwnG.to {P : Nat → Prop} {base : Nat} {w w' : World} {v : Value} {ts : List T} (h : OwnG P base w v ts) (hl : w.heap.size ≤ w'.heap.size)
  (hc : ∀ b, (P b ∨ v.ownBlock = some b) → b < w.heap.size → w'.heap[b]? = w.heap[b]?) : OwnG P base w' v ts :=
 OwnT.to h (Nat.le_refl _) (fun b hb _ => ⟨hb.1, by have := hb.2.1; omega, hb.2.2⟩) fun b hb => hc b (hb.imp (·.1) id)
theorem OwnG.below {P : Nat → Prop} {base : Nat} {w w' : World} {v : Value} {ts : List T} (h : OwnG P base w v ts) (hB : Below w.heap.size w w') : OwnG P base w' v ts :=
 h.to hB.size fun b _ hb => hB.block b hb
theorem OwnG.alloc {P : Nat → Prop} {base : Nat} {w : World} {v : Value} {ts : List T} (h : OwnG P base w v ts) (o : Obj) : OwnG P base (w.alloc o) v ts := h.below (below_alloc w o)
theorem OwnG.block {P : Nat → Prop} {base : Nat} {w : World} {v : Value} {ts : List T} (h : OwnG P base w v ts) : ∀ b, v.ownBlock = some b → base ≤ b ∧ b < w.heap.size := OwnT.block h
theorem OwnG.setCell {P : Nat → Prop} {base : Nat} {w : World} {v : Value} {ts : List T} (h : OwnG P base w v ts) (B o : Nat) (u : Value) (hB : B < base) (hP : ¬ P B) : OwnG P base (w.setCell ⟨B, o, none⟩ u) v ts :=
 h.to (by simp) fun b hb _ => setCell_other w B o u b fun e => by
  subst e
  rcases hb with hb | hb
  ·exact hP hb
  ·have := h.block _ hb; omega
theorem OwnG.rsl {P : Nat → Prop} {base : Nat} {w : World} {v : Value} {ts : List T} (h : OwnG P base w v ts) (hP : ∀ b, base ≤ b → P b) : RSl P w ts v :=
 (OwnT.rsl2 h).rsl.mono fun b hb => by
  rcases hb with hb | hb
  ·exact hP b (h.block b hb).1
  ·exact hb.1

theorem OwnG.form {P : Nat → Prop} {base : Nat} {w : World} {v : Value} {ts : List T} (h : OwnG P base w v ts) : ∃ a cap, v = .slice a ts.length cap := (OwnT.rsl2 h).form

section
variable {ops : Array Oper} {rest : List Oper} {o : Oper} {a : Act} {Q : Exit → Act → World → Prop}
/-- 'append(s, x)'. -/
theorem append_grow (s x : Operand) (hgd : o.guard = none) (ho : o.op = .call { callee := .builtin .append, args := #[s, x], argTypes := #[22, 22] })
  {P R : Nat → Prop} {base : Nat} {w0 : World} {v : Value} {ts : List T} {t : T} {c0 c1 c2 c3 : Value} (hs : a.eval s = v) (hx : a.eval x = .slice (some ⟨w0.heap.size, 0, none⟩) 1 1) (hown : OwnG P base w0 v ts)
  (ht : RT R w0 t (.agg #[c0, c1, c2, c3])) (hR : ∀ b, R b → b < w0.heap.size → P b ∧ v.ownBlock ≠ some b) (hn : ts.length + 1 ≤ 1099511627776) (hbase : base ≤ w0.heap.size)
  (h : ∀ v' w', OwnG P base w' v' (ts ++ [t]) → Below base w0 w' → (∀ b, v'.ownBlock = some b → v.ownBlock = some b ∨ w0.heap.size ≤ b) → wpList Try.prog ops Q rest (a.put o.dst v') w') :
  wpList Try.prog ops Q (o :: rest) a (w0.alloc (.cells #[c0, c1, c2, c3] 24)) := by
 have hlt := hown.block
 refine append_terms (base := base) (S := fun b => P b ∧ b < w0.heap.size ∧ v.ownBlock ≠ some b) s x hgd ho hs hx (OwnT.to hown (Nat.le_refl _) (fun _ h _ => h) fun b _ hb => Below.heap_alloc _ _ _ hb)
  ((ht.to (S' := fun b => P b ∧ b < w0.heap.size ∧ v.ownBlock ≠ some b) (fun b hb hl => ⟨(hR b hb hl).1, hl, (hR b hb hl).2⟩) fun _ _ _ => rfl).one 24) (fun b hb => hb.2.2) hn (by simp; omega) ?_
 intro v' w' h1 h2 h3
 have h2s := h2.size
 simp only [World.size_alloc] at h2s h3
 refine h v' w' (h1.to (Nat.le_refl _) (fun b hb _ => ⟨hb.1, by have := hb.2.1; omega, fun e => ?_⟩) fun _ _ _ => rfl) ?_ ?_
 ·rcases h3 b e with h4 | h4
  ·exact hb.2.2 h4
  ·have := hb.2.1; omega
 ·exact grown_below ((Below.refl _ _).alloc hbase _) h2 (by simp; omega) fun b hb => (hlt b hb).1
 ·intro b hb
  rcases h3 b hb with h4 | h4
  ·exact .inl h4
  ·exact .inr (by omega)
/-- The same, the block by its number. -/
theorem append_grow' (s x : Operand) (hgd : o.guard = none) (ho : o.op = .call { callee := .builtin .append, args := #[s, x], argTypes := #[22, 22] })
  {P R : Nat → Prop} {base : Nat} {w0 : World} {v : Value} {ts : List T} {t : T} {c0 c1 c2 c3 : Value} {g : Nat} (hs : a.eval s = v) (hx : a.eval x = .slice (some ⟨g, 0, none⟩) 1 1) (hg : g = w0.heap.size) (hown : OwnG P base w0 v ts)
  (ht : RT R w0 t (.agg #[c0, c1, c2, c3])) (hR : ∀ b, R b → b < w0.heap.size → P b ∧ v.ownBlock ≠ some b) (hn : ts.length + 1 ≤ 1099511627776) (hbase : base ≤ w0.heap.size)
  (h : ∀ v' w', OwnG P base w' v' (ts ++ [t]) → Below base w0 w' → (∀ b, v'.ownBlock = some b → v.ownBlock = some b ∨ w0.heap.size ≤ b) → wpList Try.prog ops Q rest (a.put o.dst v') w') :
  wpList Try.prog ops Q (o :: rest) a (w0.alloc (.cells #[c0, c1, c2, c3] 24)) := by
 subst hg
 exact append_grow s x hgd ho hs hx hown ht hR hn hbase h
end
end Go.Proofs.Ytedfepnekjjmnab

/-
 term.Copied: the same term, in new memory. No condition but a bound on how much there is.
-/
namespace Go.Proofs.Ytedfepnekjjmnab
open Go.RowKit
set_option linter.unusedSimpArgs false
set_option linter.unusedVariables false

set_option maxHeartbeats 1000000 in
set_option maxRecDepth 100000 in
theorem copied_c : ∀ (t : T) (S : Nat → Prop) (w : World) (v : Value), RT S w t v → bulkL [t] ≤ 1099511627776 →
    Calls Try.prog 56 #[v] w fun e w' => ∃ v', e = .returned v' ∧ Below w.heap.size w w' ∧ RT (fun b => w.heap.size ≤ b) w' t v' := by
  intro t
  induction t using T.ind with
  | h t ih =>
    intro S w v hv hb
    have hba := bulk_args t
    have hla := length_le_bulk t.args
    obtain ⟨a, cap, rfl, hcap, hr⟩ := hv
    have IH := Lib.hid ih; clear ih
    have HR := Lib.hid hr; clear hr
    clear hcap
    go_enter Try.func56, Try.ntmps56
    go_wp2_with fail
    go_loopw [3, 9] (fun out i wr => ∃ k : Nat, k ≤ t.args.length ∧ i = .int .i64 k ∧ OwnG (fun b => w.heap.size + 2 ≤ b) (w.heap.size + 2) wr out (t.args.take k) ∧
        Below (w.heap.size + 2) ((w.alloc (.cells #[.int .i64 t.kind, .int .i64 t.n, .string t.name, .slice a t.args.length cap] 24)).alloc (.cells #[.int .i64 0, .int .i64 0, .string ⟨#[]⟩, .slice none 0 0] 24)) wr) (fun _ i _ => t.args.length - (intOf i).toNat)
    case atStart => exact ⟨0, Nat.zero_le _, rfl, OwnG.nil _ _ _, Below.refl _ _⟩
    case round =>
      obtain ⟨k, hkl, rfl, hT, hB⟩ := hrel
      have hsz := hB.size
      simp only [World.size_alloc] at hsz
      have HT := Lib.hid hT; clear hT
      have HB : Hid (Below w.heap.size w wr) := Lib.hid (below_step ((below_alloc _ _).alloc (by simp) _) (by simp <;> omega) (hB.mono (by simp <;> omega)))
      by_cases hlt : k < t.args.length
      · obtain ⟨b, o, rfl⟩ := HR.out.addr (by omega)
        obtain ⟨a', cap', hSb, d0, d1, d2, d3, hE⟩ := (HR.out.below HB.out).elem k hlt
        have hbk := bulk_at hlt
        have hE := Lib.hid hE
        go_wp2_with fail
        refine (IH.out _ (List.getElem_mem hlt) S _ _ (hE.out.alloc _) (by omega)).mono ?_
        rintro e w1 ⟨v1, rfl, hB1, hr1⟩
        have hs1 := hB1.size
        simp only [World.size_alloc] at hs1
        obtain ⟨a1, cap1, rfl, hcap1, hr1⟩ := hr1
        have HR1 : Hid (RT (fun b => wr.heap.size + 1 ≤ b) w1 (t.args[k]) _) := Lib.hid ⟨a1, cap1, rfl, hcap1, by simpa using hr1⟩
        have HT1 := Lib.hid ((HT.out.alloc (.cells #[.int .i64 t.args[k].kind, .int .i64 t.args[k].n, .string t.args[k].name, .slice a' t.args[k].args.length cap'] 24)).below hB1)
        have HT0 := Lib.hid HT.out.block
        clear d0 d1 d2 d3 hcap1 hr1
        have hnn : (t.args.take k).length + 1 ≤ 1099511627776 := by simp; omega
        go_wp2_with (at_builtin; refine append_grow _ _ rfl rfl rfl rfl HT1.out HR1.out (fun b hb hl => ⟨by omega, fun he => by have := HT0.out b he; omega⟩) hnn (by omega) ?_; intro v3 w2 hT3 hB3 hw3; have hs2 := hB3.size; have H3 := Lib.hid hT3; clear hT3 hw3)
        go_roundw
        case rel => exact ⟨k + 1, by omega, by go_num, by rw [take_snoc' _ k hlt]; exact H3.out, (below_step (hB.alloc (by omega) _) (by simp <;> omega) hB1).trans hB3⟩
        case measure => simp [intOf]; omega
      · have hkk : k = t.args.length := by omega
        subst hkk
        have hB' := hB.mono (show ((w.alloc (.cells #[.int .i64 t.kind, .int .i64 t.n, .string t.name, .slice a t.args.length cap] 24)).alloc (.cells #[.int .i64 0, .int .i64 0, .string ⟨#[]⟩, .slice none 0 0] 24)).heap.size ≤ w.heap.size + 2 by simp)
        obtain ⟨hcc, hff⟩ := bcell hB'
        simp only [World.size_alloc] at hcc hff
        obtain ⟨ar, capr, hrow, hcr, hrr⟩ := HT.out.rsl (fun b hb => hb)
        rw [List.take_of_length_le (Nat.le_refl _)] at hrow hcr hrr
        subst hrow
        have hrr := Lib.hid hrr
        have h1 : w.heap.size < w.heap.size + 1 + 1 := by omega
        have h2 : w.heap.size < wr.heap.size := by omega
        have h3 : w.heap.size + 1 < wr.heap.size := by omega
        clear hB hB'
        go_wp2_with fail
        refine bodyPost_ret (v := .agg #[.int .i64 t.kind, .int .i64 t.n, .string t.name, .slice ar t.args.length capr]) (by simp [results, Try.results56, go_sem, hcc, hff]) rfl ⟨_, rfl, ?_, ar, capr, rfl, hcr, ?_⟩
        · repeat refine Below.setCell ?_ (by simp <;> omega) _
          exact HB.out
        · refine hrr.out.to (fun b hb _ => by omega) fun b hb _ => ?_
          have hn1 : b ≠ w.heap.size := by omega
          have hn2 : b ≠ w.heap.size + 1 := by omega
          simp only [setCell_other _ _ _ _ _ hn1, setCell_other _ _ _ _ _ hn2]
end Go.Proofs.Ytedfepnekjjmnab

/-
 clerkref.Is, reckon.is: is a tuple one of a word, and so many others? No condition but bounds.
-/
namespace Go.Proofs.Ytedfepnekjjmnab
open Go.RowKit
set_option linter.unusedSimpArgs false
set_option linter.unusedVariables false

def headIs (s : ByteArray) : List T → Bool
 | [] => false
 | y :: _ => y.kind == 2 && y.name.toList == s.toList
def isT (x : T) (s : ByteArray) (n : Int) : Bool := x.kind == 4 && decide ((x.args.length : Int) = n + 1) && headIs s x.args
theorem isT_kind {x : T} {s : ByteArray} {n : Int} (h : (x.kind == 4) = false) : isT x s n = false := by simp [isT, h]
theorem isT_len {x : T} {s : ByteArray} {n : Int} (h : (x.args.length : Int) ≠ n + 1) : isT x s n = false := by simp [isT, h]
theorem headIs_at (s : ByteArray) (l : List T) (h : 0 < l.length) : headIs s l = (l[0].kind == 2 && l[0].name.toList == s.toList) := by
 cases l with
 | nil => cases h
 | cons y l => rfl

set_option maxHeartbeats 1000000 in
theorem is_ris (x : T) (s : ByteArray) (n : Int) (S : Nat → Prop) (w : World) (v : Value) (hv : RT S w x v) (h0 : 0 ≤ n) (hn : n ≤ 1099511627776) (hb : bulkL [x] ≤ 1099511627776) :
  Calls Try.prog 128 #[v, .string s, .int .i64 n] w fun e w' => e = .returned (.bool (isT x s n)) ∧ Below w.heap.size w w' := by
 obtain ⟨a, cap, rfl, hc, hr⟩ := hv
 have hba := bulk_args x
 have hla := length_le_bulk x.args
 have HR := Lib.hid hr; clear hr hc
 cases h1 : (x.kind == 4)
 ·have H1 := Lib.hid (isT_kind (s := s) (n := n) h1)
  go_enter Try.func128, Try.ntmps128
  go_wp2_with fail
  go_ret
  exact ⟨ret_bool H1.out.symm, below_alloc _ _⟩
 by_cases h2 : (x.args.length : Int) = n + 1
 ·have hpos : 0 < x.args.length := by omega
  obtain ⟨b, o, rfl⟩ := HR.out.addr hpos
  obtain ⟨a', cap', hSb, d0, d1, d2, d3, hE⟩ := (HR.out.alloc (.cells #[.int .i64 x.kind, .int .i64 x.n, .string x.name, .slice (some ⟨b, o, none⟩) x.args.length cap] 24)).elem 0 hpos
  clear hE
  have h2' : ((x.args.length : Int) == n + 1) = true := by simpa using h2
  have h2'' : ((x.args.length : Int) == 1 + n) = true := by simp; omega
  have H1 := Lib.hid (show isT x s n = (x.args[0].kind == 2 && x.args[0].name.toList == s.toList) by rw [isT, h1, headIs_at s _ hpos]; simp [h2])
  clear h2
  simp only [Nat.zero_mul, Nat.add_zero] at d0 d1 d2 d3
  generalize x.args[0] = y at d0 d1 d2 d3 H1
  cases h3 : (y.kind == 2)
  ·have H2 := Lib.hid h3
   go_enter Try.func128, Try.ntmps128
   go_wp2_with fail
   go_ret
   exact ⟨ret_bool (by rw [H1.out, H2.out]; rfl), below_alloc _ _⟩
  ·have H2 := Lib.hid h3
   go_enter Try.func128, Try.ntmps128
   go_wp2_with fail
   go_ret
   exact ⟨ret_bool (by rw [H1.out, H2.out]; rfl), below_alloc _ _⟩
 ·have H1 := Lib.hid (isT_len (x := x) (s := s) (n := n) h2)
  have h2' : ((x.args.length : Int) == n + 1) = false := by simpa using h2
  have h2'' : ((x.args.length : Int) == 1 + n) = false := by simp; omega
  clear h2
  go_enter Try.func128, Try.ntmps128
  go_wp2_with fail
  go_ret
  exact ⟨ret_bool H1.out.symm, below_alloc _ _⟩
end Go.Proofs.Ytedfepnekjjmnab

/-
 A term stored into a row of the call's own. No condition.
-/
namespace Go.Proofs.Ytedfepnekjjmnab
open Go.RowKit
set_option linter.unusedSimpArgs false
set_option linter.unusedVariables false

/-- All that was there is as it was, but for the blocks of R. -/
structure Keep (R : Nat → Prop) (w w' : World) : Prop where
 os : w'.os = w.os
 tape : w'.tape = w.tape
 output : w'.output = w.output
 size : w.heap.size ≤ w'.heap.size
 block : ∀ k, k < w.heap.size → ¬ R k → w'.heap[k]? = w.heap[k]?

theorem Keep.refl (R : Nat → Prop) (w : World) : Keep R w w := ⟨rfl, rfl, rfl, Nat.le_refl _, fun _ _ _ => rfl⟩
theorem Keep.trans {R : Nat → Prop} {a b c : World} (h : Keep R a b) (k : Keep R b c) : Keep R a c :=
 ⟨k.os.trans h.os, k.tape.trans h.tape, k.output.trans h.output, Nat.le_trans h.size k.size, fun i hi hr => (k.block i (Nat.lt_of_lt_of_le hi h.size) hr).trans (h.block i hi hr)⟩
theorem Keep.of {R : Nat → Prop} {w w' : World} (h : Below w.heap.size w w') : Keep R w w' := ⟨h.os, h.tape, h.output, h.size, fun k hk _ => h.block k hk⟩
theorem Keep.then {R : Nat → Prop} {a b c : World} (h : Keep R a b) (k : Below b.heap.size b c) : Keep R a c := h.trans (Keep.of k)
theorem Keep.mono {R R' : Nat → Prop} {w w' : World} (h : Keep R w w') (hr : ∀ b, b < w.heap.size → R b → R' b) : Keep R' w w' := ⟨h.os, h.tape, h.output, h.size, fun k hk hn => h.block k hk fun e => hn (hr k hk e)⟩
theorem Keep.below {R : Nat → Prop} {w w' : World} (h : Keep R w w') {B : Nat} (hB : B ≤ w.heap.size) (hr : ∀ b, R b → B ≤ b) : Below B w w' := ⟨h.os, h.tape, h.output, h.size, fun k hk => h.block k (by omega) fun e => by have := hr k e; omega⟩
theorem Keep.drew {R : Nat → Prop} {a w : World} (h : Keep R a w) : Keep R a w.drew := ⟨h.os, h.tape, h.output, h.size, h.block⟩
theorem Keep.alloc {R : Nat → Prop} {a w : World} (h : Keep R a w) (o : Obj) : Keep R a (w.alloc o) := h.then (below_alloc w o)
/-- A store into a block of R, or into a new one. -/
theorem Keep.setCell {R : Nat → Prop} {a w : World} (h : Keep R a w) {b o : Nat} (u : Value) (hb : R b ∨ a.heap.size ≤ b) : Keep R a (w.setCell ⟨b, o, none⟩ u) :=
 ⟨h.os, h.tape, h.output, by simpa using h.size, fun k hk hn => by rw [setCell_other w b o u k (fun e => by subst e; rcases hb with hb | hb; exact hn hb; omega)]; exact h.block k hk hn⟩
theorem Keep.cell {R : Nat → Prop} {w w' : World} (h : Keep R w w') (b o : Nat) (hb : b < w.heap.size) (hr : ¬ R b) : w'.cell? ⟨b, o, none⟩ = w.cell? ⟨b, o, none⟩ := World.cell?_of_block (w := w) (h.block b hb hr)
theorem Keep.frozen {R : Nat → Prop} {w w' : World} (h : Keep R w w') (b o : Nat) (hb : b < w.heap.size) (hr : ¬ R b) : w'.frozen? ⟨b, o, none⟩ = w.frozen? ⟨b, o, none⟩ := World.frozen?_of_block (w := w) (h.block b hb hr)
theorem RT.keep {R S : Nat → Prop} {w w' : World} {t : T} {v : Value} (h : RT S w t v) (hK : Keep R w w') (hs : ∀ b, S b → ¬ R b) : RT S w' t v := h.to (fun _ h _ => h) fun b hb hl => hK.block b hl (hs b hb)
theorem RTs.keep {R S : Nat → Prop} {w w' : World} {ts : List T} {a : Option Addr} {i : Nat} (h : RTs S w ts a i) (hK : Keep R w w') (hs : ∀ b, S b → ¬ R b) : RTs S w' ts a i := h.to (fun _ h _ => h) fun b hb hl => hK.block b hl (hs b hb)
theorem RSl.keep {R S : Nat → Prop} {w w' : World} {ts : List T} {v : Value} (h : RSl S w ts v) (hK : Keep R w w') (hs : ∀ b, S b → ¬ R b) : RSl S w' ts v := h.to (fun _ h _ => h) fun b hb hl => hK.block b hl (hs b hb)

theorem CellsT.set {S : Nat → Prop} {w : World} {t : T} {a : Option Addr} {cap : Nat} (hc : CapOk a t.args.length cap) (hr : RTs S w t.args a 0) : ∀ {ts : List T} {cs : List Value} {k : Nat}, CellsT S w ts cs → k < ts.length →
  CellsT S w (ts.set k t) ((((cs.set (k * 4) (.int .i64 t.kind)).set (k * 4 + 1) (.int .i64 t.n)).set (k * 4 + 2) (.string t.name)).set (k * 4 + 3) (.slice a t.args.length cap))
 | [], _, _, _, hk => by cases hk
 | x :: ts, cs, 0, h, _ => by
  obtain ⟨a', cap', cs', rfl, h1, h2, h3⟩ := h
  exact ⟨a, cap, cs', rfl, hc, hr, h3⟩
 | x :: ts, cs, k + 1, h, hk => by
  obtain ⟨a', cap', cs', rfl, h1, h2, h3⟩ := h
  have := CellsT.set hc hr h3 (k := k) (by simpa using hk)
  refine ⟨a', cap', _, ?_, h1, h2, this⟩
  rw [show (k + 1) * 4 = k * 4 + 1 + 1 + 1 + 1 by omega]
  simp only [List.set_cons_succ]

theorem OwnG.store {P R : Nat → Prop} {base g n cap k : Nat} {w : World} {ts : List T} {t : T} {c0 c1 c2 c3 : Value} (h : OwnG P base w (.slice (some ⟨g, 0, none⟩) n cap) ts) (hk : k < ts.length) (hr : RT R w t (.agg #[c0, c1, c2, c3]))
  (hR : ∀ b, R b → b < w.heap.size → P b ∧ b ≠ g) :
  OwnG P base ((((w.setCell ⟨g, k * 4, none⟩ c0).setCell ⟨g, k * 4 + 1, none⟩ c1).setCell ⟨g, k * 4 + 2, none⟩ c2).setCell ⟨g, k * 4 + 3, none⟩ c3) (.slice (some ⟨g, 0, none⟩) n cap) (ts.set k t) := by
 obtain ⟨cs, ⟨h1, h2⟩, hC⟩ := h
 obtain ⟨a, capt, ev, hct, hrt⟩ := hr
 simp only [Value.agg.injEq, Array.mk.injEq, List.cons.injEq, and_true] at ev
 obtain ⟨rfl, rfl, rfl, rfl⟩ := ev
 rcases h2 with ⟨h2, -⟩ | ⟨g', cap', cur, ev, hg, hh, hn, hm, hcs, htk⟩
 ·cases h2
 simp only [Value.slice.injEq, Option.some.injEq, Addr.mk.injEq, and_true] at ev
 obtain ⟨rfl, rfl, rfl⟩ := ev
 have e1 := heap_setCell_same w g (k * 4) cur 24 (.int .i64 t.kind) hh
 have e2 := heap_setCell_same _ g (k * 4 + 1) _ 24 (.int .i64 t.n) e1
 have e3 := heap_setCell_same _ g (k * 4 + 2) _ 24 (.string t.name) e2
 have e4 := heap_setCell_same _ g (k * 4 + 3) _ 24 (.slice a t.args.length capt) e3
 refine ⟨_, ⟨?_, .inr ⟨g, cap, _, by simp, hg, e4, ?_, hm, by simp [hcs], rfl⟩⟩, ?_⟩
 ·simp only [Array.toList_setIfInBounds, List.take_set, htk, List.length_set, h1]
 ·simpa using hn
 ·simp only [Array.toList_setIfInBounds]
  have hl : (ts.set k t).length = ts.length := by simp
  rw [hl, List.take_set, List.take_set, List.take_set, List.take_set, htk]
  have key : ∀ b, b ≠ g → ((((w.setCell ⟨g, k * 4, none⟩ (.int .i64 t.kind)).setCell ⟨g, k * 4 + 1, none⟩ (.int .i64 t.n)).setCell ⟨g, k * 4 + 2, none⟩ (.string t.name)).setCell ⟨g, k * 4 + 3, none⟩ (.slice a t.args.length capt)).heap[b]? = w.heap[b]? := fun b hb => by
   simp only [setCell_other _ _ _ _ _ hb]
  have hne : ∀ b, (Value.slice (some ⟨g, 0, none⟩) ts.length cap).ownBlock ≠ some b → b ≠ g := fun b hb e => hb (by subst e; rfl)
  refine CellsT.set hct (hrt.to (fun b hb hl => ⟨(hR b hb hl).1, by simpa using hl, fun e => (hR b hb hl).2 (by simpa [Value.ownBlock] using e.symm)⟩) fun b hb hl => key b (hR b hb hl).2) ?_ hk
  exact hC.to (fun b hb _ => ⟨hb.1, by simpa using hb.2.1, hb.2.2⟩) fun b hb _ => key b (hne b hb.2.2)
theorem OwnG.frozen {P : Nat → Prop} {base g n cap : Nat} {w : World} {ts : List T} (h : OwnG P base w (.slice (some ⟨g, 0, none⟩) n cap) ts) (o : Nat) : w.frozen? ⟨g, o, none⟩ = false := by
 obtain ⟨cs, ⟨h1, h2⟩, hC⟩ := h
 rcases h2 with ⟨h2, -⟩ | ⟨g', cap', cur, ev, hg, hh, -⟩
 ·cases h2
 simp only [Value.slice.injEq, Option.some.injEq, Addr.mk.injEq, and_true] at ev
 obtain ⟨rfl, -, -⟩ := ev
 exact frozen_of_row w g o cur 24 hh
end Go.Proofs.Ytedfepnekjjmnab

/-
 A map whose keys are pointers to blocks and whose elements are true. No condition.
-/
namespace Go.Proofs.Ytedfepnekjjmnab
open Go.RowKit
set_option linter.unusedSimpArgs false
set_option linter.unusedVariables false
set_option maxRecDepth 100000

def ptr (b : Nat) : Value := .pointer (some ⟨b, 0, none⟩)
/-- A block of cells, none of them frozen. -/
def IsC (w : World) (b : Nat) : Prop := ∃ cs e, w.heap[b]? = some (.cells cs e (0, 0))
theorem IsC.to {w w' : World} {b : Nat} (h : IsC w b) (he : w'.heap[b]? = w.heap[b]?) : IsC w' b := by
 obtain ⟨cs, e, h⟩ := h; exact ⟨cs, e, he.trans h⟩
/-- The entries: the pointers of S, in the order in which they were laid. -/
def EntP : List Nat → List MapEntry → Prop
 | [], es => es = []
 | s :: S, es => ∃ e es', es = e :: es' ∧ e.key = ptr s ∧ e.val = .bool true ∧ EntP S es'
theorem EntP.snoc {s : Nat} {x : MapEntry} (h1 : x.key = ptr s) (h2 : x.val = .bool true) : ∀ {S : List Nat} {es : List MapEntry}, EntP S es → EntP (S ++ [s]) (es ++ [x])
 | [], es, h => by
  obtain rfl : es = [] := h
  exact ⟨x, [], rfl, h1, h2, rfl⟩
 | t :: S, es, h => by
  obtain ⟨e, es', rfl, h3, h4, h5⟩ := h
  exact ⟨e, es' ++ [x], rfl, h3, h4, h5.snoc h1 h2⟩
theorem EntP.len : ∀ {S : List Nat} {es : List MapEntry}, EntP S es → es.length = S.length
 | [], es, h => by obtain rfl : es = [] := h; rfl
 | t :: S, es, h => by obtain ⟨e, es', rfl, -, -, h5⟩ := h; simp [h5.len]
/-- Block r is a map that holds the pointers of S. -/
def PMap (w : World) (r : Nat) (S : List Nat) : Prop := ∃ es clock, w.heap[r]? = some (.map es clock) ∧ EntP S es.toList
theorem PMap.to {w w' : World} {r : Nat} {S : List Nat} (h : PMap w r S) (he : w'.heap[r]? = w.heap[r]?) : PMap w' r S := by
 obtain ⟨es, c, h1, h2⟩ := h; exact ⟨es, c, he.trans h1, h2⟩
theorem PMap.new (w : World) : PMap (w.alloc (.map #[] 0)) w.heap.size [] := ⟨#[], 0, heap_alloc_new w _, rfl⟩
end Go.Proofs.Ytedfepnekjjmnab

/-
 Rows of one's own that may have lost heads (l = l[1:]): how they lie, append, the tail. No condition.
-/
namespace Go.Proofs.Ytedfepnekjjmnab
open Go.RowKit
set_option linter.unusedSimpArgs false
set_option linter.unusedVariables false

section
variable {P : Program} {w : World} {base : Nat} {e : TypeId} {size : Nat} {v : Value} {n : Nat} {xs : List Value}
def ownsQ (w : World) (base : Nat) (e : TypeId) (size : Nat) (v : Value) (n : Nat) (xs : List Value) : Prop :=
 xs.length = n * size ∧ ((v = .slice none 0 0 ∧ n = 0) ∨
  ∃ g o cap cur, v = .slice (some ⟨g, o * size, none⟩) n cap ∧ base ≤ g ∧ w.heap[g]? = some (.cells cur e (0, 0)) ∧ n ≤ cap ∧ cap ≤ maxLen ∧ (0 < cap → cur.size = (o + cap) * size) ∧ (cur.toList.drop (o * size)).take (n * size) = xs)
theorem ownsQ_of (h : w.ownsRow base e size v n xs) : ownsQ w base e size v n xs := by
 refine ⟨h.1, h.2.imp id ?_⟩
 rintro ⟨g, cap, cur, rfl, r1, r2, r3, r4, r5, r6⟩
 exact ⟨g, 0, cap, cur, by rw [Nat.zero_mul], r1, r2, r3, r4, fun _ => by rw [r5, Nat.zero_add], by rw [Nat.zero_mul, List.drop_zero]; exact r6⟩
theorem ownsQ.lt (h : ownsQ w base e size v n xs) : ∀ k, v.ownBlock = some k → base ≤ k ∧ k < w.heap.size := by
 intro k hk
 rcases h.2 with ⟨rfl, _⟩ | ⟨g, o, cap, cur, rfl, hb, hg, _⟩
 ·simp [Value.ownBlock] at hk
 ·simp [Value.ownBlock] at hk
  subst hk
  exact ⟨hb, (Array.getElem?_eq_some_iff.1 hg).1⟩
theorem ownsQ.to {w' : World} (h : ownsQ w base e size v n xs) (he : ∀ b, v.ownBlock = some b → w'.heap[b]? = w.heap[b]?) : ownsQ w' base e size v n xs := by
 refine ⟨h.1, h.2.imp id ?_⟩
 rintro ⟨g, o, cap, cur, rfl, r1, r2, r⟩
 exact ⟨g, o, cap, cur, rfl, r1, by rw [he g rfl]; exact r2, r⟩
theorem ownsQ.cells (h : ownsQ w base e size v n xs) {g o cap : Nat} (hv : v = .slice (some ⟨g, o, none⟩) n cap) : ∀ j u, xs[j]? = some u → w.cell? ((⟨g, o, none⟩ : Addr).add j) = some u := by
 intro j u hu
 rcases h.2 with ⟨e1, _⟩ | ⟨g', o', cap', cur, e1, _, hgg, _, _, _, htake⟩
 ·rw [e1] at hv; cases hv
 ·rw [e1] at hv
  simp only [Value.slice.injEq, Option.some.injEq, Addr.mk.injEq, and_true, true_and] at hv
  obtain ⟨⟨rfl, rfl⟩, rfl⟩ := hv
  rw [Addr.add_lit]
  have hj := (List.getElem?_eq_some_iff.1 hu).1
  rw [h.1] at hj
  rw [← htake, List.getElem?_take_of_lt hj, List.getElem?_drop] at hu
  simp only [World.cell?, hgg]
  rw [← Array.getElem?_toList]
  exact hu
theorem run_append_roomQ (w : World) (t ty e : TypeId) (i : TypeInfo) (ht : P.underlying t = some (.slice e)) (hi : P.info? e = some i)
  (g o sLen sCap : Nat) (cur : Array Value) (hg : w.heap[g]? = some (.cells cur e (0, 0)))
  (a : Addr) (m c : Nat) (news : List Value) (hl : news.length = m * i.size) (hnews : ∀ j u, news[j]? = some u → w.cell? (a.add j) = some u) (h1 : ∀ u ∈ news, u.oneCell' = true)
  (hroom : sLen + m ≤ sCap) (hfit : o + sLen * i.size + news.length ≤ cur.size) :
  (Builtin.append_ #[t, t] ty #[.slice (some ⟨g, o, none⟩) sLen sCap, .slice (some a) m c]).run P w =
   .ok (.slice (some ⟨g, o, none⟩) (sLen + m) sCap) (w.setRow g (cur.toList.take (o + sLen * i.size) ++ news ++ cur.toList.drop (o + sLen * i.size + news.length)).toArray) := by
 have hf := run_firstCells_some (P := P) w i.size m a m c news hl hnews
 have hst := run_storeCells_at P g (o + sLen * i.size) e news 0 cur w hg (by simpa using hfit) h1
 simp only [Nat.add_zero] at hst
 simp [Builtin.append_, run_underlying ht, sizeOf, typeInfo, hi, Builtin.lenOf, hroom, hf, Addr.add_lit, hst]
theorem run_append_q (w : World) (t ty : TypeId) (base : Nat) (e : TypeId) (i : TypeInfo) (z : Value) (size bytes : Nat) (ht : P.underlying t = some (.slice e)) (hi : P.info? e = some i) (hz : i.zero = some z)
  (hsize : i.size = size) (hby : i.bytes = bytes) (hzs : z.cells.size = size) (hsz : 0 < size)
  (v : Value) (n : Nat) (xs : List Value) (hown : ownsQ w base e size v n xs)
  (ad : Addr) (m c : Nat) (news : List Value) (hl : news.length = m * size) (hnews : ∀ j u, news[j]? = some u → w.cell? (ad.add j) = some u) (h1 : ∀ u ∈ news, u.oneCell' = true)
  (hm : 0 < m) (h63 : n + m ≤ maxLen) (hbytes : (n + m) * bytes ≤ 140737488355328) (hbase : base ≤ w.heap.size) :
  ∃ g o cap w', (Builtin.append_ #[t, t] ty #[v, .slice (some ad) m c]).run P w = .ok (.slice (some ⟨g, o, none⟩) (n + m) cap) w' ∧
   ownsQ w' base e size (.slice (some ⟨g, o, none⟩) (n + m) cap) (n + m) (xs ++ news) ∧ w.grownBy w' v.ownBlock ∧ (v.ownBlock = some g ∨ g = w.heap.size) := by
 rcases hown.2 with ⟨rfl, rfl⟩ | ⟨g, o, cap, cur, rfl, hbg, hg, hnc, hcm, hcs, htake⟩
 ·obtain rfl : xs = [] := List.eq_nil_of_length_eq_zero (by simpa using hown.1)
  obtain ⟨g, cap, w', hr, h2, h3, h4, h5⟩ := run_append_lies (P := P) w t ty base e i z size bytes ht hi hz hsize hby hzs hsz (.slice none 0 0) 0 [] (World.ownsRow_nil w base e size) ad m c news hl hnews h1 hm h63 hbytes hbase w.heap.size rfl
  exact ⟨g, 0, cap, w', hr, ownsQ_of h2, h3, h4⟩
 ·subst hsize
  subst hby
  have hlen : (xs ++ news).length = (n + m) * i.size := by rw [List.length_append, hown.1, hl, Nat.add_mul]
  by_cases hroom : n + m ≤ cap
  ·have hcs := hcs (by omega)
   have hle : o * i.size + (n + m) * i.size ≤ cur.size := by rw [hcs, ← Nat.add_mul]; exact Nat.mul_le_mul_right _ (by omega)
   have hfit : o * i.size + n * i.size + news.length ≤ cur.size := by rw [hl]; rw [Nat.add_mul] at hle; omega
   have hr := run_append_roomQ (P := P) w t ty e i ht hi g (o * i.size) n cap cur hg ad m c news hl hnews h1 hroom hfit
   refine ⟨g, o * i.size, cap, _, hr, ⟨hlen, .inr ⟨g, o, cap, _, rfl, hbg, setRow_heap w g cur _ e _ hg, hroom, hcm, ?_, ?_⟩⟩, ⟨rfl, rfl, rfl, by simp, fun k _ hk => setRow_other w g k _ (fun e => hk (by simp [Value.ownBlock, e]))⟩, .inl rfl⟩
   ·intro _
    rw [← hcs]
    simp only [List.size_toArray, List.length_append, List.length_take, List.length_drop, Array.length_toList]
    omega
   ·have ht1 : cur.toList.take (o * i.size + n * i.size) = cur.toList.take (o * i.size) ++ xs := by rw [List.take_add, htake]
    have hl1 : (cur.toList.take (o * i.size)).length = o * i.size := by rw [List.length_take, Array.length_toList]; omega
    rw [List.toList_toArray, ht1, List.append_assoc, List.append_assoc, List.drop_left' hl1, ← List.append_assoc, ← hlen]
    exact List.take_left
  ·have hr := run_append_grow (P := P) w t ty e i z ht hi hz ⟨g, o * i.size, none⟩ n cap xs hown.1 (hown.cells rfl) ad m c news hl hnews (by omega) (by simp only [maxLen] at h63; omega) (growslice_fits (by omega) hbytes)
   have hge := grownCap_ge w (n + m) cap e
   have hcm2 : grownCap w (n + m) cap e ≤ maxLen := grownCap_le_maxLen w (n + m) cap e h63
   refine ⟨w.heap.size, 0, _, _, hr, ownsQ_of ⟨hlen, .inr ⟨w.heap.size, _, _, rfl, hbase, heap_alloc_new w.drew _, hge, hcm2, ?_, ?_⟩⟩, ⟨rfl, rfl, rfl, by simp, fun k hk _ => heap_alloc_old w.drew _ hk⟩, .inr rfl⟩
   ·simp only [Array.size_append, List.size_toArray, size_zeroCells, hzs, hown.1, hl, ← Nat.add_mul]
    congr 1
    omega
   ·simp only [Array.toList_append, List.append_assoc]
    rw [← List.append_assoc, ← hlen]
    exact List.take_left
/-- The tail. -/
theorem ownsQ.tail {g o cap m : Nat} {c cs : List Value} (h : ownsQ w base e size (.slice (some ⟨g, o, none⟩) (m + 1) cap) (m + 1) (c ++ cs)) (hc : c.length = size) : ownsQ w base e size (.slice (some ⟨g, o + size, none⟩) m (cap - 1)) m cs := by
 obtain ⟨hl, h2⟩ := h
 rcases h2 with ⟨e1, _⟩ | ⟨g', o', cap', cur, e1, hb, hg, hn, hm, hs, ht⟩
 ·cases e1
 ·simp only [Value.slice.injEq, Option.some.injEq, Addr.mk.injEq, and_true, true_and] at e1
  obtain ⟨⟨rfl, rfl⟩, rfl⟩ := e1
  refine ⟨?_, .inr ⟨g, o' + 1, cap - 1, cur, by rw [Nat.succ_mul], hb, hg, by omega, by omega, ?_, ?_⟩⟩
  ·rw [List.length_append, hc, Nat.succ_mul] at hl; omega
  ·intro hpos; rw [hs (by omega)]; congr 1; omega
  ·have h3 : (cur.toList.drop ((o' + 1) * size)).take (m * size) = ((cur.toList.drop (o' * size)).take ((m + 1) * size)).drop size := by
    rw [List.drop_take, List.drop_drop, Nat.succ_mul, Nat.succ_mul, Nat.add_sub_cancel]
   rw [h3, ht, ← hc, List.drop_left]
/-- Nothing left of it, and no room. -/
theorem ownsQ.zero {g o cap m : Nat} {cs : List Value} (h : ownsQ w base e size (.slice (some ⟨g, o, none⟩) (m + 1) cap) (m + 1) cs) : ownsQ w base e size (.slice (some ⟨g, o, none⟩) 0 0) 0 [] := by
 obtain ⟨hl, h2⟩ := h
 rcases h2 with ⟨e1, _⟩ | ⟨g', o', cap', cur, e1, hb, hg, hn, hm, hs, ht⟩
 ·cases e1
 ·simp only [Value.slice.injEq, Option.some.injEq, Addr.mk.injEq, and_true, true_and] at e1
  obtain ⟨⟨rfl, rfl⟩, rfl⟩ := e1
  exact ⟨by simp, .inr ⟨g, o', 0, cur, rfl, hb, hg, Nat.le_refl _, Nat.zero_le _, fun h => absurd h (by omega), by simp⟩⟩
end
end Go.Proofs.Ytedfepnekjjmnab

/-
 term.Size: what it answers. No condition but a bound on how much there is.
-/
namespace Go.Proofs.Ytedfepnekjjmnab
open Go.RowKit
set_option linter.unusedSimpArgs false
set_option linter.unusedVariables false

def szL : List T → Nat
 | [] => 0
 | ⟨k, _, _, l⟩ :: ts => (if k = 4 then 1 + l.length + szL l else 0) + szL ts

theorem szL_cons (t : T) (ts : List T) : szL (t :: ts) = (if t.kind = 4 then 1 + t.args.length + szL t.args else 0) + szL ts := by
 obtain ⟨k, n, s, l⟩ := t; rw [szL]

theorem szL_append (a b : List T) : szL (a ++ b) = szL a + szL b := by
 induction a with
 | nil => simp [szL]
 | cons t ts ih => simp only [List.cons_append, szL_cons, ih]; omega

theorem szL_le : ∀ m (ts : List T), bulkL ts ≤ m → szL ts + ts.length ≤ 2 * bulkL ts := by
 intro m
 induction m with
 | zero => intro ts h; cases ts with
  | nil => simp [szL]
  | cons t ts => rw [bulkL_cons] at h; omega
 | succ m ih =>
  intro ts h
  cases ts with
  | nil => simp [szL]
  | cons t ts =>
   rw [bulkL_cons] at h
   have h1 := ih t.args (by omega)
   have h2 := ih ts (by omega)
   rw [szL_cons, bulkL_cons, List.length_cons]
   split <;> omega

theorem szL_snoc {l : List T} {k : Nat} (h : k < l.length) : szL (l.take (k + 1)) = szL (l.take k) + szL [l[k]] := by
 rw [take_snoc' l k h, szL_append]

set_option maxHeartbeats 400000 in
theorem size_c : ∀ (t : T) (S : Nat → Prop) (w : World) (v : Value), RT S w t v → bulkL [t] ≤ 1099511627776 →
  Calls Try.prog 46 #[v] w fun e w' => e = .returned (.int .i64 (szL [t])) ∧ Below w.heap.size w w' := by
 intro t
 induction t using T.ind with
 | h t ih =>
  intro S w v hv hb
  obtain ⟨a, cap, rfl, hcap, hr⟩ := hv
  have hba := bulk_args t
  have hla := length_le_bulk t.args
  have hsz := szL_le _ t.args (Nat.le_refl _)
  have hx : szL [t] = if t.kind = 4 then 1 + t.args.length + szL t.args else 0 := by rw [szL_cons]; simp [szL]
  have HX := Lib.hid hx; clear hx
  have IH := Lib.hid ih; clear ih
  have HR := Lib.hid hr; clear hr
  by_cases hk : (t.kind == 4) = true
  ·have hk' : (t.kind != 4) = false := by simpa using hk
   go_enter Try.func46, Try.ntmps46
   go_wp2_with fail
   go_loopw [3, 16] (fun nn i wr => ∃ k : Nat, k ≤ t.args.length ∧ i = .int .i64 k ∧ nn = .int .i64 ((1 + t.args.length + szL (t.args.take k) : Nat) : Int) ∧ Below w.heap.size w wr) (fun _ i _ => t.args.length - (intOf i).toNat)
   case atStart => exact ⟨0, Nat.zero_le _, rfl, by simp [szL], below_alloc _ _⟩
   case round =>
    obtain ⟨k, hkl, rfl, rfl, hB⟩ := hrel
    have hbt := bulk_take t.args k
    have hst := szL_le _ (t.args.take k) (Nat.le_refl _)
    by_cases hlt : k < t.args.length
    ·obtain ⟨b, o, rfl⟩ := HR.out.addr (by omega)
     obtain ⟨a', cap', _, c0, c1, c2, c3, hE⟩ := HR.out.elem k hlt
     have hbl := World.block_lt_of_cell? w _ c0
     have hE := hE.below hB
     have d0 := (hB.cell hbl).trans c0
     have d1 := (hB.cell (p := ⟨b, o + k * 4 + 1, none⟩) hbl).trans c1
     have d2 := (hB.cell (p := ⟨b, o + k * 4 + 2, none⟩) hbl).trans c2
     have d3 := (hB.cell (p := ⟨b, o + k * 4 + 3, none⟩) hbl).trans c3
     have hbk := bulk_at hlt
     have hsk := szL_le _ [t.args[k]] (Nat.le_refl _)
     have HS := Lib.hid (szL_snoc hlt)
     have hsz' := hB.size
     clear c0 c1 c2 c3
     go_wp2_with fail
     refine (IH.out _ (List.getElem_mem hlt) S _ _ (hE.alloc _) (by omega)).mono ?_
     rintro e w1 ⟨rfl, hB1⟩
     go_wp2_with fail
     go_roundw
     case rel => exact ⟨k + 1, by omega, by go_num, by rw [HS.out]; go_num, below_step (hB.alloc (by omega) _) (by simp; omega) hB1⟩
     case measure => simp [intOf]; omega
    ·have hkk : k = t.args.length := by omega
     subst hkk
     go_wp2_with fail
     go_ret
     refine ⟨ret_int ?_, hB⟩
     rw [HX.out, if_pos (by simpa using hk), List.take_length]
  ·have hk' : (t.kind != 4) = true := by simpa using hk
   go_enter Try.func46, Try.ntmps46
   go_wp2_with fail
   go_ret
   refine ⟨ret_int ?_, below_alloc _ _⟩
   rw [HX.out, if_neg (by simpa using hk)]; rfl
end Go.Proofs.Ytedfepnekjjmnab

/-
 A term stored into a variable's block: four cells at once. No condition.
-/
namespace Go.Proofs.Ytedfepnekjjmnab
open Go.RowKit
set_option linter.unusedSimpArgs false
set_option linter.unusedVariables false

def st4 (w : World) (B o : Nat) (c0 c1 c2 c3 : Value) : World := (((w.setCell ⟨B, o, none⟩ c0).setCell ⟨B, o + 1, none⟩ c1).setCell ⟨B, o + 2, none⟩ c2).setCell ⟨B, o + 3, none⟩ c3
theorem st4_0 (w : World) (B : Nat) (c0 c1 c2 c3 : Value) : (((w.setCell ⟨B, 0, none⟩ c0).setCell ⟨B, 1, none⟩ c1).setCell ⟨B, 2, none⟩ c2).setCell ⟨B, 3, none⟩ c3 = st4 w B 0 c0 c1 c2 c3 := rfl
theorem st4_size (w : World) (B o : Nat) (c0 c1 c2 c3 : Value) : (st4 w B o c0 c1 c2 c3).heap.size = w.heap.size := by simp [st4]
theorem st4_below {B0 B o : Nat} {a w : World} {c0 c1 c2 c3 : Value} (h : Below B0 a w) (hB : B0 ≤ B) : Below B0 a (st4 w B o c0 c1 c2 c3) :=
 (((h.setCell (p := ⟨B, o, none⟩) hB c0).setCell (p := ⟨B, o + 1, none⟩) hB c1).setCell (p := ⟨B, o + 2, none⟩) hB c2).setCell (p := ⟨B, o + 3, none⟩) hB c3
theorem st4_other (w : World) (B o : Nat) (c0 c1 c2 c3 : Value) (b : Nat) (h : b ≠ B) : (st4 w B o c0 c1 c2 c3).heap[b]? = w.heap[b]? := by
 simp only [st4, setCell_other _ _ _ _ _ h]
theorem st4_cells {w : World} {B o : Nat} {c0 c1 c2 c3 d0 d1 d2 d3 : Value} (h0 : w.cell? ⟨B, o, none⟩ = some d0) (h1 : w.cell? ⟨B, o + 1, none⟩ = some d1) (h2 : w.cell? ⟨B, o + 2, none⟩ = some d2) (h3 : w.cell? ⟨B, o + 3, none⟩ = some d3) :
  (st4 w B o c0 c1 c2 c3).cell? ⟨B, o, none⟩ = some c0 ∧ (st4 w B o c0 c1 c2 c3).cell? ⟨B, o + 1, none⟩ = some c1 ∧ (st4 w B o c0 c1 c2 c3).cell? ⟨B, o + 2, none⟩ = some c2 ∧ (st4 w B o c0 c1 c2 c3).cell? ⟨B, o + 3, none⟩ = some c3 := by
 have ne : ∀ i j, i ≠ j → (⟨B, o + i, none⟩ : Addr) ≠ ⟨B, o + j, none⟩ := fun i j h e => h (by have := congrArg Addr.off e; simp only at this; omega)
 have key : ∀ (w : World) (i j : Nat) (u : Value), i ≠ j → (w.setCell ⟨B, o + i, none⟩ u).cell? ⟨B, o + j, none⟩ = w.cell? ⟨B, o + j, none⟩ := fun w i j u h => World.cell?_setCell_other _ _ _ _ (ne i j h)
 have k0 : ∀ (w : World) (j : Nat) (u : Value), 0 ≠ j → (w.setCell ⟨B, o, none⟩ u).cell? ⟨B, o + j, none⟩ = w.cell? ⟨B, o + j, none⟩ := fun w j u h => key w 0 j u h
 have k1 : ∀ (w : World) (i : Nat) (u : Value), i ≠ 0 → (w.setCell ⟨B, o + i, none⟩ u).cell? ⟨B, o, none⟩ = w.cell? ⟨B, o, none⟩ := fun w i u h => key w i 0 u h
 unfold st4
 refine ⟨?_, ?_, ?_, ?_⟩
 ·rw [k1 _ 3 _ (by omega), k1 _ 2 _ (by omega), k1 _ 1 _ (by omega)]; exact World.cell?_setCell_same _ _ _ h0
 ·rw [key _ 3 1 _ (by omega), key _ 2 1 _ (by omega)]; exact World.cell?_setCell_same _ _ _ (by rw [k0 _ 1 _ (by omega)]; exact h1)
 ·rw [key _ 3 2 _ (by omega)]; exact World.cell?_setCell_same _ _ _ (by rw [key _ 1 2 _ (by omega), k0 _ 2 _ (by omega)]; exact h2)
 ·exact World.cell?_setCell_same _ _ _ (by rw [key _ 2 3 _ (by omega), key _ 1 3 _ (by omega), k0 _ 3 _ (by omega)]; exact h3)
theorem RT.st4 {S : Nat → Prop} {w : World} {t : T} {v : Value} (h : RT S w t v) (B o : Nat) (c0 c1 c2 c3 : Value) (hP : ∀ b, S b → b ≠ B) : RT S (st4 w B o c0 c1 c2 c3) t v :=
 h.to (fun _ h _ => h) fun b hb _ => st4_other w B o c0 c1 c2 c3 b (hP b hb)
end Go.Proofs.Ytedfepnekjjmnab
