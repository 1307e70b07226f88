/-
  Acts, clauses, behaviours as data, and how they lie. No condition.
-/
import Derived.Test.YtedfepnekjjmnabDoorGen
import Derived.Test.YtedfepnekjjmnabDoorValP
namespace Go.Proofs.YtedfepnekjjmnabDoor
open Go.RowKit
set_option linter.unusedSimpArgs false
set_option linter.unusedVariables false

structure Deed where
  kind : Int
  to : T
  what : T
  name : ByteArray
  var : Int
structure Clau where
  state : T
  message : T
  acts : List Deed
  next : T
structure Behv where
  name : ByteArray
  clauses : List Clau
def deedB (d : Deed) : Nat := 1 + bulkL [d.to] + bulkL [d.what] + d.name.size
def deedsB : List Deed → Nat
  | [] => 0
  | d :: l => deedB d + deedsB l
def clauB (c : Clau) : Nat := 1 + bulkL [c.state] + bulkL [c.message] + deedsB c.acts + bulkL [c.next]
def clausB : List Clau → Nat
  | [] => 0
  | c :: l => clauB c + clausB l
def behvB (b : Behv) : Nat := 1 + b.name.size + clausB b.clauses
def behvsB : List Behv → Nat
  | [] => 0
  | b :: l => behvB b + behvsB l
theorem deedsB_len (l : List Deed) : l.length ≤ deedsB l := by
  induction l with
  | nil => simp [deedsB]
  | cons d l ih => simp only [deedsB, deedB, List.length_cons]; omega
theorem clausB_len (l : List Clau) : l.length ≤ clausB l := by
  induction l with
  | nil => simp [clausB]
  | cons d l ih => simp only [clausB, clauB, List.length_cons]; omega
theorem behvsB_len (l : List Behv) : l.length ≤ behvsB l := by
  induction l with
  | nil => simp [behvsB]
  | cons d l ih => simp only [behvsB, behvB, List.length_cons]; omega
theorem deedsB_mem {l : List Deed} {d : Deed} (h : d ∈ l) : deedB d ≤ deedsB l := by
  induction l with
  | nil => cases h
  | cons e l ih =>
    rcases List.mem_cons.1 h with rfl | h
    · simp only [deedsB]; omega
    · have := ih h; simp only [deedsB]; omega
theorem clausB_mem {l : List Clau} {d : Clau} (h : d ∈ l) : clauB d ≤ clausB l := by
  induction l with
  | nil => cases h
  | cons e l ih =>
    rcases List.mem_cons.1 h with rfl | h
    · simp only [clausB]; omega
    · have := ih h; simp only [clausB]; omega
theorem behvsB_mem {l : List Behv} {d : Behv} (h : d ∈ l) : behvB d ≤ behvsB l := by
  induction l with
  | nil => cases h
  | cons e l ih =>
    rcases List.mem_cons.1 h with rfl | h
    · simp only [behvsB]; omega
    · have := ih h; simp only [behvsB]; omega
def zeroD : Deed := ⟨0, zeroT, zeroT, ⟨#[]⟩, 0⟩

def deedC (S : Nat → Prop) (w : World) (d : Deed) (cs : List Value) : Prop :=
  ∃ a1 p1 a2 p2, cs = [.int .i64 d.kind, .int .i64 d.to.kind, .int .i64 d.to.n, .string d.to.name, .slice a1 d.to.args.length p1, .int .i64 d.what.kind, .int .i64 d.what.n, .string d.what.name, .slice a2 d.what.args.length p2, .string d.name, .int .i64 d.var] ∧
    RT S w d.to (.agg #[.int .i64 d.to.kind, .int .i64 d.to.n, .string d.to.name, .slice a1 d.to.args.length p1]) ∧ RT S w d.what (.agg #[.int .i64 d.what.kind, .int .i64 d.what.n, .string d.what.name, .slice a2 d.what.args.length p2])
def deedE : El Deed where
  k := 11
  C := deedC
  len := by rintro S w x cs ⟨a1, p1, a2, p2, rfl, -⟩; rfl
  one := by rintro S w x cs ⟨a1, p1, a2, p2, rfl, -⟩; simp [Value.oneCell']
  to := by rintro S S' w w' x cs ⟨a1, p1, a2, p2, rfl, h1, h2⟩ hs hc; exact ⟨a1, p1, a2, p2, rfl, h1.to hs hc, h2.to hs hc⟩
def clauC (S : Nat → Prop) (w : World) (c : Clau) (cs : List Value) : Prop :=
  ∃ a1 p1 a2 p2 a3 p3 a4 p4, cs = [.int .i64 c.state.kind, .int .i64 c.state.n, .string c.state.name, .slice a1 c.state.args.length p1, .int .i64 c.message.kind, .int .i64 c.message.n, .string c.message.name, .slice a2 c.message.args.length p2,
      .slice a3 c.acts.length p3, .int .i64 c.next.kind, .int .i64 c.next.n, .string c.next.name, .slice a4 c.next.args.length p4] ∧
    RT S w c.state (.agg #[.int .i64 c.state.kind, .int .i64 c.state.n, .string c.state.name, .slice a1 c.state.args.length p1]) ∧ RT S w c.message (.agg #[.int .i64 c.message.kind, .int .i64 c.message.n, .string c.message.name, .slice a2 c.message.args.length p2]) ∧
    RX deedE S S w c.acts (.slice a3 c.acts.length p3) ∧ RT S w c.next (.agg #[.int .i64 c.next.kind, .int .i64 c.next.n, .string c.next.name, .slice a4 c.next.args.length p4])
def clauE : El Clau where
  k := 13
  C := clauC
  len := by rintro S w x cs ⟨a1, p1, a2, p2, a3, p3, a4, p4, rfl, -⟩; rfl
  one := by rintro S w x cs ⟨a1, p1, a2, p2, a3, p3, a4, p4, rfl, -⟩; simp [Value.oneCell']
  to := by rintro S S' w w' x cs ⟨a1, p1, a2, p2, a3, p3, a4, p4, rfl, h1, h2, h3, h4⟩ hs hc; exact ⟨a1, p1, a2, p2, a3, p3, a4, p4, rfl, h1.to hs hc, h2.to hs hc, h3.to hs hs fun b hb => hc b (hb.elim id id), h4.to hs hc⟩
def behvC (S : Nat → Prop) (w : World) (b : Behv) (cs : List Value) : Prop :=
  ∃ a p, cs = [.string b.name, .slice a b.clauses.length p] ∧ RX clauE S S w b.clauses (.slice a b.clauses.length p)
def behvE : El Behv where
  k := 2
  C := behvC
  len := by rintro S w x cs ⟨a1, p1, rfl, -⟩; rfl
  one := by rintro S w x cs ⟨a1, p1, rfl, -⟩; simp [Value.oneCell']
  to := by rintro S S' w w' x cs ⟨a1, p1, rfl, h3⟩ hs hc; exact ⟨a1, p1, rfl, h3.to hs hs fun b hb => hc b (hb.elim id id)⟩
def deedF : ElT deedE where
  e := 76
  sl := 77
  bytes := 144
  z := .agg #[.int .i64 0, .int .i64 0, .int .i64 0, .string ⟨#[]⟩, .slice none 0 0, .int .i64 0, .int .i64 0, .string ⟨#[]⟩, .slice none 0 0, .string ⟨#[]⟩, .int .i64 0]
  hund := Tryd.underlying77
  info := by kernel_rfl
  hzs := rfl
  hk := by decide
  hb := by decide
def clauF : ElT clauE where
  e := 79
  sl := 60
  bytes := 192
  z := .agg #[.int .i64 0, .int .i64 0, .string ⟨#[]⟩, .slice none 0 0, .int .i64 0, .int .i64 0, .string ⟨#[]⟩, .slice none 0 0, .slice none 0 0, .int .i64 0, .int .i64 0, .string ⟨#[]⟩, .slice none 0 0]
  hund := Tryd.underlying60
  info := by kernel_rfl
  hzs := rfl
  hk := by decide
  hb := by decide
def behvF : ElT behvE where
  e := 62
  sl := 37
  bytes := 40
  z := .agg #[.string ⟨#[]⟩, .slice none 0 0]
  hund := Tryd.underlying37
  info := by kernel_rfl
  hzs := rfl
  hk := by decide
  hb := by decide
/-- A variable's block: its cells. -/
structure Blk (w : World) (B : Nat) (cs : List Value) : Prop where
  lt : B < w.heap.size
  cell : ∀ j u, cs[j]? = some u → w.cell? ⟨B, j, none⟩ = some u
  fr : ∀ o, w.frozen? ⟨B, o, none⟩ = false
theorem Blk.below {w w' : World} {B N : Nat} {cs : List Value} (h : Blk w B cs) (hB : Below N w w') (hN : B < N) : Blk w' B cs :=
  ⟨Nat.lt_of_lt_of_le h.lt hB.size, fun j u hu => (hB.cell (p := ⟨B, j, none⟩) hN).trans (h.cell j u hu), fun o => (hB.frozen (p := ⟨B, o, none⟩) hN).trans (h.fr o)⟩
theorem Blk.step {w w' : World} {B : Nat} {cs : List Value} (h : Blk w B cs) (hB : Below w.heap.size w w') : Blk w' B cs := h.below hB h.lt
theorem Blk.alloc {w : World} {B : Nat} {cs : List Value} (h : Blk w B cs) (o : Obj) : Blk (w.alloc o) B cs := h.step (below_alloc w o)
theorem Blk.new (w : World) (c : Array Value) (e : TypeId) (B : Nat) (hB : B = w.heap.size) : Blk (w.alloc (.cells c e)) B c.toList := by
  subst hB
  exact ⟨by simp, fun j u hu => by rw [World.cell?_alloc_new]; simpa using hu, fun o => frozen_of_row _ _ o c e (heap_alloc_new w _)⟩
/-- A variable's cells written, one by one. -/
def setAll (w : World) (B : Nat) : Nat → List Value → World
  | _, [] => w
  | i, c :: cs => setAll (w.setCell ⟨B, i, none⟩ c) B (i + 1) cs
theorem setAll_heap (w : World) (B : Nat) : ∀ (cs : List Value) (i : Nat), (setAll w B i cs).heap.size = w.heap.size ∧ ∀ b, b ≠ B → (setAll w B i cs).heap[b]? = w.heap[b]? := by
  intro cs
  induction cs generalizing w with
  | nil => intro i; exact ⟨rfl, fun _ _ => rfl⟩
  | cons c cs ih =>
    intro i
    obtain ⟨h1, h2⟩ := ih (w.setCell ⟨B, i, none⟩ c) (i + 1)
    exact ⟨by rw [setAll, h1]; simp, fun b hb => by rw [setAll, h2 b hb, setCell_other _ _ _ _ _ hb]⟩
theorem setAll_below {N : Nat} {a w : World} (h : Below N a w) (B : Nat) (hB : N ≤ B) : ∀ (cs : List Value) (i : Nat), Below N a (setAll w B i cs) := by
  intro cs
  induction cs generalizing w with
  | nil => intro i; exact h
  | cons c cs ih => intro i; exact ih (h.setCell (p := ⟨B, i, none⟩) hB c) (i + 1)
theorem Blk.set {w : World} {B : Nat} {cs : List Value} (h : Blk w B cs) (i : Nat) (c : Value) (hi : i < cs.length) : Blk (w.setCell ⟨B, i, none⟩ c) B (cs.set i c) := by
  refine ⟨by have := h.lt; simpa using this, fun j u hu => ?_, fun o => ?_⟩
  · rw [List.getElem?_set] at hu
    split at hu
    · rename_i e
      subst e
      have h0 := h.cell i cs[i] (by simp)
      rw [World.cell?_setCell_same _ _ _ h0]; exact hu
    · rename_i e
      rw [World.cell?_setCell_other _ _ _ _ (by simp only [ne_eq, Addr.mk.injEq, and_true, true_and]; exact fun h => e h)]
      exact h.cell j u hu
  · have := h.fr o
    go_simp
theorem Blk.all {w : World} {B : Nat} : ∀ (cs pre old : List Value), Blk w B (pre ++ old) → cs.length = old.length → Blk (setAll w B pre.length cs) B (pre ++ cs)
  | [], pre, old, h, hl => by
    obtain rfl : old = [] := List.eq_nil_of_length_eq_zero hl.symm
    exact h
  | c :: cs, pre, o :: old, h, hl => by
    have h1 := h.set pre.length c (by simp)
    have e : (pre ++ o :: old).set pre.length c = (pre ++ [c]) ++ old := by simp
    rw [e] at h1
    have h2 := Blk.all (w := w.setCell ⟨B, pre.length, none⟩ c) cs (pre ++ [c]) old h1 (by simpa using hl)
    simpa [setAll] using h2
  | c :: cs, pre, [], h, hl => by cases hl
theorem Blk.stored {w : World} {B : Nat} {old : List Value} (h : Blk w B old) (cs : List Value) (hl : cs.length = old.length) : Blk (setAll w B 0 cs) B cs := by
  simpa using Blk.all cs [] old (by simpa using h) hl
end Go.Proofs.YtedfepnekjjmnabDoor
