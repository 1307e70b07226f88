/-
  A term in a variable's block, from world to world. No condition.
-/
import Derived.Test.YtedfepnekjjmnaaSt
import Derived.Test.YtedfepnekjjmnaaSmall
import Derived.Test.YtedfepnekjjmnaaFree
namespace Go.Proofs.Ytedfepnekjjmnaa
open Go.RowKit
set_option linter.unusedSimpArgs false
set_option linter.unusedVariables false

def Box (w : World) (B : Nat) (c0 c1 c2 c3 : Value) : Prop := w.cell? ⟨B, 0, none⟩ = some c0 ∧ w.cell? ⟨B, 1, none⟩ = some c1 ∧ w.cell? ⟨B, 2, none⟩ = some c2 ∧ w.cell? ⟨B, 3, none⟩ = some c3
theorem Box.lt {w : World} {B : Nat} {c0 c1 c2 c3 : Value} (h : Box w B c0 c1 c2 c3) : B < w.heap.size := World.block_lt_of_cell? w _ h.1
theorem Box.below {w w' : World} {B N : Nat} {c0 c1 c2 c3 : Value} (h : Box w B c0 c1 c2 c3) (hB : Below N w w') (hN : B < N) : Box w' B c0 c1 c2 c3 := by
  have e : ∀ o, w'.cell? ⟨B, o, none⟩ = w.cell? ⟨B, o, none⟩ := fun o => World.cell?_of_block (w := w) (hB.block B hN)
  exact ⟨by rw [e]; exact h.1, by rw [e]; exact h.2.1, by rw [e]; exact h.2.2.1, by rw [e]; exact h.2.2.2⟩
theorem Box.step {w w' : World} {B : Nat} {c0 c1 c2 c3 : Value} (h : Box w B c0 c1 c2 c3) (hB : Below w.heap.size w w') : Box w' B c0 c1 c2 c3 := h.below hB h.lt
theorem Box.alloc {w : World} {B : Nat} {c0 c1 c2 c3 : Value} (h : Box w B c0 c1 c2 c3) (o : Obj) : Box (w.alloc o) B c0 c1 c2 c3 := h.step (below_alloc w o)
theorem Box.new (w : World) (c0 c1 c2 c3 : Value) (e : TypeId) : Box (w.alloc (.cells #[c0, c1, c2, c3] e)) w.heap.size c0 c1 c2 c3 := by
  refine ⟨?_, ?_, ?_, ?_⟩ <;> (rw [World.cell?_alloc_new]; rfl)
theorem Box.st4 (w : World) (B : Nat) {d0 d1 d2 d3 : Value} (h : Box w B d0 d1 d2 d3) (c0 c1 c2 c3 : Value) : Box (st4 w B 0 c0 c1 c2 c3) B c0 c1 c2 c3 := by
  have := st4_cells (c0 := c0) (c1 := c1) (c2 := c2) (c3 := c3) h.1 h.2.1 h.2.2.1 h.2.2.2
  simpa [Box] using this
theorem Box.new' (w : World) (c0 c1 c2 c3 : Value) (e : TypeId) (B : Nat) (hB : B = w.heap.size) : Box (w.alloc (.cells #[c0, c1, c2, c3] e)) B c0 c1 c2 c3 := by subst hB; exact Box.new w c0 c1 c2 c3 e
theorem RSl2.lit' {S : Nat → Prop} {w : World} {ts : List T} {cs : List Value} (h : CellsT S w ts cs) (e : TypeId) (B : Nat) (hB : B = w.heap.size) : RSl2 (fun b => b = B) S (w.alloc (.cells cs.toArray e)) ts (.slice (some ⟨B, 0, none⟩) ts.length ts.length) := by subst hB; exact RSl2.lit h e
theorem RSl2.lit3 {S : Nat → Prop} {w : World} {ts : List T} {cs : List Value} (h : CellsT S w ts cs) (e : TypeId) (B n : Nat) (hB : B = w.heap.size) (hn : ts.length = n) : RSl2 (fun b => b = B) S (w.alloc (.cells cs.toArray e)) ts (.slice (some ⟨B, 0, none⟩) n n) := by subst hB hn; exact RSl2.lit h e
/-- A variable's block whole. -/
def Row4 (w : World) (B : Nat) (e : TypeId) (c0 c1 c2 c3 : Value) : Prop := w.heap[B]? = some (.cells #[c0, c1, c2, c3] e (0, 0))
theorem Row4.new' (w : World) (c0 c1 c2 c3 : Value) (e : TypeId) (B : Nat) (hB : B = w.heap.size) : Row4 (w.alloc (.cells #[c0, c1, c2, c3] e)) B e c0 c1 c2 c3 := by subst hB; exact heap_alloc_new w _
theorem Row4.step {w w' : World} {B : Nat} {e : TypeId} {c0 c1 c2 c3 : Value} (h : Row4 w B e c0 c1 c2 c3) (hB : Below w.heap.size w w') : Row4 w' B e c0 c1 c2 c3 := by
  have hl : B < w.heap.size := by unfold Row4 at h; exact (Array.getElem?_eq_some_iff.1 h).1
  rw [Row4, hB.block B hl]; exact h
theorem Row4.alloc {w : World} {B : Nat} {e : TypeId} {c0 c1 c2 c3 : Value} (h : Row4 w B e c0 c1 c2 c3) (o : Obj) : Row4 (w.alloc o) B e c0 c1 c2 c3 := h.step (below_alloc w o)
theorem Row4.box {w : World} {B : Nat} {e : TypeId} {c0 c1 c2 c3 : Value} (h : Row4 w B e c0 c1 c2 c3) : Box w B c0 c1 c2 c3 := ⟨cell_of_row w B 0 _ e (0, 0) h, cell_of_row w B 1 _ e (0, 0) h, cell_of_row w B 2 _ e (0, 0) h, cell_of_row w B 3 _ e (0, 0) h⟩
theorem Row4.frozen {w : World} {B : Nat} {e : TypeId} {c0 c1 c2 c3 : Value} (h : Row4 w B e c0 c1 c2 c3) (o : Nat) : w.frozen? ⟨B, o, none⟩ = false := frozen_of_row w B o _ e h
/-- What a call told lies in a variable of its own. -/
structure Fin (W wx : World) (t : T) (v : Value) : Prop where
  ex : ∃ B a cap, v = .pointer (some ⟨B, 0, none⟩) ∧ W.heap.size ≤ B ∧ B < wx.heap.size ∧ Box wx B (.int .i64 t.kind) (.int .i64 t.n) (.string t.name) (.slice a t.args.length cap) ∧ RT (fun b => b < wx.heap.size) wx t (.agg #[.int .i64 t.kind, .int .i64 t.n, .string t.name, .slice a t.args.length cap]) ∧ Below W.heap.size W wx
theorem Fin.new {S : Nat → Prop} {W w2 : World} {t : T} {a : Option Addr} {cap : Nat} (hr : RT S w2 t (.agg #[.int .i64 t.kind, .int .i64 t.n, .string t.name, .slice a t.args.length cap])) (hB : Below W.heap.size W w2) (e : TypeId) :
    Fin W (w2.alloc (.cells #[.int .i64 t.kind, .int .i64 t.n, .string t.name, .slice a t.args.length cap] e)) t (.pointer (some ⟨w2.heap.size, 0, none⟩)) :=
  ⟨w2.heap.size, a, cap, rfl, hB.size, by simp, Box.new _ _ _ _ _ _, (hr.alloc _).to (fun _ _ h => h) (fun _ _ _ => rfl), hB.alloc hB.size _⟩
theorem Fin.old {S : Nat → Prop} {W w2 : World} {t : T} {a : Option Addr} {cap B : Nat} {z0 z1 z2 z3 : Value} (hr : RT S w2 t (.agg #[.int .i64 t.kind, .int .i64 t.n, .string t.name, .slice a t.args.length cap])) (hB : Below W.heap.size W w2) (hbox : Box w2 B z0 z1 z2 z3) (hW : W.heap.size ≤ B) (hS : ∀ b, S b → b ≠ B) :
    Fin W ((((w2.setCell ⟨B, 0, none⟩ (.int .i64 t.kind)).setCell ⟨B, 1, none⟩ (.int .i64 t.n)).setCell ⟨B, 2, none⟩ (.string t.name)).setCell ⟨B, 3, none⟩ (.slice a t.args.length cap)) t (.pointer (some ⟨B, 0, none⟩)) := by
  rw [st4_0]
  refine ⟨B, a, cap, rfl, hW, ?_, Box.st4 _ _ hbox _ _ _ _, ?_, st4_below hB hW⟩
  · rw [st4_size]; exact hbox.lt
  · exact (hr.st4 B 0 _ _ _ _ hS).to (fun _ _ h => h) (fun _ _ _ => rfl)
end Go.Proofs.Ytedfepnekjjmnaa
