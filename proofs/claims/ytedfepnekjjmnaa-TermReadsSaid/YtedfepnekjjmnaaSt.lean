/-
  A term stored into a variable's block: four cells at once. No condition.
-/
import Derived.Test.YtedfepnekjjmnaaRow
namespace Go.Proofs.Ytedfepnekjjmnaa
open Go.RowKit
set_option linter.unusedSimpArgs false
set_option linter.unusedVariables false

def st4 (w : World) (B o : Nat) (c0 c1 c2 c3 : Value) : World := (((w.setCell ⟨B, o, none⟩ c0).setCell ⟨B, o + 1, none⟩ c1).setCell ⟨B, o + 2, none⟩ c2).setCell ⟨B, o + 3, none⟩ c3
theorem st4_0 (w : World) (B : Nat) (c0 c1 c2 c3 : Value) : (((w.setCell ⟨B, 0, none⟩ c0).setCell ⟨B, 1, none⟩ c1).setCell ⟨B, 2, none⟩ c2).setCell ⟨B, 3, none⟩ c3 = st4 w B 0 c0 c1 c2 c3 := rfl
theorem st4_size (w : World) (B o : Nat) (c0 c1 c2 c3 : Value) : (st4 w B o c0 c1 c2 c3).heap.size = w.heap.size := by simp [st4]
theorem st4_below {B0 B o : Nat} {a w : World} {c0 c1 c2 c3 : Value} (h : Below B0 a w) (hB : B0 ≤ B) : Below B0 a (st4 w B o c0 c1 c2 c3) :=
  (((h.setCell (p := ⟨B, o, none⟩) hB c0).setCell (p := ⟨B, o + 1, none⟩) hB c1).setCell (p := ⟨B, o + 2, none⟩) hB c2).setCell (p := ⟨B, o + 3, none⟩) hB c3
theorem st4_other (w : World) (B o : Nat) (c0 c1 c2 c3 : Value) (b : Nat) (h : b ≠ B) : (st4 w B o c0 c1 c2 c3).heap[b]? = w.heap[b]? := by
  simp only [st4, setCell_other _ _ _ _ _ h]
theorem st4_cell_other (w : World) (B o : Nat) (c0 c1 c2 c3 : Value) (b o' : Nat) (h : b ≠ B) : (st4 w B o c0 c1 c2 c3).cell? ⟨b, o', none⟩ = w.cell? ⟨b, o', none⟩ := World.cell?_of_block (w := w) (st4_other w B o c0 c1 c2 c3 b h)
theorem st4_frozen (w : World) (B o : Nat) (c0 c1 c2 c3 : Value) (a : Addr) : (st4 w B o c0 c1 c2 c3).frozen? a = w.frozen? a := by simp [st4]
theorem st4_cells {w : World} {B o : Nat} {c0 c1 c2 c3 d0 d1 d2 d3 : Value} (h0 : w.cell? ⟨B, o, none⟩ = some d0) (h1 : w.cell? ⟨B, o + 1, none⟩ = some d1) (h2 : w.cell? ⟨B, o + 2, none⟩ = some d2) (h3 : w.cell? ⟨B, o + 3, none⟩ = some d3) :
    (st4 w B o c0 c1 c2 c3).cell? ⟨B, o, none⟩ = some c0 ∧ (st4 w B o c0 c1 c2 c3).cell? ⟨B, o + 1, none⟩ = some c1 ∧ (st4 w B o c0 c1 c2 c3).cell? ⟨B, o + 2, none⟩ = some c2 ∧ (st4 w B o c0 c1 c2 c3).cell? ⟨B, o + 3, none⟩ = some c3 := by
  have ne : ∀ i j, i ≠ j → (⟨B, o + i, none⟩ : Addr) ≠ ⟨B, o + j, none⟩ := fun i j h e => h (by have := congrArg Addr.off e; simp only at this; omega)
  have key : ∀ (w : World) (i j : Nat) (u : Value), i ≠ j → (w.setCell ⟨B, o + i, none⟩ u).cell? ⟨B, o + j, none⟩ = w.cell? ⟨B, o + j, none⟩ := fun w i j u h => World.cell?_setCell_other _ _ _ _ (ne i j h)
  have k0 : ∀ (w : World) (j : Nat) (u : Value), 0 ≠ j → (w.setCell ⟨B, o, none⟩ u).cell? ⟨B, o + j, none⟩ = w.cell? ⟨B, o + j, none⟩ := fun w j u h => key w 0 j u h
  have k1 : ∀ (w : World) (i : Nat) (u : Value), i ≠ 0 → (w.setCell ⟨B, o + i, none⟩ u).cell? ⟨B, o, none⟩ = w.cell? ⟨B, o, none⟩ := fun w i u h => key w i 0 u h
  unfold st4
  refine ⟨?_, ?_, ?_, ?_⟩
  · rw [k1 _ 3 _ (by omega), k1 _ 2 _ (by omega), k1 _ 1 _ (by omega)]; exact World.cell?_setCell_same _ _ _ h0
  · rw [key _ 3 1 _ (by omega), key _ 2 1 _ (by omega)]; exact World.cell?_setCell_same _ _ _ (by rw [k0 _ 1 _ (by omega)]; exact h1)
  · rw [key _ 3 2 _ (by omega)]; exact World.cell?_setCell_same _ _ _ (by rw [key _ 1 2 _ (by omega), k0 _ 2 _ (by omega)]; exact h2)
  · exact World.cell?_setCell_same _ _ _ (by rw [key _ 2 3 _ (by omega), key _ 1 3 _ (by omega), k0 _ 3 _ (by omega)]; exact h3)
theorem RT.st4 {S : Nat → Prop} {w : World} {t : T} {v : Value} (h : RT S w t v) (B o : Nat) (c0 c1 c2 c3 : Value) (hP : ∀ b, S b → b ≠ B) : RT S (st4 w B o c0 c1 c2 c3) t v :=
  h.to (fun _ h _ => h) fun b hb _ => st4_other w B o c0 c1 c2 c3 b (hP b hb)
end Go.Proofs.Ytedfepnekjjmnaa
