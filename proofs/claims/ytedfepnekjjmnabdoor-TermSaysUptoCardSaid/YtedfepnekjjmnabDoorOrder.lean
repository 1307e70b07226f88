/-
  cmp.Compare, cmp.Or, strings.Compare, slices.CompareFunc, term.Order: what they answer. No condition but a bound on how much there is.
-/
import Derived.Test.YtedfepnekjjmnabDoorRow
import Derived.Lib.Bytealg
import Derived.Deep.RegionHeld3
import Derived.Deep.DrawnRows
namespace Go.Proofs.YtedfepnekjjmnabDoor
open Go.RowKit
set_option linter.unusedSimpArgs false
set_option linter.unusedVariables false

def cmpI (a b : Int) : Int := if a < b then -1 else if b < a then 1 else 0
def orI : List Int → Int
  | [] => 0
  | x :: r => if x = 0 then orI r else x

theorem orI_take (l : List Int) (k : Nat) (h : k < l.length) (ha : ∀ x ∈ l.take k, x = 0) (hx : l[k] ≠ 0) : orI l = l[k] := by
  induction l generalizing k with
  | nil => cases h
  | cons y r ih => cases k with
    | zero => simp only [List.getElem_cons_zero] at hx ⊢; rw [orI, if_neg hx]
    | succ k =>
      have h0 : y = 0 := ha y (by simp)
      rw [orI, if_pos h0]
      exact ih k (by simpa using h) (fun x hx => ha x (by simp [hx])) (by simpa using hx)
theorem orI_zero (l : List Int) (ha : ∀ x ∈ l, x = 0) : orI l = 0 := by
  induction l with
  | nil => rfl
  | cons y r ih => rw [orI, if_pos (ha y (by simp))]; exact ih fun x hx => ha x (by simp [hx])

/-- The order of lists, and of terms. -/
def ordL : List T → List T → Int
  | [], [] => 0
  | [], _ :: _ => -1
  | _ :: _, [] => 1
  | ⟨k, n, s, l⟩ :: xs, y :: ys => orI [orI [cmpI k y.kind, cmpI n y.n, Lib.compareBytes s.data.toList y.name.data.toList, cmpI l.length y.args.length, ordL l y.args], ordL xs ys]
def ordT (x y : T) : Int := orI [cmpI x.kind y.kind, cmpI x.n y.n, Lib.compareBytes x.name.data.toList y.name.data.toList, cmpI x.args.length y.args.length, ordL x.args y.args]
theorem ordL_cons (x y : T) (xs ys : List T) : ordL (x :: xs) (y :: ys) = orI [ordT x y, ordL xs ys] := by obtain ⟨k, n, s, l⟩ := x; rw [ordL]; rfl
theorem ordL_nn : ordL [] [] = 0 := by rw [ordL]
theorem ordL_nc (y : T) (ys : List T) : ordL [] (y :: ys) = -1 := by rw [ordL]
theorem ordL_cn (x : T) (xs : List T) : ordL (x :: xs) [] = 1 := by rw [ordL]

/-- By index: the first k are alike. -/
theorem ordL_drop (xs ys : List T) (k : Nat) (hx : k ≤ xs.length) (hy : k ≤ ys.length) (h : ∀ i (h1 : i < k) , ordT (xs[i]'(by omega)) (ys[i]'(by omega)) = 0) : ordL xs ys = ordL (xs.drop k) (ys.drop k) := by
  induction k generalizing xs ys with
  | zero => rfl
  | succ k ih => cases xs with
    | nil => simp at hx
    | cons x xs => cases ys with
      | nil => simp at hy
      | cons y ys =>
        have h0 := h 0 (by omega)
        simp only [List.getElem_cons_zero] at h0
        rw [ordL_cons, h0]
        simp only [orI, if_true, List.drop_succ_cons]
        rw [ih xs ys (by simpa using hx) (by simpa using hy) fun i h1 => by simpa using h (i + 1) (by omega)]
        split <;> simp_all
theorem drop_cons' {α : Type} (l : List α) (k : Nat) (h : k < l.length) : l.drop k = l[k] :: l.drop (k + 1) := List.drop_eq_getElem_cons h

attribute [local go_sem ↓] Go.wp_at_zero Go.wp_at_succ

end Go.Proofs.YtedfepnekjjmnabDoor
