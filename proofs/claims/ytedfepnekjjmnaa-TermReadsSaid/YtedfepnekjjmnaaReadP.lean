/-
  Words of a text, and what reading it answers, in plain words. No program in sight.
-/
import Derived.Test.YtedfepnekjjmnaaLeaf
namespace Go.Proofs.Ytedfepnekjjmnaa
set_option linter.unusedSimpArgs false
set_option linter.unusedVariables false

def atN (s : ByteArray) (k : Nat) : Nat := ((s.data.toList)[k]?.getD 0).toNat
def specB (c : Nat) : Bool := c == 32 || c == 40 || c == 41
/-- Words so far, each from where to where; is the last one open? -/
def wstep (s : ByteArray) (k : Nat) (st : List (Nat × Nat) × Bool) : List (Nat × Nat) × Bool :=
  if atN s k = 32 then (st.1, false)
  else if atN s k = 40 ∨ atN s k = 41 then (st.1 ++ [(k, k + 1)], false)
  else if st.2 then (st.1.dropLast ++ [((st.1.getLast?.getD (0, 0)).1, k + 1)], true)
  else (st.1 ++ [(k, k + 1)], true)
def wst (s : ByteArray) : Nat → List (Nat × Nat) × Bool
  | 0 => ([], false)
  | k + 1 => wstep s k (wst s k)
theorem wst_space {s : ByteArray} {k : Nat} (h : atN s k = 32) : wst s (k + 1) = ((wst s k).1, false) := by rw [wst, wstep, if_pos h]
theorem wst_paren {s : ByteArray} {k : Nat} (h : atN s k = 40 ∨ atN s k = 41) : wst s (k + 1) = ((wst s k).1 ++ [(k, k + 1)], false) := by
  rw [wst, wstep, if_neg (by omega), if_pos h]
theorem wst_new {s : ByteArray} {k : Nat} (h : specB (atN s k) = false) (ho : (wst s k).2 = false) : wst s (k + 1) = ((wst s k).1 ++ [(k, k + 1)], true) := by
  simp [specB] at h
  rw [wst, wstep, if_neg (by omega), if_neg (by omega), ho]; rfl
theorem wst_more {s : ByteArray} {k : Nat} {W : List (Nat × Nat)} {a b : Nat} (h : specB (atN s k) = false) (ho : wst s k = (W ++ [(a, b)], true)) : wst s (k + 1) = (W ++ [(a, k + 1)], true) := by
  simp [specB] at h
  rw [wst, wstep, if_neg (by omega), if_neg (by omega), ho]; simp
/-- A word whole: from i on up to k. -/
theorem wst_word {s : ByteArray} {i : Nat} (ho : (wst s i).2 = false) : ∀ d, (∀ j, i ≤ j → j < i + d + 1 → specB (atN s j) = false) → wst s (i + d + 1) = ((wst s i).1 ++ [(i, i + d + 1)], true)
  | 0, h => wst_new (h i (by omega) (by omega)) ho
  | d + 1, h => wst_more (h (i + d + 1) (by omega) (by omega)) (wst_word ho d fun j h1 h2 => h j h1 (by omega))
/-- Where no word is open, or what comes is a blank or a bracket. -/
def Bnd (s : ByteArray) (k : Nat) : Prop := (wst s k).2 = true → specB (atN s k) = true ∨ s.size ≤ k
/-- What was read up to there stays. -/
theorem wst_prefix {s : ByteArray} {i : Nat} (hb : Bnd s i) : ∀ d, i + d ≤ s.size → ∃ R, (wst s (i + d)).1 = (wst s i).1 ++ R ∧ ((wst s (i + d)).2 = true → d = 0 ∨ R ≠ [])
  | 0, _ => ⟨[], by simp, fun _ => .inl rfl⟩
  | d + 1, h => by
    obtain ⟨R, hR, ho⟩ := wst_prefix hb d (by omega)
    show ∃ R, (wst s (i + d + 1)).1 = _ ∧ ((wst s (i + d + 1)).2 = true → _)
    by_cases h1 : atN s (i + d) = 32
    · rw [wst_space h1]; exact ⟨R, hR, fun h => by cases h⟩
    by_cases h2 : atN s (i + d) = 40 ∨ atN s (i + d) = 41
    · rw [wst_paren h2]; exact ⟨R ++ [(i + d, i + d + 1)], by rw [hR]; simp, fun h => by cases h⟩
    have hsp : specB (atN s (i + d)) = false := by simp [specB]; omega
    cases hf : (wst s (i + d)).2
    · rw [wst_new hsp hf]; exact ⟨R ++ [(i + d, i + d + 1)], by rw [hR]; simp, fun _ => .inr (by simp)⟩
    · have hne : R ≠ [] := by
        rcases ho hf with rfl | hne
        · rcases hb hf with hb | hb
          · rw [Nat.add_zero] at hsp; rw [hsp] at hb; cases hb
          · omega
        · exact hne
      obtain ⟨Q, ⟨a, b⟩, rfl⟩ : ∃ Q x, R = Q ++ [x] := ⟨R.dropLast, R.getLast hne, (List.dropLast_concat_getLast hne).symm⟩
      have e : wst s (i + d) = (((wst s i).1 ++ Q) ++ [(a, b)], true) := by rw [← hf, List.append_assoc, ← hR]
      rw [wst_more hsp e]
      exact ⟨Q ++ [(a, i + d + 1)], by simp, fun _ => .inr (by simp)⟩
end Go.Proofs.Ytedfepnekjjmnaa
