/-
  What a row of words builds: by the stack, and by parts. In plain words, no program in sight.
-/
import Derived.Test.YtedfepnekjjmnaaStackP
namespace Go.Proofs.Ytedfepnekjjmnaa
set_option linter.unusedSimpArgs false
set_option linter.unusedVariables false

/-- A term begins a row of words ('false'), or terms and then a bracket ('true'); what is left. -/
inductive BP : Bool → List Tok → List T → List Tok → Prop
  | leaf (t : T) (r : List Tok) : BP false (.lf true t :: r) [t] r
  | tup {l : List Tok} {us : List T} {r : List Tok} (h : BP true l us r) : BP false (.op :: l) [tupT us] r
  | nil (r : List Tok) : BP true (.cl :: r) [] r
  | cons {l m : List Tok} {t : T} {us : List T} {r : List Tok} (h : BP false l [t] m) (k : BP true m us r) : BP true l (t :: us) r
def Built (l : List Tok) (t : T) (r : List Tok) : Prop := BP false l [t] r
def Parts (l : List Tok) (us : List T) (r : List Tok) : Prop := BP true l us r

theorem parts_of : ∀ n (l : List Tok) (j : Nat) (a c : List T) (rest : List (List T)) (b : List T), l.length ≤ n → prun l j (a :: c :: rest) = .inr [b] →
    ∃ us r j', Parts l us r ∧ r.length < l.length ∧ prun r j' ((c ++ [tupT (a ++ us)]) :: rest) = .inr [b] := by
  intro n
  induction n with
  | zero =>
    intro l j a c rest b hl h
    have : l = [] := List.eq_nil_of_length_eq_zero (by omega)
    subst this
    simp [prun] at h
  | succ n ih =>
    intro l j a c rest b hl h
    cases l with
    | nil => simp [prun] at h
    | cons k m =>
      simp only [List.length_cons] at hl
      cases k with
      | op =>
        have h' : prun m (j + 1) ([] :: a :: c :: rest) = .inr [b] := by simpa [prun, pstep] using h
        obtain ⟨us1, r1, j1, hp1, hl1, hr1⟩ := ih m (j + 1) [] a (c :: rest) b (by omega) h'
        obtain ⟨us2, r2, j2, hp2, hl2, hr2⟩ := ih r1 j1 (a ++ [tupT ([] ++ us1)]) c rest b (by omega) hr1
        refine ⟨tupT us1 :: us2, r2, j2, BP.cons (BP.tup hp1) hp2, by simp only [List.length_cons]; omega, ?_⟩
        rw [← hr2]; simp
      | cl =>
        have h' : prun m (j + 1) ((c ++ [tupT a]) :: rest) = .inr [b] := by simpa [prun, pstep] using h
        exact ⟨[], m, j + 1, BP.nil m, by simp, by simpa using h'⟩
      | lf ok t =>
        cases ok with
        | false => simp [prun, pstep] at h
        | true =>
          have h' : prun m (j + 1) ((a ++ [t]) :: c :: rest) = .inr [b] := by simpa [prun, pstep] using h
          obtain ⟨us, r, j', hp, hl', hr⟩ := ih m (j + 1) (a ++ [t]) c rest b (by omega) h'
          exact ⟨t :: us, r, j', BP.cons (BP.leaf t m) hp, by simp only [List.length_cons]; omega, by rw [← hr]; simp⟩
theorem prun_full {l : List Tok} {j : Nat} {t : T} {b : List T} (h : prun l j [[t]] = .inr [b]) : l = [] ∧ b = [t] := by
  cases l with
  | nil => simp [prun] at h; exact ⟨rfl, h.symm⟩
  | cons k m => simp [prun, pstep] at h
/-- What stands in the end is what is built. -/
theorem built_of {l : List Tok} {b : List T} (h : prun l 0 [[]] = .inr [b]) (hl : l ≠ []) : ∃ t, Built l t [] ∧ b = [t] := by
  cases l with
  | nil => exact absurd rfl hl
  | cons k m =>
    cases k with
    | op =>
      have h' : prun m 1 [[], []] = .inr [b] := by simpa [prun, pstep] using h
      obtain ⟨us, r, j', hp, _, hr⟩ := parts_of _ m 1 [] [] [] b (Nat.le_refl _) h'
      have hr' : prun r j' [[tupT us]] = .inr [b] := by simpa using hr
      obtain ⟨rfl, rfl⟩ := prun_full hr'
      exact ⟨_, BP.tup hp, rfl⟩
    | cl => simp [prun, pstep] at h
    | lf ok t =>
      cases ok with
      | false => simp [prun, pstep] at h
      | true =>
        have h' : prun m 1 [[t]] = .inr [b] := by simpa [prun, pstep] using h
        obtain ⟨rfl, rfl⟩ := prun_full h'
        exact ⟨t, BP.leaf t [], rfl⟩
end Go.Proofs.Ytedfepnekjjmnaa
