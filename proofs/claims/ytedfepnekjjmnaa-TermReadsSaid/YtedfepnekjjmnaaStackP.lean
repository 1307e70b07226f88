/-
  A stack of open tuples, and a count of them: they tell the same faults; what is built in the end. In plain words, no program in sight.
-/
import Derived.Test.YtedfepnekjjmnaaReadP
namespace Go.Proofs.Ytedfepnekjjmnaa
set_option linter.unusedSimpArgs false
set_option linter.unusedVariables false

inductive Tok
  | op
  | cl
  | lf (ok : Bool) (t : T)
/-- One word onto the stack (the top first); none: it may not stand there. -/
def pstep : Tok → List (List T) → Option (List (List T))
  | _, [] => none
  | k, [b] => if b.length = 1 then none else match k with
    | .op => some [[], b]
    | .cl => none
    | .lf true t => some [b ++ [t]]
    | .lf false _ => none
  | k, a :: b :: r => match k with
    | .op => some ([] :: a :: b :: r)
    | .cl => some ((b ++ [tupT a]) :: r)
    | .lf true t => some ((a ++ [t]) :: b :: r)
    | .lf false _ => none
def prun : List Tok → Nat → List (List T) → Nat ⊕ List (List T)
  | [], _, st => .inr st
  | k :: ks, j, st => match pstep k st with
    | none => .inl j
    | some st' => prun ks (j + 1) st'
/-- The same by a count of what is open. -/
def rbad (k : Tok) (j d : Nat) : Bool := (decide (0 < j) && d == 0) || (match k with | .op => false | .cl => d == 0 | .lf ok _ => !ok)
def rnext (k : Tok) (d : Nat) : Nat := match k with | .op => d + 1 | .cl => d - 1 | .lf _ _ => d
def rrun : List Tok → Nat → Nat → Nat ⊕ Nat
  | [], _, d => .inr d
  | k :: ks, j, d => if rbad k j d then .inl j else rrun ks (j + 1) (rnext k d)
/-- How stack and count belong together. -/
def SInv (j : Nat) (st : List (List T)) (d : Nat) : Prop := st.length = d + 1 ∧ (d = 0 → ∃ b, st = [b] ∧ b.length = if j = 0 then 0 else 1) ∧ (j = 0 → d = 0) ∧ (0 < d → ∃ i, st = i ++ [[]])
theorem pstep_rbad {k : Tok} {j d : Nat} {st : List (List T)} (h : SInv j st d) : (pstep k st = none ↔ rbad k j d = true) ∧ ∀ st', pstep k st = some st' → SInv (j + 1) st' (rnext k d) := by
  obtain ⟨h1, h2, h3, h4⟩ := h
  match st, h1 with
  | [b], h1 =>
    have hd : d = 0 := by simp at h1; omega
    subst hd
    obtain ⟨b', e, hb⟩ := h2 rfl
    simp only [List.cons.injEq, and_true] at e
    subst e
    by_cases hj : j = 0
    · subst hj
      simp only [if_true] at hb
      have hb0 : b = [] := List.eq_nil_of_length_eq_zero hb
      subst hb0
      cases k with
      | op => refine ⟨by simp [pstep, rbad], fun st' h => ?_⟩; simp [pstep] at h; subst h; exact ⟨rfl, by simp [rnext], by simp, fun _ => ⟨[[]], rfl⟩⟩
      | cl => refine ⟨by simp [pstep, rbad], fun st' h => ?_⟩; simp [pstep] at h
      | lf ok t => cases ok with
        | true => refine ⟨by simp [pstep, rbad], fun st' h => ?_⟩; simp [pstep] at h; subst h; exact ⟨rfl, fun _ => ⟨[t], rfl, by simp⟩, by simp, by simp [rnext]⟩
        | false => refine ⟨by simp [pstep, rbad], fun st' h => ?_⟩; simp [pstep] at h
    · rw [if_neg hj] at hb
      have hp : pstep k [b] = none := by simp [pstep, hb]
      refine ⟨by rw [hp]; simp [rbad]; omega, fun st' h => by rw [hp] at h; cases h⟩
  | a :: b :: r, h1 =>
    have hd : d ≠ 0 := by intro e; subst e; simp at h1
    have hj : j ≠ 0 := fun e => hd (h3 e)
    obtain ⟨i, hi⟩ := h4 (by omega)
    simp only [List.length_cons] at h1
    cases k with
    | op => refine ⟨by simp [pstep, rbad, hd], fun st' h => ?_⟩; simp [pstep] at h; subst h; exact ⟨by simp [rnext]; omega, by simp [rnext], by simp, fun _ => ⟨[] :: i, by rw [hi]; rfl⟩⟩
    | cl =>
      refine ⟨by simp [pstep, rbad, hd], fun st' h => ?_⟩
      simp [pstep] at h; subst h
      refine ⟨by simp [rnext]; omega, fun h0 => ?_, by simp, fun h0 => ?_⟩
      · have hr : r = [] := List.eq_nil_of_length_eq_zero (by simp [rnext] at h0; omega)
        subst hr
        have hb : b = [] := by
          have := congrArg List.getLast? hi
          simpa using this
        subst hb
        exact ⟨_, rfl, by simp⟩
      · have hr : r ≠ [] := by intro e; subst e; simp [rnext] at h0 h1; omega
        obtain ⟨q, x, rfl⟩ : ∃ q x, r = q ++ [x] := ⟨r.dropLast, r.getLast hr, (List.dropLast_concat_getLast hr).symm⟩
        have hx : x = [] := by
          have e : (a :: b :: q) ++ [x] = i ++ [[]] := hi
          have := congrArg List.getLast? e
          rw [List.getLast?_concat, List.getLast?_concat] at this
          simpa using this
        subst hx
        exact ⟨(b ++ [tupT a]) :: q, rfl⟩
    | lf ok t => cases ok with
      | true =>
        refine ⟨by simp [pstep, rbad, hd], fun st' h => ?_⟩
        simp [pstep] at h; subst h
        refine ⟨by simp [rnext]; omega, fun h0 => absurd h0 (by simpa [rnext] using hd), by simp, fun _ => ?_⟩
        cases i with
        | nil => simp at hi
        | cons y i =>
          simp only [List.cons_append, List.cons.injEq] at hi
          exact ⟨(a ++ [t]) :: i, by rw [hi.2]; rfl⟩
      | false => refine ⟨by simp [pstep, rbad, hd], fun st' h => ?_⟩; simp [pstep] at h
/-- They fail at the same word, or neither does. -/
theorem runs_agree : ∀ (ks : List Tok) (j d : Nat) (st : List (List T)), SInv j st d →
    (∀ e, prun ks j st = .inl e ↔ rrun ks j d = .inl e) ∧ (∀ st', prun ks j st = .inr st' → ∃ d', rrun ks j d = .inr d' ∧ SInv (j + ks.length) st' d')
  | [], j, d, st, h => ⟨fun e => by simp [prun, rrun], fun st' e => by simp only [prun, Sum.inr.injEq] at e; subst e; exact ⟨d, rfl, h⟩⟩
  | k :: ks, j, d, st, h => by
    obtain ⟨h1, h2⟩ := pstep_rbad (k := k) h
    cases hp : pstep k st with
    | none =>
      have hb := h1.1 hp
      exact ⟨fun e => by simp [prun, rrun, hp, hb], fun st' e => by simp [prun, hp] at e⟩
    | some st1 =>
      have hb : rbad k j d = false := by
        cases hb : rbad k j d
        · rfl
        · rw [h1.2 hb] at hp; cases hp
      obtain ⟨g1, g2⟩ := runs_agree ks (j + 1) (rnext k d) st1 (h2 st1 hp)
      refine ⟨fun e => by simp only [prun, rrun, hp, hb]; exact g1 e, fun st' e => ?_⟩
      simp only [prun, hp] at e
      obtain ⟨d', q1, q2⟩ := g2 st' e
      exact ⟨d', by simp only [rrun, hb]; exact q1, by rw [List.length_cons, show j + (ks.length + 1) = j + 1 + ks.length by omega]; exact q2⟩
end Go.Proofs.Ytedfepnekjjmnaa
