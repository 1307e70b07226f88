/-
  What fits, in plain words. No program in sight.
-/
import Derived.Test.YtedfepnekjjmnaaValP
namespace Go.Proofs.Ytedfepnekjjmnaa
set_option linter.unusedSimpArgs false
set_option linter.unusedVariables false

def fitH (p t : T) (b : List T) (r : Bool × List T) : Bool × List T :=
  if p.kind = 6 then (true, b)
  else if p.kind = 5 then (if (b.getD p.n.toNat zeroT).kind = 6 then (true, b.set p.n.toNat t) else (sameT (b.getD p.n.toNat zeroT) t, b))
  else if p.kind = 4 then (if t.kind = 4 ∧ p.args.length = t.args.length then r else (false, b))
  else (sameT p t, b)
def fitL : List T → List T → List T → Bool × List T
  | ⟨k, n, s, l⟩ :: ps, t :: ts, b =>
    if (fitH ⟨k, n, s, l⟩ t b (fitL l t.args b)).1 then fitL ps ts (fitH ⟨k, n, s, l⟩ t b (fitL l t.args b)).2 else fitH ⟨k, n, s, l⟩ t b (fitL l t.args b)
  | [], _, b => (true, b)
  | _, [], b => (true, b)
def fitT (p t : T) (b : List T) : Bool × List T := fitH p t b (fitL p.args t.args b)
theorem fitL_cons (p t : T) (ps ts b : List T) : fitL (p :: ps) (t :: ts) b = if (fitT p t b).1 then fitL ps ts (fitT p t b).2 else fitT p t b := by
  obtain ⟨k, n, s, l⟩ := p; rw [fitL]; rfl
theorem fitL_nil (ts b : List T) : fitL [] ts b = (true, b) := by rw [fitL]
theorem fitL_one (p t : T) (b : List T) : fitL [p] [t] b = fitT p t b := by
  rw [fitL_cons, fitL_nil]; split
  · rename_i h; rw [← h]
  · rfl
theorem fitL_yes {p t : T} {ps ts b : List T} (h : (fitT p t b).1 = true) : fitL (p :: ps) (t :: ts) b = fitL ps ts (fitT p t b).2 := by rw [fitL_cons, if_pos h]
theorem fitL_no {p t : T} {ps ts b : List T} (h : (fitT p t b).1 = false) : fitL (p :: ps) (t :: ts) b = fitT p t b := by rw [fitL_cons, if_neg (by simp [h])]
theorem fitL_append {ps ts qs us : List T} (hl : ps.length = ts.length) (b : List T) : fitL (ps ++ qs) (ts ++ us) b = if (fitL ps ts b).1 then fitL qs us (fitL ps ts b).2 else fitL ps ts b := by
  induction ps generalizing ts b with
  | nil =>
    have : ts = [] := List.eq_nil_of_length_eq_zero (by simpa using hl.symm)
    subst this; rw [fitL_nil]; simp
  | cons p ps ih =>
    cases ts with
    | nil => simp at hl
    | cons t ts =>
      simp only [List.cons_append, fitL_cons]
      cases h : (fitT p t b).1
      · simp [h]
      · simp only [if_true]; exact ih (by simpa using hl) _

theorem fitL_snoc {ps ts b : List T} {k : Nat} (h : (fitL (ps.take k) (ts.take k) b).1 = true) (h1 : k < ps.length) (h2 : k < ts.length) : fitL (ps.take (k + 1)) (ts.take (k + 1)) b = fitT ps[k] ts[k] (fitL (ps.take k) (ts.take k) b).2 := by
  rw [take_snoc' ps k h1, take_snoc' ts k h2, fitL_append (by simp; omega), if_pos h, fitL_one]
theorem fitL_fail {ps ts b : List T} {k : Nat} (h : (fitL (ps.take k) (ts.take k) b).1 = true) (h1 : k < ps.length) (h2 : k < ts.length) (hf : (fitT ps[k] ts[k] (fitL (ps.take k) (ts.take k) b).2).1 = false) :
    fitL ps ts b = fitT ps[k] ts[k] (fitL (ps.take k) (ts.take k) b).2 := by
  have e1 : ps = ps.take k ++ (ps[k] :: ps.drop (k + 1)) := by simp
  have e2 : ts = ts.take k ++ (ts[k] :: ts.drop (k + 1)) := by simp
  have e3 : fitL ps ts b = fitL (ps.take k ++ (ps[k] :: ps.drop (k + 1))) (ts.take k ++ (ts[k] :: ts.drop (k + 1))) b := by rw [← e1, ← e2]
  rw [e3, fitL_append (by simp; omega), if_pos h, fitL_no hf]

section
variable {p t : T} {b : List T}
theorem fitT_6 (h : p.kind = 6) : fitT p t b = (true, b) := by rw [fitT, fitH, if_pos h]
theorem fitT_5a {k : Nat} (h : p.kind = 5) (hk : p.n = k) (hl : k < b.length) (h6 : b[k].kind = 6) : fitT p t b = (true, b.set k t) := by
  rw [fitT, fitH, if_neg (by omega), if_pos h, hk]; simp [hl, h6]
theorem fitT_5b {k : Nat} (h : p.kind = 5) (hk : p.n = k) (hl : k < b.length) (h6 : b[k].kind ≠ 6) : fitT p t b = (sameT b[k] t, b) := by
  rw [fitT, fitH, if_neg (by omega), if_pos h, hk]; simp [hl, h6]
theorem fitT_4a (h : p.kind = 4) (h1 : t.kind = 4) (h2 : p.args.length = t.args.length) : fitT p t b = fitL p.args t.args b := by
  rw [fitT, fitH, if_neg (by omega), if_neg (by omega), if_pos h, if_pos ⟨h1, h2⟩]
theorem fitT_4b (h : p.kind = 4) (h1 : ¬ (t.kind = 4 ∧ p.args.length = t.args.length)) : fitT p t b = (false, b) := by
  rw [fitT, fitH, if_neg (by omega), if_neg (by omega), if_pos h, if_neg h1]
theorem fitT_o (h4 : p.kind ≠ 4) (h5 : p.kind ≠ 5) (h6 : p.kind ≠ 6) : fitT p t b = (sameT p t, b) := by
  rw [fitT, fitH, if_neg h6, if_neg h5, if_neg h4]
end

theorem fitT_length (p t : T) (b : List T) : (fitT p t b).2.length = b.length := by
  have key : ∀ m (ps ts b : List T), bulkL ps ≤ m → (fitL ps ts b).2.length = b.length := by
    intro m
    induction m with
    | zero =>
      intro ps ts b hm
      cases ps with
      | nil => rw [fitL_nil]
      | cons p ps => rw [bulkL_cons] at hm; omega
    | succ m ih =>
      intro ps ts b hm
      cases ps with
      | nil => rw [fitL_nil]
      | cons p ps =>
        cases ts with
        | nil => rw [fitL]; intro h; cases h
        | cons t ts =>
          rw [bulkL_cons] at hm
          have h1 : (fitT p t b).2.length = b.length := by
            have := ih p.args t.args b (by omega)
            unfold fitT fitH
            repeat' split
            all_goals first | rfl | simp | exact this
          rw [fitL_cons]
          split
          · rw [ih ps ts _ (by omega), h1]
          · exact h1
  have := key _ [p] [t] b (Nat.le_refl _)
  rwa [fitL_one] at this

/-- What fits, or nothing. -/
def fitO (p t : T) (b : List T) : Option (List T) := if (fitT p t b).1 then some (fitT p t b).2 else none
end Go.Proofs.Ytedfepnekjjmnaa
