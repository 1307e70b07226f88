/-
  The words of a text as tokens, and what reading it answers. In plain words, no program in sight.
-/
import Derived.Test.YtedfepnekjjmnaaBuiltP
import Derived.Test.YtedfepnekjjmnaaWords
namespace Go.Proofs.Ytedfepnekjjmnaa
set_option linter.unusedSimpArgs false
set_option linter.unusedVariables false

/-- A word as a token. -/
def tokB (w : ByteArray) : Tok := if w.toList == [40] then .op else if w.toList == [41] then .cl else .lf (leafB w) (leafT w)
def toksS (s : ByteArray) (W : List (Nat × Nat)) : List Tok := (wsS s W).map tokB
/-- What is told of the whole text: the term, where, and the error. -/
def readA (s : ByteArray) : T × Int × Int :=
  if 2048 < s.size then (zeroT, 0, 2)
  else match prun (toksS s (wst s s.size).1) 0 [[]] with
    | .inl j => (zeroT, (atI (wst s s.size).1).getD j 0, 3)
    | .inr [[t]] => if checkE t = 0 then (t, 0, 0) else (zeroT, 0, checkE t)
    | .inr _ => (zeroT, s.size, 3)
theorem toksS_length (s : ByteArray) (W : List (Nat × Nat)) : (toksS s W).length = W.length := by simp [toksS, wsS]
theorem toksS_append (s : ByteArray) (W V : List (Nat × Nat)) : toksS s (W ++ V) = toksS s W ++ toksS s V := by simp [toksS, wsS]
theorem prun_append : ∀ (ks ls : List Tok) (j : Nat) (st st' : List (List T)), prun ks j st = .inr st' → prun (ks ++ ls) j st = prun ls (j + ks.length) st'
  | [], ls, j, st, st', h => by simp only [prun, Sum.inr.injEq] at h; subst h; simp
  | k :: ks, ls, j, st, st', h => by
    simp only [prun] at h
    cases hp : pstep k st with
    | none => rw [hp] at h; cases h
    | some st1 =>
      rw [hp] at h
      simp only [List.cons_append, prun, hp]
      rw [prun_append ks ls (j + 1) st1 st' h, List.length_cons]
      congr 1; omega
theorem prun_append_bad : ∀ (ks ls : List Tok) (j : Nat) (st : List (List T)) (e : Nat), prun ks j st = .inl e → prun (ks ++ ls) j st = .inl e
  | [], ls, j, st, e, h => by cases h
  | k :: ks, ls, j, st, e, h => by
    simp only [prun] at h
    cases hp : pstep k st with
    | none => rw [hp] at h; simp only [List.cons_append, prun, hp]; exact h
    | some st1 => rw [hp] at h; simp only [List.cons_append, prun, hp]; exact prun_append_bad ks ls (j + 1) st1 e h
/-- How the count ends where the stack does. -/
theorem sinv_start : SInv 0 [[]] 0 := ⟨rfl, fun _ => ⟨[], rfl, rfl⟩, fun _ => rfl, fun h => by omega⟩
end Go.Proofs.Ytedfepnekjjmnaa
