/-
  How much a text's words build: a bound. In plain words, no program in sight.
-/
import Derived.Test.YtedfepnekjjmnaaTokP
namespace Go.Proofs.Ytedfepnekjjmnaa
set_option linter.unusedSimpArgs false
set_option linter.unusedVariables false

def tkB : Tok → Nat | .op => 1 | .cl => 1 | .lf _ t => 1 + bulkL [t]
def stB : List (List T) → Nat | [] => 0 | a :: r => 1 + bulkL a + stB r
def tksB : List Tok → Nat | [] => 0 | k :: r => tkB k + tksB r
theorem tksB_append (a b : List Tok) : tksB (a ++ b) = tksB a + tksB b := by
  induction a with
  | nil => simp [tksB]
  | cons k a ih => simp only [List.cons_append, tksB, ih]; omega
theorem bulk_tup' (l : List T) : bulkL [tupT l] = 1 + bulkL l := by simp [tupT, bulkL, ByteArray.size]
theorem pstep_bulk {k : Tok} {st st' : List (List T)} (h : pstep k st = some st') : stB st' ≤ stB st + tkB k := by
  match k, st with
  | k, [] => simp [pstep] at h
  | .op, [b] => 
    simp only [pstep] at h
    split at h
    · cases h
    · simp only [Option.some.injEq] at h; subst h; simp [stB, tkB, bulkL]; omega
  | .cl, [b] =>
    simp only [pstep] at h
    split at h <;> cases h
  | .lf true t, [b] =>
    simp only [pstep] at h
    split at h
    · cases h
    · simp only [Option.some.injEq] at h; subst h; simp [stB, tkB, bulkL_append]; omega
  | .lf false t, [b] =>
    simp only [pstep] at h
    split at h <;> cases h
  | .op, a :: b :: r => simp only [pstep, Option.some.injEq] at h; subst h; simp [stB, tkB, bulkL]; omega
  | .cl, a :: b :: r => simp only [pstep, Option.some.injEq] at h; subst h; simp only [stB, tkB, bulkL_append, bulk_tup']; omega
  | .lf true t, a :: b :: r => simp only [pstep, Option.some.injEq] at h; subst h; simp [stB, tkB, bulkL_append]; omega
  | .lf false t, a :: b :: r => simp [pstep] at h
theorem prun_bulk : ∀ (ks : List Tok) (j : Nat) (st st' : List (List T)), prun ks j st = .inr st' → stB st' ≤ stB st + tksB ks
  | [], j, st, st', h => by simp only [prun, Sum.inr.injEq] at h; subst h; simp [tksB]
  | k :: ks, j, st, st', h => by
    simp only [prun] at h
    cases hp : pstep k st with
    | none => rw [hp] at h; cases h
    | some st1 =>
      rw [hp] at h
      have h1 := pstep_bulk hp
      have h2 := prun_bulk ks (j + 1) st1 st' h
      simp only [tksB]; omega
theorem bulk_leaf (k n : Int) (s : ByteArray) : bulkL [⟨k, n, s, []⟩] = 1 + s.size := by rw [bulkL, bulkL]; omega
theorem leafT_bulk (s : ByteArray) : bulkL [leafT s] ≤ 1 + s.size := by
  have e : (⟨#[]⟩ : ByteArray).size = 0 := rfl
  unfold leafT
  repeat' split
  all_goals (first | (rw [bulk_leaf]; omega) | (rw [anyT, bulk_leaf]; omega))
theorem tokB_bulk (w : ByteArray) : tkB (tokB w) ≤ 2 + w.size := by
  unfold tokB
  split
  · simp only [tkB]; omega
  split
  · simp only [tkB]; omega
  · have := leafT_bulk w; simp only [tkB]; omega
theorem toksS_bulk (s : ByteArray) (W : List (Nat × Nat)) : tksB (toksS s W) ≤ W.length * (2 + s.size) := by
  induction W with
  | nil => simp [toksS, wsS, tksB]
  | cons p W ih =>
    have e : toksS s (p :: W) = tokB (wordS s p) :: toksS s W := by simp [toksS, wsS]
    have h1 := tokB_bulk (wordS s p)
    have h2 : (wordS s p).size ≤ s.size := by simp [wordS]; omega
    rw [e, tksB, List.length_cons, Nat.add_mul]; omega
theorem stack_bulk {s : ByteArray} {k : Nat} {st : List (List T)} (hs : s.size ≤ 2048) (hk : k ≤ s.size) (h : prun (toksS s (wst s k).1) 0 [[]] = .inr st) : stB st ≤ 5000000 := by
  have h1 := prun_bulk _ _ _ _ h
  have h2 := toksS_bulk s (wst s k).1
  have h3 := wst_length s k
  have h4 : (wst s k).1.length * (2 + s.size) ≤ 2048 * 2050 := Nat.mul_le_mul (by omega) (by omega)
  have h5 : stB [[]] = 1 := by simp [stB, bulkL]
  omega
theorem stB_mem {a : List T} {st : List (List T)} (h : a ∈ st) : bulkL a + 1 ≤ stB st := by
  induction st with
  | nil => cases h
  | cons x r ih =>
    rcases List.mem_cons.1 h with rfl | h
    · simp only [stB]; omega
    · have := ih h; simp only [stB]; omega
theorem stB_length (st : List (List T)) : st.length ≤ stB st := by
  induction st with
  | nil => simp [stB]
  | cons x r ih => simp only [stB, List.length_cons]; omega
end Go.Proofs.Ytedfepnekjjmnaa
