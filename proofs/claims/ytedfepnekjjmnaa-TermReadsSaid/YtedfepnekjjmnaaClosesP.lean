/-
  What is reckoned is closed; sums don't hang on the order: in plain words. No program in sight.
-/
import Derived.Test.YtedfepnekjjmnaaValue
import Derived.Test.YtedfepnekjjmnaaFree
namespace Go.Proofs.Ytedfepnekjjmnaa
set_option linter.unusedSimpArgs false
set_option linter.unusedVariables false



theorem any_bnd : bndB anyT = true := by simp [bndB, checkE, formL_cons, formL, headB, bareB, dpL_cons, dpL, szL_cons, szL, anyT]
theorem freeL_bound : boundB freeL = true := by simp [boundB, freeL, any_bnd]
theorem form_bare {x : T} (h : formL [x] = true) (h4 : x.kind ≠ 4) : x.args = [] := by
  rw [formL_cons] at h
  simp only [Bool.and_eq_true] at h
  have h1 := h.1.1
  simp only [headB, bareB] at h1
  repeat' (split at h1)
  all_goals first | omega | (simp at h1; done) | (simp only [Bool.and_eq_true, decide_eq_true_eq, beq_iff_eq] at h1; exact List.eq_nil_of_length_eq_zero (by omega))
theorem closed_leaf {x : T} (h : formL [x] = true) (h4 : x.kind ≠ 4) (h5 : x.kind ≠ 5) (h6 : x.kind ≠ 6) : closedL [x] = true := by
  rw [closedL_cons, form_bare h h4]; simp [closedL, h5, h6]
theorem closed_tup (l : List T) : closedL [tupT l] = closedL l := by rw [closedL_cons]; simp [tupT, closedL]
theorem closed_num (n : Int) : closedL [numT n] = true := by rw [closedL_cons]; simp [numT, closedL]
theorem closed_pid (n : Int) : closedL [pidT n] = true := by rw [closedL_cons]; simp [pidT, closedL]
theorem bound_closed {bd : List T} (hb : boundB bd = true) {t : T} (ht : t ∈ bd) (h6 : t.kind ≠ 6) : closedL [t] = true := by
  simp only [boundB, Bool.and_eq_true, List.all_eq_true] at hb
  have := hb.2 t ht
  simp only [bndB, Bool.and_eq_true, Bool.or_eq_true, beq_iff_eq] at this
  rcases this.2 with h | h
  · exact absurd h h6
  · exact h
theorem closedL_pair (t : T) (l : List T) : closedL (t :: l) = (closedL [t] && closedL l) := by rw [closedL_cons, closedL_cons]; simp [closedL]
theorem valL_closed {bd : List T} {self : Int} : ∀ (l vs : List T), (∀ y ∈ l, ∀ t, valT bd self y = some t → closedL [t] = true) → valL bd self l = some vs → closedL vs = true
  | [], vs, _, h => by rw [valL_nil] at h; cases h; simp [closedL]
  | y :: l, vs, hy, h => by
    rw [valL_cons] at h
    obtain ⟨v, hv, h⟩ := Option.bind_eq_some_iff.1 h
    obtain ⟨us, hu, rfl⟩ := Option.map_eq_some_iff.1 h
    rw [closedL_pair, hy y (by simp) v hv, valL_closed l us (fun z hz => hy z (by simp [hz])) hu]; rfl
theorem valT_closed {bd : List T} {self : Int} (hb : boundB bd = true) : ∀ (x : T), formL [x] = true → ∀ t, valT bd self x = some t → closedL [t] = true := by
  intro x
  induction x using T.ind with
  | h x ih =>
    intro hf t ht
    by_cases h6 : x.kind = 6
    · rw [valT_6 h6] at ht; cases ht
    by_cases h5 : x.kind = 5
    · obtain ⟨k, hk, hk4⟩ := form_var hf h5
      have hl := boundB_len hb
      rw [valT_5 h5 hk (by omega)] at ht
      unfold varO at ht
      split at ht
      · cases ht
      · rename_i hn
        simp only [Option.some.injEq] at ht
        subst ht
        exact bound_closed hb (List.getElem_mem _) (by simpa using hn)
    by_cases h4 : x.kind = 4
    · cases hs : isT x sSelf 0
      · cases hp : isT x sPut 1
        · rw [valT_tup h4 hs hp] at ht
          obtain ⟨vs, hv, ht⟩ := Option.bind_eq_some_iff.1 ht
          have hc := valL_closed x.args vs (fun y hy => ih y hy (form_args hf hy)) hv
          split at ht
          · unfold sumO at ht
            split at ht
            · simp only [Option.some.injEq] at ht; subst ht; exact closed_num _
            · cases ht
          · simp only [Option.some.injEq] at ht; subst ht; rw [closed_tup]; exact hc
        · have hl := isT_length hp
          rw [valT_put h4 hs hp (by omega)] at ht
          unfold putO at ht
          split at ht
          · simp only [Option.some.injEq] at ht; subst ht; assumption
          · cases ht
      · rw [valT_self h4 hs] at ht
        simp only [Option.some.injEq] at ht; subst ht; exact closed_pid _
    · rw [valT_o h4 h5 h6] at ht
      simp only [Option.some.injEq] at ht; subst ht; exact closed_leaf hf h4 h5 h6
theorem valF_check {bd : List T} {self : Int} {x t : T} (h : valF bd self x = some t) : valT bd self x = some t ∧ checkE t = 0 := by
  obtain ⟨u, hu, h⟩ := Option.bind_eq_some_iff.1 h
  split at h
  · simp only [Option.some.injEq] at h; subst h; exact ⟨hu, by assumption⟩
  · cases h
/-- A right answer is closed, and right. -/
theorem reckO_good {bd : List T} {self : Int} {x : T} (h : (reckO bd self x).2 = 0) : closedL [(reckO bd self x).1] = true ∧ checkE (reckO bd self x).1 = 0 := by
  unfold reckO at h ⊢
  split
  · rename_i h1; rw [if_pos h1] at h; exact absurd h h1
  rename_i h1
  rw [if_neg h1] at h
  split
  · rename_i h2; rw [if_pos h2] at h; cases h
  rename_i h2
  rw [if_neg h2] at h
  split
  · rename_i h3; rw [if_pos h3] at h; cases h
  rename_i h3
  rw [if_neg h3] at h
  cases hv : valF bd self x with
  | none => rw [hv] at h; cases h
  | some t => exact ⟨valT_closed (by simpa using h2) x (check_form' (by simpa using h1)) t (valF_check hv).1, (valF_check hv).2⟩

theorem isT_tup (s u : ByteArray) (l : List T) (n : Int) : isT (tupT (wordT s :: l)) u n = (decide ((l.length : Int) + 1 = n + 1) && (s.toList == u.toList)) := by
  simp [isT, tupT, wordT, headIs]
theorem reckO_put {bd : List T} {self : Int} {t : T} (hb : boundB bd = true) (hs : inB self 1 99 = true) (ht : checkE t = 0) (hc : closedL [t] = true) (hp : checkE (tupT [wordT sPut, t]) = 0) :
    reckO bd self (tupT [wordT sPut, t]) = (t, 0) := by
  refine reckO_some hp hb hs (valF_some ?_ ht)
  rw [valT_put rfl (by rw [isT_tup]; rfl) (by rw [isT_tup]; simp) (by simp [tupT])]
  simp [tupT, putO, hc]
def addT (x y : T) : T := tupT [wordT sAdd, x, y]
theorem formL_pair (t : T) (l : List T) : formL (t :: l) = (formL [t] && formL l) := by rw [formL_cons, formL_cons]; simp [formL]
theorem check_add (x y : T) : checkE (addT x y) = checkE (addT y x) := by
  have h1 : formL [addT x y] = formL [addT y x] := by
    rw [formL_cons, formL_cons]
    have e : headB (addT x y) = headB (addT y x) := by simp [headB, addT, tupT]
    rw [e]; congr 2
    simp only [addT, tupT]
    rw [formL_pair, formL_pair x [y], formL_pair _ [y, x], formL_pair y [x], Bool.and_comm (formL [x])]
  have h2 : dpL [addT x y] = dpL [addT y x] := by
    rw [dpL_cons, dpL_cons]
    simp only [addT, tupT, if_true]
    rw [dpL_cons, dpL_cons x, dpL_cons _ [y, x], dpL_cons y, dpL_cons y, dpL_cons x]
    omega
  have h3 : szL [addT x y] = szL [addT y x] := by
    rw [szL_cons, szL_cons]
    simp only [addT, tupT, if_true, List.length_cons, List.length_nil]
    rw [szL_cons, szL_cons x, szL_cons _ [y, x], szL_cons y, szL_cons y, szL_cons x]
    omega
  rw [checkE, checkE, h1, h2, h3]
theorem sumO_comm (a b : T) : sumO a b = sumO b a := by
  have : sumN a b = sumN b a := by rw [sumN, sumN, Int.add_comm]
  rw [sumO, sumO, sumB, sumB, this, Bool.and_comm (a.kind == 1)]
theorem val_add_eq {bd : List T} {self : Int} (x y : T) : valT bd self (addT x y) = (valT bd self x).bind fun a => (valT bd self y).bind fun b => sumO a b := by
  have e : isT (addT x y) sAdd 2 = true := by rw [addT, isT_tup]; simp
  rw [valT_tup rfl (by rw [addT, isT_tup]; rfl) (by rw [addT, isT_tup]; rfl)]
  simp only [e, if_true]
  simp only [addT, tupT]
  rw [valL_cons, valT_o (by simp [wordT]) (by simp [wordT]) (by simp [wordT]), valL_cons, valL_cons, valL_nil]
  cases valT bd self x <;> cases valT bd self y <;> rfl
theorem val_add {bd : List T} {self : Int} (x y : T) : valT bd self (addT x y) = valT bd self (addT y x) := by
  rw [val_add_eq, val_add_eq]
  cases valT bd self x <;> cases valT bd self y <;> first | rfl | exact sumO_comm _ _
theorem reckO_add {bd : List T} {self : Int} (x y : T) : reckO bd self (addT x y) = reckO bd self (addT y x) := by
  rw [reckO, reckO, check_add x y, valF, valF, val_add x y]
theorem reckO_five : reckO freeL 1 (addT (numT 2) (numT 3)) = (numT 5, 0) := by
  have e1 : checkE (addT (numT 2) (numT 3)) = 0 := by simp [checkE, formL_cons, formL, headB, bareB, dpL_cons, dpL, szL_cons, szL, addT, tupT, wordT, numT, sAdd, nameB, lowB, inB, ByteArray.size]
  have e2 : checkE (numT 5) = 0 := by simp [checkE, formL_cons, formL, headB, bareB, dpL_cons, dpL, szL_cons, szL, numT, inB]
  refine reckO_some e1 freeL_bound (by decide) (valF_some ?_ e2)
  rw [val_add_eq, valT_o (by simp [numT]) (by simp [numT]) (by simp [numT]), valT_o (by simp [numT]) (by simp [numT]) (by simp [numT])]
  simp [sumO, sumB, sumN, numT, inB, RowKit.wrap64]
end Go.Proofs.Ytedfepnekjjmnaa
