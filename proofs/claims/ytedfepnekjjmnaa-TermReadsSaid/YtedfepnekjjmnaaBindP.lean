/-
  What is bound, put into a pattern: the pattern then fits just so. In plain words, no program in sight.
-/
import Derived.Test.YtedfepnekjjmnaaClosesP
import Derived.Test.YtedfepnekjjmnaaFits4
namespace Go.Proofs.Ytedfepnekjjmnaa
set_option linter.unusedSimpArgs false
set_option linter.unusedVariables false

def bindL (b : List T) : List T → List T
  | [] => []
  | ⟨k, n, s, l⟩ :: ts => (if k = 5 then b.getD n.toNat zeroT else ⟨k, n, s, bindL b l⟩) :: bindL b ts
def bindT (b : List T) (p : T) : T := if p.kind = 5 then b.getD p.n.toNat zeroT else ⟨p.kind, p.n, p.name, bindL b p.args⟩
theorem bindL_nil (b : List T) : bindL b [] = [] := by rw [bindL]
theorem bindL_cons (b : List T) (p : T) (ps : List T) : bindL b (p :: ps) = bindT b p :: bindL b ps := by obtain ⟨k, n, s, l⟩ := p; rw [bindL]; rfl
theorem bindL_map (b : List T) (ps : List T) : bindL b ps = ps.map (bindT b) := by
  induction ps with
  | nil => rw [bindL_nil]; rfl
  | cons p ps ih => rw [bindL_cons, ih]; rfl
theorem bindT_5 {b : List T} {p : T} {k : Nat} (h : p.kind = 5) (hk : p.n = k) (hl : k < b.length) : bindT b p = b[k] := by rw [bindT, if_pos h, hk]; simp [hl]
theorem bindT_o {b : List T} {p : T} (h : p.kind ≠ 5) : bindT b p = ⟨p.kind, p.n, p.name, bindL b p.args⟩ := by rw [bindT, if_neg h]

/-- x is t, but for parts of which it says nothing. -/
inductive Sub : T → T → Prop
  | any (t : T) : Sub anyT t
  | same (t : T) : Sub t t
  | tup (l m : List T) (hl : l.length = m.length) (h : ∀ i (h1 : i < l.length) (h2 : i < m.length), Sub l[i] m[i]) : Sub (tupT l) (tupT m)

/-- Who was bound stays so. -/
def Stay (b c : List T) : Prop := b.length = c.length ∧ ∀ i (h1 : i < b.length) (h2 : i < c.length), b[i].kind ≠ 6 → c[i] = b[i]
theorem Stay.refl (b : List T) : Stay b b := ⟨rfl, fun _ _ _ _ => rfl⟩
theorem Stay.trans {a b c : List T} (h : Stay a b) (k : Stay b c) : Stay a c :=
  ⟨h.1.trans k.1, fun i h1 h2 hn => by
    have h3 : i < b.length := by have := h.1; omega
    have e := h.2 i h1 h3 hn
    rw [k.2 i h3 h2 (by rw [e]; exact hn), e]⟩
theorem Stay.set {b : List T} {k : Nat} (hk : k < b.length) (h6 : b[k].kind = 6) (t : T) : Stay b (b.set k t) := by
  refine ⟨by simp, fun i h1 h2 hn => ?_⟩
  have : k ≠ i := fun e => by subst e; exact hn h6
  simp [List.getElem_set, this]
theorem stay_list : ∀ (ps ts b : List T), (∀ p ∈ ps, ∀ t b, Stay b (fitT p t b).2) → Stay b (fitL ps ts b).2
  | [], ts, b, _ => by rw [fitL_nil]; exact Stay.refl b
  | p :: ps, [], b, _ => by
    have : fitL (p :: ps) [] b = (true, b) := by rw [fitL]; intro h; cases h
    rw [this]; exact Stay.refl b
  | p :: ps, t :: ts, b, h => by
    rw [fitL_cons]
    split
    · exact (h p (by simp) t b).trans (stay_list ps ts _ fun q hq => h q (by simp [hq]))
    · exact h p (by simp) t b
theorem fitT_stay (p : T) : ∀ (t : T) (b : List T), Stay b (fitT p t b).2 := by
  induction p using T.ind with
  | h p ih =>
    intro t b
    unfold fitT fitH
    repeat' split
    all_goals first
      | exact Stay.refl b
      | exact stay_list _ _ _ ih
      | skip
    rename_i h6
    by_cases hk : p.n.toNat < b.length
    · exact Stay.set hk (by simpa [hk] using h6) t
    · rw [List.set_eq_of_length_le (by omega)]; exact Stay.refl b
theorem fitL_stay (ps ts b : List T) : Stay b (fitL ps ts b).2 := stay_list ps ts b fun p _ t b => fitT_stay p t b

theorem ba_toList (s : ByteArray) : s.toList = s.data.toList := by rw [ByteArray.toList_eq]
theorem T.eta4 {t : T} (h : formL [t] = true) (h4 : t.kind = 4) : t = tupT t.args := by
  rw [formL_cons] at h
  simp only [Bool.and_eq_true] at h
  have h1 := h.1.1
  simp only [headB, h4] at h1
  obtain ⟨k, n, s, l⟩ := t
  simp at h1 h4 ⊢
  subst h4
  simp only [tupT, T.mk.injEq, true_and, and_true]
  refine ⟨by omega, ?_⟩
  have h2 : s.toList = [] := by simpa using h1.1.2
  exact ba_ext (by rw [ba_toList] at h2; simpa using h2)
theorem T.eta6 {t : T} (h : formL [t] = true) (h6 : t.kind = 6) : t = anyT := by
  have ha := form_bare h (by omega)
  rw [formL_cons] at h
  simp only [Bool.and_eq_true] at h
  have h1 := h.1.1
  simp only [headB, h6, bareB] at h1
  obtain ⟨k, n, s, l⟩ := t
  simp at h1 h6 ha ⊢
  subst h6 ha
  simp only [anyT, T.mk.injEq, true_and, and_true]
  refine ⟨by omega, ?_⟩
  have h2 : s.toList = [] := by simpa using h1.1
  exact ba_ext (by rw [ba_toList] at h2; simpa using h2)
theorem T.etaLeaf {b : List T} {p : T} (h : formL [p] = true) (h4 : p.kind ≠ 4) (h5 : p.kind ≠ 5) : bindT b p = p := by
  have ha := form_bare h h4
  rw [bindT_o h5, ha, bindL_nil]
  obtain ⟨k, n, s, l⟩ := p
  simp at ha; subst ha; rfl
theorem closed_at {l : List T} (h : closedL l = true) {y : T} (hy : y ∈ l) : closedL [y] = true := by
  induction l with
  | nil => cases hy
  | cons x l ih =>
    rw [closedL_pair, Bool.and_eq_true] at h
    rcases List.mem_cons.1 hy with rfl | hy
    · exact h.1
    · exact ih h.2 hy
theorem closed_args {t : T} (h : closedL [t] = true) {y : T} (hy : y ∈ t.args) : closedL [y] = true := by
  rw [closedL_cons, Bool.and_eq_true, Bool.and_eq_true] at h
  exact closed_at h.1.2 hy
theorem closed_kind {t : T} (h : closedL [t] = true) : t.kind ≠ 5 ∧ t.kind ≠ 6 := by
  rw [closedL_cons] at h; simp at h; exact ⟨h.1.1.1, h.1.1.2⟩

theorem bind_sub : ∀ (p t : T) (b c : List T), formL [p] = true → formL [t] = true → closedL [t] = true → b.length = 4 → (fitT p t b).1 = true → Stay (fitT p t b).2 c → Sub (bindT c p) t := by
  intro p
  induction p using T.ind with
  | h p ih =>
    intro t b c hf ht hc hb hfit hst
    by_cases h6 : p.kind = 6
    · rw [T.etaLeaf hf (by omega) (by omega), T.eta6 hf h6]; exact Sub.any t
    by_cases h5 : p.kind = 5
    · obtain ⟨k, hk, hk4⟩ := form_var hf h5
      by_cases hb6 : (b[k]'(by omega)).kind = 6
      · rw [fitT_5a h5 hk (by omega) hb6] at hst
        have hcl : k < c.length := by have := hst.1; simp at this; omega
        have := hst.2 k (by simp; omega) hcl (by simp [closed_kind hc])
        rw [bindT_5 h5 hk hcl, this]
        simp only [List.getElem_set_self]
        exact Sub.same t
      · rw [fitT_5b h5 hk (by omega) hb6] at hst hfit
        have e := (sameT_iff _ _).1 hfit
        have hcl : k < c.length := by have := hst.1; simp at this; omega
        rw [bindT_5 h5 hk hcl, hst.2 k (by simp; omega) hcl hb6]; simp only [e]
        exact Sub.same t
    by_cases h4 : p.kind = 4
    · by_cases ht4 : t.kind = 4 ∧ p.args.length = t.args.length
      · obtain ⟨ht4, hl⟩ := ht4
        rw [fitT_4a h4 ht4 hl] at hst hfit
        have key : ∀ (ps ts b : List T), (∀ q ∈ ps, ∀ (t : T) (b : List T), formL [q] = true → formL [t] = true → closedL [t] = true → b.length = 4 → (fitT q t b).1 = true → Stay (fitT q t b).2 c → Sub (bindT c q) t) →
            (∀ q ∈ ps, formL [q] = true) → (∀ t ∈ ts, formL [t] = true ∧ closedL [t] = true) → b.length = 4 → (fitL ps ts b).1 = true → Stay (fitL ps ts b).2 c → ps.length = ts.length → ∀ i (h1 : i < (bindL c ps).length) (h2 : i < ts.length), Sub (bindL c ps)[i] ts[i] := by
          intro ps
          induction ps with
          | nil => intro ts b _ _ _ _ _ _ hl i h1 h2; simp at hl; omega
          | cons q ps ihl =>
            intro ts b hq hfq hts hb hfit hst hl i h1 h2
            cases ts with
            | nil => simp at hl
            | cons t ts =>
              cases h : (fitT q t b).1
              · rw [fitL_no h, h] at hfit; cases hfit
              rw [fitL_yes h] at hfit hst
              have hs := fitL_stay ps ts (fitT q t b).2
              simp only [bindL_cons]
              cases i with
              | zero => exact hq q (by simp) t b (hfq q (by simp)) (hts t (by simp)).1 (hts t (by simp)).2 hb h (hs.trans hst)
              | succ i =>
                exact ihl ts _ (fun q' h' => hq q' (by simp [h'])) (fun q' h' => hfq q' (by simp [h'])) (fun t' h' => hts t' (by simp [h'])) (by rw [fitT_length]; exact hb) hfit hst (by simpa using hl) i (by simpa [bindL_cons] using h1) (by simpa using h2)
        have hsub := key p.args t.args b (fun q hq t b a1 a2 a3 a4 a5 a6 => ih q hq t b c a1 a2 a3 a4 a5 a6) (fun q hq => form_args hf hq) (fun y hy => ⟨form_args ht hy, closed_args hc hy⟩) hb hfit hst hl
        rw [bindT_o h5, T.eta4 ht ht4]
        have e := T.eta4 hf h4
        have e1 : p.n = 0 := by rw [e]; rfl
        have e2 : p.name = ⟨#[]⟩ := by rw [e]; rfl
        rw [h4, e1, e2]
        exact Sub.tup _ _ (by rw [bindL_map]; simpa using hl) hsub
      · rw [fitT_4b h4 ht4] at hfit; cases hfit
    · rw [fitT_o h4 h5 h6] at hfit
      have e := (sameT_iff _ _).1 hfit
      rw [T.etaLeaf hf h4 h5, e]; exact Sub.same t

theorem list_le {f : List T → Nat} (h0 : f [] = 0) (hc : ∀ t ts, f (t :: ts) = f [t] + f ts) : ∀ (l m : List T), l.length = m.length → (∀ i (h1 : i < l.length) (h2 : i < m.length), f [l[i]] ≤ f [m[i]]) → f l ≤ f m
  | [], [], _, _ => Nat.le_refl _
  | [], _ :: _, h, _ => by simp at h
  | _ :: _, [], h, _ => by simp at h
  | x :: l, y :: m, hl, h => by
    rw [hc x, hc y]
    have h1 := h 0 (by simp) (by simp)
    have h2 := list_le h0 hc l m (by simpa using hl) fun i a b => h (i + 1) (by simpa using a) (by simpa using b)
    simp only [List.getElem_cons_zero] at h1
    omega
theorem list_max {f : List T → Nat} (h0 : f [] = 0) (hc : ∀ t ts, f (t :: ts) = max (f [t]) (f ts)) : ∀ (l m : List T), l.length = m.length → (∀ i (h1 : i < l.length) (h2 : i < m.length), f [l[i]] ≤ f [m[i]]) → f l ≤ f m
  | [], [], _, _ => Nat.le_refl _
  | [], _ :: _, h, _ => by simp at h
  | _ :: _, [], h, _ => by simp at h
  | x :: l, y :: m, hl, h => by
    rw [hc x, hc y]
    have h1 := h 0 (by simp) (by simp)
    have h2 := list_max h0 hc l m (by simpa using hl) fun i a b => h (i + 1) (by simpa using a) (by simpa using b)
    simp only [List.getElem_cons_zero] at h1
    omega
theorem szL_pair (t : T) (ts : List T) : szL (t :: ts) = szL [t] + szL ts := by rw [szL_cons, szL_cons t []]; simp [szL]
theorem dpL_pair (t : T) (ts : List T) : dpL (t :: ts) = max (dpL [t]) (dpL ts) := by rw [dpL_cons, dpL_cons t []]; simp [dpL]
theorem bulkL_pair (t : T) (ts : List T) : bulkL (t :: ts) = bulkL [t] + bulkL ts := bulkL_append [t] ts
theorem sub_le {x t : T} (h : Sub x t) : szL [x] ≤ szL [t] ∧ dpL [x] ≤ dpL [t] ∧ bulkL [x] ≤ bulkL [t] := by
  induction h with
  | any t => exact ⟨by simp [szL_cons, anyT, szL], by simp [dpL_cons, anyT, dpL], by rw [show bulkL [anyT] = 1 by rw [bulkL_cons]; simp [anyT, bulkL, ByteArray.size], bulkL_cons]; omega⟩
  | same t => exact ⟨Nat.le_refl _, Nat.le_refl _, Nat.le_refl _⟩
  | tup l m hl h ih =>
    have h1 := list_le (f := szL) (by simp [szL]) szL_pair l m hl fun i a b => (ih i a b).1
    have h2 := list_max (f := dpL) (by simp [dpL]) dpL_pair l m hl fun i a b => (ih i a b).2.1
    have h3 := list_le (f := bulkL) (by simp [bulkL]) bulkL_pair l m hl fun i a b => (ih i a b).2.2
    refine ⟨?_, ?_, ?_⟩
    · rw [szL_cons, szL_cons]; simp [tupT, szL]; omega
    · rw [dpL_cons, dpL_cons]; simp [tupT, dpL]; omega
    · rw [bulkL_cons, bulkL_cons]; simp [tupT, bulkL]; omega
theorem sub_form {x t : T} (h : Sub x t) (ht : formL [t] = true) : formL [x] = true := by
  induction h with
  | any t => simp [formL_cons, formL, headB, bareB, anyT]
  | same t => exact ht
  | tup l m hl h ih =>
    rw [formL_cons] at ht ⊢
    have e : headB (tupT l) = headB (tupT m) := by unfold headB tupT; simp only [hl]; rfl
    simp only [Bool.and_eq_true] at ht ⊢
    refine ⟨⟨by rw [e]; exact ht.1.1, ?_⟩, ht.2⟩
    rw [formL_all, List.all_eq_true]
    intro y hy
    obtain ⟨i, hi, rfl⟩ := List.getElem_of_mem hy
    have hm := ht.1.2
    rw [formL_all, List.all_eq_true] at hm
    have hi' : i < m.length := by have := hl; simp only [tupT] at hi; omega
    exact ih i hi hi' (hm _ (by simp only [tupT]; exact List.getElem_mem _))
theorem sub_check {x t : T} (h : Sub x t) (ht : checkE t = 0) : checkE x = 0 := by
  have hf := check_form' ht
  unfold checkE at ht ⊢
  rw [if_pos (sub_form h hf)]
  rw [if_pos hf] at ht
  have := sub_le h
  split at ht
  · rw [if_pos (by omega)]
  · cases ht
theorem sub_closed {x t : T} (h : Sub x t) (hx : closedL [x] = true) : x = t := by
  induction h with
  | any t => simp [closedL_cons, anyT] at hx
  | same t => rfl
  | tup l m hl h ih =>
    rw [closed_tup] at hx
    congr 1
    refine List.ext_getElem hl fun i h1 h2 => ih i h1 h2 (closed_at hx (List.getElem_mem _))
theorem fit_list {c : List T} : ∀ (l m : List T), l.length = m.length → (∀ i (h1 : i < l.length) (h2 : i < m.length), fitT l[i] m[i] c = (true, c)) → fitL l m c = (true, c)
  | [], m, _, _ => fitL_nil m c
  | _ :: _, [], h, _ => by simp at h
  | x :: l, y :: m, hl, h => by
    have h0 := h 0 (by simp) (by simp)
    simp only [List.getElem_cons_zero] at h0
    rw [fitL_yes (by rw [h0]), h0]
    exact fit_list l m (by simpa using hl) fun i a b => h (i + 1) (by simpa using a) (by simpa using b)
theorem fit_self : ∀ (t : T) (c : List T), closedL [t] = true → fitT t t c = (true, c) := by
  intro t
  induction t using T.ind with
  | h t ih =>
    intro c hc
    obtain ⟨h5, h6⟩ := closed_kind hc
    by_cases h4 : t.kind = 4
    · rw [fitT_4a h4 h4 rfl]
      exact fit_list _ _ rfl fun i h1 h2 => ih _ (List.getElem_mem _) c (closed_args hc (List.getElem_mem _))
    · rw [fitT_o h4 h5 h6, (sameT_iff t t).2 rfl]
theorem fit_sub {x t : T} (h : Sub x t) (hc : closedL [t] = true) (c : List T) : fitT x t c = (true, c) := by
  induction h with
  | any t => exact fitT_6 rfl
  | same t => exact fit_self t c hc
  | tup l m hl h ih =>
    rw [fitT_4a rfl rfl hl]
    rw [closed_tup] at hc
    exact fit_list l m hl fun i h1 h2 => ih i h1 h2 (closed_at hc (List.getElem_mem _))

/-- What all of a term's parts and all bound ones have, all that are bound have. -/
theorem fitL_all {Q : T → Prop} : ∀ (ps ts b : List T), (∀ p ∈ ps, ∀ (t : T) (b : List T), Q t → (∀ y ∈ b, Q y) → ∀ y ∈ (fitT p t b).2, Q y) → (∀ y ∈ ts, Q y) → (∀ y ∈ b, Q y) → ∀ y ∈ (fitL ps ts b).2, Q y
  | [], ts, b, _, _, hb => by rw [fitL_nil]; exact hb
  | p :: ps, [], b, _, _, hb => by
    have : fitL (p :: ps) [] b = (true, b) := by rw [fitL]; intro h; cases h
    rw [this]; exact hb
  | p :: ps, t :: ts, b, h, ht, hb => by
    have h1 := h p (by simp) t b (ht t (by simp)) hb
    rw [fitL_cons]
    split
    · exact fitL_all ps ts _ (fun q hq => h q (by simp [hq])) (fun y hy => ht y (by simp [hy])) h1
    · exact h1
theorem fitT_all {Q : T → Prop} (hQ : ∀ t, Q t → ∀ y ∈ t.args, Q y) (p : T) : ∀ (t : T) (b : List T), Q t → (∀ y ∈ b, Q y) → ∀ y ∈ (fitT p t b).2, Q y := by
  induction p using T.ind with
  | h p ih =>
    intro t b ht hb
    unfold fitT fitH
    repeat' split
    all_goals first
      | exact hb
      | exact fitL_all _ _ _ (fun q hq t b => ih q hq t b) (hQ t ht) hb
      | skip
    intro y hy
    rcases List.mem_or_eq_of_mem_set hy with hy | rfl
    · exact hb y hy
    · exact ht
theorem check_args {t : T} (h : checkE t = 0) {y : T} (hy : y ∈ t.args) : checkE y = 0 := by
  have hf := check_form' h
  have hfy := form_args hf hy
  have h4 : t.kind = 4 := by
    by_cases h4 : t.kind = 4
    · exact h4
    · rw [form_bare hf h4] at hy; cases hy
  unfold checkE at h ⊢
  rw [if_pos hfy]
  rw [if_pos hf] at h
  have h1 : ∀ (l : List T), y ∈ l → szL [y] ≤ szL l ∧ dpL [y] ≤ dpL l := by
    intro l
    induction l with
    | nil => intro h; cases h
    | cons x l ih =>
      intro hm
      rw [szL_pair x, dpL_pair x]
      rcases List.mem_cons.1 hm with rfl | hm
      · omega
      · have := ih hm; omega
  have h2 := h1 t.args hy
  have h3 : szL [t] = 1 + t.args.length + szL t.args := by rw [szL_cons, if_pos h4]; simp [szL]
  have h5 : dpL [t] = 1 + dpL t.args := by rw [dpL_cons, if_pos h4]; simp [dpL]
  split at h
  · rw [if_pos (by omega)]
  · cases h
theorem fit_bound {p t : T} {b : List T} (hb : boundB b = true) (ht : checkE t = 0) (hc : closedL [t] = true) : boundB (fitT p t b).2 = true := by
  have hl := boundB_len hb
  rw [boundB, fitT_length, hl]
  simp only [beq_self_eq_true, Bool.true_and, List.all_eq_true]
  have hb' := hb
  simp only [boundB, Bool.and_eq_true, List.all_eq_true] at hb'
  refine fitT_all (Q := fun y => bndB y = true) ?_ p t b (by simp [bndB, ht, hc]) hb'.2
  intro t ht y hy
  simp only [bndB, Bool.and_eq_true, Bool.or_eq_true, beq_iff_eq] at ht ⊢
  refine ⟨check_args ht.1 hy, .inr ?_⟩
  rcases ht.2 with h6 | hc
  · rw [form_bare (check_form' ht.1) (by omega)] at hy; cases hy
  · exact closed_args hc hy
end Go.Proofs.Ytedfepnekjjmnaa
