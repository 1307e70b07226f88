/-
  Contracts and plain laws, joined: Inter InterQ HPlayS HPlayT InterR HPlayU. Conditions stand in each.
-/
import Derived.Test.YtedfepnekjjmnaaGrownN
import Derived.Test.YtedfepnekjjmnaaHeap3
import Derived.Test.YtedfepnekjjmnaaJc
import Derived.Test.YtedfepnekjjmnaaJk
import Derived.Test.YtedfepnekjjmnaaJj
/-
  A region in which three rows grow side by side, each by one element: gone through state by state, not order by order. No condition.
-/
namespace Go.Proofs.Ytedfepnekjjmnaa
open Go.RowKit
set_option linter.unusedSimpArgs false
set_option linter.unusedVariables false
set_option maxRecDepth 100000

/-! ### Three chains -/
def iLst (cW cT cN : List Nat) (L0 : Array Bool) (i j k : Nat) : Array Bool := (cW.take i ++ cT.take j ++ cN.take k).foldl (fun L i => L.setIfInBounds i true) L0
/-- Which states there are: the appends come in turn; where nc, the third chain begins behind the second. -/
def iReach (nc : Bool) (k0 i j k : Nat) : Bool := decide (k0 ≤ k) && (decide (j < 2) || decide (i = 2)) && (decide (k < 3) || decide (j = 2)) && (!nc || decide (k = 0) || decide (j = 2))
def iChk (nc : Bool) (ops : Array Oper) (cW cT cN : List Nat) (L0 : Array Bool) (k0 : Nat) : Bool :=
  (List.range 3).all fun i => (List.range 3).all fun j => (List.range 4).all fun k => !iReach nc k0 i j k || (decide (i = 2) && decide (j = 2) && decide (k = 3)) ||
    (decide (Region.ready .any ops (iLst cW cT cN L0 i j k) ≠ []) && (Region.ready .any ops (iLst cW cT cN L0 i j k)).all fun m =>
      (decide (i < 2) && decide (m = cW.getD i 0) && iReach nc k0 (i + 1) j k && decide (iLst cW cT cN L0 (i + 1) j k = (iLst cW cT cN L0 i j k).setIfInBounds m true)) ||
      (decide (j < 2) && decide (m = cT.getD j 0) && iReach nc k0 i (j + 1) k && decide (iLst cW cT cN L0 i (j + 1) k = (iLst cW cT cN L0 i j k).setIfInBounds m true)) ||
      (decide (k < 3) && decide (m = cN.getD k 0) && iReach nc k0 i j (k + 1) && decide (iLst cW cT cN L0 i j (k + 1) = (iLst cW cT cN L0 i j k).setIfInBounds m true)))
section
variable {P : Program} {ops : Array Oper} {Q : Exit → Act → World → Prop} {S : World → Prop}
theorem rg_chains {nc : Bool} {w0 w1 t0 t1 n0 n1 n2 k0 fuel : Nat} {L0 : Array Bool} (hchk : iChk nc ops [w0, w1] [t0, t1] [n0, n1, n2] L0 k0 = true) (Inv : Nat → Nat → Nat → Act → World → Prop)
    (hS : ∀ i j k a w, Inv i j k a w → S w)
    (hW : ∀ i j k, i < 2 → ∃ o, ops[[w0, w1].getD i 0]? = some o ∧ o.guard = none ∧ ∀ a w, Inv i j k a w → ∀ K : Act → World → Prop, (∀ a' w', Inv (i + 1) j k a' w' → K a' w') → Oper.wp P o a w K (NoPanic Q))
    (hT : ∀ i j k, j < 2 → ∃ o, ops[[t0, t1].getD j 0]? = some o ∧ o.guard = none ∧ ∀ a w, Inv i j k a w → ∀ K : Act → World → Prop, (∀ a' w', Inv i (j + 1) k a' w' → K a' w') → Oper.wp P o a w K (NoPanic Q))
    (hN : ∀ i j k, k < 3 → k0 ≤ k → ∃ o, ops[[n0, n1, n2].getD k 0]? = some o ∧ o.guard = none ∧ ∀ a w, Inv i j k a w → ∀ K : Act → World → Prop, (∀ a' w', Inv i j (k + 1) a' w' → K a' w') → Oper.wp P o a w K (NoPanic Q))
    (hfin : ∀ a w, Inv 2 2 3 a w → wpAnyH P .any ops (NoPanic Q) S fuel (iLst [w0, w1] [t0, t1] [n0, n1, n2] L0 2 2 3) a w) :
    ∀ n i j k, i ≤ 2 → j ≤ 2 → k ≤ 3 → iReach nc k0 i j k = true → n = (2 - i) + (2 - j) + (3 - k) → ∀ a w, Inv i j k a w → wpAnyH P .any ops (NoPanic Q) S (fuel + n) (iLst [w0, w1] [t0, t1] [n0, n1, n2] L0 i j k) a w := by
  intro n
  induction n with
  | zero =>
    intro i j k hi hj hk _ hn a w hI
    obtain rfl : i = 2 := by omega
    obtain rfl : j = 2 := by omega
    obtain rfl : k = 3 := by omega
    exact hfin a w hI
  | succ n ih =>
    intro i j k hi hj hk hre hn a w hI
    have hc := List.all_eq_true.1 (List.all_eq_true.1 (List.all_eq_true.1 hchk i (List.mem_range.2 (by omega))) j (List.mem_range.2 (by omega))) k (List.mem_range.2 (by omega))
    have hk0 : k0 ≤ k := by unfold iReach at hre; simp at hre; omega
    have hnf : ¬ (i = 2 ∧ j = 2 ∧ k = 3) := fun h => by omega
    simp only [hre, Bool.not_true, Bool.false_or, Bool.or_eq_true, Bool.and_eq_true, decide_eq_true_eq] at hc
    rcases hc with ⟨⟨h1, h2⟩, h3⟩ | ⟨hne, hall⟩
    · exact absurd ⟨h1, h2, h3⟩ hnf
    refine wpAnyH_all rfl hne fun m hm => ?_
    have hm' := List.all_eq_true.1 hall m hm
    simp only [Bool.or_eq_true, Bool.and_eq_true, decide_eq_true_eq] at hm'
    have go : ∀ (o : Oper) (st : Act → World → Prop) (L : Array Bool), ops[m]? = some o → o.guard = none → (∀ K : Act → World → Prop, (∀ a' w', st a' w' → K a' w') → Oper.wp P o a w K (NoPanic Q)) → (∀ a' w', st a' w' → S w' ∧ wpAnyH P .any ops (NoPanic Q) S (fuel + n) L a' w') → L = (iLst [w0, w1] [t0, t1] [n0, n1, n2] L0 i j k).setIfInBounds m true →
        wpOp P ops (NoPanic Q) m (fun a' w' => S w' ∧ wpAnyH P .any ops (NoPanic Q) S (fuel + n) ((iLst [w0, w1] [t0, t1] [n0, n1, n2] L0 i j k).setIfInBounds m true) a' w') a w := fun o st L ho hg h1 h2 hL => by
      subst hL
      have hwt : ∀ y, Region.wanted o y = true := fun y => by simp [Region.wanted, hg]
      unfold wpOp
      simp only [ho, hwt, if_true]
      exact .inl (h1 _ h2)
    rcases hm' with (⟨⟨⟨g, e⟩, hr⟩, hl⟩ | ⟨⟨⟨g, e⟩, hr⟩, hl⟩) | ⟨⟨⟨g, e⟩, hr⟩, hl⟩
    · subst e
      obtain ⟨o, ho, hg, hop⟩ := hW i j k g
      exact go o _ _ ho hg (hop a w hI) (fun a' w' h => ⟨hS _ _ _ _ _ h, ih (i + 1) j k (by omega) hj hk hr (by omega) a' w' h⟩) hl
    · subst e
      obtain ⟨o, ho, hg, hop⟩ := hT i j k g
      exact go o _ _ ho hg (hop a w hI) (fun a' w' h => ⟨hS _ _ _ _ _ h, ih i (j + 1) k hi (by omega) hk hr (by omega) a' w' h⟩) hl
    · subst e
      obtain ⟨o, ho, hg, hop⟩ := hN i j k g hk0
      exact go o _ _ ho hg (hop a w hI) (fun a' w' h => ⟨hS _ _ _ _ _ h, ih i j (k + 1) hi hj (by omega) hr (by omega) a' w' h⟩) hl
end
end Go.Proofs.Ytedfepnekjjmnaa

/-
  Words, terms and nodes grow side by side by one element each, in whatever order. Printed by it.py. No condition.
-/
namespace Go.Proofs.Ytedfepnekjjmnaa
open Go.RowKit
set_option linter.unusedSimpArgs false
set_option linter.unusedVariables false
set_option maxRecDepth 100000

/-! ### Slots -/
theorem put_getD (b : Act) (s t : Nat) (v : Value) : (b.put (some s) v).tmps.getD t undef = if t = s ∧ s < b.tmps.size then v else b.tmps.getD t undef := by
  unfold Act.put
  simp only [Array.getD_eq_getD_getElem?, Array.getElem?_setIfInBounds]
  by_cases h : s = t
  · subst h
    by_cases h2 : s < b.tmps.size
    · simp [h2]
    · simp [h2]
  · have h' : ¬ t = s := fun e => h e.symm
    simp [h, h']
theorem put_size (b : Act) (s : Nat) (v : Value) : (b.put (some s) v).tmps.size = b.tmps.size := by simp [Act.put]
theorem put_defers (b : Act) (s : Nat) (v : Value) : (b.put (some s) v).defers = b.defers := rfl
theorem act_ext {a b : Act} (h1 : a.defers = b.defers) (h2 : a.tmps.size = b.tmps.size) (h3 : ∀ t, a.tmps.getD t undef = b.tmps.getD t undef) : a = b := by
  obtain ⟨at', ad⟩ := a
  obtain ⟨bt, bd⟩ := b
  simp only at h1 h2 h3
  subst h1
  congr 1
  refine Array.ext h2 fun i hi hj => ?_
  have := h3 i
  simpa [Array.getD_eq_getD_getElem?, hi, hj] using this
theorem fold_put (a : Act) : ∀ (sl : List Nat) (b : Act), (∀ s ∈ sl, s < b.tmps.size) → (sl.foldl (fun b s => b.put (some s) (a.tmps.getD s undef)) b).defers = b.defers ∧ (sl.foldl (fun b s => b.put (some s) (a.tmps.getD s undef)) b).tmps.size = b.tmps.size ∧
    ∀ t, (sl.foldl (fun b s => b.put (some s) (a.tmps.getD s undef)) b).tmps.getD t undef = if t ∈ sl then a.tmps.getD t undef else b.tmps.getD t undef
  | [], b, _ => ⟨rfl, rfl, fun t => by simp⟩
  | s :: sl, b, h => by
    obtain ⟨h1, h2, h3⟩ := fold_put a sl (b.put (some s) (a.tmps.getD s undef)) fun u hu => by rw [put_size]; exact h u (List.mem_cons_of_mem _ hu)
    refine ⟨h1, by rw [List.foldl_cons, h2, put_size], fun t => ?_⟩
    rw [List.foldl_cons, h3, put_getD]
    have hs := h s (List.mem_cons_self ..)
    by_cases e : t = s
    · subst e; simp [hs]
    · by_cases m : t ∈ sl
      · simp [m]
      · simp [e, m]
def AgreeA (sl : List Nat) (a0 a : Act) : Prop := a.defers = a0.defers ∧ a.tmps.size = a0.tmps.size ∧ ∀ t, t ∉ sl → a.tmps.getD t undef = a0.tmps.getD t undef
theorem AgreeA.refl (sl : List Nat) (a : Act) : AgreeA sl a a := ⟨rfl, rfl, fun _ _ => rfl⟩
theorem AgreeA.put {sl : List Nat} {a0 a : Act} (h : AgreeA sl a0 a) {s : Nat} (hs : s ∈ sl) (v : Value) : AgreeA sl a0 (a.put (some s) v) :=
  ⟨h.1, by rw [put_size]; exact h.2.1, fun t ht => by
    have hne : ¬ (t = s ∧ s < a.tmps.size) := fun e => ht (by rw [e.1]; exact hs)
    rw [put_getD, if_neg hne]; exact h.2.2 t ht⟩
theorem AgreeA.eq {sl : List Nat} {a0 a : Act} (h : AgreeA sl a0 a) (hs : ∀ s ∈ sl, s < a0.tmps.size) : a = sl.foldl (fun b s => b.put (some s) (a.tmps.getD s undef)) a0 := by
  obtain ⟨h1, h2, h3⟩ := fold_put a sl a0 hs
  refine act_ext (h.1.trans h1.symm) (h.2.1.trans h2.symm) fun t => ?_
  rw [h3]
  by_cases m : t ∈ sl
  · rw [if_pos m]
  · rw [if_neg m, h.2.2 t m]
theorem eval_put_ne (a : Act) {s t : Nat} (v : Value) (h : t ≠ s) : (a.put (some s) v).eval (.tmp t) = a.eval (.tmp t) := by
  show (a.put (some s) v).tmps.getD t undef = a.tmps.getD t undef
  rw [put_getD, if_neg fun e => h e.1]
theorem eval_put_eq (a : Act) {s : Nat} (v : Value) (h : s < a.tmps.size) : (a.put (some s) v).eval (.tmp s) = v := by
  show (a.put (some s) v).tmps.getD s undef = v
  rw [put_getD, if_pos ⟨rfl, h⟩]
/-! ### Worlds -/
def SameA (P F : Nat → Prop) (w w' : World) : Prop := w.heap.size ≤ w'.heap.size ∧ ∀ b, (P b ∨ F b) → b < w.heap.size → w'.heap[b]? = w.heap[b]?
theorem SameA.refl (P F : Nat → Prop) (w : World) : SameA P F w w := ⟨Nat.le_refl _, fun _ _ _ => rfl⟩
theorem SameA.trans {P F : Nat → Prop} {a b c : World} (h : SameA P F a b) (k : SameA P F b c) : SameA P F a c :=
  ⟨Nat.le_trans h.1 k.1, fun x hx hl => (k.2 x hx (Nat.lt_of_lt_of_le hl h.1)).trans (h.2 x hx hl)⟩
theorem SameA.below {P F : Nat → Prop} {w w' : World} (h : Below w.heap.size w w') : SameA P F w w' := ⟨h.size, fun b _ hl => h.block b hl⟩
theorem SameA.mono {P P' F : Nat → Prop} {w w' : World} (h : SameA P' F w w') (hP : ∀ b, P b → P' b) : SameA P F w w' := ⟨h.1, fun b hb hl => h.2 b (hb.imp (hP b) id) hl⟩
/-- What P says, and the blocks of rows. -/
def ownS (P : Nat → Prop) (rest : List Rw) (b : Nat) : Prop := P b ∨ ∃ r ∈ rest, r.v.ownBlock = some b
theorem RQ.stayO {P F : Nat → Prop} {w0 w w' : World} {bs : List (Nat × List Value)} {l1 l2 : List Rw} {r : Rw} (h : RQ P F w0 bs w (l1 ++ r :: l2)) (hg : w.grownBy w' r.v.ownBlock) {s : Rw} (hs : s ∈ l2) (b : Nat) (hb : s.v.ownBlock = some b) (hl : b < w.heap.size) : w'.heap[b]? = w.heap[b]? :=
  hg.block b hl fun e => ((List.pairwise_append.1 h.ap).2.1 |> List.pairwise_cons.1).1 s hs b e.symm hb
/-! ### How far a chain is -/
def ChSt {X : Type} (E : El X) (Fe : ElT E) (sb sa : Nat) (v : Value) (xs : List X) (x : X) (c : List Value) (st : Nat) (a : Act) (bs : List (Nat × List Value)) (r : Rw) : Prop :=
  (st = 0 ∧ r = ⟨X, E, Fe, v, xs⟩) ∨ (st = 1 ∧ r = ⟨X, E, Fe, v, xs⟩ ∧ ∃ g, a.eval (.tmp sb) = .slice (some ⟨g, 0, none⟩) 1 1 ∧ (g, c) ∈ bs) ∨
    (st = 2 ∧ ∃ g f cap, r = ⟨X, E, Fe, .slice (some ⟨g, f, none⟩) (xs.length + 1) cap, xs ++ [x]⟩ ∧ a.eval (.tmp sa) = .slice (some ⟨g, f, none⟩) (xs.length + 1) cap)
theorem ChSt.mono {X : Type} {E : El X} {Fe : ElT E} {sb sa : Nat} {v : Value} {xs : List X} {x : X} {c : List Value} {st : Nat} {a a' : Act} {bs bs' : List (Nat × List Value)} {r : Rw} (h : ChSt E Fe sb sa v xs x c st a bs r) (h1 : a'.eval (.tmp sb) = a.eval (.tmp sb)) (h2 : a'.eval (.tmp sa) = a.eval (.tmp sa)) (hb : ∀ p ∈ bs, p ∈ bs') : ChSt E Fe sb sa v xs x c st a' bs' r := by
  rcases h with h | ⟨e, er, g, hg, hm⟩ | ⟨e, g, f, cap, er, hg⟩
  · exact .inl h
  · exact .inr (.inl ⟨e, er, g, by rw [h1]; exact hg, hb _ hm⟩)
  · exact .inr (.inr ⟨e, g, f, cap, er, by rw [h2]; exact hg⟩)
section
variable (sbW saW sbT saT spN sbN saN : Nat) (a0 : Act) (P F : Nat → Prop) (w0 wd : World) (bs0 : List (Nat × List Value)) (rest : List Rw) (vW : Value) (xs : List Wrd) (x : Wrd) (vT : Value) (ts : List T) (t : T) (cT : List Value) (vN : Value) (ns : List (Option Nat)) (Ψ : Option Nat → (Nat → Prop) → World → Prop)
def IInv (i j k : Nat) (a : Act) (w : World) : Prop :=
  ∃ (P' : Nat → Prop) (bs1 : List (Nat × List Value)) (rw' rt rn : Rw) (o : Option Nat), AgreeA [sbW, saW, sbT, saT, spN, sbN, saN] a0 a ∧ (∀ b, P b → P' b) ∧ RQ P' F w0 (bs1 ++ bs0) w (rw' :: rt :: rn :: rest) ∧ SameA (ownS P rest) F wd w ∧
    ChSt wrdE wrdF sbW saW vW xs x [.int .i64 x.kind, .int .i64 x.n] i a (bs1 ++ bs0) rw' ∧ ChSt termE termF sbT saT vT ts t cT j a (bs1 ++ bs0) rt ∧
    ((k = 0 ∧ rn = rN vN ns) ∨ ∃ k', k = k' + 1 ∧ ChSt ptrE ptrF sbN saN vN ns o [optr o] k' a (bs1 ++ bs0) rn ∧ a.eval (.tmp spN) = optr o ∧ Ψ o P' w)
end
section
variable {sbW saW sbT saT spN sbN saN : Nat} {a0 : Act} {P F : Nat → Prop} {w0 wd : World} {bs0 : List (Nat × List Value)} {rest : List Rw} {vW : Value} {xs : List Wrd} {x : Wrd} {vT : Value} {ts : List T} {t : T} {cT : List Value} {vN : Value} {ns : List (Option Nat)} {Ψ : Option Nat → (Nat → Prop) → World → Prop}
variable (hnd : [sbW, saW, sbT, saT, spN, sbN, saN].Nodup) (hlt : ∀ s ∈ [sbW, saW, sbT, saT, spN, sbN, saN], s < a0.tmps.size) (hΨ : ∀ o (P' : Nat → Prop) w w', Ψ o P' w → w.heap.size ≤ w'.heap.size → (∀ b, P' b → b < w.heap.size → w'.heap[b]? = w.heap[b]?) → Ψ o P' w')
variable {o : Oper} {Q : Exit → Act → World → Prop} {K : Act → World → Prop} {a : Act} {w : World} {i j k : Nat}
include hnd hlt hΨ
theorem ii_buildW (seW : Nat) (hse : a0.eval (.tmp seW) = .agg #[.int .i64 x.kind, .int .i64 x.n]) (hso : seW ∉ [sbW, saW, sbT, saT, spN, sbN, saN]) (ho : o.op = .buildSlice 67 1 #[(0, .tmp seW)]) (hd : o.dst = some sbW) (h : IInv sbW saW sbT saT spN sbN saN a0 P F w0 wd bs0 rest vW xs x vT ts t cT vN ns Ψ 0 j k a w) (hK : ∀ a' w', IInv sbW saW sbT saT spN sbN saN a0 P F w0 wd bs0 rest vW xs x vT ts t cT vN ns Ψ 1 j k a' w' → K a' w') : Oper.wp Try.prog o a w K Q := by
  obtain ⟨P', bs1, rw', rt, rn, o1, hA, hP, hR, hS, hcW, hcT', hcN⟩ := h
  have nsaW : saW ≠ sbW := by intro e; subst e; simp at hnd
  have nsbT : sbT ≠ sbW := by intro e; subst e; simp at hnd
  have nsaT : saT ≠ sbW := by intro e; subst e; simp at hnd
  have nspN : spN ≠ sbW := by intro e; subst e; simp at hnd
  have nsbN : sbN ≠ sbW := by intro e; subst e; simp at hnd
  have nsaN : saN ≠ sbW := by intro e; subst e; simp at hnd
  refine buildW1 (.tmp seW) ho ((hA.2.2 seW hso).trans hse) ?_
  rw [hd]
  have hbs : ∀ p ∈ bs1 ++ bs0, p ∈ ((w.heap.size, [.int .i64 x.kind, .int .i64 x.n]) :: bs1) ++ bs0 := fun p hp => List.mem_cons_of_mem _ hp
  have hsz : sbW < a.tmps.size := by rw [hA.2.1]; exact hlt _ (by simp)
  have hB := below_alloc w (.cells #[.int .i64 x.kind, .int .i64 x.n] 69)
  have hr1 : rw' = ⟨_, wrdE, wrdF, vW, xs⟩ := by
    rcases hcW with ⟨-, h⟩ | ⟨h, -⟩ | ⟨h, -⟩
    · exact h
    · cases h
    · cases h
  exact hK _ _ ⟨P', (w.heap.size, _) :: bs1, rw', rt, rn, o1, hA.put (by simp) _, hP, hR.alloc #[.int .i64 x.kind, .int .i64 x.n] _ rfl, hS.trans (SameA.below hB), (.inr (.inl ⟨rfl, hr1, w.heap.size, eval_put_eq _ _ hsz, by simp⟩)), (hcT'.mono (eval_put_ne _ _ nsbT) (eval_put_ne _ _ nsaT) hbs), (hcN.imp id fun ⟨k', e, h1, h2, h3⟩ => ⟨k', e, h1.mono (eval_put_ne _ _ nsbN) (eval_put_ne _ _ nsaN) hbs, (eval_put_ne _ _ nspN).trans h2, hΨ _ _ _ _ h3 hB.size fun b _ hl => hB.block b hl⟩)⟩
theorem ii_appW (srW : Nat) (hsr : a0.eval (.tmp srW) = vW) (hso : srW ∉ [sbW, saW, sbT, saT, spN, sbN, saN]) (hn : xs.length + 1 ≤ 274877906944) (ho : o.op = .call { callee := .builtin .append, args := #[.tmp srW, .tmp sbW], argTypes := #[wrdF.sl, wrdF.sl] }) (hd : o.dst = some saW) (h : IInv sbW saW sbT saT spN sbN saN a0 P F w0 wd bs0 rest vW xs x vT ts t cT vN ns Ψ 1 j k a w) (hK : ∀ a' w', IInv sbW saW sbT saT spN sbN saN a0 P F w0 wd bs0 rest vW xs x vT ts t cT vN ns Ψ 2 j k a' w' → K a' w') : Oper.wp Try.prog o a w K Q := by
  obtain ⟨P', bs1, rw', rt, rn, o1, hA, hP, hR, hS, hcW, hcT', hcN⟩ := h
  have nsbW : sbW ≠ saW := by intro e; subst e; simp at hnd
  have nsbT : sbT ≠ saW := by intro e; subst e; simp at hnd
  have nsaT : saT ≠ saW := by intro e; subst e; simp at hnd
  have nspN : spN ≠ saW := by intro e; subst e; simp at hnd
  have nsbN : sbN ≠ saW := by intro e; subst e; simp at hnd
  have nsaN : saN ≠ saW := by intro e; subst e; simp at hnd
  obtain ⟨g, hg, hm, rfl⟩ : ∃ g, a.eval (.tmp sbW) = .slice (some ⟨g, 0, none⟩) 1 1 ∧ (g, [.int .i64 x.kind, .int .i64 x.n]) ∈ bs1 ++ bs0 ∧ rw' = ⟨_, wrdE, wrdF, vW, xs⟩ := by
    rcases hcW with ⟨h, -⟩ | ⟨-, h, g, h1, h2⟩ | ⟨h, -⟩
    · cases h
    · exact ⟨g, h1, h2, h⟩
    · cases h
  have hsz : saW < a.tmps.size := by rw [hA.2.1]; exact hlt _ (by simp)
  refine wp_growQ (.tmp srW) (.tmp sbW) wrdF ho [] (rt :: rn :: rest) ((hA.2.2 srW hso).trans hsr) hg hR hm rfl rfl hn ?_
  intro gq fq cap w' hR' hg'
  rw [hd]
  have hbs : ∀ p ∈ bs1 ++ bs0, p ∈ bs1 ++ bs0 := fun p hp => hp
  have hst : ∀ b, P' b ∨ F b → w'.heap[b]? = w.heap[b]? := fun b hb => RQ.stay (l1 := []) (l2 := (rt :: rn :: rest)) (r := ⟨_, wrdE, wrdF, vW, xs⟩) hR hg' b hb
  exact hK _ _ ⟨P', bs1, _, rt, rn, o1, hA.put (by simp) _, hP, hR', hS.trans ⟨hg'.size, fun b hb hl => hb.elim (fun h => h.elim (fun h => hst b (.inl (hP b h))) fun ⟨r, hr, e⟩ => RQ.stayO (l1 := []) (l2 := (rt :: rn :: rest)) (r := ⟨_, wrdE, wrdF, vW, xs⟩) hR hg' (List.mem_cons_of_mem _ (List.mem_cons_of_mem _ hr)) b e hl) (fun h => hst b (.inr h))⟩, (.inr (.inr ⟨rfl, gq, fq, cap, rfl, eval_put_eq _ _ hsz⟩)), (hcT'.mono (eval_put_ne _ _ nsbT) (eval_put_ne _ _ nsaT) hbs), (hcN.imp id fun ⟨k', e, h1, h2, h3⟩ => ⟨k', e, h1.mono (eval_put_ne _ _ nsbN) (eval_put_ne _ _ nsaN) hbs, (eval_put_ne _ _ nspN).trans h2, hΨ _ _ _ _ h3 hg'.size fun b hb _ => hst b (.inl hb)⟩)⟩
theorem ii_buildT (seT : Nat) {c0 c1 c2 c3 : Value} (hcT : cT = [c0, c1, c2, c3]) (hse : a0.eval (.tmp seT) = .agg #[c0, c1, c2, c3]) (hso : seT ∉ [sbW, saW, sbT, saT, spN, sbN, saN]) (ho : o.op = .buildSlice 27 1 #[(0, .tmp seT)]) (hd : o.dst = some sbT) (h : IInv sbW saW sbT saT spN sbN saN a0 P F w0 wd bs0 rest vW xs x vT ts t cT vN ns Ψ i 0 k a w) (hK : ∀ a' w', IInv sbW saW sbT saT spN sbN saN a0 P F w0 wd bs0 rest vW xs x vT ts t cT vN ns Ψ i 1 k a' w' → K a' w') : Oper.wp Try.prog o a w K Q := by
  obtain ⟨P', bs1, rw', rt, rn, o1, hA, hP, hR, hS, hcW, hcT', hcN⟩ := h
  have nsbW : sbW ≠ sbT := by intro e; subst e; simp at hnd
  have nsaW : saW ≠ sbT := by intro e; subst e; simp at hnd
  have nsaT : saT ≠ sbT := by intro e; subst e; simp at hnd
  have nspN : spN ≠ sbT := by intro e; subst e; simp at hnd
  have nsbN : sbN ≠ sbT := by intro e; subst e; simp at hnd
  have nsaN : saN ≠ sbT := by intro e; subst e; simp at hnd
  subst hcT
  refine build1 (.tmp seT) ho ((hA.2.2 seT hso).trans hse) ?_
  rw [hd]
  have hbs : ∀ p ∈ bs1 ++ bs0, p ∈ ((w.heap.size, [c0, c1, c2, c3]) :: bs1) ++ bs0 := fun p hp => List.mem_cons_of_mem _ hp
  have hsz : sbT < a.tmps.size := by rw [hA.2.1]; exact hlt _ (by simp)
  have hB := below_alloc w (.cells #[c0, c1, c2, c3] 29)
  have hr1 : rt = ⟨_, termE, termF, vT, ts⟩ := by
    rcases hcT' with ⟨-, h⟩ | ⟨h, -⟩ | ⟨h, -⟩
    · exact h
    · cases h
    · cases h
  exact hK _ _ ⟨P', (w.heap.size, _) :: bs1, rw', rt, rn, o1, hA.put (by simp) _, hP, hR.alloc #[c0, c1, c2, c3] _ rfl, hS.trans (SameA.below hB), (hcW.mono (eval_put_ne _ _ nsbW) (eval_put_ne _ _ nsaW) hbs), (.inr (.inl ⟨rfl, hr1, w.heap.size, eval_put_eq _ _ hsz, by simp⟩)), (hcN.imp id fun ⟨k', e, h1, h2, h3⟩ => ⟨k', e, h1.mono (eval_put_ne _ _ nsbN) (eval_put_ne _ _ nsaN) hbs, (eval_put_ne _ _ nspN).trans h2, hΨ _ _ _ _ h3 hB.size fun b _ hl => hB.block b hl⟩)⟩
theorem ii_appT (srT : Nat) (hsr : a0.eval (.tmp srT) = vT) (hso : srT ∉ [sbW, saW, sbT, saT, spN, sbN, saN]) (hn : ts.length + 1 ≤ 274877906944) (htE : termE.C P wd t cT) (ho : o.op = .call { callee := .builtin .append, args := #[.tmp srT, .tmp sbT], argTypes := #[termF.sl, termF.sl] }) (hd : o.dst = some saT) (h : IInv sbW saW sbT saT spN sbN saN a0 P F w0 wd bs0 rest vW xs x vT ts t cT vN ns Ψ i 1 k a w) (hK : ∀ a' w', IInv sbW saW sbT saT spN sbN saN a0 P F w0 wd bs0 rest vW xs x vT ts t cT vN ns Ψ i 2 k a' w' → K a' w') : Oper.wp Try.prog o a w K Q := by
  obtain ⟨P', bs1, rw', rt, rn, o1, hA, hP, hR, hS, hcW, hcT', hcN⟩ := h
  have nsbW : sbW ≠ saT := by intro e; subst e; simp at hnd
  have nsaW : saW ≠ saT := by intro e; subst e; simp at hnd
  have nsbT : sbT ≠ saT := by intro e; subst e; simp at hnd
  have nspN : spN ≠ saT := by intro e; subst e; simp at hnd
  have nsbN : sbN ≠ saT := by intro e; subst e; simp at hnd
  have nsaN : saN ≠ saT := by intro e; subst e; simp at hnd
  obtain ⟨g, hg, hm, rfl⟩ : ∃ g, a.eval (.tmp sbT) = .slice (some ⟨g, 0, none⟩) 1 1 ∧ (g, cT) ∈ bs1 ++ bs0 ∧ rt = ⟨_, termE, termF, vT, ts⟩ := by
    rcases hcT' with ⟨h, -⟩ | ⟨-, h, g, h1, h2⟩ | ⟨h, -⟩
    · cases h
    · exact ⟨g, h1, h2, h⟩
    · cases h
  have hsz : saT < a.tmps.size := by rw [hA.2.1]; exact hlt _ (by simp)
  refine wp_growQ (.tmp srT) (.tmp sbT) termF ho [rw'] (rn :: rest) ((hA.2.2 srT hso).trans hsr) hg hR hm (termE.to htE (fun b hb _ => hP b hb) fun b hb hl => hS.2 b (.inl (.inl hb)) hl) rfl hn ?_
  intro gq fq cap w' hR' hg'
  rw [hd]
  have hbs : ∀ p ∈ bs1 ++ bs0, p ∈ bs1 ++ bs0 := fun p hp => hp
  have hst : ∀ b, P' b ∨ F b → w'.heap[b]? = w.heap[b]? := fun b hb => RQ.stay (l1 := [rw']) (l2 := (rn :: rest)) (r := ⟨_, termE, termF, vT, ts⟩) hR hg' b hb
  exact hK _ _ ⟨P', bs1, rw', _, rn, o1, hA.put (by simp) _, hP, hR', hS.trans ⟨hg'.size, fun b hb hl => hb.elim (fun h => h.elim (fun h => hst b (.inl (hP b h))) fun ⟨r, hr, e⟩ => RQ.stayO (l1 := [rw']) (l2 := (rn :: rest)) (r := ⟨_, termE, termF, vT, ts⟩) hR hg' (List.mem_cons_of_mem _ hr) b e hl) (fun h => hst b (.inr h))⟩, (hcW.mono (eval_put_ne _ _ nsbW) (eval_put_ne _ _ nsaW) hbs), (.inr (.inr ⟨rfl, gq, fq, cap, rfl, eval_put_eq _ _ hsz⟩)), (hcN.imp id fun ⟨k', e, h1, h2, h3⟩ => ⟨k', e, h1.mono (eval_put_ne _ _ nsbN) (eval_put_ne _ _ nsaN) hbs, (eval_put_ne _ _ nspN).trans h2, hΨ _ _ _ _ h3 hg'.size fun b hb _ => hst b (.inl hb)⟩)⟩
theorem ii_buildN  (ho : o.op = .buildSlice 79 1 #[(0, .tmp spN)]) (hd : o.dst = some sbN) (h : IInv sbW saW sbT saT spN sbN saN a0 P F w0 wd bs0 rest vW xs x vT ts t cT vN ns Ψ i j 1 a w) (hK : ∀ a' w', IInv sbW saW sbT saT spN sbN saN a0 P F w0 wd bs0 rest vW xs x vT ts t cT vN ns Ψ i j 2 a' w' → K a' w') : Oper.wp Try.prog o a w K Q := by
  obtain ⟨P', bs1, rw', rt, rn, o1, hA, hP, hR, hS, hcW, hcT', hcN⟩ := h
  rcases hcN with ⟨h0, -⟩ | ⟨k', hk', hcN, hsp, hψ⟩
  · omega
  obtain rfl : k' = 0 := by omega
  have nsbW : sbW ≠ sbN := by intro e; subst e; simp at hnd
  have nsaW : saW ≠ sbN := by intro e; subst e; simp at hnd
  have nsbT : sbT ≠ sbN := by intro e; subst e; simp at hnd
  have nsaT : saT ≠ sbN := by intro e; subst e; simp at hnd
  have nspN : spN ≠ sbN := by intro e; subst e; simp at hnd
  have nsaN : saN ≠ sbN := by intro e; subst e; simp at hnd
  refine buildN1 (.tmp spN) ho hsp ?_
  rw [hd]
  have hbs : ∀ p ∈ bs1 ++ bs0, p ∈ ((w.heap.size, [optr o1]) :: bs1) ++ bs0 := fun p hp => List.mem_cons_of_mem _ hp
  have hsz : sbN < a.tmps.size := by rw [hA.2.1]; exact hlt _ (by simp)
  have hB := below_alloc w (.cells #[optr o1] 82)
  have hr1 : rn = ⟨_, ptrE, ptrF, vN, ns⟩ := by
    rcases hcN with ⟨-, h⟩ | ⟨h, -⟩ | ⟨h, -⟩
    · exact h
    · cases h
    · cases h
  exact hK _ _ ⟨P', (w.heap.size, _) :: bs1, rw', rt, rn, o1, hA.put (by simp) _, hP, hR.alloc #[optr o1] _ rfl, hS.trans (SameA.below hB), (hcW.mono (eval_put_ne _ _ nsbW) (eval_put_ne _ _ nsaW) hbs), (hcT'.mono (eval_put_ne _ _ nsbT) (eval_put_ne _ _ nsaT) hbs), (.inr ⟨1, rfl, .inr (.inl ⟨rfl, hr1, w.heap.size, eval_put_eq _ _ hsz, by simp⟩), (eval_put_ne _ _ nspN).trans hsp, hΨ _ _ _ _ hψ hB.size fun b _ hl => hB.block b hl⟩)⟩
theorem ii_appN (srN : Nat) (hsr : a0.eval (.tmp srN) = vN) (hso : srN ∉ [sbW, saW, sbT, saT, spN, sbN, saN]) (hn : ns.length + 1 ≤ 274877906944) (ho : o.op = .call { callee := .builtin .append, args := #[.tmp srN, .tmp sbN], argTypes := #[ptrF.sl, ptrF.sl] }) (hd : o.dst = some saN) (h : IInv sbW saW sbT saT spN sbN saN a0 P F w0 wd bs0 rest vW xs x vT ts t cT vN ns Ψ i j 2 a w) (hK : ∀ a' w', IInv sbW saW sbT saT spN sbN saN a0 P F w0 wd bs0 rest vW xs x vT ts t cT vN ns Ψ i j 3 a' w' → K a' w') : Oper.wp Try.prog o a w K Q := by
  obtain ⟨P', bs1, rw', rt, rn, o1, hA, hP, hR, hS, hcW, hcT', hcN⟩ := h
  rcases hcN with ⟨h0, -⟩ | ⟨k', hk', hcN, hsp, hψ⟩
  · omega
  obtain rfl : k' = 1 := by omega
  have nsbW : sbW ≠ saN := by intro e; subst e; simp at hnd
  have nsaW : saW ≠ saN := by intro e; subst e; simp at hnd
  have nsbT : sbT ≠ saN := by intro e; subst e; simp at hnd
  have nsaT : saT ≠ saN := by intro e; subst e; simp at hnd
  have nspN : spN ≠ saN := by intro e; subst e; simp at hnd
  have nsbN : sbN ≠ saN := by intro e; subst e; simp at hnd
  obtain ⟨g, hg, hm, rfl⟩ : ∃ g, a.eval (.tmp sbN) = .slice (some ⟨g, 0, none⟩) 1 1 ∧ (g, [optr o1]) ∈ bs1 ++ bs0 ∧ rn = ⟨_, ptrE, ptrF, vN, ns⟩ := by
    rcases hcN with ⟨h, -⟩ | ⟨-, h, g, h1, h2⟩ | ⟨h, -⟩
    · cases h
    · exact ⟨g, h1, h2, h⟩
    · cases h
  have hsz : saN < a.tmps.size := by rw [hA.2.1]; exact hlt _ (by simp)
  refine wp_growQ (.tmp srN) (.tmp sbN) ptrF ho [rw', rt] rest ((hA.2.2 srN hso).trans hsr) hg hR hm rfl rfl hn ?_
  intro gq fq cap w' hR' hg'
  rw [hd]
  have hbs : ∀ p ∈ bs1 ++ bs0, p ∈ bs1 ++ bs0 := fun p hp => hp
  have hst : ∀ b, P' b ∨ F b → w'.heap[b]? = w.heap[b]? := fun b hb => RQ.stay (l1 := [rw', rt]) (l2 := rest) (r := ⟨_, ptrE, ptrF, vN, ns⟩) hR hg' b hb
  exact hK _ _ ⟨P', bs1, rw', rt, _, o1, hA.put (by simp) _, hP, hR', hS.trans ⟨hg'.size, fun b hb hl => hb.elim (fun h => h.elim (fun h => hst b (.inl (hP b h))) fun ⟨r, hr, e⟩ => RQ.stayO (l1 := [rw', rt]) (l2 := rest) (r := ⟨_, ptrE, ptrF, vN, ns⟩) hR hg' hr b e hl) (fun h => hst b (.inr h))⟩, (hcW.mono (eval_put_ne _ _ nsbW) (eval_put_ne _ _ nsaW) hbs), (hcT'.mono (eval_put_ne _ _ nsbT) (eval_put_ne _ _ nsaT) hbs), (.inr ⟨2, rfl, .inr (.inr ⟨rfl, gq, fq, cap, rfl, eval_put_eq _ _ hsz⟩), (eval_put_ne _ _ nspN).trans hsp, hΨ _ _ _ _ hψ hg'.size fun b hb _ => hst b (.inl hb)⟩)⟩
end
end Go.Proofs.Ytedfepnekjjmnaa

/-
  HeapPlays: what stands between two calls, in memory; rows read. No condition.
-/
namespace Go.Proofs.Ytedfepnekjjmnaa
open Go.RowKit
set_option linter.unusedSimpArgs false
set_option linter.unusedVariables false
set_option maxRecDepth 100000

/-- Between two calls. -/
def HPI (P0 : Nat → Prop) (w0 : World) (B : Nat) (room : Int) (M c : Nat) (v7 v8 v9 v10 : Value) (w : World) : Prop :=
  ∃ (Pw F : Nat → Prop) (H : HS) (xs : List Wrd) (ts : List T) (ns : List (Option Nat)) (N : Nat → NodeD) (P : List (Nat × Nat)), (∀ b, P0 b → Pw b) ∧ RQ Pw F w0 [] w [rW v7 xs, rT v8 ts, rN v9 ns] ∧ HeapR F w B room H ∧ HPl room H xs ts ns N P ∧ NodesR Pw w N (P.map (·.1)) ∧
    v10 = .int .i64 (H.ws.length : Int) ∧ H.names.length ≤ c * 2097152 ∧ ns.length ≤ M + c
theorem HPI.below {P0 : Nat → Prop} {w0 w w' : World} {B : Nat} {room : Int} {M c : Nat} {v7 v8 v9 v10 : Value} (h : HPI P0 w0 B room M c v7 v8 v9 v10 w) (hB : Below w.heap.size w w') : HPI P0 w0 B room M c v7 v8 v9 v10 w' := by
  obtain ⟨Pw, F, H, xs, ts, ns, N, P, h1, h2, h3, h4, h5, h6⟩ := h
  exact ⟨Pw, F, H, xs, ts, ns, N, P, h1, h2.below hB, h3.below hB, h4, h5.to (fun _ h _ => h) fun b _ hl => hB.block b hl, h6⟩
def intFQ : ElT intE where
  e := 3
  sl := 24
  bytes := 8
  z := .int .i64 0
  hund := Try.underlying24
  info := info3
  hzs := rfl
  hk := by decide
  hb := by decide
def rI (v : Value) (l : List Int) : Rw := ⟨Int, intE, intFQ, v, l⟩
section
variable {P F G : Nat → Prop} {w0 w w' : World} {bs : List (Nat × List Value)} {rs : List Rw}
theorem RQ.formI {v : Value} {l : List Int} (h : RQ P F w0 bs w (rI v l :: rs)) : ∃ a cap, v = .slice a l.length cap := by
  obtain ⟨a, c, e, -⟩ := (h.rx (List.mem_cons_self ..)).form
  exact ⟨a, c, e⟩
theorem RQ.form3 {u v x : Value} {ws : List Wrd} {us : List T} {ms : List (Option Nat)} (h : RQ P F w0 bs w (rW u ws :: rT v us :: rN x ms :: rs)) : (∃ a cap, u = .slice a ws.length cap) ∧ (∃ a cap, v = .slice a us.length cap) ∧ ∃ a cap, x = .slice a ms.length cap := by
  obtain ⟨a, c, e, -⟩ := (h.rx (List.mem_cons_self ..)).form
  obtain ⟨a2, c2, e2, -⟩ := (h.rx (List.mem_cons_of_mem _ (List.mem_cons_self ..))).form
  obtain ⟨a3, c3, e3, -⟩ := (h.rx (List.mem_cons_of_mem _ (List.mem_cons_of_mem _ (List.mem_cons_self ..)))).form
  exact ⟨⟨a, c, e⟩, ⟨a2, c2, e2⟩, a3, c3, e3⟩
theorem RQ.addr {r : Rw} {a : Option Addr} {n cap : Nat} (h : RQ P F w0 bs w rs) (hm : r ∈ rs) (hv : r.v = .slice a n cap) (hl : 0 < r.l.length) : ∃ b o, a = some ⟨b, o, none⟩ := by
  have h1 := h.rx hm
  rw [hv] at h1
  exact h1.addr r.F.hk hl
theorem RQ.atW {b o n cap : Nat} {xs : List Wrd} (h : RQ P F w0 bs w rs) (hm : rW (.slice (some ⟨b, o, none⟩) n cap) xs ∈ rs) {j : Nat} (hj : j < xs.length) :
    w.cell? ⟨b, o + j * 2, none⟩ = some (.int .i64 xs[j].kind) ∧ w.cell? ⟨b, o + j * 2 + 1, none⟩ = some (.int .i64 xs[j].n) := by
  obtain ⟨c, rfl, hc⟩ := RX.elem (h.rx hm) j hj
  exact ⟨(hc 0 _ rfl).2, (hc 1 _ rfl).2⟩
theorem RQ.atT {b o n cap : Nat} {ts : List T} (h : RQ P F w0 bs w rs) (hm : rT (.slice (some ⟨b, o, none⟩) n cap) ts ∈ rs) {j : Nat} (hj : j < ts.length) :
    ∃ a c, termE.C P w ts[j] [.int .i64 ts[j].kind, .int .i64 ts[j].n, .string ts[j].name, .slice a ts[j].args.length c] ∧
      w.cell? ⟨b, o + j * 4, none⟩ = some (.int .i64 ts[j].kind) ∧ w.cell? ⟨b, o + j * 4 + 1, none⟩ = some (.int .i64 ts[j].n) ∧ w.cell? ⟨b, o + j * 4 + 2, none⟩ = some (.string ts[j].name) ∧ w.cell? ⟨b, o + j * 4 + 3, none⟩ = some (.slice a ts[j].args.length c) := by
  obtain ⟨c, h1, hc⟩ := RX.elem (h.rx hm) j hj
  obtain ⟨a, cap, rfl, h2, h3⟩ := h1
  exact ⟨a, cap, ⟨a, cap, rfl, h2, h3⟩, (hc 0 _ rfl).2, (hc 1 _ rfl).2, (hc 2 _ rfl).2, (hc 3 _ rfl).2⟩
theorem RQ.atN {b o n cap : Nat} {ns : List (Option Nat)} (h : RQ P F w0 bs w rs) (hm : rN (.slice (some ⟨b, o, none⟩) n cap) ns ∈ rs) {j : Nat} (hj : j < ns.length) : w.cell? ⟨b, o + j, none⟩ = some (optr ns[j]) := by
  obtain ⟨c, rfl, hc⟩ := RX.elem (h.rx hm) j hj
  have h0 := (hc 0 _ rfl).2
  simpa [ptrE, rN] using h0
theorem RQ.atI {b o n cap : Nat} {l : List Int} (h : RQ P F w0 bs w rs) (hm : rI (.slice (some ⟨b, o, none⟩) n cap) l ∈ rs) {j : Nat} (hj : j < l.length) : w.cell? ⟨b, o + j, none⟩ = some (.int .i64 l[j]) := (RX.int (h.rx hm) j hj).2
theorem SameA.cell (h : SameA G F w w') {p : Addr} (hg : G p.block) {u : Value} (hu : w.cell? p = some u) : w'.cell? p = some u :=
  (World.cell?_of_block (h.2 _ (.inl hg) (World.block_lt_of_cell? w _ hu))).trans hu
theorem SameA.cellB (h : SameA G F w w') {b o : Nat} (hg : G b) {u : Value} (hu : w.cell? ⟨b, o, none⟩ = some u) : w'.cell? ⟨b, o, none⟩ = some u := SameA.cell h (p := ⟨b, o, none⟩) hg hu
theorem SameA.grow {l1 l2 : List Rw} {r : Rw} (h : RQ P F w0 bs w (l1 ++ r :: l2)) (hg : w.grownBy w' r.v.ownBlock) : SameA P F w w' := ⟨hg.size, fun b hb _ => h.stay hg b hb⟩
theorem SameA.heapR {B : Nat} {room : Int} {H : HS} (h : SameA P F w w') (hR : HeapR F w B room H) : HeapR F w' B room H := hR.to h.1 (fun _ h => h) fun b hb hl => h.2 b (.inr hb) hl
theorem SameA.nodes {N : Nat → NodeD} {D : List Nat} (h : SameA P F w w') (hN : NodesR P w N D) : NodesR P w' N D := hN.to (fun _ h _ => h) fun b hb hl => h.2 b (.inl hb) hl
theorem SameA.rt {t : T} {v : Value} (h : SameA P F w w') (hT : RT P w t v) : RT P w' t v := hT.to (fun _ h _ => h) fun b hb hl => (h.2 b (.inl hb) hl)
end
end Go.Proofs.Ytedfepnekjjmnaa

/-
  HeapPlays: what a call keeps, and what it makes of what stands. No condition.
-/
namespace Go.Proofs.Ytedfepnekjjmnaa
open Go.RowKit
set_option linter.unusedSimpArgs false
set_option linter.unusedVariables false
set_option maxRecDepth 100000

theorem step_nm {a b n c : Nat} (h0 : n ≤ c * b) (h : a ≤ n + b) : a ≤ (c + 1) * b := by
  rw [Nat.add_mul, Nat.one_mul]
  exact Nat.le_trans h (Nat.add_le_add_right h0 b)
/-- Within a call: rows, heap, nodes and the call's term. -/
structure HPS (P2 F : Nat → Prop) (w0 : World) (bs : List (Nat × List Value)) (rs : List Rw) (B : Nat) (room : Int) (H : HS) (N : Nat → NodeD) (D : List Nat) (t : T) (vt : Value) (w : World) : Prop where
  q : RQ P2 F w0 bs w rs
  h : HeapR F w B room H
  n : NodesR P2 w N D
  t : RT P2 w t vt
section
variable {P0 P2 F : Nat → Prop} {w0 w w' : World} {bs : List (Nat × List Value)} {rs : List Rw} {B : Nat} {room : Int} {H H' : HS} {N : Nat → NodeD} {D : List Nat} {t : T} {vt : Value}
theorem HPS.below (h : HPS P2 F w0 bs rs B room H N D t vt w) (hB : Below w.heap.size w w') : HPS P2 F w0 bs rs B room H N D t vt w' :=
  ⟨h.q.below hB, h.h.below hB, h.n.to (fun _ h _ => h) fun b _ hl => hB.block b hl, h.t.to (fun _ h _ => h) fun b _ hl => hB.block b hl⟩
theorem HPS.alloc (h : HPS P2 F w0 bs rs B room H N D t vt w) (c : Array Value) (e : TypeId) {g : Nat} (hg : g = w.heap.size) : HPS P2 F w0 ((g, c.toList) :: bs) rs B room H N D t vt (w.alloc (.cells c e)) :=
  have h1 := h.below (below_alloc w (.cells c e))
  ⟨h.q.alloc c e hg, h1.h, h1.n, h1.t⟩
theorem HPS.rows (h : HPS P2 F w0 bs rs B room H N D t vt w) {rs' : List Rw} (hs : rs'.Sublist rs) : HPS P2 F w0 bs rs' B room H N D t vt w := ⟨h.q.rows hs, h.h, h.n, h.t⟩
theorem HPS.sub (h : HPS P2 F w0 bs rs B room H N D t vt w) {bs' : List (Nat × List Value)} (hs : ∀ p ∈ bs', p ∈ bs) : HPS P2 F w0 bs' rs B room H N D t vt w := ⟨h.q.sub hs, h.h, h.n, h.t⟩
theorem HPS.keep (h : HPS P2 F w0 bs rs B room H N D t vt w) (hK : Keep F w w') (hH : HeapR (fun b => F b ∨ w.heap.size ≤ b) w' B room H') : HPS P2 (fun b => (F b ∨ w.heap.size ≤ b) ∧ b < w'.heap.size) w0 bs rs B room H' N D t vt w' :=
  ⟨h.q.keep hK fun b hb => hb, hH.low, h.n.to (fun _ h _ => h) fun b hb hl => hK.block b hl (h.q.pb b hb).2.1, h.t.to (fun _ h _ => h) fun b hb hl => hK.block b hl (h.q.pb b hb).2.1⟩
theorem HPS.lt (h : HPS P2 F w0 bs rs B room H N D t vt w) : ∀ b, P2 b → b < w.heap.size := fun b hb => (h.q.pb b hb).1
theorem HPS.ap (h : HPS P2 F w0 bs rs B room H N D t vt w) : ∀ b, P2 b → b < w.heap.size ∧ ¬ F b := fun b hb => ⟨(h.q.pb b hb).1, (h.q.pb b hb).2.1⟩
theorem HPS.cell (h : HPS P2 F w0 bs rs B room H N D t vt w) {g : Nat} {c : List Value} (hg : (g, c) ∈ bs) (j : Nat) (u : Value) (hu : c[j]? = some u) : w.cell? ⟨g, j, none⟩ = some u := h.q.cell hg j u hu
variable {M c : Nat} {v7 v8 v9 : Value} {xs : List Wrd} {ts : List T} {ns : List (Option Nat)} {P : List (Nat × Nat)}
/-- A call that leaves words, terms and nodes as they were. -/
theorem HPI.of (h : HPS P2 F w0 bs rs B room H N (P.map (·.1)) t vt w) (hs : [rW v7 xs, rT v8 ts, rN v9 ns].Sublist rs) (hP : ∀ b, P0 b → P2 b) (hpl : HPl room H xs ts ns N P) {n0 : Nat} (hnm0 : n0 ≤ c * 2097152) (hnm : H.names.length ≤ n0 + 2097152) (hns : ns.length ≤ M + c) : HPI P0 w0 B room M (c + 1) v7 v8 v9 (.int .i64 (H.ws.length : Int)) w :=
  ⟨P2, F, H, xs, ts, ns, N, P, hP, (h.q.rows hs).sub (by simp), h.h, hpl, h.n, rfl, step_nm hnm0 hnm, Nat.le_succ_of_le hns⟩
theorem NG.nodes (h : NG H N P) (hl : H.ws.length ≤ 1000) (ha : ∀ b ∈ P.map (·.1), NodeR P2 w b (N b)) : NodesR P2 w N (P.map (·.1)) := by
  refine ⟨ha, fun b hb c hc => ?_, fun b hb => ?_⟩
  · obtain ⟨q, hq, rfl⟩ := List.mem_map.1 hb
    obtain ⟨i, -, hi⟩ := (h.hd q hq).2.2.to c hc
    exact List.mem_map.2 ⟨(c, i), hi, rfl⟩
  · obtain ⟨q, hq, rfl⟩ := List.mem_map.1 hb
    have := h.few.2 q hq
    omega
/-- What a call of grown made. -/
def GrP (N : Nat → NodeD) (P : List (Nat × Nat)) (t : T) (o : Option Nat) (P' : Nat → Prop) (w : World) : Prop :=
  ∃ N' : Nat → NodeD, (∀ q ∈ P, N' q.1 = N q.1) ∧ Grow1 N' t o ∧ (nd1 N' t o).Nodup ∧ (∀ b ∈ nd1 N' t o, NodeR P' w b (N' b)) ∧ (∀ b ∈ nd1 N' t o, ∀ q ∈ P, q.1 ≠ b) ∧ NodesR P' w N (P.map (·.1))
theorem GrP.to {o : Option Nat} {P' : Nat → Prop} (h : GrP N P t o P' w) (hc : ∀ b, P' b → b < w.heap.size → w'.heap[b]? = w.heap[b]?) : GrP N P t o P' w' := by
  obtain ⟨N', h1, h2, h3, h4, h5, h6⟩ := h
  exact ⟨N', h1, h2, h3, fun b hb => (h4 b hb).to (fun _ h _ => h) hc, h5, h6.to (fun _ h _ => h) hc⟩
theorem GrP.of {P1 : Nat → Prop} {e : Ending} (hN : NodesR P1 w N (P.map (·.1))) (hlt : ∀ b, P1 b → b < w.heap.size) (h : GrownR w N t e w') : Below w.heap.size w w' ∧ ∃ o, e = .returned (optr o) ∧ GrP N P t o (fun b => P1 b ∨ (w.heap.size ≤ b ∧ b < w'.heap.size)) w' := by
  obtain ⟨hB, o, N', he, h1, h2, h3, h4⟩ := h
  have hl : ∀ q ∈ P, q.1 < w.heap.size := fun q hq => hlt _ (hN.at' _ (List.mem_map.2 ⟨q, hq, rfl⟩)).p
  refine ⟨hB, o, he, N', fun q hq => h1 _ (hl q hq), h2, h3, fun b hb => (h4 b hb).to (fun _ h _ => .inr h) fun _ _ _ => rfl, fun b hb q hq e => ?_, hN.to (fun _ h _ => .inl h) fun b _ hl => hB.block b hl⟩
  have := (h4 b hb).p.1
  have := hl q hq
  omega
/-- A put whose word is kept. -/
theorem HPI.put {P3 : Nat → Prop} {o : Option Nat} {x : Wrd} (hq : RQ P3 F w0 bs w [rW v7 (xs ++ [x]), rT v8 (ts ++ [t]), rN v9 (ns ++ [o])]) (hh : HeapR F w B room (putW H t).2) (hP : ∀ b, P0 b → P3 b) (hpl : HPl room H xs ts ns N P) (hx : x = (putW H t).1) (hg : GrP N P t o P3 w)
    (hr : room ≤ 1000) (h0 : checkE t = 0) (h1 : closedL [t] = true) (h2 : ¬ room < H.ws.length + szL [t]) (hnm0 : H.names.length ≤ c * 2097152) (hb : bulkL [t] ≤ 2097152) (hns : ns.length ≤ M + c) : HPI P0 w0 B room M (c + 1) v7 v8 v9 (.int .i64 ((H.ws.length : Int) + szL [t])) w := by
  obtain ⟨N', g1, g2, g3, g4, g5, g6⟩ := hg
  obtain ⟨Q, k1, k2⟩ := hpl.put h0 h1 h2 g1 g2 g3 g5
  subst hx
  have hm := k1.rm
  refine ⟨P3, F, _, _, _, _, N', Q, hP, hq.sub (by simp), hh, k1, k1.ng.nodes (by omega) fun b hb => ?_, by rw [(putW_len H t).1]; simp, step_nm hnm0 (Nat.le_trans (putW_len H t).2 (Nat.add_le_add_left hb _)), by rw [List.length_append, List.length_singleton]; exact Nat.succ_le_succ hns⟩
  obtain ⟨q, hq, rfl⟩ := List.mem_map.1 hb
  rcases k2 q hq with h | h
  · rw [g1 q h]; exact g6.at' _ (List.mem_map.2 ⟨q, h, rfl⟩)
  · exact g4 _ h
/-- What a box of a joined node is. -/
def JnP (N : Nat → NodeD) (P : List (Nat × Nat)) (d : NodeD) (o : Option Nat) (P' : Nat → Prop) (w : World) : Prop :=
  ∃ nb, o = some nb ∧ NodeR P' w nb d ∧ (∀ q ∈ P, q.1 ≠ nb) ∧ NodesR P' w N (P.map (·.1))
theorem JnP.to {o : Option Nat} {P' : Nat → Prop} {d : NodeD} (h : JnP N P d o P' w) (hc : ∀ b, P' b → b < w.heap.size → w'.heap[b]? = w.heap[b]?) : JnP N P d o P' w' := by
  obtain ⟨nb, h1, h2, h3, h4⟩ := h
  exact ⟨nb, h1, h2.to (fun _ h _ => h) hc, h3, h4.to (fun _ h _ => h) hc⟩
/-- A join. -/
theorem HPI.join {P3 : Nat → Prop} {o : Option Nat} {x : Wrd} {us : List T} {ws : List Wrd} {ms : List (Option Nat)} (hq : RQ P3 F w0 bs w [rW v7 (xs ++ [x]), rT v8 (ts ++ [tupT us]), rN v9 (ns ++ [o])]) (hh : HeapR F w B room (joinH H ws)) (hP : ∀ b, P0 b → P3 b) (hpl : HPl room H xs ts ns N P) (hpk : Pick H P us ws ms) (hx : x = ⟨4, (H.ws.length : Int)⟩)
    (hg : JnP N P (1 + ws.length, ms) o P3 w) (hr : room ≤ 1000) (h0 : checkE (tupT us) = 0) (h2 : ¬ room < H.ws.length + 1 + ws.length) (hnm : H.names.length ≤ c * 2097152) (hns : ns.length ≤ M + c) : HPI P0 w0 B room M (c + 1) v7 v8 v9 (.int .i64 ((H.ws.length : Int) + (1 + ws.length))) w := by
  obtain ⟨nb, rfl, g2, g3, g4⟩ := hg
  subst hx
  have k1 := hpl.join (N' := fun b => if b = nb then (1 + ws.length, ms) else N b) hpk.rep hpk.ok hpk.lk (nb := nb) g3 (fun q hq => if_neg (g3 q hq)) (if_pos rfl) h0 h2
  have hm := k1.rm
  refine ⟨P3, F, _, _, _, _, _, _, hP, hq.sub (by simp), hh, k1, k1.ng.nodes (by omega) fun b hb => ?_, by rw [joinH_len]; simp, step_nm hnm (Nat.le_add_right _ _), by rw [List.length_append, List.length_singleton]; exact Nat.succ_le_succ hns⟩
  obtain ⟨q, hq, rfl⟩ := List.mem_map.1 hb
  rcases List.mem_append.1 hq with h | h
  · simp only [if_neg (g3 q h)]
    exact g4.at' _ (List.mem_map.2 ⟨q, h, rfl⟩)
  · rw [List.mem_singleton.1 h]
    simp only [if_pos rfl]
    exact g2
theorem putHO_putE {room : Int} (h : putE t ≠ 0) : putHO room H t = (⟨0, 0⟩, putE t, H) := by
  unfold putE at h ⊢
  by_cases h0 : checkE t ≠ 0
  · rw [if_pos h0] at h ⊢
    exact putHO_check h0
  · rw [if_neg h0] at h ⊢
    by_cases h1 : closedL [t] = false
    · rw [if_pos h1]
      exact putHO_form (by simpa using h0) h1
    · rw [if_neg h1] at h
      exact absurd rfl h
theorem putE_ok (h : putE t = 0) : checkE t = 0 ∧ closedL [t] = true := by
  unfold putE at h
  by_cases h0 : checkE t ≠ 0
  · rw [if_pos h0] at h
    exact absurd h h0
  · rw [if_neg h0] at h
    by_cases h1 : closedL [t] = false
    · rw [if_pos h1] at h
      exact absurd h (by decide)
    · exact ⟨by simpa using h0, by simpa using h1⟩
end
end Go.Proofs.Ytedfepnekjjmnaa

/-
  The region law for words, terms and nodes that grow side by side, joined. No condition.
-/
namespace Go.Proofs.Ytedfepnekjjmnaa
open Go.RowKit
set_option linter.unusedSimpArgs false
set_option linter.unusedVariables false
set_option maxRecDepth 100000

set_option maxHeartbeats 1000000 in
theorem rg_rows (nc : Bool) {ops : Array Oper} {Q : Exit → Act → World → Prop} {S : World → Prop} {i0 i1 j0 j1 n0 n1 n2 k0 fuel fu : Nat} {L : Array Bool} {oW0 oW1 oT0 oT1 oN1 oN2 : Oper}
    {sbW saW sbT saT spN sbN saN seW srW seT srT srN : Nat} {a0 : Act} {P F : Nat → Prop} {w0 wd : World} {bs0 : List (Nat × List Value)} {rest : List Rw} {vW : Value} {xs : List Wrd} {x : Wrd} {vT : Value} {ts : List T} {t : T} {c0 c1 c2 c3 : Value} {vN : Value} {ns : List (Option Nat)} (Ψ : Option Nat → (Nat → Prop) → World → Prop)
    (hf : fu = fuel + (7 - k0)) (hchk : iChk nc ops [i0, i1] [j0, j1] [n0, n1, n2] L k0 = true) (hL : iLst [i0, i1] [j0, j1] [n0, n1, n2] L 0 0 k0 = L)
    (hW0 : ops[i0]? = some oW0) (pW0 : oW0.guard = none ∧ oW0.op = .buildSlice 67 1 #[(0, .tmp seW)] ∧ oW0.dst = some sbW)
    (hW1 : ops[i1]? = some oW1) (pW1 : oW1.guard = none ∧ oW1.op = .call { callee := .builtin .append, args := #[.tmp srW, .tmp sbW], argTypes := #[67, 67] } ∧ oW1.dst = some saW)
    (hT0 : ops[j0]? = some oT0) (pT0 : oT0.guard = none ∧ oT0.op = .buildSlice 27 1 #[(0, .tmp seT)] ∧ oT0.dst = some sbT)
    (hT1 : ops[j1]? = some oT1) (pT1 : oT1.guard = none ∧ oT1.op = .call { callee := .builtin .append, args := #[.tmp srT, .tmp sbT], argTypes := #[27, 27] } ∧ oT1.dst = some saT)
    (hN1 : ops[n1]? = some oN1) (pN1 : oN1.guard = none ∧ oN1.op = .buildSlice 79 1 #[(0, .tmp spN)] ∧ oN1.dst = some sbN)
    (hN2 : ops[n2]? = some oN2) (pN2 : oN2.guard = none ∧ oN2.op = .call { callee := .builtin .append, args := #[.tmp srN, .tmp sbN], argTypes := #[79, 79] } ∧ oN2.dst = some saN)
    (hnd : [sbW, saW, sbT, saT, spN, sbN, saN].Nodup) (hlt : ∀ s ∈ [sbW, saW, sbT, saT, spN, sbN, saN], s < a0.tmps.size) (hout : ∀ s ∈ [seW, srW, seT, srT, srN], s ∉ [sbW, saW, sbT, saT, spN, sbN, saN])
    (eW : a0.eval (.tmp seW) = .agg #[.int .i64 x.kind, .int .i64 x.n]) (rW' : a0.eval (.tmp srW) = vW) (eT : a0.eval (.tmp seT) = .agg #[c0, c1, c2, c3]) (rT' : a0.eval (.tmp srT) = vT) (rN' : a0.eval (.tmp srN) = vN)
    (hR : RQ P F w0 bs0 wd (rW vW xs :: rT vT ts :: rN vN ns :: rest)) (htE : termE.C P wd t [c0, c1, c2, c3]) (hnW : xs.length + 1 ≤ 274877906944) (hnT : ts.length + 1 ≤ 274877906944) (hnN : ns.length + 1 ≤ 274877906944)
    (hΨ : ∀ o (P' : Nat → Prop) w w', Ψ o P' w → w.heap.size ≤ w'.heap.size → (∀ b, P' b → b < w.heap.size → w'.heap[b]? = w.heap[b]?) → Ψ o P' w')
    (hre0 : iReach nc k0 0 0 k0 = true) (hstart : k0 = 0 ∨ (k0 = 1 ∧ ∃ o, a0.eval (.tmp spN) = optr o ∧ Ψ o P wd))
    (hpre : k0 = 0 → ∃ oN0, ops[n0]? = some oN0 ∧ oN0.guard = none ∧ ∀ (a : Act) (w : World) (P1 : Nat → Prop) (bs1 : List (Nat × List Value)) (r1 r2 : Rw), AgreeA [sbW, saW, sbT, saT, spN, sbN, saN] a0 a → (∀ b, P b → P1 b) → RQ P1 F w0 (bs1 ++ bs0) w (r1 :: r2 :: rN vN ns :: rest) → SameA (ownS P rest) F wd w → S w →
      ∀ K : Act → World → Prop, (∀ (P2 : Nat → Prop) (w' : World) (o : Option Nat), (∀ b, P1 b → P2 b) → RQ P2 F w0 (bs1 ++ bs0) w' (r1 :: r2 :: rN vN ns :: rest) → SameA (ownS P1 rest) F w w' → Ψ o P2 w' → K (a.put (some spN) (optr o)) w') → Oper.wp Try.prog oN0 a w K (NoPanic Q))
    (hS : ∀ (P' : Nat → Prop) (bs1 : List (Nat × List Value)) (r1 r2 r3 : Rw) (w : World), (∀ b, P b → P' b) → RQ P' F w0 (bs1 ++ bs0) w (r1 :: r2 :: r3 :: rest) → SameA (ownS P rest) F wd w → S w)
    (hfin : ∀ (u1 u2 u3 : Value) (o : Option Nat) (P' : Nat → Prop) (bs1 : List (Nat × List Value)) (w : World) (gW fW cW gT fT cT gN fN cN : Nat), (∀ b, P b → P' b) →
      RQ P' F w0 (bs1 ++ bs0) w (rW (.slice (some ⟨gW, fW, none⟩) (xs.length + 1) cW) (xs ++ [x]) :: rT (.slice (some ⟨gT, fT, none⟩) (ts.length + 1) cT) (ts ++ [t]) :: rN (.slice (some ⟨gN, fN, none⟩) (ns.length + 1) cN) (ns ++ [o]) :: rest) → SameA (ownS P rest) F wd w → Ψ o P' w → S w →
      wpAnyH Try.prog .any ops (NoPanic Q) S fuel (iLst [i0, i1] [j0, j1] [n0, n1, n2] L 2 2 3)
        (((((((a0.put (some sbW) u1).put (some saW) (.slice (some ⟨gW, fW, none⟩) (xs.length + 1) cW)).put (some sbT) u2).put (some saT) (.slice (some ⟨gT, fT, none⟩) (ts.length + 1) cT)).put (some spN) (optr o)).put (some sbN) u3).put (some saN) (.slice (some ⟨gN, fN, none⟩) (ns.length + 1) cN)) w) :
    wpAnyH Try.prog .any ops (NoPanic Q) S fu L a0 wd := by
  subst hf
  have hmS : ∀ i j k a w, IInv sbW saW sbT saT spN sbN saN a0 P F w0 wd bs0 rest vW xs x vT ts t [c0, c1, c2, c3] vN ns Ψ i j k a w → S w := fun i j k a w h => by
    obtain ⟨P', bs1, r1, r2, r3, o, -, hP, hR, hs, -⟩ := h
    exact hS P' bs1 r1 r2 r3 w hP hR hs
  have key := rg_chains (Q := Q) (S := S) (fuel := fuel) hchk (IInv sbW saW sbT saT spN sbN saN a0 P F w0 wd bs0 rest vW xs x vT ts t [c0, c1, c2, c3] vN ns Ψ) hmS
    (fun i j k hi => by
      rcases (show i = 0 ∨ i = 1 by omega) with rfl | rfl
      · exact ⟨oW0, hW0, pW0.1, fun a w hI K hK => ii_buildW hnd hlt hΨ seW eW (hout _ (by simp)) pW0.2.1 pW0.2.2 hI hK⟩
      · exact ⟨oW1, hW1, pW1.1, fun a w hI K hK => ii_appW hnd hlt hΨ srW rW' (hout _ (by simp)) hnW pW1.2.1 pW1.2.2 hI hK⟩)
    (fun i j k hj => by
      rcases (show j = 0 ∨ j = 1 by omega) with rfl | rfl
      · exact ⟨oT0, hT0, pT0.1, fun a w hI K hK => ii_buildT hnd hlt hΨ seT rfl eT (hout _ (by simp)) pT0.2.1 pT0.2.2 hI hK⟩
      · exact ⟨oT1, hT1, pT1.1, fun a w hI K hK => ii_appT hnd hlt hΨ srT rT' (hout _ (by simp)) hnT htE pT1.2.1 pT1.2.2 hI hK⟩)
    (fun i j k hk hk0 => by
      rcases (show k = 0 ∨ k = 1 ∨ k = 2 by omega) with rfl | rfl | rfl
      · obtain ⟨oN0, h1, h2, h3⟩ := hpre (by omega)
        refine ⟨oN0, h1, h2, fun a w hI K hK => ?_⟩
        have hSw := hmS _ _ _ _ _ hI
        obtain ⟨P', bs1, r1, r2, r3, o, hA, hP, hR1, hs, hc1, hc2, hc3⟩ := hI
        rcases hc3 with ⟨-, rfl⟩ | ⟨k', hk', -⟩
        · refine h3 a w P' bs1 r1 r2 hA hP hR1 hs hSw K fun P2 w' o' hP2 hR2 hs2 hψ => hK _ _ ?_
          have hsz : spN < a.tmps.size := by rw [hA.2.1]; exact hlt _ (by simp)
          have d1 : sbW ≠ spN := by intro e; subst e; simp at hnd
          have d2 : saW ≠ spN := by intro e; subst e; simp at hnd
          have d3 : sbT ≠ spN := by intro e; subst e; simp at hnd
          have d4 : saT ≠ spN := by intro e; subst e; simp at hnd
          exact ⟨P2, bs1, r1, r2, rN vN ns, o', hA.put (by simp) _, fun b hb => hP2 b (hP b hb), hR2, hs.trans (hs2.mono fun b hb => hb.imp (hP b) id), hc1.mono (eval_put_ne _ _ d1) (eval_put_ne _ _ d2) fun _ h => h, hc2.mono (eval_put_ne _ _ d3) (eval_put_ne _ _ d4) fun _ h => h, .inr ⟨0, rfl, .inl ⟨rfl, rfl⟩, eval_put_eq _ _ hsz, hψ⟩⟩
        · omega
      · exact ⟨oN1, hN1, pN1.1, fun a w hI K hK => ii_buildN hnd hlt hΨ pN1.2.1 pN1.2.2 hI hK⟩
      · exact ⟨oN2, hN2, pN2.1, fun a w hI K hK => ii_appN hnd hlt hΨ srN rN' (hout _ (by simp)) hnN pN2.2.1 pN2.2.2 hI hK⟩)
    (fun a w hI => by
      have hSw := hmS _ _ _ _ _ hI
      obtain ⟨P', bs1, r1, r2, r3, o, hA, hP, hR1, hs, hc1, hc2, hc3⟩ := hI
      obtain ⟨gW, fW, cW, rfl, e1⟩ : ∃ g f cap, r1 = ⟨_, wrdE, wrdF, .slice (some ⟨g, f, none⟩) (xs.length + 1) cap, xs ++ [x]⟩ ∧ a.eval (.tmp saW) = .slice (some ⟨g, f, none⟩) (xs.length + 1) cap := by
        rcases hc1 with ⟨h, -⟩ | ⟨h, -⟩ | ⟨-, h⟩
        · cases h
        · cases h
        · exact h
      obtain ⟨gT, fT, cT, rfl, e2⟩ : ∃ g f cap, r2 = ⟨_, termE, termF, .slice (some ⟨g, f, none⟩) (ts.length + 1) cap, ts ++ [t]⟩ ∧ a.eval (.tmp saT) = .slice (some ⟨g, f, none⟩) (ts.length + 1) cap := by
        rcases hc2 with ⟨h, -⟩ | ⟨h, -⟩ | ⟨-, h⟩
        · cases h
        · cases h
        · exact h
      rcases hc3 with ⟨h, -⟩ | ⟨k', hk', hc3, e3, hψ⟩
      · cases h
      obtain rfl : k' = 2 := by omega
      obtain ⟨gN, fN, cN, rfl, e4⟩ : ∃ g f cap, r3 = ⟨_, ptrE, ptrF, .slice (some ⟨g, f, none⟩) (ns.length + 1) cap, ns ++ [o]⟩ ∧ a.eval (.tmp saN) = .slice (some ⟨g, f, none⟩) (ns.length + 1) cap := by
        rcases hc3 with ⟨h, -⟩ | ⟨h, -⟩ | ⟨-, h⟩
        · cases h
        · cases h
        · exact h
      have h := hfin (a.tmps.getD sbW undef) (a.tmps.getD sbT undef) (a.tmps.getD sbN undef) o P' bs1 w gW fW cW gT fT cT gN fN cN hP hR1 hs hψ hSw
      rw [hA.eq hlt]
      rw [← e1, ← e2, ← e3, ← e4] at h
      exact h)
    (7 - k0) 0 0 k0 (by omega) (by omega) (by rcases hstart with h | h <;> omega) hre0 (by rcases hstart with h | h <;> omega) a0 wd
  rw [hL] at key
  refine key ?_
  rcases hstart with rfl | ⟨rfl, o, ho, hψ⟩
  · exact ⟨P, [], _, _, _, none, AgreeA.refl _ _, fun _ h => h, hR, SameA.refl _ _ _, .inl ⟨rfl, rfl⟩, .inl ⟨rfl, rfl⟩, .inl ⟨rfl, rfl⟩⟩
  · exact ⟨P, [], _, _, _, o, AgreeA.refl _ _, fun _ h => h, hR, SameA.refl _ _ _, .inl ⟨rfl, rfl⟩, .inl ⟨rfl, rfl⟩, .inr ⟨0, rfl, .inl ⟨rfl, rfl⟩, ho, hψ⟩⟩
end Go.Proofs.Ytedfepnekjjmnaa

/-
  HeapPlays: a call and a box in a region, by whatever holds behind them. No condition.
-/
namespace Go.Proofs.Ytedfepnekjjmnaa
open Go.RowKit
set_option linter.unusedSimpArgs false
set_option linter.unusedVariables false
set_option maxRecDepth 100000

section
variable {o : Oper} {a : Act} {Q : Exit → Act → World → Prop} {K : Act → World → Prop} {w : World}
theorem wp_callG (s : Nat) (ty : TypeId) (ho : o.op = .call { callee := .value (.func 48), args := #[.tmp s], argTypes := #[ty] }) {v : Value} (he : a.eval (.tmp s) = v) (hc : Calls Try.prog 48 #[v] w fun e w' => ∃ u, e = .returned u ∧ K (a.put o.dst u) w') : Oper.wp Try.prog o a w K Q := by
  have hr : (execOp a.eval o).run Try.prog w = .ok (.enter 48 #[v]) w := by
    obtain ⟨dst, op, ty, pos, after, guard⟩ := o
    simp only at ho
    subst ho
    have he' : a.tmps[s]?.getD undef = v := by simpa [Act.eval] using he
    go_simp
  rw [Oper.wp, hr, Oper.upon_enter]
  refine hc.mono ?_
  rintro e w' ⟨u, rfl, hk⟩
  exact hk
theorem wp_box2 (s : Nat) (ho : o.op = .box 87 (.tmp s)) {c0 c1 : Value} (he : a.eval (.tmp s) = .agg #[c0, c1]) (hc : K (a.put o.dst (ptr w.heap.size)) (w.alloc (.cells #[c0, c1] 87))) : Oper.wp Try.prog o a w K Q := by
  have hr : (execOp a.eval o).run Try.prog w = .ok (.value (ptr w.heap.size)) (w.alloc (.cells #[c0, c1] 87)) := by
    obtain ⟨dst, op, ty, pos, after, guard⟩ := o
    simp only at ho
    subst ho
    have he' : a.tmps[s]?.getD undef = .agg #[c0, c1] := by simpa [Act.eval] using he
    go_simp
    rfl
  rw [Oper.wp, hr, Oper.upon_value]
  exact hc
end
section
variable {P F : Nat → Prop} {w0 w : World} {bs : List (Nat × List Value)} {rs : List Rw}
theorem RX.rslX {R S : Nat → Prop} {w : World} {ts : List T} {v : Value} (h : RX termE R S w ts v) : RSl (fun b => R b ∨ S b) w ts v := by
  obtain ⟨a, cap, cs, rfl, h1, h2, h3⟩ := h
  exact RSl2.rsl ⟨a, cap, cs, rfl, h1, cells_termE.1 h2, h3⟩
/-- A row that is given away: it may be led to, and grows no more. -/
theorem RQ.give {r : Rw} (h : RQ P F w0 bs w (r :: rs)) : RQ (fun b => P b ∨ r.v.ownBlock = some b) F w0 bs w rs := by
  have h1 := h.rows (rs' := rs) (List.sublist_cons_self _ _)
  refine ⟨h1.bel, fun b hb => ?_, fun s hs => OwnXQ.monoP (h1.ok s hs) fun _ h => .inl h, h1.ap, h1.fh, h1.bk⟩
  rcases hb with hb | hb
  · exact h1.pb b hb
  · exact ⟨(h.lt (List.mem_cons_self ..) b hb).2, fun hf => (h.fh b hf).2.2 r (List.mem_cons_self ..) hb, fun s hs e => (List.pairwise_cons.1 h.ap).1 s hs b hb e⟩
theorem JnP.box {N : Nat → NodeD} {D : List (Nat × Nat)} {P1 : Nat → Prop} {w1 : World} {n : Nat} {ms : List (Option Nat)} {a : Option Addr} {c : Nat} (hx : RX ptrE P1 (fun _ => False) w1 ms (.slice a ms.length c)) (hN : NodesR P1 w1 N (D.map (·.1))) (hlt : ∀ b, P1 b → b < w1.heap.size) :
    JnP N D (1 + n, ms) (some w1.heap.size) (fun b => P1 b ∨ (w1.heap.size ≤ b ∧ b < (w1.alloc (.cells #[.int .i64 (1 + (n : Int)), .slice a ms.length c] 87)).heap.size)) (w1.alloc (.cells #[.int .i64 (1 + (n : Int)), .slice a ms.length c] 87)) := by
  have hB := below_alloc w1 (.cells #[.int .i64 (1 + (n : Int)), .slice a ms.length c] 87)
  refine ⟨_, rfl, ⟨.inr ⟨Nat.le_refl _, by simp⟩, ⟨_, _, heap_alloc_new _ _⟩, a, c, ?_, hx.to (fun b hb _ => .inl hb) (fun _ h _ => h) fun b hb hl => hB.block b hl⟩, fun q hq e => ?_, hN.to (fun _ h _ => .inl h) fun b _ hl => hB.block b hl⟩
  · have e : ((1 + n : Nat) : Int) = 1 + (n : Int) := by omega
    show Blk _ _ [.int .i64 ((1 + n : Nat) : Int), _]
    rw [e]
    exact Blk.new _ _ _ _ rfl
  · have := hlt _ (hN.at' _ (List.mem_map.2 ⟨q, hq, rfl⟩)).p
    omega
theorem OwnXQ.wrd {e : TypeId} {P' : Nat → Prop} {base : Nat} {v : Value} {xs : List Wrd} (h : OwnXQ wrdE e P base w v xs) : OwnXQ wrdE e P' base w v xs := by
  obtain ⟨cs, h1, h2⟩ := h
  exact ⟨cs, h1, cellsW h2⟩
/-- What is tracked, behind a collection. -/
def FC (F : Nat → Prop) (w w7 : World) (v2 : Value) : Nat → Prop := fun b => (F b ∨ (w.heap.size ≤ b ∧ v2.ownBlock ≠ some b)) ∧ b < w7.heap.size
/-- A collection. -/
theorem HPI.coll {P0 S : Nat → Prop} {B : Nat} {room : Int} {H : HS} {N : Nat → NodeD} {D : List (Nat × Nat)} {t : T} {vt v2 v7 v8 v9 : Value} {M c : Nat} {xs ws tw out : List Wrd} {ts us : List T} {ns ms : List (Option Nat)} {ks : List Nat} {W7 W8 W9 : World}
    (h : HPS P F w0 bs rs B room H N (D.map (·.1)) t vt w) (hs : [rT v8 us, rN v9 ms].Sublist rs) (hP : ∀ b, P0 b → P b) (hpl : HPl room H xs ts ns N D) (hpk : Pick H D us ws ms) (hC : Col H ws ks tw out)
    (hK : Keep F w W7) (hH : HeapR (fun b => F b ∨ (w.heap.size ≤ b ∧ v2.ownBlock ≠ some b)) W7 B room ⟨tw, H.names⟩) (hB8 : Below W7.heap.size W7 W8) (hO : OwnXQ wrdE wrdF.e S W7.heap.size W8 v7 out) (hB9 : Below W8.heap.size W8 W9)
    (hr : room ≤ 1000) (hnm : H.names.length ≤ c * 2097152) (hms : ms.length ≤ M) : HPI P0 w0 B room M (c + 1) v7 v8 v9 (.int .i64 (tw.length : Int)) W9 := by
  have hcol := hpl.col hpk.rep hpk.ok hpk.lk hC
  have hq7 : RQ P (FC F w W7 v2) w0 bs W7 rs := h.q.keep hK fun b hb => ⟨hb.1.imp id (·.1), hb.2⟩
  have hq8 : RQ P (FC F w W7 v2) w0 [] W8 [rT v8 us, rN v9 ms] := ((hq7.rows hs).below hB8).sub (by simp)
  have hs7 := hq7.bel.size
  have hs8 := hB8.size
  have hq9 : RQ P (FC F w W7 v2) w0 [] W8 (rW v7 out :: [rT v8 us, rN v9 ms]) := hq8.addRow (rW v7 out) (hO.wrd.base hs7) fun b hb => by
    have h1 : W7.heap.size ≤ b := (hO.block b hb).1
    refine ⟨fun hp => ?_, fun hf => ?_, fun s hs' e => ?_, by simp⟩
    · have := (hq7.pb b hp).1; omega
    · have := hf.2; omega
    · have := (hq7.lt (hs.subset hs') b e).2; omega
  have hn7 : NodesR P W9 N (D.map (·.1)) := (h.n.to (fun _ h _ => h) fun b hb hl => hK.block b hl (h.q.pb b hb).2.1).to (fun _ h _ => h) fun b hb hl => (hB9.block b (by omega)).trans (hB8.block b hl)
  have hrm := hcol.rm
  refine ⟨P, FC F w W7 v2, ⟨tw, H.names⟩, out, us, ms, N, movP H ks D, hP, hq9.below hB9, (hH.low.below hB8).below hB9, hcol, hcol.ng.nodes (by omega) fun b hb => ?_, rfl, step_nm hnm (Nat.le_add_right _ _), by omega⟩
  obtain ⟨q, hq, rfl⟩ := List.mem_map.1 hb
  obtain ⟨q', hq', rfl⟩ := List.mem_map.1 hq
  exact hn7.at' _ (List.mem_map.2 ⟨q', (List.mem_filter.1 hq').1, rfl⟩)
end
end Go.Proofs.Ytedfepnekjjmnaa
