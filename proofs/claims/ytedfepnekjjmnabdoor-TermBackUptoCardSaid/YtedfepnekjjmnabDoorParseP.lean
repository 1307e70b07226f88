/-
  Reading a text word by word: what each word does to what is open, in plain words; append to a row of one's own at a drawn step. No condition.
-/
import Derived.Test.YtedfepnekjjmnabDoorJc
namespace Go.Proofs.YtedfepnekjjmnabDoor
open Go.RowKit
set_option linter.unusedSimpArgs false
set_option linter.unusedVariables false
set_option maxRecDepth 100000

theorem word_at {s : ByteArray} {k m : Nat} (hk : Bnd s k) (hm : k < m) (hle : m ≤ s.size) (h : ∀ j, k ≤ j → j < m → specB (atN s j) = false) (he : m = s.size ∨ specB (atN s m) = true) :
    (wst s m).1 = (wst s k).1 ++ [(k, m)] ∧ Bnd s m := by
  have ho : (wst s k).2 = false := by
    cases e : (wst s k).2
    · rfl
    · rcases hk e with h1 | h1
      · rw [h k (Nat.le_refl _) hm] at h1; cases h1
      · omega
  have hw := wst_word ho (m - k - 1) fun j h1 h2 => h j h1 (by omega)
  rw [show k + (m - k - 1) + 1 = m by omega] at hw
  rw [hw]
  refine ⟨rfl, fun _ => ?_⟩
  rcases he with he | he
  · exact .inr (by omega)
  · exact .inl he
theorem word_end {s : ByteArray} {k : Nat} (hk : k < s.size) (h : specB (atN s k) = false) : ∃ m, k < m ∧ m ≤ s.size ∧ (∀ j, k ≤ j → j < m → specB (atN s j) = false) ∧ (m = s.size ∨ specB (atN s m) = true) := by
  have key : ∀ d m, s.size - m = d → k < m → m ≤ s.size → (∀ j, k ≤ j → j < m → specB (atN s j) = false) → ∃ m, k < m ∧ m ≤ s.size ∧ (∀ j, k ≤ j → j < m → specB (atN s j) = false) ∧ (m = s.size ∨ specB (atN s m) = true) := by
    intro d
    induction d with
    | zero => intro m h1 h2 h3 h4; exact ⟨m, h2, h3, h4, .inl (by omega)⟩
    | succ d ih =>
      intro m h1 h2 h3 h4
      cases e : specB (atN s m)
      · refine ih (m + 1) (by omega) (by omega) (by omega) fun j h5 h6 => ?_
        by_cases hj : j = m
        · rw [hj]; exact e
        · exact h4 j h5 (by omega)
      · exact ⟨m, h2, h3, h4, .inr e⟩
  exact key _ (k + 1) rfl (by omega) hk fun j h1 h2 => by rw [show j = k by omega]; exact h
/-- A word's end, whichever word. -/
theorem tok_next {s : ByteArray} {k : Nat} (hk : k < s.size) (hb : Bnd s k) (h32 : atN s k ≠ 32) : ∃ m, k < m ∧ m ≤ s.size ∧ (wst s m).1 = (wst s k).1 ++ [(k, m)] ∧ Bnd s m := by
  by_cases hp : atN s k = 40 ∨ atN s k = 41
  · exact ⟨k + 1, by omega, hk, by rw [wst_paren hp], fun h => by rw [wst_paren hp] at h; cases h⟩
  · obtain ⟨m, h1, h2, h3, h4⟩ := word_end hk (by simp [specB]; omega)
    obtain ⟨h5, h6⟩ := word_at hb h1 h2 h3 h4
    exact ⟨m, h1, h2, h5, h6⟩
theorem prun_snoc {ks : List Tok} {st : List (List T)} (k : Tok) (h : prun ks 0 [[]] = .inr st) : prun (ks ++ [k]) 0 [[]] = match pstep k st with | none => .inl ks.length | some st' => .inr st' := by
  rw [prun_append _ _ _ _ _ h, prun]
  cases pstep k st <;> simp [prun]
theorem parse_step {s : ByteArray} {k m : Nat} {st st' : List (List T)} (hW : (wst s m).1 = (wst s k).1 ++ [(k, m)]) (hp : prun (toksS s (wst s k).1) 0 [[]] = .inr st) (h : pstep (tokB (wordS s (k, m))) st = some st') :
    prun (toksS s (wst s m).1) 0 [[]] = .inr st' := by
  rw [hW, toksS_append, show toksS s [(k, m)] = [tokB (wordS s (k, m))] from rfl, prun_snoc _ hp, h]
theorem parse_bad {s : ByteArray} {k m : Nat} {st : List (List T)} (h2 : ¬ 2048 < s.size) (hm : m ≤ s.size) (hb : Bnd s m) (hW : (wst s m).1 = (wst s k).1 ++ [(k, m)]) (hp : prun (toksS s (wst s k).1) 0 [[]] = .inr st) (h : pstep (tokB (wordS s (k, m))) st = none) :
    readA s = (zeroT, (k : Int), 3) := by
  have h1 : prun (toksS s (wst s m).1) 0 [[]] = .inl (toksS s (wst s k).1).length := by
    rw [hW, toksS_append, show toksS s [(k, m)] = [tokB (wordS s (k, m))] from rfl, prun_snoc _ hp, h]
  obtain ⟨R, hR, -⟩ := wst_prefix hb (s.size - m) (by omega)
  rw [show m + (s.size - m) = s.size by omega] at hR
  have h3 : prun (toksS s (wst s s.size).1) 0 [[]] = .inl (toksS s (wst s k).1).length := by
    rw [hR, toksS_append]; exact prun_append_bad _ _ _ _ _ h1
  rw [readA_bad h2 h3]
  have e : (atI (wst s s.size).1).getD (toksS s (wst s k).1).length 0 = (k : Int) := by
    rw [hR, hW, toksS_length, List.getD_eq_getElem?_getD, atI, List.append_assoc, List.map_append, List.getElem?_append_right (by simp)]
    simp
  rw [e]
theorem prun_ne : ∀ (ks : List Tok) (j : Nat) (st st' : List (List T)), st ≠ [] → prun ks j st = .inr st' → st' ≠ []
  | [], j, st, st', h, e => by simp only [prun, Sum.inr.injEq] at e; subst e; exact h
  | k :: ks, j, st, st', h, e => by
    simp only [prun] at e
    cases hp : pstep k st with
    | none => rw [hp] at e; cases e
    | some st1 =>
      rw [hp] at e
      refine prun_ne ks (j + 1) st1 st' ?_ e
      intro e1
      subst e1
      match st, h with
      | [b], _ => simp only [pstep] at hp; split at hp <;> (try cases hp); split at hp <;> cases hp
      | a :: b :: r, _ => cases k <;> simp only [pstep] at hp <;> (try cases hp); rename_i ok t; cases ok <;> cases hp
theorem word_head {s : ByteArray} {k m : Nat} (hk : k < m) (hm : m ≤ s.size) {c : UInt8} (h : (wordS s (k, m)).toList = [c]) : atN s k = c.toNat := by
  have e : (wordS s (k, m)).data.toList = (s.data.toList.drop k).take (m - k) := by
    simp only [wordS, ByteArray.data_extract, Array.toList_extract, List.extract_eq_take_drop]
  rw [ba_toList, e] at h
  have hl : k < s.data.toList.length := by simp; exact Nat.lt_of_lt_of_le hk hm
  rw [List.drop_eq_getElem_cons hl, show m - k = (m - k - 1) + 1 by omega, List.take_succ_cons] at h
  simp only [List.cons.injEq] at h
  rw [atN, List.getElem?_eq_getElem hl, ← h.1]; rfl
theorem tok_op {s : ByteArray} {k : Nat} (hk : k < s.size) (h : atN s k = 40) : tokB (wordS s (k, k + 1)) = .op := by
  have e : (wordS s (k, k + 1)).toList = [40] := by
    have e1 : (wordS s (k, k + 1)).data.toList = (s.data.toList.drop k).take 1 := by
      simp only [wordS, ByteArray.data_extract, Array.toList_extract, List.extract_eq_take_drop]; congr 1; omega
    have hl : k < s.data.toList.length := by simpa using hk
    rw [ba_toList, e1, List.drop_eq_getElem_cons hl, List.take_succ_cons, List.take_zero]
    rw [atN, List.getElem?_eq_getElem hl] at h
    congr 1
    exact UInt8.toNat_inj.1 h
  rw [tokB, if_pos (by rw [e]; rfl)]
theorem tok_cl {s : ByteArray} {k : Nat} (hk : k < s.size) (h : atN s k = 41) : tokB (wordS s (k, k + 1)) = .cl := by
  have e : (wordS s (k, k + 1)).toList = [41] := by
    have e1 : (wordS s (k, k + 1)).data.toList = (s.data.toList.drop k).take 1 := by
      simp only [wordS, ByteArray.data_extract, Array.toList_extract, List.extract_eq_take_drop]; congr 1; omega
    have hl : k < s.data.toList.length := by simpa using hk
    rw [ba_toList, e1, List.drop_eq_getElem_cons hl, List.take_succ_cons, List.take_zero]
    rw [atN, List.getElem?_eq_getElem hl] at h
    congr 1
    exact UInt8.toNat_inj.1 h
  rw [tokB, if_neg (by rw [e]; decide), if_pos (by rw [e]; rfl)]
theorem tok_lf {s : ByteArray} {k m : Nat} (hk : k < m) (hm : m ≤ s.size) (h : specB (atN s k) = false) : tokB (wordS s (k, m)) = .lf (leafB (wordS s (k, m))) (leafT (wordS s (k, m))) := by
  simp [specB] at h
  rw [tokB, if_neg, if_neg]
  · intro e; have := word_head hk hm (eq_of_beq e); simp at this; omega
  · intro e; have := word_head hk hm (eq_of_beq e); simp at this; omega
theorem pstep_full {k : Tok} {a : List T} (h : a.length = 1) : pstep k [a] = none := by simp [pstep, h]
theorem pstep_op {a : List T} {r : List (List T)} (h : r ≠ [] ∨ a.length ≠ 1) : pstep .op (a :: r) = some ([] :: a :: r) := by
  cases r with
  | nil => simp at h; simp [pstep, h]
  | cons b r => rfl
theorem pstep_lf {a : List T} {r : List (List T)} {t : T} (h : r ≠ [] ∨ a.length ≠ 1) : pstep (.lf true t) (a :: r) = some ((a ++ [t]) :: r) := by
  cases r with
  | nil => simp at h; simp [pstep, h]
  | cons b r => rfl
theorem pstep_nlf {a : List T} {r : List (List T)} {t : T} : pstep (.lf false t) (a :: r) = none := by
  cases r with
  | nil => simp [pstep]
  | cons b r => rfl
theorem pstep_cl1 {a : List T} : pstep .cl [a] = none := by simp [pstep]

section
variable {ops : Array Oper} {o : Oper} {a : Act} {Q : Exit → Act → World → Prop}
/-- 'append(s, x)' at a step of a region that draws its order, and where the new row lies. -/
theorem step_grow' {K : Act → World → Prop} {E : Prop} (s x : Operand) (hgd : o.guard = none) (ho : o.op = .call { callee := .builtin .append, args := #[s, x], argTypes := #[22, 22] })
    {P R : Nat → Prop} {base : Nat} {w0 : World} {v : Value} {ts : List T} {t : T} {c0 c1 c2 c3 : Value} {g0 n : Nat} (hs : a.eval s = v) (hx : a.eval x = .slice (some ⟨g0, 0, none⟩) 1 1) (hg0 : g0 = w0.heap.size) (hown : OwnG P base w0 v ts)
    (ht : RT R w0 t (.agg #[c0, c1, c2, c3])) (hR : ∀ b, R b → b < w0.heap.size → P b ∧ v.ownBlock ≠ some b) (hnl : ts.length = n) (hn : n + 1 ≤ 1099511627776) (hbase : base ≤ w0.heap.size)
    (h : ∀ g cap w', OwnG P base w' (.slice (some ⟨g, 0, none⟩) (n + 1) cap) (ts ++ [t]) → (w0.alloc (.cells #[c0, c1, c2, c3] 24)).grownBy w' v.ownBlock → (v.ownBlock = some g ∨ w0.heap.size < g) → K (a.put o.dst (.slice (some ⟨g, 0, none⟩) (n + 1) cap)) w') :
    if Region.wanted o (yielded ops a.tmps) = true then Oper.wp Tryd.prog o a (w0.alloc (.cells #[c0, c1, c2, c3] 24)) K Q else E := by
  subst hg0 hnl
  have hlt := hown.block
  obtain ⟨i, hi, hz0, hz1, hz2⟩ := info_parts info24
  have hown1 : OwnT (fun b => P b ∧ b < w0.heap.size ∧ v.ownBlock ≠ some b) base (w0.alloc (.cells #[c0, c1, c2, c3] 24)) v ts := OwnT.to hown (Nat.le_refl _) (fun _ h _ => h) fun b _ hb => Below.heap_alloc _ _ _ hb
  have hl := (ht.to (S' := fun b => P b ∧ b < w0.heap.size ∧ v.ownBlock ≠ some b) (fun b hb hl => ⟨(hR b hb hl).1, hl, (hR b hb hl).2⟩) fun _ _ _ => rfl).one 24
  obtain ⟨cs, ho1, hC⟩ := hown1
  obtain ⟨au, cap, ds, e, hcap, hD, hj⟩ := hl
  simp only [Value.slice.injEq] at e
  obtain ⟨rfl, -, rfl⟩ := e
  refine step_append_lies _ hgd s x 22 ho base 24 i _ 4 56 Tryd.underlying22 hi hz0 hz1 hz2 rfl (by decide) v _ cs hs ho1 ⟨w0.heap.size, 0, none⟩ 1 1 ds hx (by simpa using hD.length) ?_ hD.oneCell (by decide) (by unfold maxLen; omega) (by omega) (by simp; omega) _ rfl ?_
  · intro j u' hu
    obtain ⟨b, o', e, _, hc⟩ := hj j u' hu
    simp only [Option.some.injEq] at e
    rw [e]
    unfold Addr.add
    split
    · rename_i h0; subst h0; exact hc
    · exact hc
  · intro g cap w' h1 h2 h3 h4
    have h2s := h2.size
    simp only [World.size_alloc] at h2s h3
    have hblk : ∀ b, (P b ∧ b < w0.heap.size ∧ v.ownBlock ≠ some b) → b < (w0.alloc (.cells #[c0, c1, c2, c3] 24)).heap.size → w'.heap[b]? = (w0.alloc (.cells #[c0, c1, c2, c3] 24)).heap[b]? := fun b hb hlt => h2.block b hlt (fun e => hb.2.2 e.symm)
    have hO : OwnT (fun b => P b ∧ b < w0.heap.size ∧ v.ownBlock ≠ some b) base w' (.slice (some ⟨g, 0, none⟩) (ts.length + 1) cap) (ts ++ [t]) := ⟨cs ++ ds, by simpa using h1, (hC.to (fun _ h _ => h) hblk).append (hD.to (fun _ h _ => h) hblk)⟩
    refine h g cap w' (hO.to (Nat.le_refl _) (fun b hb _ => ⟨hb.1, by have := hb.2.1; omega, fun e => ?_⟩) fun _ _ _ => rfl) h2 ?_
    · simp only [Value.ownBlock, Option.some.injEq] at e
      subst e
      rcases h3 with h5 | h5
      · exact hb.2.2 h5
      · have := hb.2.1; omega
    · rcases h3 with h5 | h5
      · exact .inl h5
      · exact .inr (by omega)
variable {rest : List Oper}
/-- 'append(open, Term{Kind: KTuple})'. -/
theorem append_open (s x : Operand) (hgd : o.guard = none) (ho : o.op = .call { callee := .builtin .append, args := #[s, x], argTypes := #[22, 22] })
    {F : Nat → Prop} {base : Nat} {w : World} {g cap n g0 : Nat} {rs : List Value} {st : List (List T)} (hs : a.eval s = .slice (some ⟨g, 0, none⟩) (n + 1) cap) (hx : a.eval x = .slice (some ⟨g0, 0, none⟩) 1 1) (hg0 : g0 = w.heap.size)
    (hO : OpenR F base w g cap rs st) (hn : rs.length = n + 1) (hb : n + 2 ≤ 1099511627776)
    (h : ∀ g' cap' w', OpenR F base w' g' cap' (.slice none 0 0 :: rs) ([] :: st) → Below base w w' → wpList Tryd.prog ops Q rest (a.put o.dst (.slice (some ⟨g', 0, none⟩) (n + 1 + 1) cap')) w') :
    wpList Tryd.prog ops Q (o :: rest) a (w.alloc (.cells #[.int .i64 4, .int .i64 0, .string ⟨#[]⟩, .slice none 0 0] 24)) := by
  subst hg0
  obtain ⟨i, hi, hz0, hz1, hz2⟩ := info_parts info24
  have hlt := hO.lt
  have hrow := (hO.to (below_alloc w (.cells #[.int .i64 4, .int .i64 0, .string ⟨#[]⟩, .slice none 0 0] 24))).row
  rw [hn] at hrow
  have hcs : (.cells #[.int .i64 4, .int .i64 0, .string ⟨#[]⟩, .slice none 0 0] 24 : Obj) = .cells ([Value.int .i64 4, .int .i64 0, .string ⟨#[]⟩, .slice none 0 0]).toArray 24 := rfl
  refine wpList_append_lies _ hgd s x 22 ho base 24 i _ 4 56 Tryd.underlying22 hi hz0 hz1 hz2 rfl (by decide) _ (n + 1) (opC rs) hs hrow ⟨w.heap.size, 0, none⟩ 1 1 [.int .i64 4, .int .i64 0, .string ⟨#[]⟩, .slice none 0 0] hx rfl ?_ (by simp [Value.oneCell']) (by decide) (by unfold maxLen; omega) (by omega) (by simp; omega) _ rfl ?_
  · intro j u hu
    have : (Addr.add ⟨w.heap.size, 0, none⟩ j) = ⟨w.heap.size, j, none⟩ := by unfold Addr.add; split <;> simp_all
    rw [this, World.cell?_alloc_new]
    simpa using hu
  · intro g' cap' w' h1 h2 h3 h4
    simp only [World.size_alloc] at h3
    refine h g' cap' w' (hO.push (w1 := w.alloc (.cells #[.int .i64 4, .int .i64 0, .string ⟨#[]⟩, .slice none 0 0] 24)) (fun b hb => Below.heap_alloc _ _ _ hb) (by simp) (by rw [hn]; exact h1) (by intro e; rw [e] at hn; cases hn) h2 ?_) ?_
    · rcases h3 with h3 | h3
      · simp only [Value.ownBlock, Option.some.injEq] at h3; exact .inl h3
      · exact .inr (by omega)
    · exact grown_below ((Below.refl _ _).alloc (by omega) _) h2 (by simp; omega) fun b hb => by simp only [Value.ownBlock, Option.some.injEq] at hb; omega
end
theorem setCell_comm (w : World) (a b : Addr) (u v : Value) (h : a.block ≠ b.block) : (w.setCell a u).setCell b v = (w.setCell b v).setCell a u := by
  unfold World.setCell
  congr 1
  apply Array.ext_getElem?
  intro i
  simp only [Array.getElem?_modify]
  by_cases h1 : b.block = i <;> by_cases h2 : a.block = i <;> simp [h1, h2]
  exact absurd (h2.trans h1.symm) h
theorem put_order (w : World) {g gg x y : Nat} (h : g ≠ gg) (c0 c1 c2 c3 r : Value) : ((((w.setCell ⟨g, x, none⟩ r).setCell ⟨gg, y, none⟩ c0).setCell ⟨gg, y + 1, none⟩ c1).setCell ⟨gg, y + 2, none⟩ c2).setCell ⟨gg, y + 3, none⟩ c3 =
    ((((w.setCell ⟨gg, y, none⟩ c0).setCell ⟨gg, y + 1, none⟩ c1).setCell ⟨gg, y + 2, none⟩ c2).setCell ⟨gg, y + 3, none⟩ c3).setCell ⟨g, x, none⟩ r := by
  rw [setCell_comm w ⟨g, x, none⟩ ⟨gg, y, none⟩ r c0 h, setCell_comm _ ⟨g, x, none⟩ ⟨gg, y + 1, none⟩ r c1 h, setCell_comm _ ⟨g, x, none⟩ ⟨gg, y + 2, none⟩ r c2 h, setCell_comm _ ⟨g, x, none⟩ ⟨gg, y + 3, none⟩ r c3 h]
theorem slot_frozen (w : World) {cs : Array Value} {e : TypeId} (o : Nat) : (w.alloc (.cells cs e)).frozen? ⟨w.heap.size, o, none⟩ = false := frozen_of_row _ _ o cs e (heap_alloc_new w _)
/-- The last one's cells. -/
theorem OwnG.lastC {P : Nat → Prop} {base : Nat} {w : World} {g n cap : Nat} {ts : List T} {t : T} (h : OwnG P base w (.slice (some ⟨g, 0, none⟩) (n + 1) cap) (ts ++ [t])) (hn : ts.length = n) :
    w.cell? ⟨g, n * 4, none⟩ = some (.int .i64 t.kind) ∧ w.cell? ⟨g, n * 4 + 1, none⟩ = some (.int .i64 t.n) ∧ w.cell? ⟨g, n * 4 + 2, none⟩ = some (.string t.name) ∧ ∃ a c, w.cell? ⟨g, n * 4 + 3, none⟩ = some (.slice a t.args.length c) := by
  obtain ⟨a', cap', -, h0, h1, h2, h3, -⟩ := (OwnT.rsl2 h).elem n (by simp [hn])
  have e : (ts ++ [t])[n]'(by simp [hn]) = t := by subst hn; simp
  rw [e] at h0 h1 h2 h3
  simp only [Nat.zero_add] at h0 h1 h2 h3
  exact ⟨h0, h1, h2, a', cap', h3⟩
section
variable {F : Nat → Prop} {base : Nat} {Wc w4 : World} {g cap gg cg capx : Nat} {ax : Option Addr} {q : List Value} {b : List T} {rest : List (List T)} {t : T} {c0 c1 c2 c3 : Value}
/-- The top's row by itself. -/
theorem OpenR.own (h : OpenR F base Wc g cap (.slice ax b.length capx :: q) (b :: rest)) : OwnG F base Wc.drew (.slice ax b.length capx) b :=
  OwnT.to h.parts.1 (Nat.le_refl _) (fun b' hb hl => ⟨hb, by simpa using hl, fun e => (h.parts.2.1 b' e).1 hb⟩) fun _ _ _ => rfl
theorem grown_facts (h : OpenR F base Wc g cap (.slice ax b.length capx :: q) (b :: rest)) (hO4 : OwnG F base w4 (.slice (some ⟨gg, 0, none⟩) (b.length + 1) cg) (b ++ [zeroT]))
    (hG4 : (Wc.drew.alloc (.cells #[.int .i64 0, .int .i64 0, .string ⟨#[]⟩, .slice none 0 0] 24)).grownBy w4 (Value.slice ax b.length capx).ownBlock) (hD4 : (Value.slice ax b.length capx).ownBlock = some gg ∨ Wc.drew.heap.size < gg) :
    Wc.heap.size + 1 ≤ w4.heap.size ∧ g ≠ gg ∧ (∀ b', b' < Wc.heap.size → (Value.slice ax b.length capx).ownBlock ≠ some b' → w4.heap[b']? = Wc.heap[b']?) ∧ (Value.slice ax b.length capx).ownBlock ≠ some g := by
  have hs := hG4.size
  simp only [World.size_alloc, World.size_drew] at hs hD4
  have hlt := h.lt
  refine ⟨hs, ?_, fun b' hb hne => ?_, fun e => (h.parts.2.1 g e).2.1 rfl⟩
  · rcases hD4 with h1 | h1
    · exact fun e => (h.parts.2.1 gg h1).2.1 e.symm
    · omega
  · rw [hG4.block b' (by simp; omega) fun e => hne e.symm]
    exact Below.heap_alloc _ _ _ hb
theorem OpenR.putted (h : OpenR F base Wc g cap (.slice ax b.length capx :: q) (b :: rest)) (ht : RT F Wc t (.agg #[c0, c1, c2, c3])) (hO4 : OwnG F base w4 (.slice (some ⟨gg, 0, none⟩) (b.length + 1) cg) (b ++ [zeroT]))
    (hG4 : (Wc.drew.alloc (.cells #[.int .i64 0, .int .i64 0, .string ⟨#[]⟩, .slice none 0 0] 24)).grownBy w4 (Value.slice ax b.length capx).ownBlock) (hD4 : (Value.slice ax b.length capx).ownBlock = some gg ∨ Wc.drew.heap.size < gg) :
    OpenR F base (((((w4.setCell ⟨gg, b.length * 4, none⟩ c0).setCell ⟨gg, b.length * 4 + 1, none⟩ c1).setCell ⟨gg, b.length * 4 + 2, none⟩ c2).setCell ⟨gg, b.length * 4 + 3, none⟩ c3).setCell ⟨g, q.length * 4 + 3, none⟩ (.slice (some ⟨gg, 0, none⟩) (b.length + 1) cg)) g cap (.slice (some ⟨gg, 0, none⟩) (b.length + 1) cg :: q) ((b ++ [t]) :: rest) ∧
    Below base Wc (((((w4.setCell ⟨gg, b.length * 4, none⟩ c0).setCell ⟨gg, b.length * 4 + 1, none⟩ c1).setCell ⟨gg, b.length * 4 + 2, none⟩ c2).setCell ⟨gg, b.length * 4 + 3, none⟩ c3).setCell ⟨g, q.length * 4 + 3, none⟩ (.slice (some ⟨gg, 0, none⟩) (b.length + 1) cg)) := by
  obtain ⟨hs, hgg, hbl, hng⟩ := grown_facts h hO4 hG4 hD4
  have hbg := hO4.block gg rfl
  have hlt := h.lt
  have hFne : ∀ b', F b' → b' ≠ gg := fun b' hb e => by
    subst e
    rcases hD4 with h1 | h1
    · exact (h.parts.2.1 _ h1).1 hb
    · have := (h.old _ hb).2; simp at h1; omega
  have ht4 : RT F w4 t (.agg #[c0, c1, c2, c3]) := ht.to (fun _ h _ => h) fun b' hb hl => hbl b' hl fun e => (h.parts.2.1 b' e).1 hb
  have hst := hO4.store (k := b.length) (by simp) ht4 fun b' hb _ => ⟨hb, hFne b' hb⟩
  have e : (b ++ [zeroT]).set b.length t = b ++ [t] := by simp
  rw [e] at hst
  refine ⟨h.put (w1 := Wc.drew.alloc (.cells #[.int .i64 0, .int .i64 0, .string ⟨#[]⟩, .slice none 0 0] 24)) (fun b' hb => Below.heap_alloc _ _ _ hb) (by simp) (OwnT.to hst (Nat.le_refl _) (fun b' hb _ => hb.1) fun _ _ _ => rfl) ?_ ?_, ?_⟩
  · refine ⟨hG4.os, hG4.tape, hG4.output, by simpa using hG4.size, fun k hk hne => ?_⟩
    have hk' : k ≠ gg := fun e => by
      subst e
      rcases hD4 with h1 | h1
      · exact hne h1.symm
      · simp at hk h1; omega
    simp only [setCell_other _ _ _ _ _ hk']
    exact hG4.block k hk hne
  · intro b' hb
    simp only [Value.ownBlock, Option.some.injEq] at hb
    subst hb
    rcases hD4 with h1 | h1
    · exact .inl h1
    · simp at h1; exact .inr (by omega)
  · refine Below.setCell ?_ hlt.1 _
    refine Below.setCell ?_ hbg.1 _
    refine Below.setCell ?_ hbg.1 _
    refine Below.setCell ?_ hbg.1 _
    refine Below.setCell ?_ hbg.1 _
    exact grown_below (((Below.refl base Wc).drew).alloc (by simp; omega) _) hG4 (by simp; omega) fun b' hb => (h.parts.1.block b' hb).1
end
end Go.Proofs.YtedfepnekjjmnabDoor
