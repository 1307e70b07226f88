/-
  Contracts and plain laws, joined: ScanP BackT. Conditions stand in each.
-/
import Derived.Test.YtedfepnekjjmnabDoorJb
import Derived.Test.YtedfepnekjjmnabDoorJc
/-
  TermBack's plain law, first half: the words of a term's text, and what they build. No program in sight.
-/
namespace Go.Proofs.YtedfepnekjjmnabDoor
open Go.RowKit
set_option linter.unusedSimpArgs false
set_option linter.unusedVariables false

/-! ### Digits -/
theorem decDigits_all (u : Nat) : (Lib.decDigits u).all digB = true ∧ digV (Lib.decDigits u) = u := by
  induction u using Nat.strongRecOn with
  | _ u ih =>
    rw [Lib.decDigits]
    by_cases h : u < 10
    · rw [dif_pos h]
      have hc : (UInt8.ofNat (48 + u)).toNat = 48 + u := by simp; omega
      refine ⟨?_, ?_⟩
      · simp [digB, hc]; omega
      · simp [digV]; omega
    · rw [dif_neg h]
      obtain ⟨h1, h2⟩ := ih (u / 10) (by omega)
      have hc : (UInt8.ofNat (48 + u % 10)).toNat = 48 + u % 10 := by simp; omega
      refine ⟨?_, ?_⟩
      · rw [List.all_append, h1]; simp [digB, hc]; omega
      · rw [digV_snoc, h2, hc]; omega
theorem decDigits_ne (u : Nat) : Lib.decDigits u ≠ [] := by
  intro h
  have := Lib.decDigits_length u
  rw [h] at this
  have := Lib.nDigits_pos u
  simp at *; omega
/-- The first digit is no nought, but for nought itself. -/
theorem decDigits_head (u : Nat) (h : 1 < (Lib.decDigits u).length) : ((Lib.decDigits u).headD 0).toNat ≠ 48 := by
  induction u using Nat.strongRecOn with
  | _ u ih =>
    rw [Lib.decDigits] at h ⊢
    by_cases h1 : u < 10
    · rw [dif_pos h1] at h; simp at h
    · rw [dif_neg h1] at h ⊢
      have hne := decDigits_ne (u / 10)
      have hh : ((Lib.decDigits (u / 10) ++ [UInt8.ofNat (48 + u % 10)]).headD 0) = (Lib.decDigits (u / 10)).headD 0 := by
        cases e : Lib.decDigits (u / 10) with
        | nil => exact absurd e hne
        | cons a l => rfl
      rw [hh]
      by_cases h2 : 1 < (Lib.decDigits (u / 10)).length
      · exact ih _ (by omega) h2
      · have h3 : u / 10 < 10 := by
          apply Nat.lt_of_not_le
          intro hge
          have := Lib.decDigits_length (u / 10)
          have h4 := Lib.nDigits_big (u := u / 10) (by omega)
          have := Lib.nDigits_pos (u / 10 / 10)
          omega
        rw [Lib.decDigits, dif_pos h3]
        have hc : (UInt8.ofNat (48 + u / 10)).toNat = 48 + u / 10 := by simp; omega
        show (UInt8.ofNat (48 + u / 10)).toNat ≠ 48
        rw [hc]; omega
theorem decDigits_len (k : Nat) : ∀ u, u < 10 ^ (k + 1) → (Lib.decDigits u).length ≤ k + 1 := by
  induction k with
  | zero => intro u h; rw [Lib.decDigits, dif_pos (by simpa using h)]; simp
  | succ k ih =>
    intro u h
    rw [Lib.decDigits]
    by_cases h1 : u < 10
    · rw [dif_pos h1]; simp
    · rw [dif_neg h1]
      have := ih (u / 10) (by rw [Nat.pow_succ] at h; omega)
      simp; omega
theorem numOk_dec (u : Nat) (m : Int) (h : ((Lib.decDigits u).length : Int) ≤ m) : numOk (bytes (Lib.decDigits u)) m = true := by
  have h1 := Lib.decDigits_length u
  have h2 := Lib.nDigits_pos u
  unfold numOk headZ
  rw [bytes_size, bytes_data, (decDigits_all u).1]
  have h3 : (decide (1 < (Lib.decDigits u).length) && ((Lib.decDigits u).headD 0).toNat == 48) = false := by
    by_cases h4 : 1 < (Lib.decDigits u).length
    · have := decDigits_head u h4
      rw [beq_eq_false_iff_ne.2 this, Bool.and_false]
    · simp [h4]
  rw [h3]
  simp; omega
theorem dig_bytes (l : List UInt8) : (bytes l).data.toList = l := bytes_data l
theorem hdN_cons (c : UInt8) (l : List UInt8) : hdN (bytes (c :: l)) = c.toNat := by unfold hdN; rw [bytes_data]; rfl
theorem tlB_cons (c : UInt8) (l : List UInt8) : tlB (bytes (c :: l)) = bytes l := by
  unfold tlB
  apply ByteArray.ext
  rw [ByteArray.data_extract]
  apply Array.toList_inj.1
  rw [Array.toList_extract]
  simp [bytes, ByteArray.size]
theorem dec_head (u : Nat) : ∃ c l, Lib.decDigits u = c :: l ∧ 48 ≤ c.toNat ∧ c.toNat ≤ 57 := by
  cases e : Lib.decDigits u with
  | nil => exact absurd e (decDigits_ne u)
  | cons c l =>
    have h := (decDigits_all u).1
    rw [e] at h
    simp only [List.all_cons, Bool.and_eq_true, digB, decide_eq_true_eq] at h
    exact ⟨c, l, rfl, h.1.1, h.1.2⟩
/-! ### A leaf's word -/
theorem bare_of {t : T} (h : bareB t = true) : t.name = ⟨#[]⟩ ∧ t.args = [] := by
  unfold bareB at h
  rw [Bool.and_eq_true] at h
  have h1 : t.name.toList = [] := List.isEmpty_iff.1 h.1
  refine ⟨?_, List.eq_nil_of_length_eq_zero (by simpa using h.2)⟩
  apply ByteArray.ext
  apply Array.toList_inj.1
  rw [← ByteArray.toList_eq] 
  exact h1
theorem low_iff (c : UInt8) : lowB c = true ↔ 97 ≤ c.toNat ∧ c.toNat ≤ 122 := by simp [lowB]
theorem leaf_dec (u : Nat) (h : u < 10 ^ 13) : leafB (bytes (Lib.decDigits u)) = true ∧ leafT (bytes (Lib.decDigits u)) = ⟨1, u, ⟨#[]⟩, []⟩ := by
  obtain ⟨c, l, e, h1, h2⟩ := dec_head u
  have hl := decDigits_len 12 u h
  have hn := numOk_dec u 13 (by omega)
  have hh : hdN (bytes (Lib.decDigits u)) = c.toNat := by rw [e]; exact hdN_cons c l
  refine ⟨?_, ?_⟩
  · rw [leafB, hh, if_neg (by omega), if_neg (by omega), if_neg (by omega), if_neg (by omega), hn]; rfl
  · rw [leafT, hh, if_neg (by omega), if_neg (by omega), if_neg (by omega), if_neg (by omega), if_pos hn, bytes_data, (decDigits_all u).2]
theorem leaf_neg (u : Nat) (h : u < 10 ^ 13) (h0 : 0 < u) : leafB (bytes (45 :: Lib.decDigits u)) = true ∧ leafT (bytes (45 :: Lib.decDigits u)) = ⟨1, -(u : Int), ⟨#[]⟩, []⟩ := by
  have hl := decDigits_len 12 u h
  have hn := numOk_dec u 13 (by omega)
  have hh : hdN (bytes (45 :: Lib.decDigits u)) = 45 := hdN_cons _ _
  refine ⟨?_, ?_⟩
  · rw [leafB, hh, if_neg (by omega), if_neg (by omega), if_pos rfl, tlB_cons, hn, bytes_data, (decDigits_all u).2]; simp; omega
  · rw [leafT, hh, if_neg (by omega), if_neg (by omega), if_pos rfl, tlB_cons, bytes_data, (decDigits_all u).2]
theorem leaf_hash (u : Nat) (h : u < 100) : leafB (bytes (35 :: Lib.decDigits u)) = true ∧ leafT (bytes (35 :: Lib.decDigits u)) = ⟨3, u, ⟨#[]⟩, []⟩ := by
  have hl := decDigits_len 1 u (by omega)
  have hn := numOk_dec u 2 (by omega)
  have hh : hdN (bytes (35 :: Lib.decDigits u)) = 35 := hdN_cons _ _
  exact ⟨by rw [leafB, hh, if_pos rfl, tlB_cons, hn], by rw [leafT, hh, if_pos rfl, tlB_cons, bytes_data, (decDigits_all u).2]⟩
theorem leaf_dollar (u : Nat) (h : u < 100) : leafB (bytes (36 :: Lib.decDigits u)) = true ∧ leafT (bytes (36 :: Lib.decDigits u)) = ⟨5, u, ⟨#[]⟩, []⟩ := by
  have hl := decDigits_len 1 u (by omega)
  have hn := numOk_dec u 2 (by omega)
  have hh : hdN (bytes (36 :: Lib.decDigits u)) = 36 := hdN_cons _ _
  exact ⟨by rw [leafB, hh, if_neg (by omega), if_pos rfl, tlB_cons, hn], by rw [leafT, hh, if_neg (by omega), if_pos rfl, tlB_cons, bytes_data, (decDigits_all u).2]⟩
theorem leaf_any : leafB (bytes [95]) = true ∧ leafT (bytes [95]) = anyT := by
  have hh : hdN (bytes [95]) = 95 := hdN_cons _ _
  exact ⟨by rw [leafB, hh, if_neg (by omega), if_neg (by omega), if_neg (by omega), if_pos rfl, Lib.toList_data, bytes_data]; rfl, by rw [leafT, hh, if_neg (by omega), if_neg (by omega), if_neg (by omega), if_pos rfl]⟩
theorem leaf_name {s : ByteArray} (h : nameB s = true) : leafB s = true ∧ leafT s = ⟨2, 0, s, []⟩ := by
  unfold nameB at h
  simp only [Bool.and_eq_true, decide_eq_true_eq] at h
  obtain ⟨⟨h1, h2⟩, h3⟩ := h
  have hsz : s.data.toList.length = s.size := by rw [Array.length_toList]; rfl
  cases e : s.data.toList with
  | nil => rw [e] at hsz; simp at hsz; omega
  | cons c l =>
    have hc : 97 ≤ c.toNat ∧ c.toNat ≤ 122 := (low_iff c).1 (List.all_eq_true.1 h3 c (by rw [e]; simp))
    have hh : hdN s = c.toNat := by unfold hdN; rw [e]; rfl
    have hn : numOk s 13 = false := by
      unfold numOk
      rw [e]
      have : digB c = false := by simp [digB]; omega
      simp [this]
    refine ⟨?_, ?_⟩
    · rw [leafB, hh, if_neg (by omega), if_neg (by omega), if_neg (by omega), if_neg (by omega), h3, Bool.or_true]
    · rw [leafT, hh, if_neg (by omega), if_neg (by omega), if_neg (by omega), if_neg (by omega), hn]; rfl
theorem dec_spec (u : Nat) : ∀ c ∈ Lib.decDigits u, specB c.toNat = false := fun c hc => by
  have h := List.all_eq_true.1 (decDigits_all u).1 c hc
  simp only [digB, Bool.and_eq_true, decide_eq_true_eq] at h
  simp [specB]; omega
def LeafBack (t : T) : Prop := leafB (bytes (textT t)) = true ∧ leafT (bytes (textT t)) = t ∧ (∀ c ∈ textT t, specB c.toNat = false) ∧ textT t ≠ []
theorem leaf_back {t : T} (hh : headB t = true) (h4 : t.kind ≠ 4) : LeafBack t := by
  obtain ⟨k, n, s, l⟩ := t
  unfold headB at hh
  unfold LeafBack textT
  simp only at hh h4 ⊢
  by_cases k1 : k = 1
  · rw [if_pos k1] at hh
    rw [if_pos k1]
    simp only [Bool.and_eq_true] at hh
    obtain ⟨rfl, rfl⟩ := bare_of hh.1
    have hn := hh.2
    simp only [inB, Bool.and_eq_true, decide_eq_true_eq] at hn
    subst k1
    by_cases h0 : n < 0
    · obtain ⟨u, rfl⟩ : ∃ u : Nat, n = -(u : Int) := ⟨n.natAbs, by omega⟩
      have e : Lib.itoa (-(u : Int)) = 45 :: Lib.decDigits u := by unfold Lib.itoa; rw [if_pos h0]; simp
      rw [e]
      obtain ⟨h1, h2⟩ := leaf_neg u (by omega) (by omega)
      refine ⟨h1, h2, fun c hc => ?_, by simp⟩
      rcases List.mem_cons.1 hc with rfl | hc
      · rfl
      · exact dec_spec u c hc
    · obtain ⟨u, rfl⟩ : ∃ u : Nat, n = (u : Int) := ⟨n.toNat, by omega⟩
      have e : Lib.itoa (u : Int) = Lib.decDigits u := by unfold Lib.itoa; rw [if_neg h0]; simp
      rw [e]
      obtain ⟨h1, h2⟩ := leaf_dec u (by omega)
      exact ⟨h1, h2, dec_spec u, decDigits_ne u⟩
  rw [if_neg k1] at hh
  rw [if_neg k1]
  by_cases k2 : k = 2
  · rw [if_pos k2] at hh
    rw [if_pos k2]
    simp only [Bool.and_eq_true, decide_eq_true_eq] at hh
    obtain ⟨⟨rfl, hl⟩, hnm⟩ := hh
    obtain rfl := List.eq_nil_of_length_eq_zero hl
    subst k2
    obtain ⟨h1, h2⟩ := leaf_name hnm
    rw [bytes_of]
    unfold nameB at hnm
    simp only [Bool.and_eq_true, decide_eq_true_eq] at hnm
    refine ⟨h1, h2, fun c hc => ?_, fun e => ?_⟩
    · have := (low_iff c).1 (List.all_eq_true.1 hnm.2 c hc)
      simp [specB]; omega
    · have hsz : s.data.toList.length = s.size := by rw [Array.length_toList]; rfl
      rw [e] at hsz
      simp at hsz; omega
  rw [if_neg k2] at hh
  rw [if_neg k2]
  by_cases k3 : k = 3
  · rw [if_pos k3] at hh
    rw [if_pos k3]
    simp only [Bool.and_eq_true] at hh
    obtain ⟨rfl, rfl⟩ := bare_of hh.1
    have hn := hh.2
    simp only [inB, Bool.and_eq_true, decide_eq_true_eq] at hn
    subst k3
    obtain ⟨u, rfl⟩ : ∃ u : Nat, n = (u : Int) := ⟨n.toNat, by omega⟩
    have e : Lib.itoa (u : Int) = Lib.decDigits u := by unfold Lib.itoa; rw [if_neg (by omega)]; simp
    rw [e]
    obtain ⟨h1, h2⟩ := leaf_hash u (by omega)
    refine ⟨h1, h2, fun c hc => ?_, by simp⟩
    rcases List.mem_cons.1 hc with rfl | hc
    · rfl
    · exact dec_spec u c hc
  rw [if_neg k3] at hh
  rw [if_neg k3]
  by_cases k5 : k = 5
  · rw [if_pos k5] at hh
    rw [if_pos k5]
    simp only [Bool.and_eq_true] at hh
    obtain ⟨rfl, rfl⟩ := bare_of hh.1
    have hn := hh.2
    simp only [inB, Bool.and_eq_true, decide_eq_true_eq] at hn
    subst k5
    obtain ⟨u, rfl⟩ : ∃ u : Nat, n = (u : Int) := ⟨n.toNat, by omega⟩
    have e : Lib.itoa (u : Int) = Lib.decDigits u := by unfold Lib.itoa; rw [if_neg (by omega)]; simp
    rw [e]
    obtain ⟨h1, h2⟩ := leaf_dollar u (by omega)
    refine ⟨h1, h2, fun c hc => ?_, by simp⟩
    rcases List.mem_cons.1 hc with rfl | hc
    · rfl
    · exact dec_spec u c hc
  rw [if_neg k5] at hh
  rw [if_neg k5]
  by_cases k6 : k = 6
  · rw [if_pos k6] at hh
    rw [if_pos k6]
    simp only [Bool.and_eq_true, decide_eq_true_eq] at hh
    obtain ⟨rfl, rfl⟩ := bare_of hh.1
    obtain rfl := hh.2
    subst k6
    refine ⟨leaf_any.1, leaf_any.2, fun c hc => ?_, by simp⟩
    rcases List.mem_cons.1 hc with rfl | hc
    · rfl
    · cases hc
  · rw [if_neg k6, if_neg h4] at hh; cases hh
/-! ### The words of a text -/
/-- L stands in s from i on. -/
def Stands (s : ByteArray) (i : Nat) (L : List UInt8) : Prop := (s.data.toList.drop i).take L.length = L
theorem Stands.append {s : ByteArray} {i : Nat} {L M : List UInt8} (h : Stands s i (L ++ M)) : Stands s i L ∧ Stands s (i + L.length) M := by
  unfold Stands at h ⊢
  rw [List.length_append, List.take_add] at h
  obtain ⟨h1, h2⟩ := List.append_inj' h (by
    have := congrArg List.length h
    simp only [List.length_append, List.length_take, List.length_drop] at this ⊢
    omega)
  exact ⟨h1, by rw [List.drop_drop] at h2; exact h2⟩
theorem Stands.at {s : ByteArray} {i : Nat} {L : List UInt8} (h : Stands s i L) (j : Nat) (hj : j < L.length) : atN s (i + j) = L[j].toNat ∧ i + j < s.size := by
  have h1 : (L[j]? : Option UInt8) = (s.data.toList.drop i)[j]? := by
    have := congrArg (fun x => x[j]?) h
    simp only [List.getElem?_take] at this
    rw [if_pos hj] at this
    exact this.symm
  rw [List.getElem?_drop, List.getElem?_eq_getElem hj] at h1
  refine ⟨by unfold atN; rw [← h1]; rfl, ?_⟩
  have h2 := (List.getElem?_eq_some_iff.1 h1.symm).1
  simpa using h2
theorem Stands.word {s : ByteArray} {i : Nat} {L : List UInt8} (h : Stands s i L) : wordS s (i, i + L.length) = bytes L := by
  unfold wordS
  apply ByteArray.ext
  rw [ByteArray.data_extract]
  apply Array.toList_inj.1
  rw [Array.toList_extract]
  simp only [bytes, List.extract_eq_take_drop]
  rw [show i + L.length - i = L.length by omega]
  exact h
def toksL : List T → List Tok
  | [] => []
  | ⟨k, n, s, l⟩ :: ts => (if k = 4 then .op :: (toksL l ++ [.cl]) else [.lf true ⟨k, n, s, l⟩]) ++ toksL ts
def toks1 (t : T) : List Tok := if t.kind = 4 then .op :: (toksL t.args ++ [.cl]) else [.lf true t]
theorem toksL_cons (t : T) (ts : List T) : toksL (t :: ts) = toks1 t ++ toksL ts := by obtain ⟨k, n, s, l⟩ := t; rw [toksL]; rfl
theorem tkb_op : tokB (bytes [40]) = .op := by unfold tokB; rw [Lib.toList_data, bytes_data]; rfl
theorem tkb_cl : tokB (bytes [41]) = .cl := by unfold tokB; rw [Lib.toList_data, bytes_data]; rfl
theorem tkb_leaf {t : T} (h : LeafBack t) : tokB (bytes (textT t)) = .lf true t := by
  obtain ⟨h1, h2, h3, h4⟩ := h
  unfold tokB
  rw [Lib.toList_data, bytes_data, if_neg, if_neg, h1, h2]
  · intro e
    have := h3 41 (by rw [beq_iff_eq.1 e]; simp)
    simp [specB] at this
  · intro e
    have := h3 40 (by rw [beq_iff_eq.1 e]; simp)
    simp [specB] at this
theorem toksS_one (s : ByteArray) (p : Nat × Nat) : toksS s [p] = [tokB (wordS s p)] := rfl
/-- What is met from i on: words W more, the state o. -/
def Met (s : ByteArray) (i : Nat) (W : List (Nat × Nat)) (L : List UInt8) (ks : List Tok) : Prop := ∃ R o, wst s (i + L.length) = (W ++ R, o) ∧ toksS s R = ks
theorem met_all : ∀ (m : Nat) (ts : List T), bulkL ts ≤ m → formL ts = true →
    (∀ t ∈ ts, ∀ (s : ByteArray) (i : Nat) (W : List (Nat × Nat)), Stands s i (textT t) → wst s i = (W, false) → Met s i W (textT t) (toks1 t)) ∧
    (∀ (s : ByteArray) (i : Nat) (W : List (Nat × Nat)) (o : Bool), Stands s i (Lib.joinTail [32] (textL ts)) → wst s i = (W, o) → Met s i W (Lib.joinTail [32] (textL ts)) (toksL ts)) := by
  intro m
  induction m with
  | zero =>
    intro ts hb _
    cases ts with
    | nil => exact ⟨by simp, fun s i W o _ h => ⟨[], o, by simp [textL, Lib.joinTail, h], by simp [toksL, toksS, wsS]⟩⟩
    | cons t ts => rw [bulkL_cons] at hb; omega
  | succ m ih =>
    intro ts hb hf
    cases ts with
    | nil => exact ⟨by simp, fun s i W o _ h => ⟨[], o, by simp [textL, Lib.joinTail, h], by simp [toksL, toksS, wsS]⟩⟩
    | cons t ts =>
      rw [bulkL_cons] at hb
      have hft := form_mem hf (x := t) (by simp)
      obtain ⟨hh, hfa⟩ := form_head hft
      have hfr : formL ts = true := by rw [formL_cons] at hf; simp only [Bool.and_eq_true] at hf; exact hf.2
      obtain ⟨iha1, iha2⟩ := ih t.args (by omega) hfa
      obtain ⟨ihr1, ihr2⟩ := ih ts (by omega) hfr
      have h1 : ∀ (s : ByteArray) (i : Nat) (W : List (Nat × Nat)), Stands s i (textT t) → wst s i = (W, false) → Met s i W (textT t) (toks1 t) := by
        intro s i W hs hw
        by_cases hk : t.kind = 4
        · have et : textT t = 40 :: (Lib.join (textL t.args) [32] ++ [41]) := by
            unfold textT; rw [if_neg (by omega), if_neg (by omega), if_neg (by omega), if_neg (by omega), if_neg (by omega)]
          rw [et] at hs ⊢
          obtain ⟨s1, s2⟩ := Stands.append (L := [40]) hs
          obtain ⟨s3, s4⟩ := s2.append
          have a1 := (s1.at 0 (by simp)).1
          have w1 : wst s (i + 1) = (W ++ [(i, i + 1)], false) := by
            have := wst_paren (s := s) (k := i) (.inl (by simpa using a1))
            rw [hw] at this; exact this
          have k1 : tokB (wordS s (i, i + 1)) = .op := by
            have := s1.word
            simp only [List.length_cons, List.length_nil, Nat.zero_add] at this
            rw [this]; exact tkb_op
          -- the parts
          have hp : Met s (i + 1) (W ++ [(i, i + 1)]) (Lib.join (textL t.args) [32]) (toksL t.args) := by
            cases ea : t.args with
            | nil => exact ⟨[], false, by simpa [textL, Lib.join_nil] using w1, by simp [toksL, toksS, wsS]⟩
            | cons x xs =>
              rw [ea] at s3
              rw [textL_cons, Lib.join_cons] at s3 ⊢
              obtain ⟨s5, s6⟩ := s3.append
              have hx := iha1 x (by rw [ea]; simp) s (i + 1) _ s5 w1
              obtain ⟨R1, o1, e1, e2⟩ := hx
              have hxs : formL xs = true := by rw [ea, formL_cons] at hfa; simp only [Bool.and_eq_true] at hfa; exact hfa.2
              have hbx : bulkL xs ≤ m := by
                have hb2 : bulkL t.args ≤ m := (by omega)
                rw [ea, bulkL_cons] at hb2; omega
              obtain ⟨R2, o2, e3, e4⟩ := (ih xs hbx hxs).2 s (i + 1 + (textT x).length) _ o1 s6 e1
              exact ⟨R1 ++ R2, o2, by rw [List.length_append, ← Nat.add_assoc, e3, List.append_assoc], by rw [toksS_append, e2, e4, toksL_cons]⟩
          obtain ⟨R, o, e1, e2⟩ := hp
          have a2 := (s4.at 0 (by simp)).1
          have w2 := wst_paren (s := s) (k := i + [40].length + (Lib.join (textL t.args) [32]).length) (.inr (by simpa using a2))
          have k2 : tokB (wordS s (i + [40].length + (Lib.join (textL t.args) [32]).length, i + [40].length + (Lib.join (textL t.args) [32]).length + 1)) = .cl := by
            have := s4.word
            simp only [List.length_cons, List.length_nil, Nat.zero_add] at this ⊢
            rw [this]; exact tkb_cl
          simp only [List.length_cons, List.length_nil, Nat.zero_add] at w2 k2
          rw [e1] at w2
          refine ⟨[(i, i + 1)] ++ R ++ [(i + 1 + (Lib.join (textL t.args) [32]).length, i + 1 + (Lib.join (textL t.args) [32]).length + 1)], false, ?_, ?_⟩
          · rw [List.length_cons, List.length_append, List.length_cons, List.length_nil, show i + ((Lib.join (textL t.args) [32]).length + (0 + 1) + 1) = i + 1 + (Lib.join (textL t.args) [32]).length + 1 by omega, w2]
            simp
          · rw [toksS_append, toksS_append, toksS_one, toksS_one, k1, k2, e2]
            unfold toks1
            rw [if_pos hk]; simp
        · have hL := leaf_back hh hk
          have h3 := hL.2.2.1
          have h4 := hL.2.2.2
          obtain ⟨d, hd⟩ : ∃ d, (textT t).length = d + 1 := ⟨(textT t).length - 1, by have := List.length_pos_iff.2 h4; omega⟩
          have hw2 := wst_word (s := s) (i := i) (by rw [hw]) d (fun j h5 h6 => by
            obtain ⟨q, rfl⟩ : ∃ q, j = i + q := ⟨j - i, by omega⟩
            have := (hs.at q (by omega)).1
            rw [this]
            exact h3 _ (List.getElem_mem _))
          rw [hw] at hw2
          refine ⟨[(i, i + d + 1)], true, by rw [hd]; exact hw2, ?_⟩
          rw [toksS_one, show i + d + 1 = i + (textT t).length by omega, hs.word, tkb_leaf hL]
          unfold toks1
          rw [if_neg hk]
      refine ⟨fun x hx => ?_, ?_⟩
      · rcases List.mem_cons.1 hx with rfl | hx
        · exact h1
        · exact ihr1 x hx
      · intro s i W o hs hw
        have et : Lib.joinTail [32] (textL (t :: ts)) = [32] ++ (textT t ++ Lib.joinTail [32] (textL ts)) := by rw [textL_cons]; simp [Lib.joinTail]
        rw [et] at hs ⊢
        obtain ⟨s1, s2⟩ := hs.append
        obtain ⟨s3, s4⟩ := s2.append
        have a1 := (s1.at 0 (by simp)).1
        have w1 : wst s (i + 1) = (W, false) := by
          have := wst_space (s := s) (k := i) (by simpa using a1)
          rw [hw] at this; exact this
        obtain ⟨R1, o1, e1, e2⟩ := h1 s (i + 1) W s3 w1
        obtain ⟨R2, o2, e3, e4⟩ := ihr2 s (i + 1 + (textT t).length) (W ++ R1) o1 s4 e1
        refine ⟨R1 ++ R2, o2, ?_, by rw [toksS_append, e2, e4, toksL_cons]⟩
        rw [List.length_append, List.length_append, List.length_cons, List.length_nil, show i + (0 + 1 + ((textT t).length + (Lib.joinTail [32] (textL ts)).length)) = i + 1 + (textT t).length + (Lib.joinTail [32] (textL ts)).length by omega, e3, List.append_assoc]
/-! ### What they build -/
theorem run_all : ∀ (m : Nat) (ts : List T), bulkL ts ≤ m → formL ts = true →
    (∀ t ∈ ts, ∀ (ks : List Tok) (j : Nat) (a : List T) (r : List (List T)), (r ≠ [] ∨ a = []) → prun (toks1 t ++ ks) j (a :: r) = prun ks (j + (toks1 t).length) ((a ++ [t]) :: r)) ∧
    (∀ (ks : List Tok) (j : Nat) (a : List T) (r : List (List T)), r ≠ [] → prun (toksL ts ++ ks) j (a :: r) = prun ks (j + (toksL ts).length) ((a ++ ts) :: r)) := by
  intro m
  induction m with
  | zero =>
    intro ts hb _
    cases ts with
    | nil => exact ⟨by simp, fun ks j a r _ => by simp [toksL]⟩
    | cons t ts => rw [bulkL_cons] at hb; omega
  | succ m ih =>
    intro ts hb hf
    cases ts with
    | nil => exact ⟨by simp, fun ks j a r _ => by simp [toksL]⟩
    | cons t ts =>
      rw [bulkL_cons] at hb
      have hft := form_mem hf (x := t) (by simp)
      obtain ⟨hh, hfa⟩ := form_head hft
      have hfr : formL ts = true := by rw [formL_cons] at hf; simp only [Bool.and_eq_true] at hf; exact hf.2
      obtain ⟨-, iha2⟩ := ih t.args (by omega) hfa
      obtain ⟨ihr1, ihr2⟩ := ih ts (by omega) hfr
      have h1 : ∀ (ks : List Tok) (j : Nat) (a : List T) (r : List (List T)), (r ≠ [] ∨ a = []) → prun (toks1 t ++ ks) j (a :: r) = prun ks (j + (toks1 t).length) ((a ++ [t]) :: r) := by
        intro ks j a r hr
        by_cases hk : t.kind = 4
        · have et : tupT t.args = t := by
            obtain ⟨k, n, s, l⟩ := t
            simp only at hk
            unfold headB at hh
            simp only at hh
            rw [if_neg (by omega), if_neg (by omega), if_neg (by omega), if_neg (by omega), if_neg (by omega), if_pos hk] at hh
            simp only [Bool.and_eq_true, decide_eq_true_eq] at hh
            have hs : s = ⟨#[]⟩ := by
              apply ByteArray.ext
              apply Array.toList_inj.1
              rw [← ByteArray.toList_eq]
              exact List.isEmpty_iff.1 hh.1.2
            rw [hk, hh.1.1, hs]; rfl
          have e1 : toks1 t = .op :: (toksL t.args ++ [.cl]) := by unfold toks1; rw [if_pos hk]
          rw [e1, List.cons_append]
          have hp : pstep .op (a :: r) = some ([] :: a :: r) := by
            cases r with
            | nil =>
              have ha : a = [] := hr.resolve_left (fun h => h rfl)
              subst ha; rfl
            | cons b r => rfl
          rw [prun, hp]
          simp only
          rw [List.append_assoc, iha2 _ _ _ _ (by simp), List.nil_append, List.singleton_append, prun]
          have hp2 : pstep .cl (t.args :: a :: r) = some ((a ++ [tupT t.args]) :: r) := rfl
          rw [hp2]
          simp only
          rw [et]
          congr 1
          simp only [List.length_cons, List.length_append, List.length_nil]; omega
        · have e1 : toks1 t = [.lf true t] := by unfold toks1; rw [if_neg hk]
          rw [e1, List.singleton_append, prun]
          have hp : pstep (.lf true t) (a :: r) = some ((a ++ [t]) :: r) := by
            cases r with
            | nil =>
              have ha : a = [] := hr.resolve_left (fun h => h rfl)
              subst ha; rfl
            | cons b r => rfl
          rw [hp]; rfl
      refine ⟨fun x hx => ?_, fun ks j a r hr => ?_⟩
      · rcases List.mem_cons.1 hx with rfl | hx
        · exact h1
        · exact ihr1 x hx
      · rw [toksL_cons, List.append_assoc, h1 _ _ _ _ (.inl hr), ihr2 _ _ _ _ hr]
        rw [List.append_assoc, List.singleton_append, List.length_append]
        congr 1; omega
/-- What is printed is read as it was. -/
theorem read_text {t : T} (hc : checkE t = 0) (hl : (textT t).length ≤ 2048) : readA (txT t) = (t, 0, 0) := by
  have hf : formL [t] = true := by
    unfold checkE at hc
    split at hc
    · assumption
    · omega
  have hsz : (txT t).size = (textT t).length := bytes_size _
  have hst : Stands (txT t) 0 (textT t) := by
    unfold Stands txT
    rw [bytes_data, List.drop_zero, List.take_length]
  obtain ⟨R, o, e1, e2⟩ := (met_all _ [t] (Nat.le_refl _) hf).1 t (by simp) (txT t) 0 [] hst rfl
  rw [Nat.zero_add, List.nil_append, ← hsz] at e1
  have hr := (run_all _ [t] (Nat.le_refl _) hf).1 t (by simp) [] 0 [] [] (.inr rfl)
  rw [List.append_nil] at hr
  unfold readA
  rw [if_neg (by omega), e1, e2, hr]
  simp only [prun, List.nil_append]
  rw [if_pos hc]
theorem read_long {t : T} (hl : 2048 < (textT t).length) : readA (txT t) = (zeroT, 0, 2) := by
  unfold readA; rw [if_pos (by rw [show (txT t).size = (textT t).length from bytes_size _]; exact hl)]
/-! ### Where reading ends -/
theorem wst_at (s : ByteArray) : ∀ k, ∀ p ∈ (wst s k).1, p.1 < k
  | 0 => by simp [wst]
  | k + 1 => by
    intro p hp
    have ih := wst_at s k
    rw [wst, wstep] at hp
    split at hp
    · exact Nat.lt_succ_of_lt (ih p hp)
    split at hp
    · rcases List.mem_append.1 hp with hp | hp
      · exact Nat.lt_succ_of_lt (ih p hp)
      · rw [List.mem_singleton.1 hp]; exact Nat.lt_succ_self k
    split at hp
    · rcases List.mem_append.1 hp with hp | hp
      · exact Nat.lt_succ_of_lt (ih p (List.dropLast_subset _ hp))
      · rw [List.mem_singleton.1 hp]
        cases e : (wst s k).1.getLast? with
        | none => simp
        | some q =>
          have := ih q (List.mem_of_getLast? e)
          simp; omega
    · rcases List.mem_append.1 hp with hp | hp
      · exact Nat.lt_succ_of_lt (ih p hp)
      · rw [List.mem_singleton.1 hp]; exact Nat.lt_succ_self k
theorem read_at (s : ByteArray) : 0 ≤ (readA s).2.1 ∧ (readA s).2.1 ≤ s.size := by
  have hat : ∀ j, 0 ≤ (atI (wst s s.size).1).getD j 0 ∧ (atI (wst s s.size).1).getD j 0 ≤ s.size := by
    intro j
    rw [List.getD_eq_getElem?_getD]
    cases e : (atI (wst s s.size).1)[j]? with
    | none => simp
    | some x =>
      have hm := List.mem_of_getElem? e
      unfold atI at hm
      obtain ⟨p, hp, rfl⟩ := List.mem_map.1 hm
      have := wst_at s s.size p hp
      simp; omega
  unfold readA
  split
  · simp
  · split
    · exact hat _
    · split <;> simp
    · simp
theorem read_ok {s : ByteArray} (h : (readA s).2.2 = 0) : checkE (readA s).1 = 0 := by
  unfold readA at h ⊢
  split
  · rename_i h2; rw [if_pos h2] at h; simp at h
  · rename_i h2
    rw [if_neg h2] at h
    split at h
    · simp at h
    · split at h
      · rename_i hc; rw [if_pos hc]; exact hc
      · rename_i hc; exact absurd h hc
    · simp at h
end Go.Proofs.YtedfepnekjjmnabDoor

/-
  TermBack's first words: what they are. No program in sight.
-/
namespace Go.Proofs.YtedfepnekjjmnabDoor
open Go.RowKit
set_option linter.unusedSimpArgs false
set_option linter.unusedVariables false
set_option maxRecDepth 100000

def rdT : T := tupT [twoT, pidT 3]
def rdS : ByteArray := ⟨#[32, 40, 40, 32, 97, 32, 32, 53, 41, 35, 51, 32, 41, 32]⟩
def rdOut : ByteArray := ⟨#[40, 40, 97, 32, 53, 41, 32, 35, 51, 41]⟩
theorem itoa3 : Lib.itoa 3 = [51] := by unfold Lib.itoa Lib.decDigits; rfl
theorem itoa5 : Lib.itoa 5 = [53] := by unfold Lib.itoa Lib.decDigits; rfl
theorem rd_check : checkE rdT = 0 := by
  simp [checkE, rdT, twoT, pidT, tupT, wordT, numT, formL_cons, formL, headB, bareB, dpL_cons, dpL, szL_cons, szL, inB, nameB, ByteArray.size, lowB, Lib.toList_data]
theorem rd_size : szL [rdT] = 6 := by simp [rdT, twoT, pidT, tupT, wordT, numT, szL_cons, szL]
theorem rd_bulk : bulkL [rdT] ≤ 100 := by simp [rdT, twoT, pidT, tupT, wordT, numT, bulkL_cons, bulkL, ByteArray.size]
theorem rd_text : printS rdT = rdOut := by
  unfold printS
  rw [if_pos rd_check]
  unfold txT rdOut
  have h : textT rdT = [40, 40, 97, 32, 53, 41, 32, 35, 51, 41] := by
    simp [textT, textL_cons, textL, rdT, twoT, pidT, tupT, wordT, numT, itoa3, itoa5, Lib.join, List.intercalate, List.intersperse]
  rw [h]; rfl
theorem rd_words : (wst rdS rdS.size).1 = [(1, 2), (2, 3), (4, 5), (7, 8), (8, 9), (9, 11), (12, 13)] := by decide
theorem rd_form : formL [rdT] = true := by
  have h := rd_check
  unfold checkE at h
  split at h
  · assumption
  · omega
theorem rd_toks : toksS rdS (wst rdS rdS.size).1 = toks1 rdT := by
  rw [rd_words]
  have la : LeafBack (wordT ⟨#[97]⟩) := leaf_back (by simp [headB, wordT, nameB, ByteArray.size, lowB]) (by decide)
  have l5 : LeafBack (numT 5) := leaf_back (by simp [headB, numT, bareB, inB, Lib.toList_data]) (by decide)
  have l3 : LeafBack (pidT 3) := leaf_back (by simp [headB, pidT, bareB, inB, Lib.toList_data]) (by decide)
  have ta := tkb_leaf la
  have t5 := tkb_leaf l5
  have t3 := tkb_leaf l3
  have ea : textT (wordT ⟨#[97]⟩) = [97] := by simp [textT, wordT]
  have e5 : textT (numT 5) = [53] := by simp [textT, numT, itoa5]
  have e3 : textT (pidT 3) = [35, 51] := by simp [textT, pidT, itoa3]
  rw [ea] at ta
  rw [e5] at t5
  rw [e3] at t3
  have w1 : wordS rdS (1, 2) = bytes [40] := by rfl
  have w2 : wordS rdS (2, 3) = bytes [40] := by rfl
  have w3 : wordS rdS (4, 5) = bytes [97] := by rfl
  have w4 : wordS rdS (7, 8) = bytes [53] := by rfl
  have w5 : wordS rdS (8, 9) = bytes [41] := by rfl
  have w6 : wordS rdS (9, 11) = bytes [35, 51] := by rfl
  have w7 : wordS rdS (12, 13) = bytes [41] := by rfl
  simp only [toksS, wsS, List.map_cons, List.map_nil, w1, w2, w3, w4, w5, w6, w7, tkb_op, tkb_cl, ta, t5, t3]
  simp [toks1, toksL, rdT, twoT, tupT, pidT, numT, wordT]
theorem rd_read : readA rdS = (rdT, 0, 0) := by
  have hr := (run_all _ [rdT] (Nat.le_refl _) rd_form).1 rdT (by simp) [] 0 [] [] (.inr rfl)
  rw [List.append_nil] at hr
  unfold readA
  rw [if_neg (by decide), rd_toks, hr]
  simp only [prun, List.nil_append]
  rw [if_pos rd_check]
end Go.Proofs.YtedfepnekjjmnabDoor
