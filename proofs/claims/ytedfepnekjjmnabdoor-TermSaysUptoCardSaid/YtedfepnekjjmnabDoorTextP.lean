/-
  A term's text: in plain words. No program in sight.
-/
import Derived.Test.YtedfepnekjjmnabDoorForm
import Derived.Lib.Join
import Derived.Lib.ItoaLen
namespace Go.Proofs.YtedfepnekjjmnabDoor
open Go.RowKit
set_option linter.unusedSimpArgs false
set_option linter.unusedVariables false

def textL : List T → List (List UInt8)
  | [] => []
  | ⟨k, n, s, l⟩ :: ts => (if k = 1 then Lib.itoa n else if k = 2 then s.data.toList else if k = 3 then 35 :: Lib.itoa n else if k = 5 then 36 :: Lib.itoa n else if k = 6 then [95] else 40 :: (Lib.join (textL l) [32] ++ [41])) :: textL ts
def textT (t : T) : List UInt8 :=
  if t.kind = 1 then Lib.itoa t.n else if t.kind = 2 then t.name.data.toList else if t.kind = 3 then 35 :: Lib.itoa t.n else if t.kind = 5 then 36 :: Lib.itoa t.n else if t.kind = 6 then [95] else 40 :: (Lib.join (textL t.args) [32] ++ [41])
theorem textL_cons (t : T) (ts : List T) : textL (t :: ts) = textT t :: textL ts := by obtain ⟨k, n, s, l⟩ := t; rw [textL]; rfl
theorem textL_map (ts : List T) : textL ts = ts.map textT := by
  induction ts with
  | nil => rw [textL]; rfl
  | cons t ts ih => rw [textL_cons, ih]; rfl
def bytes (l : List UInt8) : ByteArray := ⟨l.toArray⟩
theorem bytes_data (l : List UInt8) : (bytes l).data.toList = l := by simp [bytes]
theorem bytes_append (a b : List UInt8) : bytes a ++ bytes b = bytes (a ++ b) := by
  apply ByteArray.ext
  simp [bytes, ByteArray.data_append]
theorem bytes_cons (x : UInt8) (l : List UInt8) : bytes [x] ++ bytes l = bytes (x :: l) := by rw [bytes_append]; rfl
theorem text_tuple (l : List UInt8) : Ending.returned (.string ((⟨#[40]⟩ : ByteArray) ++ bytes l ++ ⟨#[41]⟩)) = .returned (.string (bytes (40 :: (l ++ [41])))) := by
  rw [show (⟨#[40]⟩ : ByteArray) = bytes [40] from rfl, show (⟨#[41]⟩ : ByteArray) = bytes [41] from rfl, bytes_append, bytes_append]; rfl
theorem bytes_size (l : List UInt8) : (bytes l).size = l.length := by simp [bytes, ByteArray.size]
theorem bytes_of (s : ByteArray) : bytes s.data.toList = s := by cases s; simp [bytes]
theorem join_snoc (sep : List UInt8) (xs : List (List UInt8)) (y : List UInt8) (h : xs ≠ []) : Lib.join (xs ++ [y]) sep = Lib.join xs sep ++ sep ++ y := by
  cases xs with
  | nil => exact absurd rfl h
  | cons x r =>
    rw [List.cons_append, Lib.join_cons, Lib.join_cons]
    simp [Lib.joinTail, List.append_assoc]
theorem join_len (xs : List (List UInt8)) : (Lib.join xs [32]).length ≤ Lib.lens xs + xs.length := by
  cases xs with
  | nil => simp [Lib.join_nil]
  | cons x r => rw [Lib.join_length]; simp; omega
theorem form_n {t : T} (h : headB t = true) : -9223372036854775808 ≤ t.n ∧ t.n ≤ 9223372036854775807 := by
  unfold headB at h
  split at h
  · simp [inB] at h; omega
  split at h
  · simp at h; omega
  split at h
  · simp [inB] at h; omega
  split at h
  · simp [inB] at h; omega
  split at h
  · simp at h; omega
  split at h
  · simp at h; omega
  · cases h
theorem textL_len : ∀ (m : Nat) (ts : List T), bulkL ts ≤ m → formL ts = true → Lib.lens (textL ts) + ts.length ≤ 24 * bulkL ts
  | 0, ts, hb, _ => by
    cases ts with
    | nil => simp [textL, Lib.lens]
    | cons t ts => rw [bulkL_cons] at hb; omega
  | m + 1, ts, hb, hf => by
    cases ts with
    | nil => simp [textL, Lib.lens]
    | cons t ts =>
      rw [bulkL_cons] at hb ⊢
      rw [formL_cons] at hf
      simp only [Bool.and_eq_true] at hf
      have h1 := textL_len m t.args (by omega) hf.1.2
      have h2 := textL_len m ts (by omega) hf.2
      have hn := form_n hf.1.1
      have h3 := Lib.itoa_length_le t.n hn.1 hn.2
      have h4 := join_len (textL t.args)
      have h5 : (textL t.args).length = t.args.length := by rw [textL_map]; simp
      have h6 : t.name.data.toList.length = t.name.size := by rw [Array.length_toList]; rfl
      rw [textL_cons]
      have hl : Lib.lens (textT t :: textL ts) = (textT t).length + Lib.lens (textL ts) := by simp [Lib.lens]
      have h7 : (textT t).length + 1 ≤ 24 * (1 + t.name.size + bulkL t.args) := by
        unfold textT
        split
        · omega
        split
        · omega
        split
        · simp only [List.length_cons]; omega
        split
        · simp only [List.length_cons]; omega
        split
        · simp only [List.length_cons, List.length_nil]; omega
        · simp only [List.length_cons, List.length_append, List.length_nil]; omega
      rw [hl, List.length_cons]
      omega
theorem textT_len {t : T} (h : formL [t] = true) : (textT t).length + 1 ≤ 24 * bulkL [t] := by
  have := textL_len _ [t] (Nat.le_refl _) h
  rw [textL_cons] at this
  simpa [textL, Lib.lens] using this
def txT (t : T) : ByteArray := bytes (textT t)
theorem form_head {t : T} (h : formL [t] = true) : headB t = true ∧ formL t.args = true := by
  rw [formL_cons] at h
  simp only [Bool.and_eq_true] at h
  exact h.1
theorem form_mem {ts : List T} (h : formL ts = true) {x : T} (hx : x ∈ ts) : formL [x] = true := by
  rw [formL_all] at h
  exact List.all_eq_true.1 h x hx
theorem head_kinds {t : T} (h : headB t = true) : t.kind = 1 ∨ t.kind = 2 ∨ t.kind = 3 ∨ t.kind = 4 ∨ t.kind = 5 ∨ t.kind = 6 := by
  unfold headB at h
  by_cases h1 : t.kind = 1; · exact .inl h1
  by_cases h2 : t.kind = 2; · exact .inr (.inl h2)
  by_cases h3 : t.kind = 3; · exact .inr (.inr (.inl h3))
  by_cases h5 : t.kind = 5; · exact .inr (.inr (.inr (.inr (.inl h5))))
  by_cases h6 : t.kind = 6; · exact .inr (.inr (.inr (.inr (.inr h6))))
  by_cases h4 : t.kind = 4; · exact .inr (.inr (.inr (.inl h4)))
  rw [if_neg h1, if_neg h2, if_neg h3, if_neg h5, if_neg h6, if_neg h4] at h
  cases h
/-- The reference's text so far: k parts told. -/
def partText (ts : List T) (k : Nat) : List UInt8 := 40 :: Lib.join ((textL ts).take k) [32]
theorem partText_zero (ts : List T) : partText ts 0 = [40] := by simp [partText, Lib.join_nil]
theorem partText_one {ts : List T} (h : 0 < ts.length) : partText ts 1 = [(40 : UInt8)] ++ textT ts[0] := by
  unfold partText
  cases ts with
  | nil => cases h
  | cons t ts => rw [textL_cons]; simp [Lib.join_one]
theorem partText_succ {ts : List T} {k : Nat} (hk : k < ts.length) (h0 : 0 < k) : partText ts (k + 1) = partText ts k ++ [32] ++ textT ts[k] := by
  unfold partText
  have hl : k < (textL ts).length := by rw [textL_map]; simpa using hk
  have h1 : (textL ts).take (k + 1) = (textL ts).take k ++ [textT ts[k]] := by
    rw [List.take_succ_eq_append_getElem hl]
    simp [textL_map]
  have hlk : ((textL ts).take k).length = k := by rw [List.length_take]; omega
  rw [h1, join_snoc _ _ _ (by
    intro e
    rw [e] at hlk
    simp at hlk; omega)]
  simp
theorem partText_all (t : T) : 40 :: (Lib.join (textL t.args) [32] ++ [41]) = partText t.args t.args.length ++ [41] := by
  unfold partText
  rw [List.take_of_length_le (by rw [textL_map]; simp)]
  simp
theorem partText_len (ts : List T) (k : Nat) : (partText ts k).length ≤ 1 + Lib.lens (textL ts) + ts.length := by
  unfold partText
  have h1 := join_len ((textL ts).take k)
  have h2 := Lib.lens_take_le (textL ts) k
  have h3 : ((textL ts).take k).length ≤ ts.length := by rw [List.length_take, textL_map]; simp; omega
  simp only [List.length_cons]
  omega
end Go.Proofs.YtedfepnekjjmnabDoor
