/-
  term.leaf: a word as a term. Condition: the word isn't empty; a bound on the text.
-/
import Derived.Test.YtedfepnekjjmnaaDigits
import Derived.Test.YtedfepnekjjmnaaFree
import Derived.Test.YtedfepnekjjmnaaValP
namespace Go.Proofs.Ytedfepnekjjmnaa
open Go.RowKit
set_option linter.unusedSimpArgs false
set_option linter.unusedVariables false
set_option maxRecDepth 100000

def tlB (s : ByteArray) : ByteArray := s.extract 1 s.size
def hdN (s : ByteArray) : Nat := (s.data.toList.headD 0).toNat
def leafB (s : ByteArray) : Bool :=
  if hdN s = 35 then numOk (tlB s) 2 else if hdN s = 36 then numOk (tlB s) 2 else if hdN s = 45 then (numOk (tlB s) 13 && decide (0 < digV (tlB s).data.toList))
  else if hdN s = 95 then s.toList == [95] else (numOk s 13 || s.data.toList.all lowB)
def leafT (s : ByteArray) : T :=
  if hdN s = 35 then ⟨3, digV (tlB s).data.toList, ⟨#[]⟩, []⟩ else if hdN s = 36 then ⟨5, digV (tlB s).data.toList, ⟨#[]⟩, []⟩ else if hdN s = 45 then ⟨1, -digV (tlB s).data.toList, ⟨#[]⟩, []⟩
  else if hdN s = 95 then anyT else if numOk s 13 then ⟨1, digV s.data.toList, ⟨#[]⟩, []⟩ else ⟨2, 0, s, []⟩
def LeafP (s : ByteArray) (w : World) (e : Ending) (w' : World) : Prop :=
  ∃ k n name, e = .returned (.tuple #[.agg #[.int .i64 k, .int .i64 n, .string name, .slice none 0 0], .bool (leafB s)]) ∧ Below w.heap.size w w' ∧ (leafB s = true → leafT s = ⟨k, n, name, []⟩)
theorem LeafP.of {s : ByteArray} {w w' : World} {e : Ending} {k n : Int} {name : ByteArray} {ok : Bool} (hok : leafB s = ok) (ht : ok = true → leafT s = ⟨k, n, name, []⟩) (he : e = .returned (.tuple #[.agg #[.int .i64 k, .int .i64 n, .string name, .slice none 0 0], .bool ok]))
    (hB : Below w.heap.size w w') : LeafP s w e w' := ⟨k, n, name, by rw [hok]; exact he, hB, fun h => ht (by rw [← hok]; exact h)⟩
theorem hd_at (s : ByteArray) (h : 0 < s.size) : hdN s = s[0].toNat := by
  have h' : 0 < s.data.toList.length := by simpa using h
  rw [hdN, show s[0] = s.data.toList[0]'h' from rfl]
  generalize s.data.toList = l at h' ⊢
  cases l with
  | nil => simp at h'
  | cons a l => rfl
theorem tl_size (s : ByteArray) : (tlB s).size ≤ s.size := by simp [tlB]

section
variable {s : ByteArray} {w : World}
set_option maxHeartbeats 1000000 in
theorem leaf_35 (h0 : 0 < s.size) (hs : s.size ≤ 1099511627776) (hc : s[0].toNat = 35) : Calls Try.prog 65 #[.string s] w (LeafP s w) := by
  have hh := (hd_at s h0).trans hc
  have HB := Lib.hid (show leafB s = numOk (tlB s) 2 by rw [leafB, hh]; rfl)
  have HT := Lib.hid (show numOk (tlB s) 2 = true → leafT s = ⟨if (35 : Nat) = 35 then 3 else 5, numVal (tlB s) 2, ⟨#[]⟩, []⟩ from fun h => by rw [numVal_yes h, leafT, hh]; rfl)
  have hi : (0 : Int) < s.size := by omega
  have hi1 : (1 : Int) ≤ s.size := by omega
  have ht := tl_size s
  go_enter Try.func65, Try.ntmps65
  go_wp2_with fail
  refine (number_c (tlB s) 2 _ (by omega) (by omega) (by omega)).mono ?_
  rintro e w1 ⟨rfl, rfl⟩
  go_wp2_with fail
  refine bodyPost_ret (v := .tuple #[.agg #[.int .i64 (if (35 : Nat) = 35 then 3 else 5), .int .i64 (numVal (tlB s) 2), .string ⟨#[]⟩, .slice none 0 0], .bool (numOk (tlB s) 2)]) (by simp [results, Try.results65, go_sem]) rfl (LeafP.of HB.out HT.out rfl ?_)
  exact below_alloc _ _
set_option maxHeartbeats 1000000 in
theorem leaf_36 (h0 : 0 < s.size) (hs : s.size ≤ 1099511627776) (hc : s[0].toNat = 36) : Calls Try.prog 65 #[.string s] w (LeafP s w) := by
  have hh := (hd_at s h0).trans hc
  have HB := Lib.hid (show leafB s = numOk (tlB s) 2 by rw [leafB, hh]; rfl)
  have HT := Lib.hid (show numOk (tlB s) 2 = true → leafT s = ⟨if (36 : Nat) = 35 then 3 else 5, numVal (tlB s) 2, ⟨#[]⟩, []⟩ from fun h => by rw [numVal_yes h, leafT, hh]; rfl)
  have hi : (0 : Int) < s.size := by omega
  have hi1 : (1 : Int) ≤ s.size := by omega
  have ht := tl_size s
  go_enter Try.func65, Try.ntmps65
  go_wp2_with fail
  refine (number_c (tlB s) 2 _ (by omega) (by omega) (by omega)).mono ?_
  rintro e w1 ⟨rfl, rfl⟩
  go_wp2_with fail
  refine bodyPost_ret (v := .tuple #[.agg #[.int .i64 (if (36 : Nat) = 35 then 3 else 5), .int .i64 (numVal (tlB s) 2), .string ⟨#[]⟩, .slice none 0 0], .bool (numOk (tlB s) 2)]) (by simp [results, Try.results65, go_sem]) rfl (LeafP.of HB.out HT.out rfl ?_)
  exact below_alloc _ _
set_option maxHeartbeats 1000000 in
theorem leaf_45 (h0 : 0 < s.size) (hs : s.size ≤ 1099511627776) (hc : s[0].toNat = 45) : Calls Try.prog 65 #[.string s] w (LeafP s w) := by
  have hh := (hd_at s h0).trans hc
  have HB := Lib.hid (show leafB s = (numOk (tlB s) 13 && decide (0 < numVal (tlB s) 13)) by
    rw [leafB, hh]; show (numOk (tlB s) 13 && decide (0 < digV (tlB s).data.toList)) = _
    cases h : numOk (tlB s) 13
    · rfl
    · rw [numVal_yes h])
  have HT := Lib.hid (show (numOk (tlB s) 13 && decide (0 < numVal (tlB s) 13)) = true → leafT s = ⟨1, -numVal (tlB s) 13, ⟨#[]⟩, []⟩ from fun h => by rw [Bool.and_eq_true] at h; rw [numVal_yes h.1, leafT, hh]; rfl)
  have hi : (0 : Int) < s.size := by omega
  have hi1 : (1 : Int) ≤ s.size := by omega
  have ht := tl_size s
  have hr : -10000000000000 < numVal (tlB s) 13 ∧ numVal (tlB s) 13 < 10000000000000 := by
    cases h : numOk (tlB s) 13
    · rw [numVal_no h]; omega
    · rw [numVal_yes h]
      simp only [numOk, Bool.and_eq_true, decide_eq_true_eq] at h
      have := dig_13 (tlB s) (tlB s).size (by omega) (by rw [List.take_of_length_le (by simp)]; exact h.2)
      rw [List.take_of_length_le (by simp)] at this
      omega
  go_enter Try.func65, Try.ntmps65
  go_wp2_with fail
  refine (number_c (tlB s) 13 _ (by omega) (by omega) (by omega)).mono ?_
  rintro e w1 ⟨rfl, rfl⟩
  generalize numVal (tlB s) 13 = n at *
  generalize numOk (tlB s) 13 = ok at *
  cases ok
  · go_wp2_with fail
    refine bodyPost_ret (v := .tuple #[.agg #[.int .i64 1, .int .i64 (-n), .string ⟨#[]⟩, .slice none 0 0], .bool false]) (by simp [results, Try.results65, go_sem]) rfl (LeafP.of HB.out HT.out rfl ?_)
    exact below_alloc _ _
  · go_wp2_with fail
    refine bodyPost_ret (v := .tuple #[.agg #[.int .i64 1, .int .i64 (-n), .string ⟨#[]⟩, .slice none 0 0], .bool (decide (0 < n))]) (by simp [results, Try.results65, go_sem]) rfl (LeafP.of HB.out HT.out rfl ?_)
    exact below_alloc _ _
set_option maxHeartbeats 1000000 in
theorem leaf_95 (h0 : 0 < s.size) (hs : s.size ≤ 1099511627776) (hc : s[0].toNat = 95) : Calls Try.prog 65 #[.string s] w (LeafP s w) := by
  have hh := (hd_at s h0).trans hc
  have HB := Lib.hid (show leafB s = (s.toList == [95]) by rw [leafB, hh]; rfl)
  have HT := Lib.hid (show (s.toList == [95]) = true → leafT s = anyT from fun _ => by rw [leafT, hh]; rfl)
  have hi : (0 : Int) < s.size := by omega
  have hi1 : (1 : Int) ≤ s.size := by omega
  go_enter Try.func65, Try.ntmps65
  go_wp2_with fail
  refine bodyPost_ret (v := .tuple #[.agg #[.int .i64 6, .int .i64 0, .string ⟨#[]⟩, .slice none 0 0], .bool (s.toList == [95])]) (by simp [results, Try.results65, go_sem]) rfl (LeafP.of HB.out HT.out rfl ?_)
  exact below_alloc _ _
set_option maxHeartbeats 2000000 in
theorem leaf_o (h0 : 0 < s.size) (hs : s.size ≤ 1099511627776) (c1 : s[0].toNat ≠ 35) (c2 : s[0].toNat ≠ 36) (c3 : s[0].toNat ≠ 45) (c4 : s[0].toNat ≠ 95) : Calls Try.prog 65 #[.string s] w (LeafP s w) := by
  have hh := hd_at s h0
  have HB := Lib.hid (show leafB s = (numOk s 13 || s.data.toList.all lowB) by rw [leafB, hh, if_neg c1, if_neg c2, if_neg c3, if_neg c4])
  have HT := Lib.hid (show leafT s = if numOk s 13 then ⟨1, digV s.data.toList, ⟨#[]⟩, []⟩ else ⟨2, 0, s, []⟩ by rw [leafT, hh, if_neg c1, if_neg c2, if_neg c3, if_neg c4])
  have hi : (0 : Int) < s.size := by omega
  have hi1 : (1 : Int) ≤ s.size := by omega
  have d1 : ¬ (s[0].toNat : Int) = 35 := by omega
  have d2 : ¬ (s[0].toNat : Int) = 36 := by omega
  have d3 : ¬ (s[0].toNat : Int) = 45 := by omega
  have d4 : ¬ (s[0].toNat : Int) = 95 := by omega
  clear hh
  go_enter Try.func65, Try.ntmps65
  go_wp2_with fail
  refine (number_c s 13 _ hs (by omega) (by omega)).mono ?_
  rintro e w1 ⟨rfl, rfl⟩
  cases hok : numOk s 13
  · have HO := Lib.hid hok
    rw [numVal_no hok]
    clear hok
    go_wp2_with fail
    go_loopw [68] (fun i wr => ∃ k : Nat, k ≤ s.size ∧ i = .int .i64 k ∧ (s.data.toList.take k).all lowB = true ∧ wr = w.alloc (.cells #[.int .i64 0, .int .i64 0, .string ⟨#[]⟩, .slice none 0 0] 29)) (fun i _ => s.size - (intOf i).toNat)
    case atStart => exact ⟨0, Nat.zero_le _, rfl, rfl, by first | rfl | trivial⟩
    case round =>
      obtain ⟨k, hk, rfl, hall, rfl⟩ := hrel
      have HA := Lib.hid hall; clear hall
      by_cases hlt : k < s.size
      · have HS := Lib.hid (all_take_succ s k hlt)
        have hki : (k : Int) < s.size := by omega
        by_cases ha : s[k].toNat < 97
        · have HF := Lib.hid (show leafB s = false by rw [HB.out, HO.out, all_low_false s k hlt (by simp [lowB]; omega)]; rfl)
          go_wp2_with fail
          refine bodyPost_ret (v := .tuple #[.agg #[.int .i64 0, .int .i64 0, .string ⟨#[]⟩, .slice none 0 0], .bool false]) (by simp [results, Try.results65, go_sem]) rfl (LeafP.of HF.out (fun h => by cases h) rfl ?_)
          repeat refine Below.setCell ?_ (by simp <;> omega) _
          exact below_alloc _ _
        by_cases hb : 122 < s[k].toNat
        · have HF := Lib.hid (show leafB s = false by rw [HB.out, HO.out, all_low_false s k hlt (by simp [lowB]; omega)]; rfl)
          go_wp2_with fail
          refine bodyPost_ret (v := .tuple #[.agg #[.int .i64 0, .int .i64 0, .string ⟨#[]⟩, .slice none 0 0], .bool false]) (by simp [results, Try.results65, go_sem]) rfl (LeafP.of HF.out (fun h => by cases h) rfl ?_)
          repeat refine Below.setCell ?_ (by simp <;> omega) _
          exact below_alloc _ _
        · go_wp2_with fail
          go_roundw
          case rel => exact ⟨k + 1, by omega, by go_num, by rw [HS.out, HA.out]; simp [lowB]; omega, by first | rfl | trivial⟩
          case measure => simp [intOf]; omega
      · have hkk : k = s.size := by omega
        subst hkk
        have hall := HA.out
        rw [List.take_of_length_le (by simp)] at hall
        have HF := Lib.hid (show leafB s = true by rw [HB.out, HO.out, hall]; rfl)
        have HF2 := Lib.hid (show leafT s = ⟨2, 0, s, []⟩ by rw [HT.out, HO.out]; rfl)
        clear hall
        go_wp2_with fail
        refine bodyPost_ret (v := .tuple #[.agg #[.int .i64 2, .int .i64 0, .string s, .slice none 0 0], .bool true]) (by simp [results, Try.results65, go_sem]) rfl (LeafP.of HF.out (fun _ => HF2.out) rfl ?_)
        repeat refine Below.setCell ?_ (by simp <;> omega) _
        exact below_alloc _ _
  · have HF := Lib.hid (show leafB s = true by rw [HB.out, hok]; rfl)
    have HF2 := Lib.hid (show leafT s = ⟨1, digV s.data.toList, ⟨#[]⟩, []⟩ by rw [HT.out, hok]; rfl)
    rw [numVal_yes hok]
    clear hok
    go_wp2_with fail
    refine bodyPost_ret (v := .tuple #[.agg #[.int .i64 1, .int .i64 (digV s.data.toList), .string ⟨#[]⟩, .slice none 0 0], .bool true]) (by simp [results, Try.results65, go_sem]) rfl (LeafP.of HF.out (fun _ => HF2.out) rfl ?_)
    repeat refine Below.setCell ?_ (by simp <;> omega) _
    exact below_alloc _ _
theorem leaf_c (s : ByteArray) (w : World) (h0 : 0 < s.size) (hs : s.size ≤ 1099511627776) : Calls Try.prog 65 #[.string s] w (LeafP s w) := by
  by_cases c1 : s[0].toNat = 35
  · exact leaf_35 h0 hs c1
  by_cases c2 : s[0].toNat = 36
  · exact leaf_36 h0 hs c2
  by_cases c3 : s[0].toNat = 45
  · exact leaf_45 h0 hs c3
  by_cases c4 : s[0].toNat = 95
  · exact leaf_95 h0 hs c4
  · exact leaf_o h0 hs c1 c2 c3 c4
end
end Go.Proofs.Ytedfepnekjjmnaa
