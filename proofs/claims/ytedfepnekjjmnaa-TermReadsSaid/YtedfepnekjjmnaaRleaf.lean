/-
  clerkref.leaf: a word as a term. Condition: the word isn't empty; a bound on the text.
-/
import Derived.Test.YtedfepnekjjmnaaLeaf
namespace Go.Proofs.Ytedfepnekjjmnaa
open Go.RowKit
set_option linter.unusedSimpArgs false
set_option linter.unusedVariables false
set_option maxRecDepth 100000

theorem digR_ge (s : ByteArray) (most : Int) : decide (0 ≤ digR s most) = numOk s most := by
  cases h : numOk s most
  · rw [digR_no h]; rfl
  · rw [digR_yes h]
    simp only [numOk, Bool.and_eq_true, decide_eq_true_eq] at h
    have := dig_bound _ s.data.toList rfl h.2
    simp; omega
theorem digR_range (s : ByteArray) (most : Int) (hm : most ≤ 13) : -1 ≤ digR s most ∧ digR s most < 10000000000000 := by
  cases h : numOk s most
  · rw [digR_no h]; omega
  · rw [digR_yes h]
    simp only [numOk, Bool.and_eq_true, decide_eq_true_eq] at h
    have := dig_13 s s.size (by omega) (by rw [List.take_of_length_le (by simp)]; exact h.2)
    rw [List.take_of_length_le (by simp)] at this
    omega
theorem not_us (s : ByteArray) (h : 0 < s.size) (hc : s[0].toNat ≠ 95) : (s.toList == [95]) = false := by
  rw [ByteArray.toList_eq]
  have h' : 0 < s.data.toList.length := by simpa using h
  have hc : (s.data.toList[0]'h').toNat ≠ 95 := hc
  generalize s.data.toList = l at h' hc ⊢
  cases l with
  | nil => simp at h'
  | cons a l => simp at hc ⊢; intro ha; subst ha; exact absurd rfl hc
theorem hd_digit (s : ByteArray) (most : Int) (h : 0 < s.size) (hc : s[0].toNat = 95) : numOk s most = false ∧ s.data.toList.all lowB = false :=
  ⟨by rw [numOk, dig_false s 0 h (by simp [digB]; omega)]; simp, all_low_false s 0 h (by simp [lowB]; omega)⟩

section
variable {s : ByteArray} {w : World}
set_option maxHeartbeats 1000000 in
theorem rleaf_35 (h0 : 0 < s.size) (hs : s.size ≤ 1099511627776) (hc : s[0].toNat = 35) : Calls Try.prog 67 #[.string s] w (LeafP s w) := by
  have hh := (hd_at s h0).trans hc
  have HB := Lib.hid (show leafB s = decide (0 ≤ digR (tlB s) 2) by rw [leafB, hh, digR_ge]; rfl)
  have HT := Lib.hid (show decide (0 ≤ digR (tlB s) 2) = true → leafT s = ⟨if (35 : Nat) = 35 then 3 else 5, digR (tlB s) 2, ⟨#[]⟩, []⟩ from fun h => by rw [digR_ge] at h; rw [digR_yes h, leafT, hh]; rfl)
  have hi : (0 : Int) < s.size := by omega
  have hi1 : (1 : Int) ≤ s.size := by omega
  have ht := tl_size s
  go_enter Try.func67, Try.ntmps67
  go_wp2_with fail
  refine (digits_c (tlB s) 2 _ (by omega) (by omega) (by omega)).mono ?_
  rintro e w1 ⟨rfl, rfl⟩
  generalize digR (tlB s) 2 = n at *
  go_wp2_with fail
  refine bodyPost_ret (v := .tuple #[.agg #[.int .i64 (if (35 : Nat) = 35 then 3 else 5), .int .i64 n, .string ⟨#[]⟩, .slice none 0 0], .bool (decide (0 ≤ n))]) (by simp [results, Try.results67, go_sem]) rfl (LeafP.of HB.out HT.out rfl ?_)
  exact below_alloc _ _
set_option maxHeartbeats 1000000 in
theorem rleaf_36 (h0 : 0 < s.size) (hs : s.size ≤ 1099511627776) (hc : s[0].toNat = 36) : Calls Try.prog 67 #[.string s] w (LeafP s w) := by
  have hh := (hd_at s h0).trans hc
  have HB := Lib.hid (show leafB s = decide (0 ≤ digR (tlB s) 2) by rw [leafB, hh, digR_ge]; rfl)
  have HT := Lib.hid (show decide (0 ≤ digR (tlB s) 2) = true → leafT s = ⟨if (36 : Nat) = 35 then 3 else 5, digR (tlB s) 2, ⟨#[]⟩, []⟩ from fun h => by rw [digR_ge] at h; rw [digR_yes h, leafT, hh]; rfl)
  have hi : (0 : Int) < s.size := by omega
  have hi1 : (1 : Int) ≤ s.size := by omega
  have ht := tl_size s
  go_enter Try.func67, Try.ntmps67
  go_wp2_with fail
  refine (digits_c (tlB s) 2 _ (by omega) (by omega) (by omega)).mono ?_
  rintro e w1 ⟨rfl, rfl⟩
  generalize digR (tlB s) 2 = n at *
  go_wp2_with fail
  refine bodyPost_ret (v := .tuple #[.agg #[.int .i64 (if (36 : Nat) = 35 then 3 else 5), .int .i64 n, .string ⟨#[]⟩, .slice none 0 0], .bool (decide (0 ≤ n))]) (by simp [results, Try.results67, go_sem]) rfl (LeafP.of HB.out HT.out rfl ?_)
  exact below_alloc _ _
set_option maxHeartbeats 1000000 in
theorem rleaf_45 (h0 : 0 < s.size) (hs : s.size ≤ 1099511627776) (hc : s[0].toNat = 45) : Calls Try.prog 67 #[.string s] w (LeafP s w) := by
  have hh := (hd_at s h0).trans hc
  have HB := Lib.hid (show leafB s = decide (0 < digR (tlB s) 13) by
    rw [leafB, hh]; show (numOk (tlB s) 13 && decide (0 < digV (tlB s).data.toList)) = _
    cases h : numOk (tlB s) 13
    · rw [digR_no h]; rfl
    · rw [digR_yes h]; rfl)
  have HT := Lib.hid (show decide (0 < digR (tlB s) 13) = true → leafT s = ⟨1, -digR (tlB s) 13, ⟨#[]⟩, []⟩ from fun h => by
    have h2 : numOk (tlB s) 13 = true := by rw [← digR_ge]; simp at h ⊢; omega
    rw [digR_yes h2, leafT, hh]; rfl)
  have hi : (0 : Int) < s.size := by omega
  have hi1 : (1 : Int) ≤ s.size := by omega
  have ht := tl_size s
  have hr := digR_range (tlB s) 13 (by omega)
  go_enter Try.func67, Try.ntmps67
  go_wp2_with fail
  refine (digits_c (tlB s) 13 _ (by omega) (by omega) (by omega)).mono ?_
  rintro e w1 ⟨rfl, rfl⟩
  generalize digR (tlB s) 13 = n at *
  go_wp2_with fail
  refine bodyPost_ret (v := .tuple #[.agg #[.int .i64 1, .int .i64 (-n), .string ⟨#[]⟩, .slice none 0 0], .bool (decide (0 < n))]) (by simp [results, Try.results67, go_sem]) rfl (LeafP.of HB.out HT.out rfl ?_)
  exact below_alloc _ _
set_option maxHeartbeats 2000000 in
theorem rleaf_o (h0 : 0 < s.size) (hs : s.size ≤ 1099511627776) (c1 : s[0].toNat ≠ 35) (c2 : s[0].toNat ≠ 36) (c3 : s[0].toNat ≠ 45) : Calls Try.prog 67 #[.string s] w (LeafP s w) := by
  have hh := hd_at s h0
  have hi : (0 : Int) < s.size := by omega
  have hi1 : (1 : Int) ≤ s.size := by omega
  have d1 : ¬ (s[0].toNat : Int) = 35 := by omega
  have d2 : ¬ (s[0].toNat : Int) = 36 := by omega
  have d3 : ¬ (s[0].toNat : Int) = 45 := by omega
  cases hu : (s.toList == [95])
  · have HB := Lib.hid (show leafB s = (numOk s 13 || s.data.toList.all lowB) by
      rw [leafB, hh, if_neg c1, if_neg c2, if_neg c3]
      by_cases c4 : s[0].toNat = 95
      · rw [if_pos c4, (hd_digit s 13 h0 c4).1, (hd_digit s 13 h0 c4).2, hu]; rfl
      · rw [if_neg c4])
    have HT := Lib.hid (show leafB s = true → leafT s = if numOk s 13 then ⟨1, digV s.data.toList, ⟨#[]⟩, []⟩ else ⟨2, 0, s, []⟩ from fun h => by
      rw [leafT, hh, if_neg c1, if_neg c2, if_neg c3]
      by_cases c4 : s[0].toNat = 95
      · rw [HB.out, (hd_digit s 13 h0 c4).1, (hd_digit s 13 h0 c4).2] at h; cases h
      · rw [if_neg c4])
    clear hh
    go_enter Try.func67, Try.ntmps67
    go_wp2_with fail
    refine (digits_c s 13 _ hs (by omega) (by omega)).mono ?_
    rintro e w1 ⟨rfl, rfl⟩
    cases hok : numOk s 13
    · have HO := Lib.hid hok
      rw [digR_no hok]
      clear hok
      go_wp2_with fail
      go_loopw [5] (fun i wr => ∃ k : Nat, k ≤ s.size ∧ i = .int .i64 k ∧ (s.data.toList.take k).all lowB = true ∧ wr = w.alloc (.cells #[.int .i64 0, .int .i64 0, .string ⟨#[]⟩, .slice none 0 0] 29)) (fun i _ => s.size - (intOf i).toNat)
      case atStart => exact ⟨0, Nat.zero_le _, rfl, rfl, by first | rfl | trivial⟩
      case round =>
        obtain ⟨k, hk, rfl, hall, rfl⟩ := hrel
        have HA := Lib.hid hall; clear hall
        by_cases hlt : k < s.size
        · have HS := Lib.hid (all_take_succ s k hlt)
          have hki : (k : Int) < s.size := by omega
          by_cases ha : s[k].toNat < 97
          · have HF := Lib.hid (show leafB s = false by rw [HB.out, HO.out, all_low_false s k hlt (by simp [lowB]; omega)]; rfl)
            go_wp2_with fail
            refine bodyPost_ret (v := .tuple #[.agg #[.int .i64 0, .int .i64 0, .string ⟨#[]⟩, .slice none 0 0], .bool false]) (by simp [results, Try.results67, go_sem]) rfl (LeafP.of HF.out (fun h => by cases h) rfl ?_)
            repeat refine Below.setCell ?_ (by simp <;> omega) _
            exact below_alloc _ _
          by_cases hb : 122 < s[k].toNat
          · have HF := Lib.hid (show leafB s = false by rw [HB.out, HO.out, all_low_false s k hlt (by simp [lowB]; omega)]; rfl)
            go_wp2_with fail
            refine bodyPost_ret (v := .tuple #[.agg #[.int .i64 0, .int .i64 0, .string ⟨#[]⟩, .slice none 0 0], .bool false]) (by simp [results, Try.results67, go_sem]) rfl (LeafP.of HF.out (fun h => by cases h) rfl ?_)
            repeat refine Below.setCell ?_ (by simp <;> omega) _
            exact below_alloc _ _
          · go_wp2_with fail
            go_roundw
            case rel => exact ⟨k + 1, by omega, by go_num, by rw [HS.out, HA.out]; simp [lowB]; omega, by first | rfl | trivial⟩
            case measure => simp [intOf]; omega
        · have hkk : k = s.size := by omega
          subst hkk
          have hall := HA.out
          rw [List.take_of_length_le (by simp)] at hall
          have HF := Lib.hid (show leafB s = true by rw [HB.out, HO.out, hall]; rfl)
          have HF2 := Lib.hid (show leafT s = ⟨2, 0, s, []⟩ by rw [HT.out HF.out, HO.out]; rfl)
          clear hall
          go_wp2_with fail
          refine bodyPost_ret (v := .tuple #[.agg #[.int .i64 2, .int .i64 0, .string s, .slice none 0 0], .bool true]) (by simp [results, Try.results67, go_sem]) rfl (LeafP.of HF.out (fun _ => HF2.out) rfl ?_)
          repeat refine Below.setCell ?_ (by simp <;> omega) _
          exact below_alloc _ _
    · have HF := Lib.hid (show leafB s = true by rw [HB.out, hok]; rfl)
      have HF2 := Lib.hid (show leafT s = ⟨1, digV s.data.toList, ⟨#[]⟩, []⟩ by rw [HT.out HF.out, hok]; rfl)
      have hge : 0 ≤ digV s.data.toList := by
        have := digR_ge s 13
        rw [hok, digR_yes hok] at this
        simpa using this
      rw [digR_yes hok]
      clear hok
      go_wp2_with fail
      refine bodyPost_ret (v := .tuple #[.agg #[.int .i64 1, .int .i64 (digV s.data.toList), .string ⟨#[]⟩, .slice none 0 0], .bool true]) (by simp [results, Try.results67, go_sem]) rfl (LeafP.of HF.out (fun _ => HF2.out) rfl ?_)
      repeat refine Below.setCell ?_ (by simp <;> omega) _
      exact below_alloc _ _
  · have c4 : s[0].toNat = 95 := by
      by_cases c4 : s[0].toNat = 95
      · exact c4
      · rw [not_us s h0 c4] at hu; cases hu
    have HF := Lib.hid (show leafB s = true by rw [leafB, hh, if_neg c1, if_neg c2, if_neg c3, if_pos c4]; exact hu)
    have HF2 := Lib.hid (show leafT s = anyT by rw [leafT, hh, if_neg c1, if_neg c2, if_neg c3, if_pos c4])
    clear hh
    go_enter Try.func67, Try.ntmps67
    go_wp2_with fail
    refine bodyPost_ret (v := .tuple #[.agg #[.int .i64 6, .int .i64 0, .string ⟨#[]⟩, .slice none 0 0], .bool true]) (by simp [results, Try.results67, go_sem]) rfl (LeafP.of HF.out (fun _ => HF2.out) rfl ?_)
    repeat refine Below.setCell ?_ (by simp <;> omega) _
    exact below_alloc _ _
theorem rleaf_c (s : ByteArray) (w : World) (h0 : 0 < s.size) (hs : s.size ≤ 1099511627776) : Calls Try.prog 67 #[.string s] w (LeafP s w) := by
  by_cases c1 : s[0].toNat = 35
  · exact rleaf_35 h0 hs c1
  by_cases c2 : s[0].toNat = 36
  · exact rleaf_36 h0 hs c2
  by_cases c3 : s[0].toNat = 45
  · exact rleaf_45 h0 hs c3
  · exact rleaf_o h0 hs c1 c2 c3
end
end Go.Proofs.Ytedfepnekjjmnaa
