/-
  term.number, clerkref.Digits: a number of at most so many digits. Condition: at most 13 digits are asked for; a bound on the text.
-/
import Derived.Test.YtedfepnekjjmnaaRef1
namespace Go.Proofs.Ytedfepnekjjmnaa
open Go.RowKit
set_option linter.unusedSimpArgs false
set_option linter.unusedVariables false

def digB (c : UInt8) : Bool := decide (48 ≤ c.toNat) && decide (c.toNat ≤ 57)
def digV (l : List UInt8) : Int := l.foldl (fun n c => 10 * n + ((c.toNat : Int) - 48)) 0
theorem digV_snoc (l : List UInt8) (c : UInt8) : digV (l ++ [c]) = 10 * digV l + ((c.toNat : Int) - 48) := by simp [digV]
theorem dig_take (s : ByteArray) (k : Nat) (h : k < s.size) : digV (s.data.toList.take (k + 1)) = 10 * digV (s.data.toList.take k) + ((s[k].toNat : Int) - 48) ∧ (s.data.toList.take (k + 1)).all digB = ((s.data.toList.take k).all digB && digB s[k]) := by
  rw [take_snoc' _ k (by simpa using h), digV_snoc, List.all_append]
  refine ⟨rfl, ?_⟩
  simp; rfl
theorem dig_bound : ∀ (k : Nat) (l : List UInt8), l.length = k → l.all digB = true → 0 ≤ digV l ∧ digV l < 10 ^ k := by
  intro k
  induction k with
  | zero => intro l hl _; have : l = [] := List.eq_nil_of_length_eq_zero hl; subst this; simp [digV]
  | succ k ih =>
    intro l hl ha
    obtain ⟨m, c, rfl⟩ : ∃ m c, l = m ++ [c] := ⟨l.take k, l[k]'(by omega), by rw [← take_snoc' l k (by omega), List.take_of_length_le (by omega)]⟩
    rw [List.all_append, Bool.and_eq_true] at ha
    have h1 := ih m (by simpa using hl) ha.1
    have h2 : digB c = true := by simpa using ha.2
    simp only [digB, Bool.and_eq_true, decide_eq_true_eq] at h2
    rw [digV_snoc, Int.pow_succ]
    omega
theorem dig_13 (s : ByteArray) (k : Nat) (hk : k ≤ 13) (ha : (s.data.toList.take k).all digB = true) : 0 ≤ digV (s.data.toList.take k) ∧ digV (s.data.toList.take k) < 10000000000000 := by
  obtain ⟨h1, h2⟩ := dig_bound _ _ rfl ha
  refine ⟨h1, Int.lt_of_lt_of_le h2 ?_⟩
  have h3 : (s.data.toList.take k).length ≤ 13 := by simp; omega
  have h4 : (10 : Int) ^ (s.data.toList.take k).length ≤ 10 ^ 13 := by
    have := Nat.pow_le_pow_right (n := 10) (by decide) h3
    exact_mod_cast this
  exact h4
theorem dig_false (s : ByteArray) (k : Nat) (h : k < s.size) (hf : digB s[k] = false) : s.data.toList.all digB = false := by
  rw [List.all_eq_false]
  exact ⟨s[k], by rw [show s[k] = s.data.toList[k]'(by simpa using h) from rfl]; exact List.getElem_mem _, by simp [hf]⟩
def headZ (s : ByteArray) : Bool := decide (1 < s.size) && (s.data.toList.headD 0).toNat == 48
def numOk (s : ByteArray) (most : Int) : Bool := decide (1 ≤ s.size) && decide ((s.size : Int) ≤ most) && !headZ s && s.data.toList.all digB
theorem headZ_at (s : ByteArray) (h : 0 < s.size) : headZ s = (decide (1 < s.size) && s[0].toNat == 48) := by
  have : (s.data.toList.headD 0) = s[0] := by
    have h' : 0 < s.data.toList.length := by simpa using h
    rw [show s[0] = s.data.toList[0]'h' from rfl]
    generalize s.data.toList = l at h' ⊢
    cases l with
    | nil => simp at h'
    | cons a l => rfl
  rw [headZ, this]

def numVal (s : ByteArray) (most : Int) : Int := if numOk s most then digV s.data.toList else 0
theorem numVal_no {s : ByteArray} {most : Int} (h : numOk s most = false) : numVal s most = 0 := by rw [numVal, h]; rfl
theorem numVal_yes {s : ByteArray} {most : Int} (h : numOk s most = true) : numVal s most = digV s.data.toList := by rw [numVal, if_pos h]

def NumP (s : ByteArray) (e : Ending) : Prop := ∃ (v : Int) (ok : Bool), e = .returned (.tuple #[.int .i64 v, .bool ok]) ∧ ok = (!headZ s && s.data.toList.all digB) ∧ (ok = true → v = digV s.data.toList) ∧ (ok = false → v = 0)
theorem NumP.no {s : ByteArray} (h : (!headZ s && s.data.toList.all digB) = false) : NumP s (.returned (.tuple #[.int .i64 0, .bool false])) := ⟨0, false, rfl, h.symm, (fun h => by cases h), fun _ => rfl⟩
theorem NumP.yes {s : ByteArray} (h : (!headZ s && s.data.toList.all digB) = true) : NumP s (.returned (.tuple #[.int .i64 (digV s.data.toList), .bool true])) := ⟨_, true, rfl, h.symm, (fun _ => rfl), fun h => by cases h⟩
set_option maxHeartbeats 1000000 in
theorem number_c (s : ByteArray) (most : Int) (w : World) (hs : s.size ≤ 1099511627776) (hm0 : 0 ≤ most) (hm : most ≤ 13) :
    Calls Try.prog 100 #[.string s, .int .i64 most] w fun e w' => e = .returned (.tuple #[.int .i64 (numVal s most), .bool (numOk s most)]) ∧ w' = w := by
  by_cases h1 : s.size < 1
  · have HN := Lib.hid (show numOk s most = false by simp [numOk]; omega)
    go_enter Try.func100, Try.ntmps100
    go_wp2
    exact bodyPost_ret (v := .tuple #[.int .i64 0, .bool false]) (by simp [results, Try.results100, go_sem]) rfl ⟨by rw [numVal_no HN.out, HN.out], rfl⟩
  by_cases h2 : most < s.size
  · have HN := Lib.hid (show numOk s most = false by simp [numOk]; omega)
    go_enter Try.func100, Try.ntmps100
    go_wp2
    exact bodyPost_ret (v := .tuple #[.int .i64 0, .bool false]) (by simp [results, Try.results100, go_sem]) rfl ⟨by rw [numVal_no HN.out, HN.out], rfl⟩
  have h0 : 0 < s.size := by omega
  have HZ := Lib.hid (headZ_at s h0)
  have HN := Lib.hid (show numOk s most = (!headZ s && s.data.toList.all digB) by
    have e1 : decide (1 ≤ s.size) = true := by simp; omega
    have e2 : decide ((s.size : Int) ≤ most) = true := by simp; omega
    rw [numOk, e1, e2]; simp)
  have key : Calls Try.prog 100 #[.string s, .int .i64 most] w fun e w' => NumP s e ∧ w' = w := by
    cases hz : headZ s
    · have hz2 := HZ.out.symm.trans hz
      have HZ2 := Lib.hid hz
      by_cases z1 : 1 < s.size
      · have z2 : (s[0].toNat == 48) = false := by simpa [z1] using hz2
        have z3 : ¬ ((s[0].toNat : Int) = 48) := by simp at z2; omega
        have z4 : 1 ≤ (s.size : Int) := by omega
        have z5 : (s.size : Int) ≤ most := by omega
        clear hz2 hz
        go_enter Try.func100, Try.ntmps100
        go_wp2
        go_loop [6, 29] (fun n i => ∃ k : Nat, k ≤ s.size ∧ i = .int .i64 k ∧ (s.data.toList.take k).all digB = true ∧ n = .int .i64 (digV (s.data.toList.take k))) (fun _ i => s.size - (intOf i).toNat)
        case atStart => exact ⟨0, Nat.zero_le _, rfl, rfl, rfl⟩
        case round =>
          obtain ⟨k, hk, rfl, hall, rfl⟩ := hrel
          by_cases hlt : k < s.size
          · obtain ⟨hs1, hs2⟩ := dig_take s k hlt
            obtain ⟨hd1, hd2⟩ := dig_13 s k (by omega) hall
            have HA := Lib.hid hall
            have HS1 := Lib.hid hs1
            have HS2 := Lib.hid hs2
            clear hall hs1 hs2
            generalize digV (s.data.toList.take k) = d at HS1 hd1 hd2 ⊢
            by_cases ha : s[k].toNat < 48
            · have HD := Lib.hid (dig_false s k hlt (by simp [digB]; omega))
              go_wp2
              exact bodyPost_ret (v := .tuple #[.int .i64 0, .bool false]) (by simp [results, Try.results100, go_sem]) rfl ⟨NumP.no (by rw [HD.out]; simp), rfl⟩
            by_cases hb : 57 < s[k].toNat
            · have HD := Lib.hid (dig_false s k hlt (by simp [digB]; omega))
              go_wp2
              exact bodyPost_ret (v := .tuple #[.int .i64 0, .bool false]) (by simp [results, Try.results100, go_sem]) rfl ⟨NumP.no (by rw [HD.out]; simp), rfl⟩
            · go_wp2
              go_round
              case rel => exact ⟨k + 1, by omega, by go_num, by rw [HS2.out, HA.out]; simp [digB]; omega, by rw [HS1.out]⟩
              case measure => simp [intOf]; omega
          · have hkk : k = s.size := by omega
            subst hkk
            rw [List.take_of_length_le (by simp)] at hall
            have HD := Lib.hid (show (!headZ s && s.data.toList.all digB) = true by rw [HZ2.out, hall]; rfl)
            clear hall
            rw [List.take_of_length_le (by simp)]
            go_wp2
            exact bodyPost_ret (v := .tuple #[.int .i64 (digV s.data.toList), .bool true]) (by simp [results, Try.results100, go_sem]) rfl ⟨NumP.yes HD.out, rfl⟩
      · have z4 : (s.size : Int) = 1 := by omega
        have z5 : (s.size : Int) ≤ most := by omega
        clear hz2 hz
        by_cases z6 : (s[0].toNat : Int) = 48
        · go_enter Try.func100, Try.ntmps100
          go_wp2
          go_loop [6, 29] (fun n i => ∃ k : Nat, k ≤ s.size ∧ i = .int .i64 k ∧ (s.data.toList.take k).all digB = true ∧ n = .int .i64 (digV (s.data.toList.take k))) (fun _ i => s.size - (intOf i).toNat)
          case atStart => exact ⟨0, Nat.zero_le _, rfl, rfl, rfl⟩
          case round =>
            obtain ⟨k, hk, rfl, hall, rfl⟩ := hrel
            by_cases hlt : k < s.size
            · obtain ⟨hs1, hs2⟩ := dig_take s k hlt
              obtain ⟨hd1, hd2⟩ := dig_13 s k (by omega) hall
              have HA := Lib.hid hall
              have HS1 := Lib.hid hs1
              have HS2 := Lib.hid hs2
              clear hall hs1 hs2
              generalize digV (s.data.toList.take k) = d at HS1 hd1 hd2 ⊢
              by_cases ha : s[k].toNat < 48
              · have HD := Lib.hid (dig_false s k hlt (by simp [digB]; omega))
                go_wp2
                exact bodyPost_ret (v := .tuple #[.int .i64 0, .bool false]) (by simp [results, Try.results100, go_sem]) rfl ⟨NumP.no (by rw [HD.out]; simp), rfl⟩
              by_cases hb : 57 < s[k].toNat
              · have HD := Lib.hid (dig_false s k hlt (by simp [digB]; omega))
                go_wp2
                exact bodyPost_ret (v := .tuple #[.int .i64 0, .bool false]) (by simp [results, Try.results100, go_sem]) rfl ⟨NumP.no (by rw [HD.out]; simp), rfl⟩
              · go_wp2
                go_round
                case rel => exact ⟨k + 1, by omega, by go_num, by rw [HS2.out, HA.out]; simp [digB]; omega, by rw [HS1.out]⟩
                case measure => simp [intOf]; omega
            · have hkk : k = s.size := by omega
              subst hkk
              rw [List.take_of_length_le (by simp)] at hall
              have HD := Lib.hid (show (!headZ s && s.data.toList.all digB) = true by rw [HZ2.out, hall]; rfl)
              clear hall
              rw [List.take_of_length_le (by simp)]
              go_wp2
              exact bodyPost_ret (v := .tuple #[.int .i64 (digV s.data.toList), .bool true]) (by simp [results, Try.results100, go_sem]) rfl ⟨NumP.yes HD.out, rfl⟩
        · go_enter Try.func100, Try.ntmps100
          go_wp2
          go_loop [6, 29] (fun n i => ∃ k : Nat, k ≤ s.size ∧ i = .int .i64 k ∧ (s.data.toList.take k).all digB = true ∧ n = .int .i64 (digV (s.data.toList.take k))) (fun _ i => s.size - (intOf i).toNat)
          case atStart => exact ⟨0, Nat.zero_le _, rfl, rfl, rfl⟩
          case round =>
            obtain ⟨k, hk, rfl, hall, rfl⟩ := hrel
            by_cases hlt : k < s.size
            · obtain ⟨hs1, hs2⟩ := dig_take s k hlt
              obtain ⟨hd1, hd2⟩ := dig_13 s k (by omega) hall
              have HA := Lib.hid hall
              have HS1 := Lib.hid hs1
              have HS2 := Lib.hid hs2
              clear hall hs1 hs2
              generalize digV (s.data.toList.take k) = d at HS1 hd1 hd2 ⊢
              by_cases ha : s[k].toNat < 48
              · have HD := Lib.hid (dig_false s k hlt (by simp [digB]; omega))
                go_wp2
                exact bodyPost_ret (v := .tuple #[.int .i64 0, .bool false]) (by simp [results, Try.results100, go_sem]) rfl ⟨NumP.no (by rw [HD.out]; simp), rfl⟩
              by_cases hb : 57 < s[k].toNat
              · have HD := Lib.hid (dig_false s k hlt (by simp [digB]; omega))
                go_wp2
                exact bodyPost_ret (v := .tuple #[.int .i64 0, .bool false]) (by simp [results, Try.results100, go_sem]) rfl ⟨NumP.no (by rw [HD.out]; simp), rfl⟩
              · go_wp2
                go_round
                case rel => exact ⟨k + 1, by omega, by go_num, by rw [HS2.out, HA.out]; simp [digB]; omega, by rw [HS1.out]⟩
                case measure => simp [intOf]; omega
            · have hkk : k = s.size := by omega
              subst hkk
              rw [List.take_of_length_le (by simp)] at hall
              have HD := Lib.hid (show (!headZ s && s.data.toList.all digB) = true by rw [HZ2.out, hall]; rfl)
              clear hall
              rw [List.take_of_length_le (by simp)]
              go_wp2
              exact bodyPost_ret (v := .tuple #[.int .i64 (digV s.data.toList), .bool true]) (by simp [results, Try.results100, go_sem]) rfl ⟨NumP.yes HD.out, rfl⟩
    · have hz2 := HZ.out.symm.trans hz
      have HZ2 := Lib.hid hz
      simp only [Bool.and_eq_true, decide_eq_true_eq, beq_iff_eq] at hz2
      obtain ⟨z1, z2⟩ := hz2
      clear hz
      go_enter Try.func100, Try.ntmps100
      go_wp2
      exact bodyPost_ret (v := .tuple #[.int .i64 0, .bool false]) (by simp [results, Try.results100, go_sem]) rfl ⟨NumP.no (by rw [HZ2.out]; rfl), rfl⟩
  refine key.mono ?_
  rintro e w' ⟨⟨v, ok, rfl, hok, hv1, hv2⟩, rfl⟩
  rw [← HN.out] at hok
  refine ⟨?_, rfl⟩
  cases ok
  · rw [hv2 rfl, numVal_no hok.symm, ← hok]
  · rw [hv1 rfl, numVal_yes hok.symm, ← hok]
/-- What the document's Digits answers. -/
def digR (s : ByteArray) (most : Int) : Int := if numOk s most then digV s.data.toList else -1
theorem digR_no {s : ByteArray} {most : Int} (h : numOk s most = false) : digR s most = -1 := by rw [digR, h]; rfl
theorem digR_yes {s : ByteArray} {most : Int} (h : numOk s most = true) : digR s most = digV s.data.toList := by rw [digR, if_pos h]
theorem digR_num (s : ByteArray) (most : Int) (hm : most ≤ 13) : (digR s most ≥ 0) = (numOk s most = true) := by
  cases h : numOk s most
  · rw [digR_no h]; simp
  · rw [digR_yes h]
    have h1 := h
    simp only [numOk, Bool.and_eq_true, decide_eq_true_eq] at h1
    have := dig_bound _ s.data.toList rfl h1.2
    simp; omega

set_option maxHeartbeats 1000000 in
theorem digits_c (s : ByteArray) (most : Int) (w : World) (hs : s.size ≤ 1099511627776) (hm0 : 0 ≤ most) (hm : most ≤ 13) :
    Calls Try.prog 101 #[.string s, .int .i64 most] w fun e w' => e = .returned (.int .i64 (digR s most)) ∧ w' = w := by
  go_enter Try.func101, Try.ntmps101
  go_wp2_with fail
  go_loopw [5, 6] (fun n i wr => ∃ k : Nat, k ≤ s.size ∧ k ≤ 14 ∧ i = .int .i64 k ∧ (s.data.toList.take k).all digB = true ∧ n = .int .i64 (digV (s.data.toList.take k)) ∧ wr = w) (fun _ i _ => s.size - (intOf i).toNat)
  case atStart => exact ⟨0, Nat.zero_le _, by omega, rfl, rfl, rfl, rfl⟩
  case round =>
    obtain ⟨k, hk, hk14, rfl, hall, rfl, rfl⟩ := hrel
    by_cases hlt : k < s.size
    · by_cases h14 : k < 14
      · obtain ⟨hs1, hs2⟩ := dig_take s k hlt
        obtain ⟨hd1, hd2⟩ := dig_13 s k (by omega) hall
        have HA := Lib.hid hall
        have HS1 := Lib.hid hs1
        have HS2 := Lib.hid hs2
        clear hall hs1 hs2
        have hki : (k : Int) < s.size := by omega
        have hkj : (k : Int) < 14 := by omega
        generalize digV (s.data.toList.take k) = d at HS1 hd1 hd2 ⊢
        by_cases ha : s[k].toNat < 48
        · have HD := Lib.hid (show numOk s most = false by rw [numOk, dig_false s k hlt (by simp [digB]; omega)]; simp)
          go_wp2_with fail
          go_ret
          exact ⟨ret_int (digR_no HD.out).symm, rfl⟩
        by_cases hb : 57 < s[k].toNat
        · have HD := Lib.hid (show numOk s most = false by rw [numOk, dig_false s k hlt (by simp [digB]; omega)]; simp)
          go_wp2_with fail
          go_ret
          exact ⟨ret_int (digR_no HD.out).symm, rfl⟩
        · go_wp2_with fail
          go_roundw
          case rel => exact ⟨k + 1, by omega, by omega, by go_num, by rw [HS2.out, HA.out]; simp [digB]; omega, (by rw [HS1.out]; go_num), (by first | rfl | trivial)⟩
          case measure => simp [intOf]; omega
      · have hkk : k = 14 := by omega
        subst hkk
        have HD := Lib.hid (show numOk s most = false by simp [numOk]; intro _ h; omega)
        have hin : inB s.size 1 most = false := by simp [inB]; omega
        have hki : (14 : Int) < s.size := by omega
        clear hall
        go_wp2_with fail
        refine (in_c _ _ _ _).mono ?_
        rw [hin]
        rintro e w3 ⟨rfl, rfl⟩
        go_wp2_with fail
        go_ret
        exact ⟨ret_int (digR_no HD.out).symm, rfl⟩
    · have hkk : k = s.size := by omega
      subst hkk
      rw [List.take_of_length_le (by simp)] at hall ⊢
      have HA := Lib.hid hall
      clear hall
      go_wp2_with fail
      refine (in_c _ _ _ _).mono ?_
      rintro e w3 ⟨rfl, rfl⟩
      cases hin : inB s.size 1 most
      · have HD := Lib.hid (show numOk s most = false by simp [inB] at hin; simp [numOk]; intro h1 h2; omega)
        go_wp2_with fail
        go_ret
        exact ⟨ret_int (digR_no HD.out).symm, rfl⟩
      · have hin' : 1 ≤ s.size ∧ (s.size : Int) ≤ most := by simp [inB] at hin; omega
        obtain ⟨hi1, hi2⟩ := hin'
        have h0 : 0 < s.size := by omega
        have HN := Lib.hid (show numOk s most = !headZ s by
          have e1 : decide (1 ≤ s.size) = true := by simp; omega
          have e2 : decide ((s.size : Int) ≤ most) = true := by simp; omega
          rw [numOk, e1, e2, HA.out]; simp)
        have hz := headZ_at s h0
        by_cases z1 : 1 < s.size
        · have z1i : (1 : Int) < s.size := by omega
          by_cases z2 : (s[0].toNat : Int) = 48
          · have HD := Lib.hid (show numOk s most = false by rw [HN.out, hz]; simp [z1]; omega)
            clear hz hin
            go_wp2_with fail
            go_ret
            exact ⟨ret_int (digR_no HD.out).symm, rfl⟩
          · have HD := Lib.hid (show numOk s most = true by rw [HN.out, hz]; simp [z1]; omega)
            clear hz hin
            go_wp2_with fail
            go_ret
            exact ⟨ret_int (digR_yes HD.out).symm, rfl⟩
        · have z1i : ¬ (1 : Int) < s.size := by omega
          have HD := Lib.hid (show numOk s most = true by rw [HN.out, hz]; simp [z1])
          clear hz hin
          go_wp2_with fail
          go_ret
          exact ⟨ret_int (digR_yes HD.out).symm, rfl⟩
end Go.Proofs.Ytedfepnekjjmnaa
