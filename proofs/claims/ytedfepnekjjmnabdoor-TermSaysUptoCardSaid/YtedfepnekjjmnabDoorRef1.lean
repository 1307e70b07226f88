/-
  clerkref.In, Name, Size, Closed: what they answer. No condition but a bound on how much there is.
-/
import Derived.Test.YtedfepnekjjmnabDoorDepth
import Derived.Test.YtedfepnekjjmnabDoorAll
namespace Go.Proofs.YtedfepnekjjmnabDoor
open Go.RowKit
set_option linter.unusedSimpArgs false
set_option linter.unusedVariables false

set_option maxHeartbeats 400000 in
theorem in_c (n lo hi : Int) (w : World) :
    Calls Tryd.prog 22 #[.int .i64 n, .int .i64 lo, .int .i64 hi] w fun e w' => e = .returned (.bool (inB n lo hi)) ∧ w = w' := by
  by_cases h : lo ≤ n
  · go_enter Tryd.func22, Tryd.ntmps22
    go_wp2
    go_ret
    exact ⟨by simp [inB, h], rfl⟩
  · go_enter Tryd.func22, Tryd.ntmps22
    go_wp2
    go_ret
    exact ⟨by simp [inB]; omega, rfl⟩

def nameR (s : ByteArray) (k : Nat) : Bool := inB s.size 1 8 && (s.data.toList.take k).all lowB
theorem nameR_end (s : ByteArray) : nameR s s.size = nameB s := by
  unfold nameR nameB inB
  rw [List.take_of_length_le (by simp)]
  congr 1
  simp only [Bool.and_eq_decide, decide_eq_decide]
  simp; omega
theorem nameR_succ (s : ByteArray) (k : Nat) (h : k < s.size) : nameR s (k + 1) = (nameR s k && lowB s[k]) := by
  unfold nameR; rw [all_take_succ s k h, Bool.and_assoc]

set_option maxHeartbeats 400000 in
theorem rname_c (s : ByteArray) (w : World) (hs : s.size ≤ 1099511627776) :
    Calls Tryd.prog 23 #[.string s] w fun e w' => e = .returned (.bool (nameB s)) ∧ w = w' := by
  have HE := Lib.hid (nameR_end s)
  have H0 := Lib.hid (show nameR s 0 = inB s.size 1 8 by simp [nameR])
  go_enter Tryd.func23, Tryd.ntmps23
  go_wp2_with (go_at_call 22; refine (in_c _ _ _ _).mono ?_; rintro e w' ⟨rfl, rfl⟩)
  go_loop [3, 4] (fun ok i => ∃ k : Nat, k ≤ s.size ∧ i = .int .i64 k ∧ ok = .bool (nameR s k)) (fun _ i => s.size - (intOf i).toNat)
  case atStart => exact ⟨0, Nat.zero_le _, rfl, by rw [H0.out]⟩
  case round =>
    obtain ⟨k, hk, rfl, rfl⟩ := hrel
    by_cases hlt : k < s.size
    · have HS := Lib.hid (nameR_succ s k hlt)
      cases hn : nameR s k
      · have HN := Lib.hid hn; clear hn
        go_wp2
        go_round
        case rel => exact ⟨k + 1, by omega, by go_num, by rw [HS.out, HN.out]; rfl⟩
        case measure => simp [intOf]; omega
      · have HN := Lib.hid hn; clear hn
        by_cases ha : s[k].toNat < 97
        · skip
          go_wp2
          go_round
          case rel => exact ⟨k + 1, by omega, by go_num, by rw [HS.out, HN.out]; simp [lowB]; first | omega | (rw [Bool.eq_iff_iff]; simp; omega)⟩
          case measure => simp [intOf]; omega
        by_cases hb : 122 < s[k].toNat
        · skip
          go_wp2
          go_round
          case rel => exact ⟨k + 1, by omega, by go_num, by rw [HS.out, HN.out]; simp [lowB]; first | omega | (rw [Bool.eq_iff_iff]; simp; omega)⟩
          case measure => simp [intOf]; omega
        · skip
          go_wp2
          go_round
          case rel => exact ⟨k + 1, by omega, by go_num, by rw [HS.out, HN.out]; simp [lowB]; first | omega | (rw [Bool.eq_iff_iff]; simp; omega)⟩
          case measure => simp [intOf]; omega
    · have hkk : k = s.size := by omega
      subst hkk
      go_wp2
      go_ret
      exact ⟨ret_bool HE.out, rfl⟩

set_option maxHeartbeats 400000 in
theorem rsize_c : ∀ (t : T) (S : Nat → Prop) (w : World) (v : Value), RT S w t v → bulkL [t] ≤ 1099511627776 →
    Calls Tryd.prog 13 #[v] w fun e w' => e = .returned (.int .i64 (szL [t])) ∧ Below w.heap.size w w' := by
  intro t
  induction t using T.ind with
  | h t ih =>
    intro S w v hv hb
    obtain ⟨a, cap, rfl, hcap, hr⟩ := hv
    have hba := bulk_args t
    have hla := length_le_bulk t.args
    have hsz := szL_le _ t.args (Nat.le_refl _)
    have HX := Lib.hid (show szL [t] = if t.kind = 4 then 1 + t.args.length + szL t.args else 0 by rw [szL_cons]; simp [szL])
    have IH := Lib.hid ih; clear ih
    have HR := Lib.hid hr; clear hr
    by_cases hk : (t.kind == 4) = true
    · go_enter Tryd.func13, Tryd.ntmps13
      go_wp2_with fail
      go_loopw [3, 4] (fun nn i wr => ∃ k : Nat, k ≤ t.args.length ∧ i = .int .i64 k ∧ nn = .int .i64 ((1 + k + szL (t.args.take k) : Nat) : Int) ∧ Below w.heap.size w wr ∧ w.heap.size + 1 ≤ wr.heap.size ∧ wr.cell? ⟨w.heap.size, 3, none⟩ = some (.slice a t.args.length cap)) (fun _ i _ => t.args.length - (intOf i).toNat)
      case atStart => exact ⟨0, Nat.zero_le _, rfl, by simp [szL], below_alloc _ _, by simp, by go_simp⟩
      case round =>
        obtain ⟨k, hkl, rfl, rfl, hB, hsw, hbox⟩ := hrel
        have hbt := bulk_take t.args k
        have hst := szL_le _ (t.args.take k) (Nat.le_refl _)
        by_cases hlt : k < t.args.length
        · obtain ⟨b, o, rfl⟩ := HR.out.addr (by omega)
          obtain ⟨a', cap', _, d0, d1, d2, d3, hE⟩ := (HR.out.below hB).elem k hlt
          have hbk := bulk_at hlt
          have hsk := szL_le _ [t.args[k]] (Nat.le_refl _)
          have HS := Lib.hid (szL_snoc hlt)
          go_wp2_with fail
          refine (IH.out _ (List.getElem_mem hlt) S _ _ hE (by omega)).mono ?_
          rintro e w1 ⟨rfl, hB1⟩
          have hs1 := hB1.size
          have hbox1 := (hB1.cell (p := ⟨w.heap.size, 3, none⟩) (show w.heap.size < wr.heap.size by omega)).trans hbox
          go_wp2_with fail
          go_roundw
          case rel => exact ⟨k + 1, by omega, by go_num, by rw [HS.out]; go_num, below_step hB (by omega) hB1, by omega, hbox1⟩
          case measure => simp [intOf]; omega
        · have hkk : k = t.args.length := by omega
          subst hkk
          go_wp2_with fail
          go_ret
          refine ⟨ret_int ?_, hB⟩
          rw [HX.out, if_pos (by simpa using hk)]; simp
    · go_enter Tryd.func13, Tryd.ntmps13
      go_wp2_with fail
      go_ret
      refine ⟨ret_int ?_, below_alloc _ _⟩
      rw [HX.out, if_neg (by simpa using hk)]; rfl

theorem closedL_all : ∀ m (ts : List T), bulkL ts ≤ m → closedL ts = (allL ts).all fun x => x.kind != 5 && x.kind != 6 := by
  intro m
  induction m with
  | zero => intro ts h; cases ts with
    | nil => simp [closedL, allL]
    | cons t ts => rw [bulkL_cons] at h; omega
  | succ m ih =>
    intro ts h
    cases ts with
    | nil => simp [closedL, allL]
    | cons t ts =>
      rw [bulkL_cons] at h
      rw [closedL_cons, allL_cons, List.all_cons, List.all_append, ih t.args (by omega), ih ts (by omega)]
      simp only [Bool.and_assoc]

theorem all_snoc {α : Type} (p : α → Bool) (l : List α) (k : Nat) (h : k < l.length) : (l.take (k + 1)).all p = ((l.take k).all p && p l[k]) := by
  rw [take_snoc' l k h, List.all_append]; simp
theorem all_false_at {α : Type} (p : α → Bool) (l : List α) (k : Nat) (h : k < l.length) (hf : p l[k] = false) : l.all p = false := by
  rw [List.all_eq_false]; exact ⟨l[k], List.getElem_mem _, by simp [hf]⟩

set_option maxHeartbeats 400000 in
theorem rclosed_c (t : T) (S : Nat → Prop) (w : World) (v : Value) (hv : RT S w t v) (hS : ∀ b, S b → b < w.heap.size) (hb : bulkL [t] ≤ 1099511627776) :
    Calls Tryd.prog 11 #[v] w fun e w' => e = .returned (.bool (closedL [t])) ∧ Below w.heap.size w w' := by
  have HC := Lib.hid (closedL_all _ [t] (Nat.le_refl _))
  have hal := allL_le _ [t] (Nat.le_refl _)
  obtain ⟨a, cap, rfl, hcap, hr⟩ := hv
  have HV : Hid (RT S w t _) := Lib.hid ⟨a, cap, rfl, hcap, hr⟩
  have HS := Lib.hid hS; clear hS hr
  go_enter Tryd.func11, Tryd.ntmps11
  go_wp2_with fail
  refine (all_c t 0 S _ _ (HV.out.alloc _) (fun b hb => by have := HS.out b hb; simp <;> omega) (by omega) (by omega)).mono ?_
  rintro e w1 ⟨v1, v2, rfl, hB1, hr1, hr2⟩
  obtain ⟨a1, cap1, rfl⟩ := hr1.form
  have HR1 := Lib.hid hr1; clear hr1 hr2
  have hs1 := hB1.size
  simp only [World.size_alloc] at hs1
  have hBB := below_step (below_alloc w _) (by simp) hB1
  go_wp2_with fail
  go_loop [5] (fun i => ∃ k : Nat, k ≤ (allL [t]).length ∧ i = .int .i64 k ∧ ((allL [t]).take k).all (fun x => x.kind != 5 && x.kind != 6) = true) (fun i => (allL [t]).length - (intOf i).toNat)
  case atStart => exact ⟨0, Nat.zero_le _, rfl, rfl⟩
  case round =>
    obtain ⟨k, hk, rfl, hall⟩ := hrel
    have HA := Lib.hid hall; clear hall
    by_cases hlt : k < (allL [t]).length
    · obtain ⟨b, o, rfl⟩ := HR1.out.addr (by omega)
      obtain ⟨a', cap', _, d0, d1, d2, d3, hE⟩ := HR1.out.elem k hlt
      have HSN := Lib.hid (all_snoc (fun x : T => x.kind != 5 && x.kind != 6) (allL [t]) k hlt)
      have HF := Lib.hid (all_false_at (fun x : T => x.kind != 5 && x.kind != 6) (allL [t]) k hlt)
      by_cases h5 : (allL [t])[k].kind = 5
      · have e5 : ((allL [t])[k].kind == 5) = true := by simpa using h5
        go_wp2_with fail
        go_ret
        exact ⟨ret_bool (by rw [HC.out, HF.out (by simp [h5])]), hBB⟩
      have e5 : ((allL [t])[k].kind == 5) = false := by simpa using h5
      by_cases h6 : (allL [t])[k].kind = 6
      · have e6 : ((allL [t])[k].kind == 6) = true := by simpa using h6
        go_wp2_with fail
        go_ret
        exact ⟨ret_bool (by rw [HC.out, HF.out (by simp [h6])]), hBB⟩
      have e6 : ((allL [t])[k].kind == 6) = false := by simpa using h6
      go_wp2_with fail
      go_round
      case rel => exact ⟨k + 1, by omega, by go_num, by rw [HSN.out, HA.out]; simp [h5, h6]⟩
      case measure => simp [intOf]; omega
    · have hkk : k = (allL [t]).length := by omega
      subst hkk
      go_wp2_with fail
      go_ret
      exact ⟨ret_bool (by have := HA.out; rw [List.take_length] at this; rw [HC.out, this]), hBB⟩
end Go.Proofs.YtedfepnekjjmnabDoor
