/-
  Contracts and plain laws, joined: Depth Ref1 TextP. Conditions stand in each.
-/
import Derived.Lib.Join
import Derived.Lib.ItoaLen
import Derived.Test.YtedfepnekjjmnabDoorJa
import Derived.Test.YtedfepnekjjmnabDoorForm
/-
  term.depth, term.Closed, term.Check: what they answer. No condition but a bound on how much there is.
-/
namespace Go.Proofs.YtedfepnekjjmnabDoor
open Go.RowKit
set_option linter.unusedSimpArgs false
set_option linter.unusedVariables false

def dpL : List T → Nat
  | [] => 0
  | ⟨k, _, _, l⟩ :: ts => max (if k = 4 then 1 + dpL l else 0) (dpL ts)
theorem dpL_cons (t : T) (ts : List T) : dpL (t :: ts) = max (if t.kind = 4 then 1 + dpL t.args else 0) (dpL ts) := by
  obtain ⟨k, n, s, l⟩ := t; rw [dpL]
theorem dpL_append (a b : List T) : dpL (a ++ b) = max (dpL a) (dpL b) := by
  induction a with
  | nil => simp [dpL]
  | cons t ts ih => simp only [List.cons_append, dpL_cons, ih]; omega
theorem dpL_le : ∀ m (ts : List T), bulkL ts ≤ m → dpL ts ≤ bulkL ts := by
  intro m
  induction m with
  | zero => intro ts h; cases ts with
    | nil => simp [dpL]
    | cons t ts => rw [bulkL_cons] at h; omega
  | succ m ih =>
    intro ts h
    cases ts with
    | nil => simp [dpL]
    | cons t ts =>
      rw [bulkL_cons] at h
      have h1 := ih t.args (by omega)
      have h2 := ih ts (by omega)
      rw [dpL_cons, bulkL_cons]
      split <;> omega
theorem dpL_snoc {l : List T} {k : Nat} (h : k < l.length) : dpL (l.take (k + 1)) = max (dpL (l.take k)) (dpL [l[k]]) := by
  rw [take_snoc' l k h, dpL_append]

set_option maxHeartbeats 400000 in
theorem depth_c : ∀ (t : T) (S : Nat → Prop) (w : World) (v : Value), RT S w t v → bulkL [t] ≤ 1099511627776 →
    Calls Tryd.prog 27 #[v] w fun e w' => e = .returned (.int .i64 (dpL [t])) ∧ Below w.heap.size w w' := by
  intro t
  induction t using T.ind with
  | h t ih =>
    intro S w v hv hb
    obtain ⟨a, cap, rfl, hcap, hr⟩ := hv
    have hba := bulk_args t
    have hla := length_le_bulk t.args
    have hsz := dpL_le _ t.args (Nat.le_refl _)
    have HX := Lib.hid (show dpL [t] = if t.kind = 4 then 1 + dpL t.args else 0 by rw [dpL_cons]; simp [dpL])
    have IH := Lib.hid ih; clear ih
    have HR := Lib.hid hr; clear hr
    by_cases hk : (t.kind == 4) = true
    · have hk' : (t.kind != 4) = false := by simpa using hk
      go_enter Tryd.func27, Tryd.ntmps27
      go_wp2_with fail
      go_loopw [3, 12] (fun nn i wr => ∃ k : Nat, k ≤ t.args.length ∧ i = .int .i64 k ∧ nn = .int .i64 ((dpL (t.args.take k) : Nat) : Int) ∧ Below w.heap.size w wr) (fun _ i _ => t.args.length - (intOf i).toNat)
      case atStart => exact ⟨0, Nat.zero_le _, rfl, by simp [dpL], below_alloc _ _⟩
      case round =>
        obtain ⟨k, hkl, rfl, rfl, hB⟩ := hrel
        have hbt := bulk_take t.args k
        have hst := dpL_le _ (t.args.take k) (Nat.le_refl _)
        by_cases hlt : k < t.args.length
        · obtain ⟨b, o, rfl⟩ := HR.out.addr (by omega)
          obtain ⟨a', cap', _, d0, d1, d2, d3, hE⟩ := (HR.out.below hB).elem k hlt
          have hbk := bulk_at hlt
          have hsk := dpL_le _ [t.args[k]] (Nat.le_refl _)
          have HS := Lib.hid (dpL_snoc hlt)
          have hsz' := hB.size
          go_wp2_with fail
          refine (IH.out _ (List.getElem_mem hlt) S _ _ (hE.alloc _) (by omega)).mono ?_
          rintro e w1 ⟨rfl, hB1⟩
          go_wp2_with fail
          go_roundw
          case rel => exact ⟨k + 1, by omega, by go_num, by rw [HS.out]; go_num, below_step (hB.alloc (by omega) _) (by simp; omega) hB1⟩
          case measure => simp [intOf]; omega
        · have hkk : k = t.args.length := by omega
          subst hkk
          go_wp2_with fail
          go_ret
          refine ⟨ret_int ?_, hB⟩
          rw [HX.out, if_pos (by simpa using hk)]; omega
    · have hk' : (t.kind != 4) = true := by simpa using hk
      go_enter Tryd.func27, Tryd.ntmps27
      go_wp2_with fail
      go_ret
      refine ⟨ret_int ?_, below_alloc _ _⟩
      rw [HX.out, if_neg (by simpa using hk)]; rfl

/-- Closed. -/
def closedL : List T → Bool
  | [] => true
  | ⟨k, _, _, l⟩ :: ts => (k != 5 && k != 6 && closedL l) && closedL ts
theorem closedL_cons (t : T) (ts : List T) : closedL (t :: ts) = ((t.kind != 5 && t.kind != 6 && closedL t.args) && closedL ts) := by
  obtain ⟨k, n, s, l⟩ := t; rw [closedL]
theorem closedL_any (ts : List T) : closedL ts = !(ts.any fun x => !closedL [x]) := by
  induction ts with
  | nil => simp [closedL]
  | cons t ts ih => rw [closedL_cons, ih, List.any_cons, closedL_cons]; simp [closedL]

set_option maxHeartbeats 1000000 in
theorem closed_c : ∀ (t : T) (S : Nat → Prop) (w : World) (v : Value), RT S w t v → bulkL [t] ≤ 1099511627776 →
    Calls Tryd.prog 10 #[v] w fun e w' => e = .returned (.bool (closedL [t])) ∧ Below w.heap.size w w' := by
  intro t
  induction t using T.ind with
  | h t ih =>
    intro S w v hv hb
    obtain ⟨a, cap, rfl, hcap, hr⟩ := hv
    have hba := bulk_args t
    have hla := length_le_bulk t.args
    have IH := Lib.hid ih; clear ih
    have HR := Lib.hid hr; clear hr
    have HF := Lib.hid (show closedL [t] = (t.kind != 5 && t.kind != 6 && closedL t.args) by rw [closedL_cons]; simp [closedL])
    have hf : ∀ x ∈ t.args, ∀ (W : World) (u : Value), RT S W x u → Calls Tryd.prog 29 #[u] W fun e w' => e = .returned (.bool (!closedL [x])) ∧ Below W.heap.size W w' := by
      intro x hx W u hu
      obtain ⟨a, cap, rfl, hcap, hr⟩ := hu
      have hbx := bulk_mem hx
      go_enter Tryd.func29, Tryd.ntmps29
      go_wp2_with fail
      refine (IH.out x hx S _ _ (RT.alloc ⟨a, cap, rfl, hcap, hr⟩ _) (by omega)).mono ?_
      rintro e w1 ⟨rfl, hB1⟩
      go_wp2_with fail
      go_ret
      exact ⟨rfl, below_step (below_alloc _ _) (by simp) hB1⟩
    have HFF := Lib.hid hf; clear hf
    have HN := Lib.hid (closedL_any t.args)
    by_cases hk5 : t.kind = 5
    · go_enter Tryd.func10, Tryd.ntmps10
      go_wp2_with fail
      go_ret
      exact ⟨ret_bool (by rw [HF.out]; simp [hk5]), below_alloc _ _⟩
    by_cases hk6 : t.kind = 6
    · go_enter Tryd.func10, Tryd.ntmps10
      go_wp2_with fail
      go_ret
      exact ⟨ret_bool (by rw [HF.out]; simp [hk6]), below_alloc _ _⟩
    go_enter Tryd.func10, Tryd.ntmps10
    go_wp2_with fail
    refine (containsFunc_Closed1 _ S _ _ _ ((RT.args hcap HR.out).alloc _) (by omega) HFF.out).mono ?_; rintro e w1 ⟨rfl, hB1⟩
    go_wp2_with fail
    go_ret
    exact ⟨ret_bool (by rw [HF.out, HN.out]), below_step (below_alloc _ _) (by simp) hB1⟩

/-- Check. -/
def checkE (t : T) : Int := if formL [t] then (if dpL [t] ≤ 12 ∧ szL [t] ≤ 200 then 0 else 2) else 5

set_option maxHeartbeats 400000 in
theorem check_c (t : T) (S : Nat → Prop) (w : World) (v : Value) (hv : RT S w t v) (hb : bulkL [t] ≤ 1099511627776) :
    Calls Tryd.prog 9 #[v] w fun e w' => e = .returned (.int .i64 (checkE t)) ∧ Below w.heap.size w w' := by
  obtain ⟨a, cap, rfl, hcap, hr⟩ := hv
  have HV : Hid (RT S w t _) := Lib.hid ⟨a, cap, rfl, hcap, hr⟩
  clear hr
  have hdb := dpL_le _ [t] (Nat.le_refl _)
  have HC := Lib.hid (show checkE t = if formL [t] then (if dpL [t] ≤ 12 ∧ szL [t] ≤ 200 then 0 else 2) else 5 from rfl)
  have hsb := szL_le _ [t] (Nat.le_refl _)
  cases hf : formL [t]
  all_goals have HF := Lib.hid hf; clear hf
  · go_enter Tryd.func9, Tryd.ntmps9
    go_wp2_with fail
    refine (form_c t S _ _ (HV.out.alloc _) hb).mono ?_
    rintro e w1 ⟨rfl, hB1⟩
    rw [HF.out]
    go_wp2_with fail
    go_ret
    exact ⟨ret_int (by rw [HC.out, HF.out]; simp), below_step (below_alloc _ _) (by simp) hB1⟩
  by_cases hd : dpL [t] ≤ 12
  · by_cases hs : szL [t] ≤ 200
    all_goals
      go_enter Tryd.func9, Tryd.ntmps9
      go_wp2_with fail
      refine (form_c t S _ _ (HV.out.alloc _) hb).mono ?_
      rintro e w1 ⟨rfl, hB1⟩
      rw [HF.out]
      obtain ⟨hc1, -⟩ := bcell hB1
      have hs1 : w.heap.size < w1.heap.size := by have := hB1.size; simp at this; omega
      simp only [World.size_alloc] at hc1
      go_wp2_with fail
      refine (depth_c t S _ _ ((HV.out.alloc _).below hB1) hb).mono ?_
      rintro e w2 ⟨rfl, hB2⟩
      obtain ⟨hc2, -⟩ := bcell hB2
      have hs2 : w.heap.size < w2.heap.size := by have := hB2.size; omega
      go_wp2_with fail
      refine (size_c t S _ _ (((HV.out.alloc _).below hB1).below hB2) hb).mono ?_
      rintro e w3 ⟨rfl, hB3⟩
      go_wp2_with fail
      go_ret
      exact ⟨ret_int (by rw [HC.out, HF.out]; simp [hd, hs]), below_step (below_step (below_step (below_alloc _ _) (by simp) hB1) (by omega) hB2) (by omega) hB3⟩
  · go_enter Tryd.func9, Tryd.ntmps9
    go_wp2_with fail
    refine (form_c t S _ _ (HV.out.alloc _) hb).mono ?_
    rintro e w1 ⟨rfl, hB1⟩
    rw [HF.out]
    obtain ⟨hc1, -⟩ := bcell hB1
    have hs1 : w.heap.size < w1.heap.size := by have := hB1.size; simp at this; omega
    simp only [World.size_alloc] at hc1
    go_wp2_with fail
    refine (depth_c t S _ _ ((HV.out.alloc _).below hB1) hb).mono ?_
    rintro e w2 ⟨rfl, hB2⟩
    go_wp2_with fail
    go_ret
    exact ⟨ret_int (by rw [HC.out, HF.out]; simp [hd]), below_step (below_step (below_alloc _ _) (by simp) hB1) (by omega) hB2⟩
end Go.Proofs.YtedfepnekjjmnabDoor

/-
  clerkref.In, Name, Size, Closed: what they answer. No condition but a bound on how much there is.
-/
namespace Go.Proofs.YtedfepnekjjmnabDoor
open Go.RowKit
set_option linter.unusedSimpArgs false
set_option linter.unusedVariables false

set_option maxHeartbeats 400000 in
theorem in_c (n lo hi : Int) (w : World) :
    Calls Tryd.prog 22 #[.int .i64 n, .int .i64 lo, .int .i64 hi] w fun e w' => e = .returned (.bool (inB n lo hi)) ∧ w = w' := by
  by_cases h : lo ≤ n
  · go_enter Tryd.func22, Tryd.ntmps22
    go_wp2
    go_ret
    exact ⟨by simp [inB, h], rfl⟩
  · go_enter Tryd.func22, Tryd.ntmps22
    go_wp2
    go_ret
    exact ⟨by simp [inB]; omega, rfl⟩

def nameR (s : ByteArray) (k : Nat) : Bool := inB s.size 1 8 && (s.data.toList.take k).all lowB
theorem nameR_end (s : ByteArray) : nameR s s.size = nameB s := by
  unfold nameR nameB inB
  rw [List.take_of_length_le (by simp)]
  congr 1
  simp only [Bool.and_eq_decide, decide_eq_decide]
  simp; omega
theorem nameR_succ (s : ByteArray) (k : Nat) (h : k < s.size) : nameR s (k + 1) = (nameR s k && lowB s[k]) := by
  unfold nameR; rw [all_take_succ s k h, Bool.and_assoc]

set_option maxHeartbeats 400000 in
theorem rname_c (s : ByteArray) (w : World) (hs : s.size ≤ 1099511627776) :
    Calls Tryd.prog 23 #[.string s] w fun e w' => e = .returned (.bool (nameB s)) ∧ w = w' := by
  have HE := Lib.hid (nameR_end s)
  have H0 := Lib.hid (show nameR s 0 = inB s.size 1 8 by simp [nameR])
  go_enter Tryd.func23, Tryd.ntmps23
  go_wp2_with (go_at_call 22; refine (in_c _ _ _ _).mono ?_; rintro e w' ⟨rfl, rfl⟩)
  go_loop [3, 4] (fun ok i => ∃ k : Nat, k ≤ s.size ∧ i = .int .i64 k ∧ ok = .bool (nameR s k)) (fun _ i => s.size - (intOf i).toNat)
  case atStart => exact ⟨0, Nat.zero_le _, rfl, by rw [H0.out]⟩
  case round =>
    obtain ⟨k, hk, rfl, rfl⟩ := hrel
    by_cases hlt : k < s.size
    · have HS := Lib.hid (nameR_succ s k hlt)
      cases hn : nameR s k
      · have HN := Lib.hid hn; clear hn
        go_wp2
        go_round
        case rel => exact ⟨k + 1, by omega, by go_num, by rw [HS.out, HN.out]; rfl⟩
        case measure => simp [intOf]; omega
      · have HN := Lib.hid hn; clear hn
        by_cases ha : s[k].toNat < 97
        · skip
          go_wp2
          go_round
          case rel => exact ⟨k + 1, by omega, by go_num, by rw [HS.out, HN.out]; simp [lowB]; first | omega | (rw [Bool.eq_iff_iff]; simp; omega)⟩
          case measure => simp [intOf]; omega
        by_cases hb : 122 < s[k].toNat
        · skip
          go_wp2
          go_round
          case rel => exact ⟨k + 1, by omega, by go_num, by rw [HS.out, HN.out]; simp [lowB]; first | omega | (rw [Bool.eq_iff_iff]; simp; omega)⟩
          case measure => simp [intOf]; omega
        · skip
          go_wp2
          go_round
          case rel => exact ⟨k + 1, by omega, by go_num, by rw [HS.out, HN.out]; simp [lowB]; first | omega | (rw [Bool.eq_iff_iff]; simp; omega)⟩
          case measure => simp [intOf]; omega
    · have hkk : k = s.size := by omega
      subst hkk
      go_wp2
      go_ret
      exact ⟨ret_bool HE.out, rfl⟩

set_option maxHeartbeats 400000 in
theorem rsize_c : ∀ (t : T) (S : Nat → Prop) (w : World) (v : Value), RT S w t v → bulkL [t] ≤ 1099511627776 →
    Calls Tryd.prog 13 #[v] w fun e w' => e = .returned (.int .i64 (szL [t])) ∧ Below w.heap.size w w' := by
  intro t
  induction t using T.ind with
  | h t ih =>
    intro S w v hv hb
    obtain ⟨a, cap, rfl, hcap, hr⟩ := hv
    have hba := bulk_args t
    have hla := length_le_bulk t.args
    have hsz := szL_le _ t.args (Nat.le_refl _)
    have HX := Lib.hid (show szL [t] = if t.kind = 4 then 1 + t.args.length + szL t.args else 0 by rw [szL_cons]; simp [szL])
    have IH := Lib.hid ih; clear ih
    have HR := Lib.hid hr; clear hr
    by_cases hk : (t.kind == 4) = true
    · go_enter Tryd.func13, Tryd.ntmps13
      go_wp2_with fail
      go_loopw [3, 4] (fun nn i wr => ∃ k : Nat, k ≤ t.args.length ∧ i = .int .i64 k ∧ nn = .int .i64 ((1 + k + szL (t.args.take k) : Nat) : Int) ∧ Below w.heap.size w wr ∧ w.heap.size + 1 ≤ wr.heap.size ∧ wr.cell? ⟨w.heap.size, 3, none⟩ = some (.slice a t.args.length cap)) (fun _ i _ => t.args.length - (intOf i).toNat)
      case atStart => exact ⟨0, Nat.zero_le _, rfl, by simp [szL], below_alloc _ _, by simp, by go_simp⟩
      case round =>
        obtain ⟨k, hkl, rfl, rfl, hB, hsw, hbox⟩ := hrel
        have hbt := bulk_take t.args k
        have hst := szL_le _ (t.args.take k) (Nat.le_refl _)
        by_cases hlt : k < t.args.length
        · obtain ⟨b, o, rfl⟩ := HR.out.addr (by omega)
          obtain ⟨a', cap', _, d0, d1, d2, d3, hE⟩ := (HR.out.below hB).elem k hlt
          have hbk := bulk_at hlt
          have hsk := szL_le _ [t.args[k]] (Nat.le_refl _)
          have HS := Lib.hid (szL_snoc hlt)
          go_wp2_with fail
          refine (IH.out _ (List.getElem_mem hlt) S _ _ hE (by omega)).mono ?_
          rintro e w1 ⟨rfl, hB1⟩
          have hs1 := hB1.size
          have hbox1 := (hB1.cell (p := ⟨w.heap.size, 3, none⟩) (show w.heap.size < wr.heap.size by omega)).trans hbox
          go_wp2_with fail
          go_roundw
          case rel => exact ⟨k + 1, by omega, by go_num, by rw [HS.out]; go_num, below_step hB (by omega) hB1, by omega, hbox1⟩
          case measure => simp [intOf]; omega
        · have hkk : k = t.args.length := by omega
          subst hkk
          go_wp2_with fail
          go_ret
          refine ⟨ret_int ?_, hB⟩
          rw [HX.out, if_pos (by simpa using hk)]; simp
    · go_enter Tryd.func13, Tryd.ntmps13
      go_wp2_with fail
      go_ret
      refine ⟨ret_int ?_, below_alloc _ _⟩
      rw [HX.out, if_neg (by simpa using hk)]; rfl

theorem closedL_all : ∀ m (ts : List T), bulkL ts ≤ m → closedL ts = (allL ts).all fun x => x.kind != 5 && x.kind != 6 := by
  intro m
  induction m with
  | zero => intro ts h; cases ts with
    | nil => simp [closedL, allL]
    | cons t ts => rw [bulkL_cons] at h; omega
  | succ m ih =>
    intro ts h
    cases ts with
    | nil => simp [closedL, allL]
    | cons t ts =>
      rw [bulkL_cons] at h
      rw [closedL_cons, allL_cons, List.all_cons, List.all_append, ih t.args (by omega), ih ts (by omega)]
      simp only [Bool.and_assoc]

theorem all_snoc {α : Type} (p : α → Bool) (l : List α) (k : Nat) (h : k < l.length) : (l.take (k + 1)).all p = ((l.take k).all p && p l[k]) := by
  rw [take_snoc' l k h, List.all_append]; simp
theorem all_false_at {α : Type} (p : α → Bool) (l : List α) (k : Nat) (h : k < l.length) (hf : p l[k] = false) : l.all p = false := by
  rw [List.all_eq_false]; exact ⟨l[k], List.getElem_mem _, by simp [hf]⟩

set_option maxHeartbeats 400000 in
theorem rclosed_c (t : T) (S : Nat → Prop) (w : World) (v : Value) (hv : RT S w t v) (hS : ∀ b, S b → b < w.heap.size) (hb : bulkL [t] ≤ 1099511627776) :
    Calls Tryd.prog 11 #[v] w fun e w' => e = .returned (.bool (closedL [t])) ∧ Below w.heap.size w w' := by
  have HC := Lib.hid (closedL_all _ [t] (Nat.le_refl _))
  have hal := allL_le _ [t] (Nat.le_refl _)
  obtain ⟨a, cap, rfl, hcap, hr⟩ := hv
  have HV : Hid (RT S w t _) := Lib.hid ⟨a, cap, rfl, hcap, hr⟩
  have HS := Lib.hid hS; clear hS hr
  go_enter Tryd.func11, Tryd.ntmps11
  go_wp2_with fail
  refine (all_c t 0 S _ _ (HV.out.alloc _) (fun b hb => by have := HS.out b hb; simp <;> omega) (by omega) (by omega)).mono ?_
  rintro e w1 ⟨v1, v2, rfl, hB1, hr1, hr2⟩
  obtain ⟨a1, cap1, rfl⟩ := hr1.form
  have HR1 := Lib.hid hr1; clear hr1 hr2
  have hs1 := hB1.size
  simp only [World.size_alloc] at hs1
  have hBB := below_step (below_alloc w _) (by simp) hB1
  go_wp2_with fail
  go_loop [5] (fun i => ∃ k : Nat, k ≤ (allL [t]).length ∧ i = .int .i64 k ∧ ((allL [t]).take k).all (fun x => x.kind != 5 && x.kind != 6) = true) (fun i => (allL [t]).length - (intOf i).toNat)
  case atStart => exact ⟨0, Nat.zero_le _, rfl, rfl⟩
  case round =>
    obtain ⟨k, hk, rfl, hall⟩ := hrel
    have HA := Lib.hid hall; clear hall
    by_cases hlt : k < (allL [t]).length
    · obtain ⟨b, o, rfl⟩ := HR1.out.addr (by omega)
      obtain ⟨a', cap', _, d0, d1, d2, d3, hE⟩ := HR1.out.elem k hlt
      have HSN := Lib.hid (all_snoc (fun x : T => x.kind != 5 && x.kind != 6) (allL [t]) k hlt)
      have HF := Lib.hid (all_false_at (fun x : T => x.kind != 5 && x.kind != 6) (allL [t]) k hlt)
      by_cases h5 : (allL [t])[k].kind = 5
      · have e5 : ((allL [t])[k].kind == 5) = true := by simpa using h5
        go_wp2_with fail
        go_ret
        exact ⟨ret_bool (by rw [HC.out, HF.out (by simp [h5])]), hBB⟩
      have e5 : ((allL [t])[k].kind == 5) = false := by simpa using h5
      by_cases h6 : (allL [t])[k].kind = 6
      · have e6 : ((allL [t])[k].kind == 6) = true := by simpa using h6
        go_wp2_with fail
        go_ret
        exact ⟨ret_bool (by rw [HC.out, HF.out (by simp [h6])]), hBB⟩
      have e6 : ((allL [t])[k].kind == 6) = false := by simpa using h6
      go_wp2_with fail
      go_round
      case rel => exact ⟨k + 1, by omega, by go_num, by rw [HSN.out, HA.out]; simp [h5, h6]⟩
      case measure => simp [intOf]; omega
    · have hkk : k = (allL [t]).length := by omega
      subst hkk
      go_wp2_with fail
      go_ret
      exact ⟨ret_bool (by have := HA.out; rw [List.take_length] at this; rw [HC.out, this]), hBB⟩
end Go.Proofs.YtedfepnekjjmnabDoor

/-
  A term's text: in plain words. No program in sight.
-/
namespace Go.Proofs.YtedfepnekjjmnabDoor
open Go.RowKit
set_option linter.unusedSimpArgs false
set_option linter.unusedVariables false

def textL : List T → List (List UInt8)
  | [] => []
  | ⟨k, n, s, l⟩ :: ts => (if k = 1 then Lib.itoa n else if k = 2 then s.data.toList else if k = 3 then 35 :: Lib.itoa n else if k = 5 then 36 :: Lib.itoa n else if k = 6 then [95] else 40 :: (Lib.join (textL l) [32] ++ [41])) :: textL ts
def textT (t : T) : List UInt8 :=
  if t.kind = 1 then Lib.itoa t.n else if t.kind = 2 then t.name.data.toList else if t.kind = 3 then 35 :: Lib.itoa t.n else if t.kind = 5 then 36 :: Lib.itoa t.n else if t.kind = 6 then [95] else 40 :: (Lib.join (textL t.args) [32] ++ [41])
theorem textL_cons (t : T) (ts : List T) : textL (t :: ts) = textT t :: textL ts := by obtain ⟨k, n, s, l⟩ := t; rw [textL]; rfl
theorem textL_map (ts : List T) : textL ts = ts.map textT := by
  induction ts with
  | nil => rw [textL]; rfl
  | cons t ts ih => rw [textL_cons, ih]; rfl
def bytes (l : List UInt8) : ByteArray := ⟨l.toArray⟩
theorem bytes_data (l : List UInt8) : (bytes l).data.toList = l := by simp [bytes]
theorem bytes_append (a b : List UInt8) : bytes a ++ bytes b = bytes (a ++ b) := by
  apply ByteArray.ext
  simp [bytes, ByteArray.data_append]
theorem bytes_cons (x : UInt8) (l : List UInt8) : bytes [x] ++ bytes l = bytes (x :: l) := by rw [bytes_append]; rfl
theorem text_tuple (l : List UInt8) : Ending.returned (.string ((⟨#[40]⟩ : ByteArray) ++ bytes l ++ ⟨#[41]⟩)) = .returned (.string (bytes (40 :: (l ++ [41])))) := by
  rw [show (⟨#[40]⟩ : ByteArray) = bytes [40] from rfl, show (⟨#[41]⟩ : ByteArray) = bytes [41] from rfl, bytes_append, bytes_append]; rfl
theorem bytes_size (l : List UInt8) : (bytes l).size = l.length := by simp [bytes, ByteArray.size]
theorem bytes_of (s : ByteArray) : bytes s.data.toList = s := by cases s; simp [bytes]
theorem join_snoc (sep : List UInt8) (xs : List (List UInt8)) (y : List UInt8) (h : xs ≠ []) : Lib.join (xs ++ [y]) sep = Lib.join xs sep ++ sep ++ y := by
  cases xs with
  | nil => exact absurd rfl h
  | cons x r =>
    rw [List.cons_append, Lib.join_cons, Lib.join_cons]
    simp [Lib.joinTail, List.append_assoc]
theorem join_len (xs : List (List UInt8)) : (Lib.join xs [32]).length ≤ Lib.lens xs + xs.length := by
  cases xs with
  | nil => simp [Lib.join_nil]
  | cons x r => rw [Lib.join_length]; simp; omega
theorem form_n {t : T} (h : headB t = true) : -9223372036854775808 ≤ t.n ∧ t.n ≤ 9223372036854775807 := by
  unfold headB at h
  split at h
  · simp [inB] at h; omega
  split at h
  · simp at h; omega
  split at h
  · simp [inB] at h; omega
  split at h
  · simp [inB] at h; omega
  split at h
  · simp at h; omega
  split at h
  · simp at h; omega
  · cases h
theorem head_args8 {t : T} (h : headB t = true) : t.args.length ≤ 8 := by
  have hb : bareB t = true → t.args.length = 0 := fun h => by
    unfold bareB at h
    simp only [Bool.and_eq_true, decide_eq_true_eq] at h
    exact h.2
  unfold headB at h
  split at h
  · rw [Bool.and_eq_true] at h; rw [hb h.1]; omega
  split at h
  · simp only [Bool.and_eq_true, decide_eq_true_eq] at h; omega
  split at h
  · rw [Bool.and_eq_true] at h; rw [hb h.1]; omega
  split at h
  · rw [Bool.and_eq_true] at h; rw [hb h.1]; omega
  split at h
  · rw [Bool.and_eq_true] at h; rw [hb h.1]; omega
  split at h
  · simp only [Bool.and_eq_true, decide_eq_true_eq] at h; omega
  · cases h
theorem textL_len : ∀ (m : Nat) (ts : List T), bulkL ts ≤ m → formL ts = true → Lib.lens (textL ts) + ts.length ≤ 24 * bulkL ts
  | 0, ts, hb, _ => by
    cases ts with
    | nil => simp [textL, Lib.lens]
    | cons t ts => rw [bulkL_cons] at hb; omega
  | m + 1, ts, hb, hf => by
    cases ts with
    | nil => simp [textL, Lib.lens]
    | cons t ts =>
      rw [bulkL_cons] at hb ⊢
      rw [formL_cons] at hf
      simp only [Bool.and_eq_true] at hf
      have h1 := textL_len m t.args (by omega) hf.1.2
      have h2 := textL_len m ts (by omega) hf.2
      have hn := form_n hf.1.1
      have h3 := Lib.itoa_length_le t.n hn.1 hn.2
      have h4 := join_len (textL t.args)
      have h5 : (textL t.args).length = t.args.length := by rw [textL_map]; simp
      have h6 : t.name.data.toList.length = t.name.size := by rw [Array.length_toList]; rfl
      rw [textL_cons]
      have hl : Lib.lens (textT t :: textL ts) = (textT t).length + Lib.lens (textL ts) := by simp [Lib.lens]
      have h7 : (textT t).length + 1 ≤ 24 * (1 + t.name.size + bulkL t.args) := by
        unfold textT
        split
        · omega
        split
        · omega
        split
        · simp only [List.length_cons]; omega
        split
        · simp only [List.length_cons]; omega
        split
        · simp only [List.length_cons, List.length_nil]; omega
        · simp only [List.length_cons, List.length_append, List.length_nil]; omega
      rw [hl, List.length_cons]
      omega
theorem textT_len {t : T} (h : formL [t] = true) : (textT t).length + 1 ≤ 24 * bulkL [t] := by
  have := textL_len _ [t] (Nat.le_refl _) h
  rw [textL_cons] at this
  simpa [textL, Lib.lens] using this
def txT (t : T) : ByteArray := bytes (textT t)
theorem form_head {t : T} (h : formL [t] = true) : headB t = true ∧ formL t.args = true := by
  rw [formL_cons] at h
  simp only [Bool.and_eq_true] at h
  exact h.1
theorem form_mem {ts : List T} (h : formL ts = true) {x : T} (hx : x ∈ ts) : formL [x] = true := by
  rw [formL_all] at h
  exact List.all_eq_true.1 h x hx
theorem head_kinds {t : T} (h : headB t = true) : t.kind = 1 ∨ t.kind = 2 ∨ t.kind = 3 ∨ t.kind = 4 ∨ t.kind = 5 ∨ t.kind = 6 := by
  unfold headB at h
  by_cases h1 : t.kind = 1; · exact .inl h1
  by_cases h2 : t.kind = 2; · exact .inr (.inl h2)
  by_cases h3 : t.kind = 3; · exact .inr (.inr (.inl h3))
  by_cases h5 : t.kind = 5; · exact .inr (.inr (.inr (.inr (.inl h5))))
  by_cases h6 : t.kind = 6; · exact .inr (.inr (.inr (.inr (.inr h6))))
  by_cases h4 : t.kind = 4; · exact .inr (.inr (.inr (.inl h4)))
  rw [if_neg h1, if_neg h2, if_neg h3, if_neg h5, if_neg h6, if_neg h4] at h
  cases h
/-- The reference's text so far: k parts told. -/
def partText (ts : List T) (k : Nat) : List UInt8 := 40 :: Lib.join ((textL ts).take k) [32]
theorem partText_zero (ts : List T) : partText ts 0 = [40] := by simp [partText, Lib.join_nil]
theorem partText_one {ts : List T} (h : 0 < ts.length) : partText ts 1 = [(40 : UInt8)] ++ textT ts[0] := by
  unfold partText
  cases ts with
  | nil => cases h
  | cons t ts => rw [textL_cons]; simp [Lib.join_one]
theorem partText_succ {ts : List T} {k : Nat} (hk : k < ts.length) (h0 : 0 < k) : partText ts (k + 1) = partText ts k ++ [32] ++ textT ts[k] := by
  unfold partText
  have hl : k < (textL ts).length := by rw [textL_map]; simpa using hk
  have h1 : (textL ts).take (k + 1) = (textL ts).take k ++ [textT ts[k]] := by
    rw [List.take_succ_eq_append_getElem hl]
    simp [textL_map]
  have hlk : ((textL ts).take k).length = k := by rw [List.length_take]; omega
  rw [h1, join_snoc _ _ _ (by
    intro e
    rw [e] at hlk
    simp at hlk; omega)]
  simp
theorem partText_all (t : T) : 40 :: (Lib.join (textL t.args) [32] ++ [41]) = partText t.args t.args.length ++ [41] := by
  unfold partText
  rw [List.take_of_length_le (by rw [textL_map]; simp)]
  simp
theorem partText_len (ts : List T) (k : Nat) : (partText ts k).length ≤ 1 + Lib.lens (textL ts) + ts.length := by
  unfold partText
  have h1 := join_len ((textL ts).take k)
  have h2 := Lib.lens_take_le (textL ts) k
  have h3 : ((textL ts).take k).length ≤ ts.length := by rw [List.length_take, textL_map]; simp; omega
  simp only [List.length_cons]
  omega
end Go.Proofs.YtedfepnekjjmnabDoor
