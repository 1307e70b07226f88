/-
  term.depth, term.Closed, term.Check: what they answer. No condition but a bound on how much there is.
-/
import Derived.Test.YtedfepnekjjmnabDoorSize
import Derived.Test.YtedfepnekjjmnabDoorForm
namespace Go.Proofs.YtedfepnekjjmnabDoor
open Go.RowKit
set_option linter.unusedSimpArgs false
set_option linter.unusedVariables false

def dpL : List T → Nat
  | [] => 0
  | ⟨k, _, _, l⟩ :: ts => max (if k = 4 then 1 + dpL l else 0) (dpL ts)
theorem dpL_cons (t : T) (ts : List T) : dpL (t :: ts) = max (if t.kind = 4 then 1 + dpL t.args else 0) (dpL ts) := by
  obtain ⟨k, n, s, l⟩ := t; rw [dpL]
theorem dpL_append (a b : List T) : dpL (a ++ b) = max (dpL a) (dpL b) := by
  induction a with
  | nil => simp [dpL]
  | cons t ts ih => simp only [List.cons_append, dpL_cons, ih]; omega
theorem dpL_le : ∀ m (ts : List T), bulkL ts ≤ m → dpL ts ≤ bulkL ts := by
  intro m
  induction m with
  | zero => intro ts h; cases ts with
    | nil => simp [dpL]
    | cons t ts => rw [bulkL_cons] at h; omega
  | succ m ih =>
    intro ts h
    cases ts with
    | nil => simp [dpL]
    | cons t ts =>
      rw [bulkL_cons] at h
      have h1 := ih t.args (by omega)
      have h2 := ih ts (by omega)
      rw [dpL_cons, bulkL_cons]
      split <;> omega
theorem dpL_snoc {l : List T} {k : Nat} (h : k < l.length) : dpL (l.take (k + 1)) = max (dpL (l.take k)) (dpL [l[k]]) := by
  rw [take_snoc' l k h, dpL_append]

set_option maxHeartbeats 400000 in
theorem depth_c : ∀ (t : T) (S : Nat → Prop) (w : World) (v : Value), RT S w t v → bulkL [t] ≤ 1099511627776 →
    Calls Tryd.prog 27 #[v] w fun e w' => e = .returned (.int .i64 (dpL [t])) ∧ Below w.heap.size w w' := by
  intro t
  induction t using T.ind with
  | h t ih =>
    intro S w v hv hb
    obtain ⟨a, cap, rfl, hcap, hr⟩ := hv
    have hba := bulk_args t
    have hla := length_le_bulk t.args
    have hsz := dpL_le _ t.args (Nat.le_refl _)
    have HX := Lib.hid (show dpL [t] = if t.kind = 4 then 1 + dpL t.args else 0 by rw [dpL_cons]; simp [dpL])
    have IH := Lib.hid ih; clear ih
    have HR := Lib.hid hr; clear hr
    by_cases hk : (t.kind == 4) = true
    · have hk' : (t.kind != 4) = false := by simpa using hk
      go_enter Tryd.func27, Tryd.ntmps27
      go_wp2_with fail
      go_loopw [3, 12] (fun nn i wr => ∃ k : Nat, k ≤ t.args.length ∧ i = .int .i64 k ∧ nn = .int .i64 ((dpL (t.args.take k) : Nat) : Int) ∧ Below w.heap.size w wr) (fun _ i _ => t.args.length - (intOf i).toNat)
      case atStart => exact ⟨0, Nat.zero_le _, rfl, by simp [dpL], below_alloc _ _⟩
      case round =>
        obtain ⟨k, hkl, rfl, rfl, hB⟩ := hrel
        have hbt := bulk_take t.args k
        have hst := dpL_le _ (t.args.take k) (Nat.le_refl _)
        by_cases hlt : k < t.args.length
        · obtain ⟨b, o, rfl⟩ := HR.out.addr (by omega)
          obtain ⟨a', cap', _, d0, d1, d2, d3, hE⟩ := (HR.out.below hB).elem k hlt
          have hbk := bulk_at hlt
          have hsk := dpL_le _ [t.args[k]] (Nat.le_refl _)
          have HS := Lib.hid (dpL_snoc hlt)
          have hsz' := hB.size
          go_wp2_with fail
          refine (IH.out _ (List.getElem_mem hlt) S _ _ (hE.alloc _) (by omega)).mono ?_
          rintro e w1 ⟨rfl, hB1⟩
          go_wp2_with fail
          go_roundw
          case rel => exact ⟨k + 1, by omega, by go_num, by rw [HS.out]; go_num, below_step (hB.alloc (by omega) _) (by simp; omega) hB1⟩
          case measure => simp [intOf]; omega
        · have hkk : k = t.args.length := by omega
          subst hkk
          go_wp2_with fail
          go_ret
          refine ⟨ret_int ?_, hB⟩
          rw [HX.out, if_pos (by simpa using hk)]; omega
    · have hk' : (t.kind != 4) = true := by simpa using hk
      go_enter Tryd.func27, Tryd.ntmps27
      go_wp2_with fail
      go_ret
      refine ⟨ret_int ?_, below_alloc _ _⟩
      rw [HX.out, if_neg (by simpa using hk)]; rfl

/-- Closed. -/
def closedL : List T → Bool
  | [] => true
  | ⟨k, _, _, l⟩ :: ts => (k != 5 && k != 6 && closedL l) && closedL ts
theorem closedL_cons (t : T) (ts : List T) : closedL (t :: ts) = ((t.kind != 5 && t.kind != 6 && closedL t.args) && closedL ts) := by
  obtain ⟨k, n, s, l⟩ := t; rw [closedL]
theorem closedL_any (ts : List T) : closedL ts = !(ts.any fun x => !closedL [x]) := by
  induction ts with
  | nil => simp [closedL]
  | cons t ts ih => rw [closedL_cons, ih, List.any_cons, closedL_cons]; simp [closedL]

set_option maxHeartbeats 1000000 in
theorem closed_c : ∀ (t : T) (S : Nat → Prop) (w : World) (v : Value), RT S w t v → bulkL [t] ≤ 1099511627776 →
    Calls Tryd.prog 10 #[v] w fun e w' => e = .returned (.bool (closedL [t])) ∧ Below w.heap.size w w' := by
  intro t
  induction t using T.ind with
  | h t ih =>
    intro S w v hv hb
    obtain ⟨a, cap, rfl, hcap, hr⟩ := hv
    have hba := bulk_args t
    have hla := length_le_bulk t.args
    have IH := Lib.hid ih; clear ih
    have HR := Lib.hid hr; clear hr
    have HF := Lib.hid (show closedL [t] = (t.kind != 5 && t.kind != 6 && closedL t.args) by rw [closedL_cons]; simp [closedL])
    have hf : ∀ x ∈ t.args, ∀ (W : World) (u : Value), RT S W x u → Calls Tryd.prog 29 #[u] W fun e w' => e = .returned (.bool (!closedL [x])) ∧ Below W.heap.size W w' := by
      intro x hx W u hu
      obtain ⟨a, cap, rfl, hcap, hr⟩ := hu
      have hbx := bulk_mem hx
      go_enter Tryd.func29, Tryd.ntmps29
      go_wp2_with fail
      refine (IH.out x hx S _ _ (RT.alloc ⟨a, cap, rfl, hcap, hr⟩ _) (by omega)).mono ?_
      rintro e w1 ⟨rfl, hB1⟩
      go_wp2_with fail
      go_ret
      exact ⟨rfl, below_step (below_alloc _ _) (by simp) hB1⟩
    have HFF := Lib.hid hf; clear hf
    have HN := Lib.hid (closedL_any t.args)
    by_cases hk5 : t.kind = 5
    · go_enter Tryd.func10, Tryd.ntmps10
      go_wp2_with fail
      go_ret
      exact ⟨ret_bool (by rw [HF.out]; simp [hk5]), below_alloc _ _⟩
    by_cases hk6 : t.kind = 6
    · go_enter Tryd.func10, Tryd.ntmps10
      go_wp2_with fail
      go_ret
      exact ⟨ret_bool (by rw [HF.out]; simp [hk6]), below_alloc _ _⟩
    go_enter Tryd.func10, Tryd.ntmps10
    go_wp2_with fail
    refine (containsFunc_Closed1 _ S _ _ _ ((RT.args hcap HR.out).alloc _) (by omega) HFF.out).mono ?_; rintro e w1 ⟨rfl, hB1⟩
    go_wp2_with fail
    go_ret
    exact ⟨ret_bool (by rw [HF.out, HN.out]), below_step (below_alloc _ _) (by simp) hB1⟩

/-- Check. -/
def checkE (t : T) : Int := if formL [t] then (if dpL [t] ≤ 12 ∧ szL [t] ≤ 200 then 0 else 2) else 5

set_option maxHeartbeats 400000 in
theorem check_c (t : T) (S : Nat → Prop) (w : World) (v : Value) (hv : RT S w t v) (hb : bulkL [t] ≤ 1099511627776) :
    Calls Tryd.prog 9 #[v] w fun e w' => e = .returned (.int .i64 (checkE t)) ∧ Below w.heap.size w w' := by
  obtain ⟨a, cap, rfl, hcap, hr⟩ := hv
  have HV : Hid (RT S w t _) := Lib.hid ⟨a, cap, rfl, hcap, hr⟩
  clear hr
  have hdb := dpL_le _ [t] (Nat.le_refl _)
  have HC := Lib.hid (show checkE t = if formL [t] then (if dpL [t] ≤ 12 ∧ szL [t] ≤ 200 then 0 else 2) else 5 from rfl)
  have hsb := szL_le _ [t] (Nat.le_refl _)
  cases hf : formL [t]
  all_goals have HF := Lib.hid hf; clear hf
  · go_enter Tryd.func9, Tryd.ntmps9
    go_wp2_with fail
    refine (form_c t S _ _ (HV.out.alloc _) hb).mono ?_
    rintro e w1 ⟨rfl, hB1⟩
    rw [HF.out]
    go_wp2_with fail
    go_ret
    exact ⟨ret_int (by rw [HC.out, HF.out]; simp), below_step (below_alloc _ _) (by simp) hB1⟩
  by_cases hd : dpL [t] ≤ 12
  · by_cases hs : szL [t] ≤ 200
    all_goals
      go_enter Tryd.func9, Tryd.ntmps9
      go_wp2_with fail
      refine (form_c t S _ _ (HV.out.alloc _) hb).mono ?_
      rintro e w1 ⟨rfl, hB1⟩
      rw [HF.out]
      obtain ⟨hc1, -⟩ := bcell hB1
      have hs1 : w.heap.size < w1.heap.size := by have := hB1.size; simp at this; omega
      simp only [World.size_alloc] at hc1
      go_wp2_with fail
      refine (depth_c t S _ _ ((HV.out.alloc _).below hB1) hb).mono ?_
      rintro e w2 ⟨rfl, hB2⟩
      obtain ⟨hc2, -⟩ := bcell hB2
      have hs2 : w.heap.size < w2.heap.size := by have := hB2.size; omega
      go_wp2_with fail
      refine (size_c t S _ _ (((HV.out.alloc _).below hB1).below hB2) hb).mono ?_
      rintro e w3 ⟨rfl, hB3⟩
      go_wp2_with fail
      go_ret
      exact ⟨ret_int (by rw [HC.out, HF.out]; simp [hd, hs]), below_step (below_step (below_step (below_alloc _ _) (by simp) hB1) (by omega) hB2) (by omega) hB3⟩
  · go_enter Tryd.func9, Tryd.ntmps9
    go_wp2_with fail
    refine (form_c t S _ _ (HV.out.alloc _) hb).mono ?_
    rintro e w1 ⟨rfl, hB1⟩
    rw [HF.out]
    obtain ⟨hc1, -⟩ := bcell hB1
    have hs1 : w.heap.size < w1.heap.size := by have := hB1.size; simp at this; omega
    simp only [World.size_alloc] at hc1
    go_wp2_with fail
    refine (depth_c t S _ _ ((HV.out.alloc _).below hB1) hb).mono ?_
    rintro e w2 ⟨rfl, hB2⟩
    go_wp2_with fail
    go_ret
    exact ⟨ret_int (by rw [HC.out, HF.out]; simp [hd]), below_step (below_step (below_alloc _ _) (by simp) hB1) (by omega) hB2⟩
end Go.Proofs.YtedfepnekjjmnabDoor
