/-
  match.Bound, clerkref.Bound: may these be what variables are bound to? No condition but a bound on how much there is.
-/
import Derived.Test.YtedfepnekjjmnaaRCheck
namespace Go.Proofs.Ytedfepnekjjmnaa
open Go.RowKit
set_option linter.unusedSimpArgs false
set_option linter.unusedVariables false

def bndB (t : T) : Bool := checkE t == 0 && (t.kind == 6 || closedL [t])
def boundB (l : List T) : Bool := l.length == 4 && l.all bndB
theorem boundB_any (l : List T) : boundB l = (l.length == 4 && !(l.any fun t => !bndB t)) := by
  rw [boundB]; congr 1; induction l with
  | nil => rfl
  | cons t l ih => simp only [List.all_cons, List.any_cons, Bool.not_or, Bool.not_not, ih]

set_option maxHeartbeats 400000 in
theorem free_c (t : T) (S : Nat → Prop) (w : World) (v : Value) (hv : RT S w t v) : Calls Try.prog 97 #[v] w fun e w' => e = .returned (.bool (t.kind == 6)) ∧ Below w.heap.size w w' := by
  obtain ⟨a, cap, rfl, hcap, hr⟩ := hv
  clear hr hcap
  go_enter Try.func97, Try.ntmps97
  go_wp2_with fail
  go_ret
  exact ⟨rfl, below_alloc _ _⟩

set_option maxHeartbeats 1000000 in
theorem bound1_c (t : T) (S : Nat → Prop) (w : World) (v : Value) (hv : RT S w t v) (hb : bulkL [t] ≤ 1099511627776) :
    Calls Try.prog 96 #[v] w fun e w' => e = .returned (.bool (!bndB t)) ∧ Below w.heap.size w w' := by
  obtain ⟨a, cap, rfl, hcap, hr⟩ := hv
  have HV : Hid (RT S w t _) := Lib.hid ⟨a, cap, rfl, hcap, hr⟩
  clear hr hcap
  have HR := Lib.hid (show bndB t = (checkE t == 0 && (t.kind == 6 || closedL [t])) from rfl)
  go_enter Try.func96, Try.ntmps96
  go_wp2_with fail
  refine (check_c t _ _ _ (HV.out.alloc _) hb).mono ?_
  rintro e w1 ⟨rfl, hB1⟩
  have h1 := hB1.size
  obtain ⟨hcc, -⟩ := bcell hB1
  simp only [World.size_alloc] at hcc h1
  have hs1 : w.heap.size < w1.heap.size := by omega
  have HV1 := Lib.hid ((HV.out.alloc (.cells #[.int .i64 t.kind, .int .i64 t.n, .string t.name, .slice a t.args.length cap] 29)).below hB1)
  have HB1 := Lib.hid (below_step (below_alloc _ _) (by simp) hB1)
  by_cases hc : checkE t = 0
  · have hcb : (checkE t != 0) = false := by simp [hc]
    have HC := Lib.hid hc; clear hc
    go_wp2_with fail
    refine (free_c t _ _ _ HV1.out).mono ?_
    rintro e w2 ⟨rfl, hB2⟩
    have h2 := hB2.size
    obtain ⟨hcc2, -⟩ := bcell hB2
    cases hk : (t.kind == 6)
    · have HK := Lib.hid hk; clear hk
      go_wp2_with fail
      refine (closed_c t _ _ _ (HV1.out.below hB2) hb).mono ?_
      rintro e w3 ⟨rfl, hB3⟩
      go_wp2_with fail
      go_ret
      exact ⟨ret_bool (by rw [HR.out, HC.out, HK.out]; simp), below_step (below_step HB1.out (by omega) hB2) (by omega) hB3⟩
    · have HK := Lib.hid hk; clear hk
      go_wp2_with fail
      go_ret
      exact ⟨ret_bool (by rw [HR.out, HC.out, HK.out]; simp), below_step HB1.out (by omega) hB2⟩
  · have hcb : (checkE t != 0) = true := by simp [hc]
    have HC := Lib.hid (show (checkE t == 0) = false by simp [hc])
    go_wp2_with fail
    go_ret
    exact ⟨ret_bool (by rw [HR.out, HC.out]; simp), HB1.out⟩

set_option maxHeartbeats 1000000 in
theorem bound_c (l : List T) (S : Nat → Prop) (w : World) (v : Value) (hv : RSl S w l v) (hb : bulkL l ≤ 1099511627776) :
    Calls Try.prog 62 #[v] w fun e w' => e = .returned (.bool (boundB l)) ∧ Below w.heap.size w w' := by
  have hll := length_le_bulk l
  obtain ⟨a, cap, rfl, hcap, hr⟩ := hv
  have HV : Hid (RSl S w l _) := Lib.hid ⟨a, cap, rfl, hcap, hr⟩
  clear hr hcap
  have HA := Lib.hid (boundB_any l)
  have HF : Hid (∀ x ∈ l, ∀ (W : World) (u : Value), RT S W x u → Calls Try.prog 96 #[u] W fun e w' => e = .returned (.bool (!bndB x)) ∧ Below W.heap.size W w') := Lib.hid fun x hx W u hu => bound1_c x S W u hu (by have := bulk_mem hx; omega)
  cases h4 : ((l.length : Int) == 4)
  · have h4' := Lib.hid (show (l.length == 4) = false by simp at h4 ⊢; omega)
    go_enter Try.func62, Try.ntmps62
    go_wp2_with fail
    go_ret
    exact ⟨ret_bool (by rw [HA.out, h4'.out]; rfl), Below.refl _ _⟩
  · have h4' := Lib.hid (show (l.length == 4) = true by simp at h4 ⊢; omega)
    go_enter Try.func62, Try.ntmps62
    go_wp2_with fail
    refine (containsFunc_Bound1 _ S _ _ _ HV.out (by omega) HF.out).mono ?_
    rintro e w1 ⟨rfl, hB1⟩
    go_wp2_with fail
    go_ret
    exact ⟨ret_bool (by rw [HA.out, h4'.out]; rfl), hB1⟩

set_option maxHeartbeats 1000000 in
theorem rbound_c (l : List T) (S : Nat → Prop) (w : World) (v : Value) (hv : RSl S w l v) (hS : ∀ b, S b → b < w.heap.size) (hb : bulkL l ≤ 1099511627776) :
    Calls Try.prog 20 #[v] w fun e w' => e = .returned (.bool (boundB l)) ∧ Below w.heap.size w w' := by
  have hll := length_le_bulk l
  obtain ⟨a, cap, rfl, hcap, hr⟩ := hv
  have HR := Lib.hid hr; clear hr hcap
  have HS := Lib.hid hS; clear hS
  have H0 := Lib.hid (show boundB l = (l.length == 4 && l.all bndB) from rfl)
  have H4 := Lib.hid (show ((l.length : Int) == 4) = (l.length == 4) by rw [Bool.eq_iff_iff]; simp only [beq_iff_eq]; omega)
  go_enter Try.func20, Try.ntmps20
  go_wp2_with fail
  go_loopw [3, 4] (fun ok i wr => ∃ k : Nat, k ≤ l.length ∧ i = .int .i64 k ∧ ok = .bool (l.length == 4 && (l.take k).all bndB) ∧ Below w.heap.size w wr) (fun _ i _ => l.length - (intOf i).toNat)
  case atStart => exact ⟨0, Nat.zero_le _, rfl, (by rw [H4.out]; simp), Below.refl _ _⟩
  case round =>
    obtain ⟨k, hkl, rfl, rfl, hB⟩ := hrel
    have hsz := hB.size
    by_cases hlt : k < l.length
    · obtain ⟨b, o, rfl⟩ := HR.out.addr (by omega)
      obtain ⟨a', cap', hSb, d0, d1, d2, d3, hE⟩ := (HR.out.below hB).elem k hlt
      have hbk := bulk_at hlt
      have hE := Lib.hid hE
      have HT := Lib.hid (show (l.take (k + 1)).all bndB = ((l.take k).all bndB && bndB l[k]) by rw [take_snoc' l k hlt, List.all_append]; simp)
      have HD := Lib.hid (show bndB l[k] = (checkE l[k] == 0 && (l[k].kind == 6 || closedL [l[k]])) from rfl)
      cases hp : (l.length == 4 && (l.take k).all bndB)
      · have HP := Lib.hid hp; clear hp
        go_wp2_with fail
        go_roundw
        case rel => exact ⟨k + 1, by omega, by go_num, by rw [HT.out, ← Bool.and_assoc, HP.out]; rfl, hB⟩
        case measure => simp [intOf]; omega
      have HP := Lib.hid hp; clear hp
      generalize l[k] = u at *
      go_wp2_with fail
      refine (rcheck_c u S _ _ hE.out (fun b hb => by have := HS.out b hb; omega) (by omega)).mono ?_
      rintro e w1 ⟨rfl, hB1⟩
      have h1 := hB1.size
      obtain ⟨hcc, -⟩ := bcell hB1
      have hlb : b < wr.heap.size := by have := HS.out b hSb; omega
      have hE1 := Lib.hid (hE.out.below hB1)
      have HB1 := Lib.hid (below_step hB (by omega) hB1)
      cases hc : (checkE u == 0)
      · have HC := Lib.hid hc
        go_wp2_with fail
        go_roundw
        case rel => exact ⟨k + 1, by omega, by go_num, by rw [HT.out, ← Bool.and_assoc, HP.out, HD.out, HC.out]; rfl, HB1.out⟩
        case measure => simp [intOf]; omega
      have HC := Lib.hid hc
      cases hk : (u.kind == 6)
      · have HK := Lib.hid hk
        go_wp2_with fail
        refine (rclosed_c u S _ _ hE1.out (fun b hb => by have := HS.out b hb; omega) (by omega)).mono ?_
        rintro e w2 ⟨rfl, hB2⟩
        cases hcl : closedL [u]
        all_goals
          have HCL := Lib.hid hcl
          go_wp2_with fail
          go_roundw
          case rel => exact ⟨k + 1, by omega, by go_num, by rw [HT.out, ← Bool.and_assoc, HP.out, HD.out, HC.out, HK.out, HCL.out]; rfl, below_step HB1.out (by omega) hB2⟩
          case measure => simp [intOf]; omega
      · have HK := Lib.hid hk
        go_wp2_with fail
        go_roundw
        case rel => exact ⟨k + 1, by omega, by go_num, by rw [HT.out, ← Bool.and_assoc, HP.out, HD.out, HC.out, HK.out]; rfl, HB1.out⟩
        case measure => simp [intOf]; omega
    · have hkk : k = l.length := by omega
      subst hkk
      go_wp2_with fail
      go_ret
      exact ⟨ret_bool (by rw [H0.out, List.take_of_length_le (Nat.le_refl _)]), hB⟩
end Go.Proofs.Ytedfepnekjjmnaa
