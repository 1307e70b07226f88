/-
  term.Size: what it answers. No condition but a bound on how much there is.
-/
import Derived.Test.YtedfepnekjjmnabDoorBase
namespace Go.Proofs.YtedfepnekjjmnabDoor
open Go.RowKit
set_option linter.unusedSimpArgs false
set_option linter.unusedVariables false

def szL : List T → Nat
  | [] => 0
  | ⟨k, _, _, l⟩ :: ts => (if k = 4 then 1 + l.length + szL l else 0) + szL ts

theorem szL_cons (t : T) (ts : List T) : szL (t :: ts) = (if t.kind = 4 then 1 + t.args.length + szL t.args else 0) + szL ts := by
  obtain ⟨k, n, s, l⟩ := t; rw [szL]

theorem szL_append (a b : List T) : szL (a ++ b) = szL a + szL b := by
  induction a with
  | nil => simp [szL]
  | cons t ts ih => simp only [List.cons_append, szL_cons, ih]; omega

theorem szL_le : ∀ m (ts : List T), bulkL ts ≤ m → szL ts + ts.length ≤ 2 * bulkL ts := by
  intro m
  induction m with
  | zero => intro ts h; cases ts with
    | nil => simp [szL]
    | cons t ts => rw [bulkL_cons] at h; omega
  | succ m ih =>
    intro ts h
    cases ts with
    | nil => simp [szL]
    | cons t ts =>
      rw [bulkL_cons] at h
      have h1 := ih t.args (by omega)
      have h2 := ih ts (by omega)
      rw [szL_cons, bulkL_cons, List.length_cons]
      split <;> omega

theorem szL_snoc {l : List T} {k : Nat} (h : k < l.length) : szL (l.take (k + 1)) = szL (l.take k) + szL [l[k]] := by
  rw [take_snoc' l k h, szL_append]

set_option maxHeartbeats 400000 in
theorem size_c : ∀ (t : T) (S : Nat → Prop) (w : World) (v : Value), RT S w t v → bulkL [t] ≤ 1099511627776 →
    Calls Tryd.prog 12 #[v] w fun e w' => e = .returned (.int .i64 (szL [t])) ∧ Below w.heap.size w w' := by
  intro t
  induction t using T.ind with
  | h t ih =>
    intro S w v hv hb
    obtain ⟨a, cap, rfl, hcap, hr⟩ := hv
    have hba := bulk_args t
    have hla := length_le_bulk t.args
    have hsz := szL_le _ t.args (Nat.le_refl _)
    have hx : szL [t] = if t.kind = 4 then 1 + t.args.length + szL t.args else 0 := by rw [szL_cons]; simp [szL]
    have HX := Lib.hid hx; clear hx
    have IH := Lib.hid ih; clear ih
    have HR := Lib.hid hr; clear hr
    by_cases hk : (t.kind == 4) = true
    · have hk' : (t.kind != 4) = false := by simpa using hk
      go_enter Tryd.func12, Tryd.ntmps12
      go_wp2_with fail
      go_loopw [3, 16] (fun nn i wr => ∃ k : Nat, k ≤ t.args.length ∧ i = .int .i64 k ∧ nn = .int .i64 ((1 + t.args.length + szL (t.args.take k) : Nat) : Int) ∧ Below w.heap.size w wr) (fun _ i _ => t.args.length - (intOf i).toNat)
      case atStart => exact ⟨0, Nat.zero_le _, rfl, by simp [szL], below_alloc _ _⟩
      case round =>
        obtain ⟨k, hkl, rfl, rfl, hB⟩ := hrel
        have hbt := bulk_take t.args k
        have hst := szL_le _ (t.args.take k) (Nat.le_refl _)
        by_cases hlt : k < t.args.length
        · obtain ⟨b, o, rfl⟩ := HR.out.addr (by omega)
          obtain ⟨a', cap', _, c0, c1, c2, c3, hE⟩ := HR.out.elem k hlt
          have hbl := World.block_lt_of_cell? w _ c0
          have hE := hE.below hB
          have d0 := (hB.cell hbl).trans c0
          have d1 := (hB.cell (p := ⟨b, o + k * 4 + 1, none⟩) hbl).trans c1
          have d2 := (hB.cell (p := ⟨b, o + k * 4 + 2, none⟩) hbl).trans c2
          have d3 := (hB.cell (p := ⟨b, o + k * 4 + 3, none⟩) hbl).trans c3
          have hbk := bulk_at hlt
          have hsk := szL_le _ [t.args[k]] (Nat.le_refl _)
          have HS := Lib.hid (szL_snoc hlt)
          have hsz' := hB.size
          clear c0 c1 c2 c3
          go_wp2_with fail
          refine (IH.out _ (List.getElem_mem hlt) S _ _ (hE.alloc _) (by omega)).mono ?_
          rintro e w1 ⟨rfl, hB1⟩
          go_wp2_with fail
          go_roundw
          case rel => exact ⟨k + 1, by omega, by go_num, by rw [HS.out]; go_num, below_step (hB.alloc (by omega) _) (by simp; omega) hB1⟩
          case measure => simp [intOf]; omega
        · have hkk : k = t.args.length := by omega
          subst hkk
          go_wp2_with fail
          go_ret
          refine ⟨ret_int ?_, hB⟩
          rw [HX.out, if_pos (by simpa using hk), List.take_length]
    · have hk' : (t.kind != 4) = true := by simpa using hk
      go_enter Tryd.func12, Tryd.ntmps12
      go_wp2_with fail
      go_ret
      refine ⟨ret_int ?_, below_alloc _ _⟩
      rw [HX.out, if_neg (by simpa using hk)]; rfl
end Go.Proofs.YtedfepnekjjmnabDoor
