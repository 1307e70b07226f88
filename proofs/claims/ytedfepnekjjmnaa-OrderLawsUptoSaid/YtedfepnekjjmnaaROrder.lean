/-
  clerkref.Order: what it answers of right terms. No condition but a bound on how much there is.
-/
import Derived.Test.YtedfepnekjjmnaaOrder
import Derived.Test.YtedfepnekjjmnaaRCheck
namespace Go.Proofs.Ytedfepnekjjmnaa
open Go.RowKit
set_option linter.unusedSimpArgs false
set_option linter.unusedVariables false
attribute [local go_sem ↓] Go.wp_at_zero Go.wp_at_succ

set_option maxHeartbeats 400000 in
theorem rorder1_c (a b : Int) (w : World) : Calls Try.prog 59 #[.int .i64 a, .int .i64 b] w fun e w' => e = .returned (.int .i64 (cmpI a b)) ∧ w = w' := by
  by_cases h1 : a < b
  · go_enter Try.func59, Try.ntmps59
    go_wp2
    go_ret
    exact ⟨ret_int (by simp [cmpI, h1]), rfl⟩
  by_cases h2 : b < a
  · go_enter Try.func59, Try.ntmps59
    go_wp2
    go_ret
    exact ⟨ret_int (by simp [cmpI, h2]; omega), rfl⟩
  · go_enter Try.func59, Try.ntmps59
    go_wp2
    go_ret
    exact ⟨ret_int (by simp [cmpI]; omega), rfl⟩

theorem compareBytes_self (a : List UInt8) : Lib.compareBytes a a = 0 := by
  induction a with
  | nil => rfl
  | cons x a ih => rw [Lib.compareBytes, if_neg (by simp), if_neg (by simp), ih]
theorem compareBytes_less : ∀ (a b : List UInt8), Op.bytesLess a b = true → Lib.compareBytes a b = -1
  | [], [], h => by simp [Op.bytesLess] at h
  | _ :: _, [], h => by simp [Op.bytesLess] at h
  | [], _ :: _, _ => rfl
  | x :: a, y :: b, h => by
    simp only [Op.bytesLess, Bool.or_eq_true, decide_eq_true_eq, Bool.and_eq_true, beq_iff_eq] at h
    rw [Lib.compareBytes]
    rcases h with h | ⟨rfl, h⟩
    · rw [if_pos h]
    · rw [if_neg (by simp), if_neg (by simp), compareBytes_less a b h]
theorem compareBytes_more : ∀ (a b : List UInt8), Op.bytesLess a b = false → (a == b) = false → Lib.compareBytes a b = 1
  | [], [], _, h => by simp at h
  | _ :: _, [], _, _ => rfl
  | [], _ :: _, h, _ => by simp [Op.bytesLess] at h
  | x :: a, y :: b, h, h' => by
    simp only [Op.bytesLess, Bool.or_eq_false_iff, decide_eq_false_iff_not, Bool.and_eq_false_iff, beq_eq_false_iff_ne] at h
    rw [Lib.compareBytes, if_neg h.1]
    by_cases hxy : x = y
    · subst hxy
      rw [if_neg (by simp)]
      have h2 : Op.bytesLess a b = false := by rcases h.2 with h2 | h2 <;> first | exact absurd rfl h2 | exact h2
      exact compareBytes_more a b h2 (by simpa using h')
    · have h1 := h.1
      rw [if_pos (by
        simp only [UInt8.not_lt] at h1
        exact UInt8.lt_of_le_of_ne h1 (fun e => hxy e.symm))]

theorem headB_of {t : T} (h : formL [t] = true) : headB t = true := by rw [formL_cons] at h; simp [formL] at h; exact h.1
theorem formL_args {t : T} (h : formL [t] = true) : formL t.args = true := by rw [formL_cons] at h; simp [formL] at h; exact h.2
theorem formL_mem {t : T} {ts : List T} (h : formL ts = true) (hm : t ∈ ts) : formL [t] = true := by rw [formL_all] at h; exact List.all_eq_true.1 h t hm
theorem head2 {t : T} (h : formL [t] = true) (hk : t.kind = 2) : t.n = 0 ∧ t.args = [] := by
  have h := headB_of h; simp [headB, hk] at h; exact ⟨h.1.1, h.1.2⟩
theorem head4 {t : T} (h : formL [t] = true) (hk : t.kind = 4) : t.n = 0 ∧ t.name.data.toList = [] := by
  have h := headB_of h; simp [headB, hk, Lib.toList_data] at h; exact ⟨h.1.1, by simp [h.1.2]⟩
theorem headE {t : T} (h : formL [t] = true) (h2 : t.kind ≠ 2) (h4 : t.kind ≠ 4) : t.name.data.toList = [] ∧ t.args = [] := by
  have h := headB_of h
  refine ⟨?_, head_args h h4⟩
  unfold headB bareB at h
  by_cases h1 : t.kind = 1
  · simp [h1, Lib.toList_data] at h; simp [h.1.1]
  by_cases h3 : t.kind = 3
  · simp [h3, Lib.toList_data] at h; simp [h.1.1]
  by_cases h5 : t.kind = 5
  · simp [h5, Lib.toList_data] at h; simp [h.1.1]
  by_cases h6 : t.kind = 6
  · simp [h6, Lib.toList_data] at h; simp [h.1.1]
  · simp [h1, h2, h3, h4, h5, h6] at h

theorem cmpI_self (a : Int) : cmpI a a = 0 := by simp [cmpI]
theorem ord2 {x y : T} (hx : formL [x] = true) (hy : formL [y] = true) (hk : y.kind = x.kind) (h : x.kind = 2) : ordT x y = Lib.compareBytes x.name.data.toList y.name.data.toList := by
  obtain ⟨e1, e2⟩ := head2 hx h
  obtain ⟨e3, e4⟩ := head2 hy (by omega)
  simp only [ordT, hk, e1, e2, e3, e4, cmpI_self, ordL_nn, orI, if_true]
  split <;> simp_all
theorem ord4 {x y : T} (hx : formL [x] = true) (hy : formL [y] = true) (hk : y.kind = x.kind) (h : x.kind = 4) : ordT x y = orI [cmpI x.args.length y.args.length, ordL x.args y.args] := by
  obtain ⟨e1, e2⟩ := head4 hx h
  obtain ⟨e3, e4⟩ := head4 hy (by omega)
  simp only [ordT, hk, e1, e2, e3, e4, cmpI_self, Lib.compareBytes, orI, if_true]
theorem ordE {x y : T} (hx : formL [x] = true) (hy : formL [y] = true) (hk : y.kind = x.kind) (h2 : x.kind ≠ 2) (h4 : x.kind ≠ 4) : ordT x y = cmpI x.n y.n := by
  obtain ⟨e1, e2⟩ := headE hx h2 h4
  obtain ⟨e3, e4⟩ := headE hy (by omega) (by omega)
  simp only [ordT, hk, e1, e2, e3, e4, cmpI_self, Lib.compareBytes, ordL_nn, orI, if_true]
  split <;> simp_all

set_option maxHeartbeats 4000000 in
set_option maxRecDepth 100000 in
theorem rorder_c : ∀ (x : T) (y : T) (S : Nat → Prop) (w : World) (p q : Value), RT S w x p → RT S w y q → bulkL [x] ≤ 1099511627776 → bulkL [y] ≤ 1099511627776 → formL [x] = true → formL [y] = true →
    Calls Try.prog 16 #[p, q] w fun e w' => e = .returned (.int .i64 (ordT x y)) ∧ Below w.heap.size w w' := by
  intro x
  induction x using T.ind with
  | h x ih =>
    intro y S w p q hp hq hbx hby hfx hfy
    obtain ⟨a1, cap1, rfl, hc1, hr1⟩ := hp
    obtain ⟨a2, cap2, rfl, hc2, hr2⟩ := hq
    have hba := bulk_args x
    have hbb := bulk_args y
    have hla := length_le_bulk x.args
    have hlb := length_le_bulk y.args
    have IH := Lib.hid ih; clear ih
    have HX := Lib.hid hr1; clear hr1
    have HY := Lib.hid hr2; clear hr2
    have HFX := Lib.hid hfx; clear hfx
    have HFY := Lib.hid hfy; clear hfy
    have HBB : Hid (∀ o1 o2, Below w.heap.size w ((w.alloc o1).alloc o2)) := Lib.hid fun o1 o2 => (below_alloc _ _).alloc (by simp) _
    by_cases hk1 : x.kind < y.kind
    · go_enter Try.func16, Try.ntmps16
      have hc : cmpI x.kind y.kind = -1 := by simp [cmpI, hk1]
      have HO := Lib.hid (show ordT x y = -1 by simp [ordT, orI, hc])
      go_wp2_with (go_at_call 59; refine (rorder1_c _ _ _).mono ?_; rintro e w' ⟨rfl, rfl⟩)
      go_ret
      exact ⟨ret_int (by rw [HO.out]), HBB.out _ _⟩
    by_cases hk2 : y.kind < x.kind
    · go_enter Try.func16, Try.ntmps16
      have hc : cmpI x.kind y.kind = 1 := by simp [cmpI, hk1, hk2]
      have HO := Lib.hid (show ordT x y = 1 by simp [ordT, orI, hc])
      go_wp2_with (go_at_call 59; refine (rorder1_c _ _ _).mono ?_; rintro e w' ⟨rfl, rfl⟩)
      go_ret
      exact ⟨ret_int (by rw [HO.out]), HBB.out _ _⟩
    have hke : y.kind = x.kind := by omega
    have HKE := Lib.hid hke
    have hc : cmpI x.kind y.kind = 0 := by simp [cmpI, hke]
    clear hke hk1 hk2
    by_cases h2 : x.kind = 2
    · have e2 : (x.kind == 2) = true := by simp [h2]
      clear h2
      go_enter Try.func16, Try.ntmps16
      go_wp2_with (go_at_call 59; refine (rorder1_c _ _ _).mono ?_; rintro e w' ⟨rfl, rfl⟩)
      all_goals go_ret
      all_goals refine ⟨ret_int ?_, HBB.out _ _⟩
      all_goals rw [ord2 HFX.out HFY.out HKE.out (by simpa using e2), ← Lib.toList_data, ← Lib.toList_data]
      · have h := ‹(x.name.toList == y.name.toList) = true›
        rw [beq_iff_eq] at h
        rw [h, compareBytes_self]
      · rw [compareBytes_less _ _ ‹_›]
      · rw [compareBytes_more _ _ ‹_› ‹_›]
    by_cases h4 : x.kind = 4
    · have e2 : (x.kind == 2) = false := by simp [h2]
      have e4 : (x.kind == 4) = true := by simp [h4]
      have HO := Lib.hid (ord4 HFX.out HFY.out HKE.out h4)
      clear h2 h4
      by_cases hl : x.args.length = y.args.length
      · have hcl : cmpI (x.args.length : Int) (y.args.length : Int) = 0 := by simp [cmpI, hl]
        have HL := Lib.hid hl
        have hl1 : x.args.length ≤ y.args.length := by omega
        have hl2 : y.args.length ≤ x.args.length := by omega
        clear hl
        go_enter Try.func16, Try.ntmps16
        go_wp2_with (go_at_call 59; refine (rorder1_c _ _ _).mono ?_; rintro e w' ⟨rfl, rfl⟩)
        go_loopw [8] (fun i wr => ∃ k : Nat, k ≤ x.args.length ∧ i = .int .i64 k ∧ ordL x.args y.args = ordL (x.args.drop k) (y.args.drop k) ∧ Below w.heap.size w wr ∧ w.heap.size + 1 < wr.heap.size ∧
            wr.cell? ⟨w.heap.size, 3, none⟩ = some (.slice a1 x.args.length cap1) ∧ wr.cell? ⟨w.heap.size + 1, 3, none⟩ = some (.slice a2 y.args.length cap2)) (fun i _ => x.args.length - (intOf i).toNat)
        case atStart => exact ⟨0, Nat.zero_le _, rfl, rfl, HBB.out _ _, by simp, by go_simp, by go_simp⟩
        case round =>
          obtain ⟨k, hkx, rfl, hord, hB, hsw, x3, y3⟩ := hrel
          have HOR := Lib.hid hord; clear hord
          have hs0 : w.heap.size < wr.heap.size := by omega
          by_cases hlt : k < x.args.length
          · obtain ⟨b, o, rfl⟩ := HX.out.addr (by omega)
            obtain ⟨b2, o2, rfl⟩ := HY.out.addr (by omega)
            have hlt2 : k < y.args.length := by omega
            obtain ⟨a', cap', _, d0, d1, d2, d3, hE⟩ := (HX.out.below hB).elem k hlt
            obtain ⟨a2', cap2', _, e0, e1, e2, e3, hE2⟩ := (HY.out.below hB).elem k hlt2
            have HDX := Lib.hid (drop_cons' x.args k hlt)
            have HDY := Lib.hid (drop_cons' y.args k hlt2)
            have hk0 : (0 : Int) ≤ (k : Int) := Int.natCast_nonneg _
            have hk1 : (k : Int) < (x.args.length : Int) := by omega
            have hk2 : (k : Int) < (y.args.length : Int) := by omega
            have HC := Lib.hid (fun W (hW : Below wr.heap.size wr W) => IH.out _ (List.getElem_mem hlt) y.args[k] S W _ _ (hE.below hW) (hE2.below hW) (by have := bulk_at hlt; omega) (by have := bulk_at hlt2; omega) (formL_mem (formL_args HFX.out) (List.getElem_mem hlt)) (formL_mem (formL_args HFY.out) (List.getElem_mem hlt2)))
            clear hE hE2
            have hb1 := World.block_lt_of_cell? wr _ d0
            have hb2 := World.block_lt_of_cell? wr _ e0
            generalize x.args[k] = xx at *
            generalize y.args[k] = yy at *
            go_wp2_with fail
            go_region_held3 (fun w' => w'.cell? ⟨w.heap.size, 3, none⟩ = some (.slice (some ⟨b, o, none⟩) x.args.length cap1) ∧ w'.cell? ⟨w.heap.size + 1, 3, none⟩ = some (.slice (some ⟨b2, o2, none⟩) y.args.length cap2) ∧
                w'.cell? ⟨b, o + k * 4, none⟩ = some (.int .i64 xx.kind) ∧ w'.cell? ⟨b, o + k * 4 + 1, none⟩ = some (.int .i64 xx.n) ∧ w'.cell? ⟨b, o + k * 4 + 2, none⟩ = some (.string xx.name) ∧ w'.cell? ⟨b, o + k * 4 + 3, none⟩ = some (.slice a' xx.args.length cap') ∧
                w'.cell? ⟨b2, o2 + k * 4, none⟩ = some (.int .i64 yy.kind) ∧ w'.cell? ⟨b2, o2 + k * 4 + 1, none⟩ = some (.int .i64 yy.n) ∧ w'.cell? ⟨b2, o2 + k * 4 + 2, none⟩ = some (.string yy.name) ∧ w'.cell? ⟨b2, o2 + k * 4 + 3, none⟩ = some (.slice a2' yy.args.length cap2'))
              (go_keep)
              (first | (go_at_call 16; refine (HC.out _ ?_).mono ?_; (repeat' (first | exact Below.refl _ _ | apply Below.drew | refine Below.alloc ?_ (by simp <;> omega) _)); rintro e w1 ⟨rfl, hB1⟩; have hcc : ∀ b o, b < wr.heap.size → w1.cell? ⟨b, o, none⟩ = wr.cell? ⟨b, o, none⟩ := fun b o h => hB1.cell (p := ⟨b, o, none⟩) h))
            have hs1 : wr.heap.size ≤ w1.heap.size := hB1.size
            have x31 := (hcc _ 3 hs0).trans x3
            have y31 := (hcc _ 3 hsw).trans y3
            clear hcc
            by_cases hz : ordT xx yy = 0
            · have hzb : (ordT xx yy != 0) = false := by simp [hz]
              have HZ := Lib.hid hz; clear hz
              go_wp2_with fail
              go_roundw
              case rel => exact ⟨k + 1, by omega, by go_num, by rw [HOR.out, HDX.out, HDY.out, ordL_cons, HZ.out]; simp [orI]; exact fun h => h.symm, below_step (hB.drew) (by simp; omega) hB1, by omega, x31, y31⟩
              case measure => simp [intOf]; omega
            · have hzb : (ordT xx yy != 0) = true := by simp [hz]
              go_wp2_with fail
              go_ret
              exact ⟨ret_int (by rw [HO.out, HOR.out, HDX.out, HDY.out, ordL_cons]; simp [orI, hz, hcl]), below_step (hB.drew) (by simp; omega) hB1⟩
          · have hkk : k = x.args.length := by omega
            subst hkk
            go_wp2_with fail
            go_ret
            exact ⟨ret_int (by rw [HO.out, HOR.out, List.drop_length, List.drop_of_length_le (by omega), ordL_nn]; simp [orI, hcl]), hB⟩
      · have hcl : (cmpI (x.args.length : Int) (y.args.length : Int) != 0) = true := by simp [cmpI]; split <;> omega
        go_enter Try.func16, Try.ntmps16
        go_wp2_with (go_at_call 59; refine (rorder1_c _ _ _).mono ?_; rintro e w' ⟨rfl, rfl⟩)
        go_ret
        exact ⟨ret_int (by rw [HO.out]; simp [orI]; intro h; simp [h] at hcl), HBB.out _ _⟩
    · have e2 : (x.kind == 2) = false := by simp [h2]
      have e4 : (x.kind == 4) = false := by simp [h4]
      have HO := Lib.hid (ordE HFX.out HFY.out HKE.out h2 h4)
      clear h2 h4
      go_enter Try.func16, Try.ntmps16
      go_wp2_with (go_at_call 59; refine (rorder1_c _ _ _).mono ?_; rintro e w' ⟨rfl, rfl⟩)
      go_ret
      exact ⟨ret_int (by rw [HO.out]), HBB.out _ _⟩
end Go.Proofs.Ytedfepnekjjmnaa
