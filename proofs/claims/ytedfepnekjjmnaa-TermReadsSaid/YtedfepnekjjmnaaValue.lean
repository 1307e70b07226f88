/-
  clerkref.Value, reckon.Value: what they answer. Conditions: bounds on how much there is; for the first one a formed term and four bound ones.
-/
import Derived.Test.YtedfepnekjjmnaaValC
namespace Go.Proofs.Ytedfepnekjjmnaa
open Go.RowKit
set_option linter.unusedSimpArgs false
set_option linter.unusedVariables false

def VF (S : Nat → Prop) (w : World) (o : Option T) (e : Ending) (w' : World) : Prop :=
  ∃ v, e = .returned (.tuple #[v, .bool o.isSome]) ∧ Below w.heap.size w w' ∧ RT (fun b => S b ∨ w.heap.size ≤ b) w' (o.getD zeroT) v
theorem VF.none {S : Nat → Prop} {w w' : World} {e : Ending} {o : Option T} (ho : o = Option.none) (he : e = .returned (.tuple #[.agg #[.int .i64 0, .int .i64 0, .string ⟨#[]⟩, .slice Option.none 0 0], .bool false])) (hB : Below w.heap.size w w') : VF S w o e w' := by
  subst ho; exact ⟨_, he, hB, zeroT_rt _ _⟩
theorem VF.some {S : Nat → Prop} {w w' : World} {e : Ending} {o : Option T} {t : T} {v : Value} (ho : o = Option.some t) (he : e = .returned (.tuple #[v, .bool true])) (hB : Below w.heap.size w w') (hr : RT (fun b => S b ∨ w.heap.size ≤ b) w' t v) : VF S w o e w' := by
  subst ho; exact ⟨_, he, hB, hr⟩

theorem RT.bound {S : Nat → Prop} {w : World} {t : T} {v : Value} (h : RT S w t v) : RT (fun b => b < w.heap.size) w t v := h.to (fun _ _ hl => hl) fun _ _ _ => rfl
theorem RSl.bound {S : Nat → Prop} {w : World} {t : List T} {v : Value} (h : RSl S w t v) : RSl (fun b => b < w.heap.size) w t v := h.to (fun _ _ hl => hl) fun _ _ _ => rfl

set_option maxHeartbeats 2000000 in
theorem rvalue_c (bd : List T) (self : Int) (hl : bd.length = 4) (x : T) (S : Nat → Prop) (w : World) (v vb : Value) (hv : RT S w x v) (hb : RSl S w bd vb) (hS : ∀ b, S b → b < w.heap.size) (hbk : bulkL [x] + bulkL bd ≤ 2000000) (hf : formL [x] = true) :
    Calls Try.prog 22 #[v, vb, .int .i64 self] w (VF S w (valF bd self x)) := by
  obtain ⟨a, cap, rfl, hcap, hr⟩ := hv
  obtain ⟨ab, capb, rfl, hcapb, hrb⟩ := hb
  have HX : Hid (RT S w x _) := Lib.hid ⟨a, cap, rfl, hcap, hr⟩
  have HB : Hid (RSl S w bd _) := Lib.hid ⟨ab, capb, rfl, hcapb, hrb⟩
  clear hcap hr hcapb hrb
  have HV := Lib.hid (valT_bulk bd self hl x)
  have HM := Lib.hid (mul_small (bulkL [x]) (bulkL bd) hbk)
  have hS' : ∀ b, S b → b < w.heap.size + 1 + 1 := fun b h => by have := hS b h; omega
  have HL := Lib.hid hl; clear hl
  go_enter Try.func22, Try.ntmps22
  go_wp2_with fail
  refine (rval_c bd self HL.out x S _ _ _ ((HX.out.alloc _).alloc _) ((HB.out.alloc _).alloc _) (by simpa using hS') (by omega) hf).mono ?_
  rintro e w1 ⟨t, vt, ok, rfl, hB1, ⟨a1, cap1, rfl, hc1, hr1⟩, ho⟩
  have HT : Hid (RT (fun b => S b ∨ w.heap.size + 1 + 1 ≤ b) w1 t _) := Lib.hid ⟨a1, cap1, rfl, hc1, by simpa using hr1⟩
  have hs1 := hB1.size
  obtain ⟨hcc, hff⟩ := bcell hB1
  simp only [World.size_alloc] at hs1 hcc hff
  have g1 : w.heap.size < w1.heap.size := by omega
  have g2 : w.heap.size + 1 < w1.heap.size := by omega
  have HB1 := Lib.hid (below_step ((below_alloc _ _).alloc (by simp) _) (by simp <;> omega) hB1)
  clear hB1 hc1 hr1
  have HBO : Hid (∀ o u0 u1 u2 u3, Below w.heap.size w (((((w1.setCell ⟨w.heap.size + 1, 0, none⟩ u0).setCell ⟨w.heap.size + 1, 1, none⟩ u1).setCell ⟨w.heap.size + 1, 2, none⟩ u2).setCell ⟨w.heap.size + 1, 3, none⟩ u3).alloc o)) := Lib.hid fun o u0 u1 u2 u3 => by
    refine Below.alloc ?_ (by simp <;> omega) _
    repeat refine Below.setCell ?_ (by simp <;> omega) _
    exact HB1.out
  cases ok
  · have HN := Lib.hid (valF_none (show valT bd self x = none from ho)); clear ho
    go_wp2_with fail
    exact bodyPost_ret (v := .tuple #[.agg #[.int .i64 0, .int .i64 0, .string ⟨#[]⟩, .slice none 0 0], .bool false]) (by simp [results, Try.results22, go_sem, hcc, hff, g1, g2]) rfl (VF.none HN.out rfl (HBO.out _ _ _ _ _))
  · have HO := Lib.hid (show valT bd self x = some t from ho); clear ho
    have hbt := Nat.le_trans (HV.out t hf HO.out) HM.out
    have HT2 := Lib.hid (HT.out.alloc (.cells #[.int .i64 t.kind, .int .i64 t.n, .string t.name, .slice a1 t.args.length cap1] 29))
    go_wp2_with fail
    refine (rcheck_c t _ _ _ HT2.out.bound (fun b hb => hb) hbt).mono ?_
    rintro e w2 ⟨rfl, hB2⟩
    have hs2 := hB2.size
    obtain ⟨hcc2, hff2⟩ := bcell hB2
    simp only [World.size_alloc] at hs2 hcc2 hff2
    have g3 : w.heap.size < w2.heap.size := by omega
    have g4 : w.heap.size + 1 < w2.heap.size := by omega
    have g5 : w1.heap.size < w2.heap.size := by omega
    have k1 : w.heap.size < w1.heap.size + 1 := by omega
    have k2 : w.heap.size + 1 < w1.heap.size + 1 := by omega
    have HB2 := Lib.hid (below_step (HB1.out.alloc (by omega) _) (by simp; omega) hB2)
    have HT3 := Lib.hid (HT2.out.below hB2)
    clear hB2
    by_cases hc : checkE t = 0
    · have hcb : (checkE t != 0) = false := by simp [hc]
      have HF := Lib.hid (valF_some HO.out hc); clear hc
      go_wp2_with fail
      refine bodyPost_ret (v := .tuple #[.agg #[.int .i64 t.kind, .int .i64 t.n, .string t.name, .slice a1 t.args.length cap1], .bool true]) (by simp [results, Try.results22, go_sem, hcc, hff, hcc2, hff2, g1, g2, g3, g4]) rfl (VF.some HF.out rfl ?_ ?_)
      · repeat refine Below.setCell ?_ (by simp <;> omega) _
        exact HB2.out
      · refine RT.mono (S := fun b => S b ∨ w.heap.size + 1 + 1 ≤ b) ?_ fun b hb => by rcases hb with hb | hb; exact .inl hb; exact .inr (by omega)
        repeat refine RT.slot ?_ _ _ _ (fun b hb => by rcases hb with hb | hb; (have := hS b hb; omega); omega)
        exact HT3.out
    · have hcb : (checkE t != 0) = true := by simp [hc]
      have HF := Lib.hid (valF_bad HO.out hc); clear hc
      go_wp2_with fail
      refine bodyPost_ret (v := .tuple #[.agg #[.int .i64 0, .int .i64 0, .string ⟨#[]⟩, .slice none 0 0], .bool false]) (by simp [results, Try.results22, go_sem, hcc, hff, hcc2, hff2, g1, g2, g3, g4]) rfl (VF.none HF.out rfl ?_)
      repeat refine Below.setCell ?_ (by simp <;> omega) _
      exact HB2.out

/-- What reckon.Value answers. -/
def reckO (bd : List T) (self : Int) (x : T) : T × Int :=
  if checkE x ≠ 0 then (zeroT, checkE x) else if boundB bd = false then (zeroT, 5) else if inB self 1 99 = false then (zeroT, 1) else match valF bd self x with | some t => (t, 0) | none => (zeroT, 7)
section
variable {bd : List T} {self : Int} {x : T}
theorem reckO_check (h : checkE x ≠ 0) : reckO bd self x = (zeroT, checkE x) := by rw [reckO, if_pos h]
theorem reckO_bound (h : checkE x = 0) (hb : boundB bd = false) : reckO bd self x = (zeroT, 5) := by rw [reckO, if_neg (by simp [h]), if_pos hb]
theorem reckO_self (h : checkE x = 0) (hb : boundB bd = true) (hs : inB self 1 99 = false) : reckO bd self x = (zeroT, 1) := by rw [reckO, if_neg (by simp [h]), if_neg (by simp [hb]), if_pos hs]
theorem reckO_none (h : checkE x = 0) (hb : boundB bd = true) (hs : inB self 1 99 = true) (hv : valF bd self x = none) : reckO bd self x = (zeroT, 7) := by rw [reckO, if_neg (by simp [h]), if_neg (by simp [hb]), if_neg (by simp [hs]), hv]
theorem reckO_some {t : T} (h : checkE x = 0) (hb : boundB bd = true) (hs : inB self 1 99 = true) (hv : valF bd self x = some t) : reckO bd self x = (t, 0) := by rw [reckO, if_neg (by simp [h]), if_neg (by simp [hb]), if_neg (by simp [hs]), hv]
theorem boundB_len (h : boundB bd = true) : bd.length = 4 := by simp only [boundB, Bool.and_eq_true, beq_iff_eq] at h; exact h.1
theorem check_form' {t : T} (h : checkE t = 0) : formL [t] = true := by
  unfold checkE at h
  split at h
  · assumption
  · omega
end
def RO (S : Nat → Prop) (w : World) (o : T × Int) (e : Ending) (w' : World) : Prop :=
  ∃ v, e = .returned (.tuple #[v, .int .i64 o.2]) ∧ Below w.heap.size w w' ∧ RT (fun b => S b ∨ w.heap.size ≤ b) w' o.1 v
theorem RO.open {S : Nat → Prop} {w w' : World} {e : Ending} {t : T} {n : Int} (h : RO S w (t, n) e w') : ∃ a cap, e = .returned (.tuple #[.agg #[.int .i64 t.kind, .int .i64 t.n, .string t.name, .slice a t.args.length cap], .int .i64 n]) ∧ Below w.heap.size w w' ∧
    RT (fun b => S b ∨ w.heap.size ≤ b) w' t (.agg #[.int .i64 t.kind, .int .i64 t.n, .string t.name, .slice a t.args.length cap]) := by
  obtain ⟨v, he, hB, a, cap, rfl, hc, hr⟩ := h; exact ⟨a, cap, he, hB, a, cap, rfl, hc, hr⟩
theorem RO.zero {S : Nat → Prop} {w w' : World} {e : Ending} {o : T × Int} {n : Int} (ho : o = (zeroT, n)) (he : e = .returned (.tuple #[.agg #[.int .i64 0, .int .i64 0, .string ⟨#[]⟩, .slice none 0 0], .int .i64 n])) (hB : Below w.heap.size w w') : RO S w o e w' := by
  subst ho; exact ⟨_, he, hB, zeroT_rt _ _⟩
theorem RO.some {S : Nat → Prop} {w w' : World} {e : Ending} {o : T × Int} {t : T} {v : Value} (ho : o = (t, 0)) (he : e = .returned (.tuple #[v, .int .i64 0])) (hB : Below w.heap.size w w') (hr : RT (fun b => S b ∨ w.heap.size ≤ b) w' t v) : RO S w o e w' := by
  subst ho; exact ⟨_, he, hB, hr⟩

set_option maxHeartbeats 4000000 in
theorem value_c (bd : List T) (self : Int) (x : T) (S : Nat → Prop) (w : World) (v vb : Value) (hv : RT S w x v) (hb : RSl S w bd vb) (hS : ∀ b, S b → b < w.heap.size) (hbk : bulkL [x] + bulkL bd ≤ 2000000) :
    Calls Try.prog 23 #[v, vb, .int .i64 self] w (RO S w (reckO bd self x)) := by
  obtain ⟨a, cap, rfl, hcap, hr⟩ := hv
  obtain ⟨ab, capb, rfl, hcapb, hrb⟩ := hb
  have HX : Hid (RT S w x _) := Lib.hid ⟨a, cap, rfl, hcap, hr⟩
  have HB : Hid (RSl S w bd _) := Lib.hid ⟨ab, capb, rfl, hcapb, hrb⟩
  clear hcap hr hcapb hrb
  have h1 : w.heap.size < w.heap.size + 1 + 1 := by omega
  have h2 : w.heap.size + 1 < w.heap.size + 1 + 1 := by omega
  go_enter Try.func23, Try.ntmps23
  go_wp2_with fail
  refine (check_c x S _ _ ((HX.out.alloc _).alloc _) (by omega)).mono ?_
  rintro e w1 ⟨rfl, hB1⟩
  have hs1 := hB1.size
  obtain ⟨hcc, hff⟩ := bcell hB1
  simp only [World.size_alloc] at hs1 hcc hff
  have g1 : w.heap.size < w1.heap.size := by omega
  have g2 : w.heap.size + 1 < w1.heap.size := by omega
  have HB1 := Lib.hid (below_step ((below_alloc _ _).alloc (by simp) _) (by simp <;> omega) hB1)
  clear hB1
  by_cases hc : checkE x = 0
  · have hcb : (checkE x != 0) = false := by simp [hc]
    have HC := Lib.hid hc; clear hc
    go_wp2_with fail
    refine (bound_c bd S _ _ (HB.out.below HB1.out) (by omega)).mono ?_
    rintro e w2 ⟨rfl, hB2⟩
    have hs2 := hB2.size
    obtain ⟨hcc2, hff2⟩ := bcell hB2
    have g3 : w.heap.size < w2.heap.size := by omega
    have g4 : w.heap.size + 1 < w2.heap.size := by omega
    have HB2 := Lib.hid (below_step HB1.out (by omega) hB2)
    clear hB2
    cases hbd : boundB bd
    · have HR := Lib.hid (reckO_bound (self := self) HC.out hbd); clear hbd
      go_wp2_with fail
      refine bodyPost_ret (v := .tuple #[.agg #[.int .i64 0, .int .i64 0, .string ⟨#[]⟩, .slice none 0 0], .int .i64 5]) (by simp [results, Try.results23, go_sem, hcc, hff, hcc2, hff2, g1, g2, g3, g4]) rfl (RO.zero HR.out rfl ?_)
      repeat refine Below.setCell ?_ (by simp <;> omega) _
      exact HB2.out
    have HBD := Lib.hid hbd; clear hbd
    by_cases hself : 1 ≤ self ∧ self ≤ 99
    · obtain ⟨hs3, hs4⟩ := hself
      have HI := Lib.hid (show inB self 1 99 = true by simp [inB, hs3, hs4])
      go_wp2_with fail
      refine (val_c bd self (boundB_len HBD.out) (by omega) x S _ _ _ (HX.out.below HB2.out) (HB.out.below HB2.out) (fun b hb => by have := hS b hb; omega) (by omega) (check_form' HC.out)).mono ?_
      rintro e w3 ⟨t, vt, ok, rfl, hB3, ⟨a1, cap1, rfl, hc1, hr1⟩, ho⟩
      have HT : Hid (RT (fun b => S b ∨ w2.heap.size ≤ b) w3 t _) := Lib.hid ⟨a1, cap1, rfl, hc1, hr1⟩
      have hs5 := hB3.size
      obtain ⟨hcc3, hff3⟩ := bcell hB3
      have g5 : w.heap.size < w3.heap.size := by omega
      have g6 : w.heap.size + 1 < w3.heap.size := by omega
      have HB3 := Lib.hid (below_step HB2.out (by omega) hB3)
      clear hB3 hc1 hr1
      cases ok
      · have HR := Lib.hid (reckO_none HC.out HBD.out HI.out (valF_none (show valT bd self x = none from ho))); clear ho
        go_wp2_with fail
        refine bodyPost_ret (v := .tuple #[.agg #[.int .i64 0, .int .i64 0, .string ⟨#[]⟩, .slice none 0 0], .int .i64 7]) (by simp [results, Try.results23, go_sem, hcc, hff, hcc2, hff2, hcc3, hff3, g1, g2, g3, g4, g5, g6]) rfl (RO.zero HR.out rfl ?_)
        refine Below.alloc ?_ (by simp <;> omega) _
        repeat refine Below.setCell ?_ (by simp <;> omega) _
        exact HB3.out
      · have HO := Lib.hid (show valT bd self x = some t from ho); clear ho
        have hbt := Nat.le_trans (valT_bulk bd self (boundB_len HBD.out) x t (check_form' HC.out) HO.out) (mul_small _ _ hbk)
        have HT2 := Lib.hid (HT.out.alloc (.cells #[.int .i64 t.kind, .int .i64 t.n, .string t.name, .slice a1 t.args.length cap1] 29))
        go_wp2_with fail
        refine (check_c t _ _ _ HT2.out hbt).mono ?_
        rintro e w4 ⟨rfl, hB4⟩
        have hs6 := hB4.size
        obtain ⟨hcc4, hff4⟩ := bcell hB4
        simp only [World.size_alloc] at hs6 hcc4 hff4
        have g7 : w.heap.size < w4.heap.size := by omega
        have g8 : w.heap.size + 1 < w4.heap.size := by omega
        have g9 : w3.heap.size < w4.heap.size := by omega
        have k1 : w.heap.size < w3.heap.size + 1 := by omega
        have k2 : w.heap.size + 1 < w3.heap.size + 1 := by omega
        have HB4 := Lib.hid (below_step (HB3.out.alloc (by omega) _) (by simp; omega) hB4)
        have HT3 := Lib.hid (HT2.out.below hB4)
        clear hB4
        by_cases hc : checkE t = 0
        · have hcb : (checkE t != 0) = false := by simp [hc]
          have HR := Lib.hid (reckO_some HC.out HBD.out HI.out (valF_some HO.out hc)); clear hc
          go_wp2_with fail
          refine bodyPost_ret (v := .tuple #[.agg #[.int .i64 t.kind, .int .i64 t.n, .string t.name, .slice a1 t.args.length cap1], .int .i64 0]) (by simp [results, Try.results23, go_sem, hcc, hff, hcc2, hff2, hcc3, hff3, hcc4, hff4, g1, g2, g3, g4, g5, g6, g7, g8, k2]) rfl (RO.some HR.out rfl ?_ ?_)
          · repeat refine Below.setCell ?_ (by simp <;> omega) _
            exact HB4.out
          · refine RT.mono (S := fun b => S b ∨ w2.heap.size ≤ b) ?_ fun b hb => by rcases hb with hb | hb; exact .inl hb; exact .inr (by omega)
            repeat refine RT.slot ?_ _ _ _ (fun b hb => by rcases hb with hb | hb; (have := hS b hb; omega); omega)
            exact HT3.out
        · have hcb : (checkE t != 0) = true := by simp [hc]
          have HR := Lib.hid (reckO_none HC.out HBD.out HI.out (valF_bad HO.out hc)); clear hc
          go_wp2_with fail
          refine bodyPost_ret (v := .tuple #[.agg #[.int .i64 0, .int .i64 0, .string ⟨#[]⟩, .slice none 0 0], .int .i64 7]) (by simp [results, Try.results23, go_sem, hcc, hff, hcc2, hff2, hcc3, hff3, hcc4, hff4, g1, g2, g3, g4, g5, g6, g7, g8, k2]) rfl (RO.zero HR.out rfl ?_)
          repeat refine Below.setCell ?_ (by simp <;> omega) _
          exact HB4.out
    · have HR := Lib.hid (reckO_self HC.out HBD.out (show inB self 1 99 = false by simp [inB]; omega))
      by_cases hs3 : self < 1
      · go_wp2_with fail
        refine bodyPost_ret (v := .tuple #[.agg #[.int .i64 0, .int .i64 0, .string ⟨#[]⟩, .slice none 0 0], .int .i64 1]) (by simp [results, Try.results23, go_sem, hcc, hff, hcc2, hff2, g1, g2, g3, g4]) rfl (RO.zero HR.out rfl ?_)
        repeat refine Below.setCell ?_ (by simp <;> omega) _
        exact HB2.out
      · have hs4 : 99 < self := by omega
        have hs5 : 1 ≤ self := by omega
        clear hself hs3
        go_wp2_with fail
        refine bodyPost_ret (v := .tuple #[.agg #[.int .i64 0, .int .i64 0, .string ⟨#[]⟩, .slice none 0 0], .int .i64 1]) (by simp [results, Try.results23, go_sem, hcc, hff, hcc2, hff2, g1, g2, g3, g4]) rfl (RO.zero HR.out rfl ?_)
        repeat refine Below.setCell ?_ (by simp <;> omega) _
        exact HB2.out
  · have hcb : (checkE x != 0) = true := by simp [hc]
    have HR := Lib.hid (reckO_check (bd := bd) (self := self) hc); clear hc
    go_wp2_with fail
    refine bodyPost_ret (v := .tuple #[.agg #[.int .i64 0, .int .i64 0, .string ⟨#[]⟩, .slice none 0 0], .int .i64 (checkE x)]) (by simp [results, Try.results23, go_sem, hcc, hff, g1, g2]) rfl (RO.zero HR.out rfl ?_)
    repeat refine Below.setCell ?_ (by simp <;> omega) _
    exact HB1.out
end Go.Proofs.Ytedfepnekjjmnaa
