/-
  way.Send. No condition but bounds.
-/
import Derived.Test.YtedfepnekjjmnabJf
namespace Go.Proofs.Ytedfepnekjjmnab
open Go.RowKit Go.Maps
set_option linter.unusedSimpArgs false
set_option linter.unusedVariables false
set_option maxRecDepth 100000

def WSendP (P F : Nat → Prop) (w0 : World) (bs : List (Nat × List Value)) (w : World) (rs : List Rw) (A : List Ent) (bm n : Nat) (a c : Int) (t : T) (e : Ending) (w' : World) : Prop :=
  e = .returned (.int .i64 (sendE A a c t)) ∧ w.heap.size ≤ w'.heap.size ∧ (∀ b, F b → b ≠ bm → w'.heap[b]? = w.heap[b]?) ∧
    ∃ P' : Nat → Prop, (∀ b, P b → P' b) ∧ ((sendE A a c t ≠ 0 ∧ RQ P' F w0 bs w' (rowsE A ++ rs) ∧ MapE w' bm n A) ∨ (sendE A a c t = 0 ∧ ∃ A', SentTo A (a, c) t A' ∧ RQ P' F w0 bs w' (rowsE A' ++ rs) ∧ MapE w' bm (n + 1) A'))
theorem wsend_bad {P F : Nat → Prop} {w0 w w' : World} {bs bs' : List (Nat × List Value)} {rs : List Rw} {A : List Ent} {bm n : Nat} {a c : Int} {t : T} {e : Ending} {x : Int} (hm : MapE w bm n A) (fm : F bm) (hx : x ≠ 0) (hs : sendE A a c t = x) (he : e = .returned (.int .i64 x))
    (hR : RQ P F w0 bs w (rowsE A ++ rs)) (hB : Below w.heap.size w w') (h : RQ P F w0 bs' w' (rowsE A ++ rs)) (hsub : ∀ p ∈ bs, p ∈ bs') : WSendP P F w0 bs w rs A bm n a c t e w' :=
  ⟨by rw [he, hs], hB.size, fun b hb _ => hB.block b (hR.fh b hb).2.1, P, fun _ h => h, .inl ⟨by rw [hs]; exact hx, h.sub hsub, hm.toQ (hB.block _ (hR.fh bm fm).2.1)⟩⟩

section
variable {o : Oper} {q : Act} {Q : Exit → Act → World → Prop} {K : Act → World → Prop} {w : World}
theorem wp_mapEntryQ (m x : Operand) (hop : o.op = Op.mapEntry 59 m x) {mv xv v : Value} {w1 : World} (hm : q.eval m = mv) (hx : q.eval x = xv) (hrun : (Instr.mapEntry 59 mv xv).run Try.prog w = .ok v w1) (hK : K (q.put o.dst v) w1) : Oper.wp Try.prog o q w K Q := by
  unfold Oper.wp
  simp [execOp, hop, hm, hx, hrun, Result.andThen]
  exact hK
theorem wp_entryStoreQ (m x y : Operand) (hop : o.op = Op.entryStore 59 m x y) {mv xv yv : Value} {w1 : World} (hm : q.eval m = mv) (hx : q.eval x = xv) (hy : q.eval y = yv) (hrun : (Instr.entryStore 59 mv xv yv).run Try.prog w = .ok () w1) (hK : K (q.put o.dst undef) w1) : Oper.wp Try.prog o q w K Q := by
  unfold Oper.wp
  simp [execOp, hop, hm, hx, hy, hrun, Result.andThen]
  exact hK
end

set_option maxHeartbeats 8000000 in
theorem wsend_c (P F : Nat → Prop) (w0 : World) (bs : List (Nat × List Value)) (w : World) (rs : List Rw) (A : List Ent) (B bm n : Nat) (a c : Int) (t : T) (v : Value) (hR : RQ P F w0 bs w (rowsE A ++ rs)) (hm : MapE w bm n A) (hB : Blk w B [.map (some bm)]) (fm : F bm) (fB : F B) (hne : B ≠ bm)
    (hv : RT P w t v) (hn : n < 1000000) (hb : bulkL [t] ≤ 1099511627776) (hL : ∀ q ∈ A, q.2.2.length ≤ 20) :
    Calls Try.prog 22 #[.pointer (some ⟨B, 0, none⟩), .int .i64 a, .int .i64 c, v] w (WSendP P F w0 bs w rs A bm n a c t) := by
  obtain ⟨ta, tcap, rfl, hcap, hr⟩ := hv
  have HT : Hid (RT P w t (.agg #[.int .i64 t.kind, .int .i64 t.n, .string t.name, .slice ta t.args.length tcap])) := Lib.hid ⟨ta, tcap, rfl, hcap, hr⟩
  obtain ⟨W0, hW0⟩ : ∃ W : World, W = w.alloc (.cells #[.int .i64 t.kind, .int .i64 t.n, .string t.name, .slice ta t.args.length tcap] 24) := ⟨_, rfl⟩
  obtain ⟨g7, hg7⟩ : ∃ g, g = w.heap.size := ⟨_, rfl⟩
  have HS0 : Hid (RQ P F w0 ((g7, [.int .i64 t.kind, .int .i64 t.n, .string t.name, .slice ta t.args.length tcap]) :: bs) W0 (rowsE A ++ rs)) := Lib.hid (by rw [hW0]; exact hR.alloc #[.int .i64 t.kind, .int .i64 t.n, .string t.name, .slice ta t.args.length tcap] _ hg7)
  have HB0 : Hid (Below w.heap.size w W0) := Lib.hid (by rw [hW0]; exact below_alloc _ _)
  have HR := Lib.hid hR
  have HM := Lib.hid hm
  have HBB := Lib.hid hB
  have HW0 := Lib.hid hW0
  have HG7 := Lib.hid hg7
  have hs0 := HB0.out.size
  clear hcap hr hR hm hB hW0 hg7
  go_enter Try.func22, Try.ntmps22
  go_upto_region 1 with fail
  rw [← HW0.out, ← HG7.out]
  cases ha : pidW a
  · go_wp2_with fail
    refine (wpid_c a W0).mono ?_
    rintro e w1 ⟨rfl, rfl⟩
    rw [ha]
    go_wp2_with fail
    go_ret
    exact wsend_bad HM.out fm (x := 1) (by decide) (by unfold sendE; rw [if_pos (.inl ha)]) rfl HR.out HB0.out HS0.out fun p hp => List.mem_cons_of_mem _ hp
  cases hc : pidW c
  · go_wp2_with fail
    refine (wpid_c a W0).mono ?_
    rintro e w1 ⟨rfl, rfl⟩
    rw [ha]
    go_wp2_with fail
    refine (wpid_c c W0).mono ?_
    rintro e w1 ⟨rfl, rfl⟩
    rw [hc]
    go_wp2_with fail
    go_ret
    exact wsend_bad HM.out fm (x := 1) (by decide) (by unfold sendE; rw [if_pos (.inr hc)]) rfl HR.out HB0.out HS0.out fun p hp => List.mem_cons_of_mem _ hp
  have hac : ¬ (pidW a = false ∨ pidW c = false) := by rw [ha, hc]; simp
  have hwa := pidW_wf ha
  have hwc := pidW_wf hc
  have y0 := HS0.out.cell (g := g7) (List.mem_cons_self ..) 0 _ rfl
  have y1 := HS0.out.cell (g := g7) (List.mem_cons_self ..) 1 _ rfl
  have y2 := HS0.out.cell (g := g7) (List.mem_cons_self ..) 2 _ rfl
  have y3 := HS0.out.cell (g := g7) (List.mem_cons_self ..) 3 _ rfl
  go_wp2_with fail
  refine (wpid_c a W0).mono ?_
  rintro e w1 ⟨rfl, rfl⟩
  rw [ha]
  go_wp2_with fail
  refine (wpid_c c W0).mono ?_
  rintro e w1 ⟨rfl, rfl⟩
  rw [hc]
  go_wp2_with fail
  refine (check_c t P _ _ (HT.out.below HB0.out) hb).mono ?_
  rintro e w1 ⟨rfl, hB1⟩
  have HB1 : Hid (Below w.heap.size w w1) := Lib.hid (below_step HB0.out (by omega) hB1)
  have HS1 := Lib.hid (HS0.out.below hB1)
  clear hB1 y0 y1 y2 y3
  by_cases hck : checkE t = 0
  · have hckb : (checkE t != 0) = false := by simp [hck]
    have y0 := HS1.out.cell (g := g7) (List.mem_cons_self ..) 0 _ rfl
    have y1 := HS1.out.cell (g := g7) (List.mem_cons_self ..) 1 _ rfl
    have y2 := HS1.out.cell (g := g7) (List.mem_cons_self ..) 2 _ rfl
    have y3 := HS1.out.cell (g := g7) (List.mem_cons_self ..) 3 _ rfl
    go_upto_region 7 with fail
    obtain ⟨W6, hW6⟩ : ∃ W : World, W = w1.alloc (.cells #[.int .i64 a, .int .i64 c] 62) := ⟨_, rfl⟩
    obtain ⟨g10, hg10⟩ : ∃ g, g = w1.heap.size := ⟨_, rfl⟩
    have HS6 : Hid (RQ P F w0 ((g10, [.int .i64 a, .int .i64 c]) :: (g7, [.int .i64 t.kind, .int .i64 t.n, .string t.name, .slice ta t.args.length tcap]) :: bs) W6 (rowsE A ++ rs)) := Lib.hid (by rw [hW6]; exact HS1.out.alloc #[.int .i64 a, .int .i64 c] _ hg10)
    have hs1 := HB1.out.size
    have HB6 : Hid (Below w.heap.size w W6) := Lib.hid (by rw [hW6]; exact below_step HB1.out (by omega) (below_alloc _ _))
    rw [← hW6, ← hg10]
    clear hW6 hg10 y0 y1 y2 y3
    have y0 := HS6.out.cell (g := g7) (List.mem_cons_of_mem _ (List.mem_cons_self ..)) 0 _ rfl
    have y1 := HS6.out.cell (g := g7) (List.mem_cons_of_mem _ (List.mem_cons_self ..)) 1 _ rfl
    have y2 := HS6.out.cell (g := g7) (List.mem_cons_of_mem _ (List.mem_cons_self ..)) 2 _ rfl
    have y3 := HS6.out.cell (g := g7) (List.mem_cons_of_mem _ (List.mem_cons_self ..)) 3 _ rfl
    go_wp2_with fail
    refine (closed_c t P _ _ (HT.out.below HB6.out) hb).mono ?_
    rintro e w7 ⟨he, hB7⟩
    have hs6 := HB6.out.size
    have HB7 : Hid (Below w.heap.size w w7) := Lib.hid (below_step HB6.out (by omega) hB7)
    have HS10 := Lib.hid (HS6.out.below hB7)
    clear hB7 y0 y1 y2 y3
    cases hcl : closedL [t]
    · rw [hcl] at he
      subst he
      go_wp2_with fail
      go_ret
      exact wsend_bad HM.out fm (x := 5) (by decide) (by unfold sendE; rw [if_neg hac, if_neg (by simp [hck]), if_pos hcl]) rfl HR.out HB7.out HS10.out fun p hp => List.mem_cons_of_mem _ (List.mem_cons_of_mem _ hp)
    rw [hcl] at he
    subst he
    have hs7 := HB7.out.size
    have hbm := (HR.out.fh bm fm).2.1
    have hBl := (HR.out.fh B fB).2.1
    have HLK : Hid (∀ w' : World, w'.heap[bm]? = w.heap[bm]? → (Instr.lookup 59 (.map (some bm)) (.agg #[.int .i64 a, .int .i64 c]) false).run Try.prog w' = .ok ((rawF A a c).getD (.slice none 0 0)) w') := Lib.hid fun w' e => (HM.out.toQ e).lookQ hwa hwc
    have hrv : ∃ x cap, (rawF A a c).getD (.slice none 0 0) = .slice x (listF A (a, c)).length cap := by
      unfold rawF listF
      cases he : entF A (a, c) with
      | none => exact ⟨none, 0, rfl⟩
      | some y =>
        obtain ⟨X, Y, rfl, -⟩ := entF_some he
        exact HR.out.form ((a, c), y) (by simp)
    obtain ⟨xr, xc, hrv⟩ := hrv
    rw [hrv] at HLK
    have HRV := Lib.hid hrv
    clear hrv
    have HQ9 : Hid (∀ w' : World, RQ P F w0 ((g10, [.int .i64 a, .int .i64 c]) :: (g7, [.int .i64 t.kind, .int .i64 t.n, .string t.name, .slice ta t.args.length tcap]) :: bs) w' (rowsE A ++ rs) ∧ Below w7.heap.size w7 w' → w'.heap[bm]? = w.heap[bm]? ∧ w'.cell? ⟨B, 0, none⟩ = some (.map (some bm)) ∧ w'.cell? ⟨g10, 0, none⟩ = some (.int .i64 a) ∧ w'.cell? ⟨g10, 1, none⟩ = some (.int .i64 c)) := Lib.hid fun w' h => ⟨(h.2.block _ (by omega)).trans (HB7.out.block _ hbm), ((HBB.out.step HB7.out).step h.2).cell 0 _ rfl, h.1.cell (List.mem_cons_self ..) 0 _ rfl, h.1.cell (List.mem_cons_self ..) 1 _ rfl⟩
    by_cases h20 : (listF A (a, c)).length = 20
    · have hd : (((listF A (a, c)).length : Int) == 20) = true := by rw [h20]; rfl
      go_upto_region 9 with fail
      refine rg_start (fun w' => w'.heap[bm]? = w.heap[bm]? ∧ w'.cell? ⟨B, 0, none⟩ = some (.map (some bm)) ∧ w'.cell? ⟨g10, 0, none⟩ = some (.int .i64 a) ∧ w'.cell? ⟨g10, 1, none⟩ = some (.int .i64 c)) (by as_aux_lemma => kernel_rfl) (fun Wd h => HQ9.out _ ⟨HS10.out.below h, h⟩) ?_
      intro Wd hB hWd hWd' hHeld
      have HSd := Lib.hid (HS10.out.below hB); have HBd := Lib.hid hB
      clear hB
      refine rg_take (i := 0) (v := ?_) rfl (by as_aux_lemma => kernel_rfl) (by as_aux_lemma => kernel_rfl) (by as_aux_lemma => kernel_rfl) (by rfl) ?_ hHeld ?_
      rotate_left 1
      · intro w hSw; (try dsimp only at hSw); go_simp; try (with_reducible rfl)
      (try simp only [Act.put, List.setIfInBounds_toArray, List.set_cons_zero, List.set_cons_succ])
      refine rg_take (i := 1) (v := ?_) rfl (by as_aux_lemma => kernel_rfl) (by as_aux_lemma => kernel_rfl) (by as_aux_lemma => kernel_rfl) (by rfl) ?_ hHeld ?_
      rotate_left 1
      · intro w hSw; (try dsimp only at hSw); go_simp; try (with_reducible rfl)
      (try simp only [Act.put, List.setIfInBounds_toArray, List.set_cons_zero, List.set_cons_succ])
      refine rg_take (i := 2) (v := ?_) rfl (by as_aux_lemma => kernel_rfl) (by as_aux_lemma => kernel_rfl) (by as_aux_lemma => kernel_rfl) (by rfl) ?_ hHeld ?_
      rotate_left 1
      · intro w hSw; (try dsimp only at hSw); go_simp; try (with_reducible rfl)
      (try simp only [Act.put, List.setIfInBounds_toArray, List.set_cons_zero, List.set_cons_succ])
      refine rg_take (i := 3) (v := ?_) rfl (by as_aux_lemma => kernel_rfl) (by as_aux_lemma => kernel_rfl) (by as_aux_lemma => kernel_rfl) (by rfl) ?_ hHeld ?_
      rotate_left 1
      · intro w hSw; (try dsimp only at hSw); go_simp; try (with_reducible rfl)
      (try simp only [Act.put, List.setIfInBounds_toArray, List.set_cons_zero, List.set_cons_succ])
      refine rg_take (i := 4) (v := ?_) rfl (by as_aux_lemma => kernel_rfl) (by as_aux_lemma => kernel_rfl) (by as_aux_lemma => kernel_rfl) (by rfl) ?_ hHeld ?_
      rotate_left 1
      · intro w hSw; (try dsimp only at hSw); go_simp; try (with_reducible rfl)
      (try simp only [Act.put, List.setIfInBounds_toArray, List.set_cons_zero, List.set_cons_succ])
      refine rg_take (i := 5) (v := ?_) rfl (by as_aux_lemma => kernel_rfl) (by as_aux_lemma => kernel_rfl) (by as_aux_lemma => kernel_rfl) (by rfl) ?_ hHeld ?_
      rotate_left 1
      · intro w hSw; (try dsimp only at hSw); have hLK := HLK.out w hSw.1; go_simp; try (with_reducible rfl)
      (try simp only [Act.put, List.setIfInBounds_toArray, List.set_cons_zero, List.set_cons_succ])
      refine rg_take (i := 6) (v := ?_) rfl (by as_aux_lemma => kernel_rfl) (by as_aux_lemma => kernel_rfl) (by as_aux_lemma => kernel_rfl) (by rfl) ?_ hHeld ?_
      rotate_left 1
      · intro w hSw; (try dsimp only at hSw); go_simp; try (with_reducible rfl)
      (try simp only [Act.put, List.setIfInBounds_toArray, List.set_cons_zero, List.set_cons_succ])
      refine rg_take (i := 7) (v := ?_) rfl (by as_aux_lemma => kernel_rfl) (by as_aux_lemma => kernel_rfl) (by as_aux_lemma => kernel_rfl) (by rfl) ?_ hHeld ?_
      rotate_left 1
      · intro w hSw; (try dsimp only at hSw); go_simp; try (with_reducible rfl)
      (try simp only [Act.put, List.setIfInBounds_toArray, List.set_cons_zero, List.set_cons_succ])
      refine rg_take (i := 8) (v := ?_) rfl (by as_aux_lemma => kernel_rfl) (by as_aux_lemma => kernel_rfl) (by as_aux_lemma => kernel_rfl) (by rfl) ?_ hHeld ?_
      rotate_left 1
      · intro w hSw; (try dsimp only at hSw); go_simp; try (with_reducible rfl)
      (try simp only [Act.put, List.setIfInBounds_toArray, List.set_cons_zero, List.set_cons_succ])
      refine rg_done (by as_aux_lemma => kernel_rfl) ?_
      clear hHeld
      go_wp2_with fail
      go_ret
      exact wsend_bad HM.out fm (x := 2) (by decide) (by unfold sendE; rw [if_neg hac, if_neg (by simp [hck]), if_neg (by simp [hcl]), if_pos h20]) rfl HR.out (below_step HB7.out (by omega) HBd.out) HSd.out fun p hp => List.mem_cons_of_mem _ (List.mem_cons_of_mem _ hp)
    have hd : (((listF A (a, c)).length : Int) == 20) = false := by simp; omega
    go_upto_region 9 with fail
    refine rg_start (fun w' => w'.heap[bm]? = w.heap[bm]? ∧ w'.cell? ⟨B, 0, none⟩ = some (.map (some bm)) ∧ w'.cell? ⟨g10, 0, none⟩ = some (.int .i64 a) ∧ w'.cell? ⟨g10, 1, none⟩ = some (.int .i64 c)) (by as_aux_lemma => kernel_rfl) (fun Wd h => HQ9.out _ ⟨HS10.out.below h, h⟩) ?_
    intro Wd hB hWd hWd' hHeld
    have HSd := Lib.hid (HS10.out.below hB); have HBd := Lib.hid hB
    clear hB
    refine rg_take (i := 0) (v := ?_) rfl (by as_aux_lemma => kernel_rfl) (by as_aux_lemma => kernel_rfl) (by as_aux_lemma => kernel_rfl) (by rfl) ?_ hHeld ?_
    rotate_left 1
    · intro w hSw; (try dsimp only at hSw); go_simp; try (with_reducible rfl)
    (try simp only [Act.put, List.setIfInBounds_toArray, List.set_cons_zero, List.set_cons_succ])
    refine rg_take (i := 1) (v := ?_) rfl (by as_aux_lemma => kernel_rfl) (by as_aux_lemma => kernel_rfl) (by as_aux_lemma => kernel_rfl) (by rfl) ?_ hHeld ?_
    rotate_left 1
    · intro w hSw; (try dsimp only at hSw); go_simp; try (with_reducible rfl)
    (try simp only [Act.put, List.setIfInBounds_toArray, List.set_cons_zero, List.set_cons_succ])
    refine rg_take (i := 2) (v := ?_) rfl (by as_aux_lemma => kernel_rfl) (by as_aux_lemma => kernel_rfl) (by as_aux_lemma => kernel_rfl) (by rfl) ?_ hHeld ?_
    rotate_left 1
    · intro w hSw; (try dsimp only at hSw); go_simp; try (with_reducible rfl)
    (try simp only [Act.put, List.setIfInBounds_toArray, List.set_cons_zero, List.set_cons_succ])
    refine rg_take (i := 3) (v := ?_) rfl (by as_aux_lemma => kernel_rfl) (by as_aux_lemma => kernel_rfl) (by as_aux_lemma => kernel_rfl) (by rfl) ?_ hHeld ?_
    rotate_left 1
    · intro w hSw; (try dsimp only at hSw); go_simp; try (with_reducible rfl)
    (try simp only [Act.put, List.setIfInBounds_toArray, List.set_cons_zero, List.set_cons_succ])
    refine rg_take (i := 4) (v := ?_) rfl (by as_aux_lemma => kernel_rfl) (by as_aux_lemma => kernel_rfl) (by as_aux_lemma => kernel_rfl) (by rfl) ?_ hHeld ?_
    rotate_left 1
    · intro w hSw; (try dsimp only at hSw); go_simp; try (with_reducible rfl)
    (try simp only [Act.put, List.setIfInBounds_toArray, List.set_cons_zero, List.set_cons_succ])
    refine rg_take (i := 5) (v := ?_) rfl (by as_aux_lemma => kernel_rfl) (by as_aux_lemma => kernel_rfl) (by as_aux_lemma => kernel_rfl) (by rfl) ?_ hHeld ?_
    rotate_left 1
    · intro w hSw; (try dsimp only at hSw); have hLK := HLK.out w hSw.1; go_simp; try (with_reducible rfl)
    (try simp only [Act.put, List.setIfInBounds_toArray, List.set_cons_zero, List.set_cons_succ])
    refine rg_take (i := 6) (v := ?_) rfl (by as_aux_lemma => kernel_rfl) (by as_aux_lemma => kernel_rfl) (by as_aux_lemma => kernel_rfl) (by rfl) ?_ hHeld ?_
    rotate_left 1
    · intro w hSw; (try dsimp only at hSw); go_simp; try (with_reducible rfl)
    (try simp only [Act.put, List.setIfInBounds_toArray, List.set_cons_zero, List.set_cons_succ])
    refine rg_take (i := 7) (v := ?_) rfl (by as_aux_lemma => kernel_rfl) (by as_aux_lemma => kernel_rfl) (by as_aux_lemma => kernel_rfl) (by rfl) ?_ hHeld ?_
    rotate_left 1
    · intro w hSw; (try dsimp only at hSw); go_simp; try (with_reducible rfl)
    (try simp only [Act.put, List.setIfInBounds_toArray, List.set_cons_zero, List.set_cons_succ])
    refine rg_take (i := 8) (v := ?_) rfl (by as_aux_lemma => kernel_rfl) (by as_aux_lemma => kernel_rfl) (by as_aux_lemma => kernel_rfl) (by rfl) ?_ hHeld ?_
    rotate_left 1
    · intro w hSw; (try dsimp only at hSw); go_simp; try (with_reducible rfl)
    (try simp only [Act.put, List.setIfInBounds_toArray, List.set_cons_zero, List.set_cons_succ])
    refine rg_done (by as_aux_lemma => kernel_rfl) ?_
    clear hHeld
    go_upto_region 11 with fail
    have hVs := HBd.out.size
    have HBV : Hid (Below w.heap.size w Wd) := Lib.hid (below_step HB7.out (by omega) HBd.out)
    have HSE : Hid (sendE A a c t = 0) := Lib.hid (by unfold sendE; rw [if_neg hac, if_neg (by simp [hck]), if_neg (by simp [hcl]), if_neg h20])
    obtain ⟨l1, l2, v0, l0, A', hrq, hsent, hrows, hl0, hent⟩ := send_split (F := F) (w0 := w0) (rs := rs) t HM.out (by unfold maxLen; omega) hwa hwc
    have hl20 : l0.length ≤ 20 := by
      rw [hl0]
      unfold listF
      cases he : entF A (a, c) with
      | none => simp
      | some y =>
        obtain ⟨X, Y, rfl, -⟩ := entF_some he
        exact hL ((a, c), y) (by simp)
    have HSV := Lib.hid (hrq _ _ _ HSd.out)
    have EBV := Lib.hid (HBB.out.step HBV.out)
    have HENT := Lib.hid hent
    have HQ11 : Hid (∀ (w' : World) (P' : Nat → Prop) (rows : List Rw), RQ P' F w0 ((g10, [.int .i64 a, .int .i64 c]) :: (g7, [.int .i64 t.kind, .int .i64 t.n, .string t.name, .slice ta t.args.length tcap]) :: bs) w' rows → Blk w' B [.map (some bm)] → w'.cell? ⟨B, 0, none⟩ = some (.map (some bm)) ∧ w'.cell? ⟨g10, 0, none⟩ = some (.int .i64 a) ∧ w'.cell? ⟨g10, 1, none⟩ = some (.int .i64 c) ∧ w'.cell? ⟨g7, 0, none⟩ = some (.int .i64 t.kind) ∧ w'.cell? ⟨g7, 1, none⟩ = some (.int .i64 t.n) ∧ w'.cell? ⟨g7, 2, none⟩ = some (.string t.name) ∧ w'.cell? ⟨g7, 3, none⟩ = some (.slice ta t.args.length tcap)) := Lib.hid fun w' P' rows h hbk => ⟨hbk.cell 0 _ rfl, h.cell (List.mem_cons_self ..) 0 _ rfl, h.cell (List.mem_cons_self ..) 1 _ rfl, h.cell (List.mem_cons_of_mem _ (List.mem_cons_self ..)) 0 _ rfl, h.cell (List.mem_cons_of_mem _ (List.mem_cons_self ..)) 1 _ rfl, h.cell (List.mem_cons_of_mem _ (List.mem_cons_self ..)) 2 _ rfl, h.cell (List.mem_cons_of_mem _ (List.mem_cons_self ..)) 3 _ rfl⟩
    clear hent hrq hl0 hL
    refine rg_start (fun w' => w'.cell? ⟨B, 0, none⟩ = some (.map (some bm)) ∧ w'.cell? ⟨g10, 0, none⟩ = some (.int .i64 a) ∧ w'.cell? ⟨g10, 1, none⟩ = some (.int .i64 c) ∧ w'.cell? ⟨g7, 0, none⟩ = some (.int .i64 t.kind) ∧ w'.cell? ⟨g7, 1, none⟩ = some (.int .i64 t.n) ∧ w'.cell? ⟨g7, 2, none⟩ = some (.string t.name) ∧ w'.cell? ⟨g7, 3, none⟩ = some (.slice ta t.args.length tcap)) (by as_aux_lemma => kernel_rfl) (fun Wx h => HQ11.out _ _ _ (HSV.out.below h) (EBV.out.step h)) ?_
    intro wz0 hB hWd2 hWd2' hHeld
    have HZ0 := Lib.hid (HSV.out.below hB)
    have EB0 := Lib.hid (EBV.out.step hB)
    have EM0 : Hid (wz0.heap[bm]? = w.heap[bm]?) := Lib.hid ((hB.block bm (by omega)).trans (HBV.out.block bm hbm))
    have EF0 : Hid (∀ b, F b → b ≠ bm → wz0.heap[b]? = w.heap[b]?) := Lib.hid fun b hf hn => (hB.block b (by have := (HR.out.fh b hf).2.1; omega)).trans (HBV.out.block b (HR.out.fh b hf).2.1)
    have HTz0 := Lib.hid ((HT.out.below HBV.out).below hB)
    clear hB
    refine rg_take (i := 0) (v := ?_) rfl (by as_aux_lemma => kernel_rfl) (by as_aux_lemma => kernel_rfl) (by as_aux_lemma => kernel_rfl) (by rfl) ?_ hHeld ?_
    rotate_left 1
    · intro w hSw; (try dsimp only at hSw); go_simp; try (with_reducible rfl)
    (try simp only [Act.put, List.setIfInBounds_toArray, List.set_cons_zero, List.set_cons_succ])
    refine rg_take (i := 1) (v := ?_) rfl (by as_aux_lemma => kernel_rfl) (by as_aux_lemma => kernel_rfl) (by as_aux_lemma => kernel_rfl) (by rfl) ?_ hHeld ?_
    rotate_left 1
    · intro w hSw; (try dsimp only at hSw); go_simp; try (with_reducible rfl)
    (try simp only [Act.put, List.setIfInBounds_toArray, List.set_cons_zero, List.set_cons_succ])
    refine rg_take (i := 2) (v := ?_) rfl (by as_aux_lemma => kernel_rfl) (by as_aux_lemma => kernel_rfl) (by as_aux_lemma => kernel_rfl) (by rfl) ?_ hHeld ?_
    rotate_left 1
    · intro w hSw; (try dsimp only at hSw); go_simp; try (with_reducible rfl)
    (try simp only [Act.put, List.setIfInBounds_toArray, List.set_cons_zero, List.set_cons_succ])
    refine rg_take (i := 3) (v := ?_) rfl (by as_aux_lemma => kernel_rfl) (by as_aux_lemma => kernel_rfl) (by as_aux_lemma => kernel_rfl) (by rfl) ?_ hHeld ?_
    rotate_left 1
    · intro w hSw; (try dsimp only at hSw); go_simp; try (with_reducible rfl)
    (try simp only [Act.put, List.setIfInBounds_toArray, List.set_cons_zero, List.set_cons_succ])
    refine rg_take (i := 4) (v := ?_) rfl (by as_aux_lemma => kernel_rfl) (by as_aux_lemma => kernel_rfl) (by as_aux_lemma => kernel_rfl) (by rfl) ?_ hHeld ?_
    rotate_left 1
    · intro w hSw; (try dsimp only at hSw); go_simp; try (with_reducible rfl)
    (try simp only [Act.put, List.setIfInBounds_toArray, List.set_cons_zero, List.set_cons_succ])
    refine rg_take (i := 5) (v := ?_) rfl (by as_aux_lemma => kernel_rfl) (by as_aux_lemma => kernel_rfl) (by as_aux_lemma => kernel_rfl) (by rfl) ?_ hHeld ?_
    rotate_left 1
    · intro w hSw; (try dsimp only at hSw); go_simp; try (with_reducible rfl)
    (try simp only [Act.put, List.setIfInBounds_toArray, List.set_cons_zero, List.set_cons_succ])
    refine rg_only (i := 6) rfl (by as_aux_lemma => kernel_rfl) (by rfl) (fun K hK => ?_)
    go_simp
    go_at_call 56
    refine (copied_c t P wz0 _ HTz0.out hb).mono ?_
    rintro e wz1 ⟨vc, rfl, hBz, hTz⟩
    obtain ⟨ca, ccap, rfl, hccap, hcr⟩ := hTz
    obtain ⟨P1, hP1⟩ : ∃ P1 : Nat → Prop, P1 = fun b => P b ∨ (wz0.heap.size ≤ b ∧ b < wz1.heap.size) := ⟨_, rfl⟩
    have HPP : Hid (∀ b, P b → P1 b) := Lib.hid (fun b hb => by rw [hP1]; exact .inl hb)
    have HZ1 : Hid (RQ P1 F w0 ((g10, [.int .i64 a, .int .i64 c]) :: (g7, [.int .i64 t.kind, .int .i64 t.n, .string t.name, .slice ta t.args.length tcap]) :: bs) wz1 (l1 ++ rT v0 l0 :: l2)) := Lib.hid (by rw [hP1]; exact HZ0.out.more hBz)
    have HC1 : Hid (RT P1 wz1 t (.agg #[.int .i64 t.kind, .int .i64 t.n, .string t.name, .slice ca t.args.length ccap])) := Lib.hid (RT.to (S := fun b => wz0.heap.size ≤ b) ⟨ca, ccap, rfl, hccap, hcr⟩ (fun b h hl => by rw [hP1]; exact .inr ⟨h, hl⟩) fun _ _ _ => rfl)
    have hzs1 := hBz.size
    have EB1 := Lib.hid (EB0.out.step hBz)
    have EM1 : Hid (wz1.heap[bm]? = w.heap[bm]?) := Lib.hid ((hBz.block bm (by omega)).trans EM0.out)
    have EF1 : Hid (∀ b, F b → b ≠ bm → wz1.heap[b]? = w.heap[b]?) := Lib.hid fun b hf hn => (hBz.block b (by have := (HR.out.fh b hf).2.1; omega)).trans (EF0.out b hf hn)
    clear hBz hccap hcr hP1
    refine hK.out _ _ (HQ11.out _ _ _ HZ1.out EB1.out) (fun hHeld1 => ?_)
    clear hK K hHeld
    have hHeld := hHeld1
    clear hHeld1
    (try simp only [Act.put, List.setIfInBounds_toArray, List.set_cons_zero, List.set_cons_succ])
    refine rg_only (i := 7) rfl (by as_aux_lemma => kernel_rfl) (by rfl) (fun K hK => ?_)
    refine build1 _ rfl (by rfl) ?_
    obtain ⟨wz2, hwz⟩ : ∃ W : World, W = wz1.alloc (.cells #[.int .i64 t.kind, .int .i64 t.n, .string t.name, .slice ca t.args.length ccap] 24) := ⟨_, rfl⟩
    obtain ⟨gz, hgz⟩ : ∃ g, g = wz1.heap.size := ⟨_, rfl⟩
    have hBz : Below wz1.heap.size wz1 wz2 := by rw [hwz]; exact below_alloc _ _
    have HZ2 : Hid (RQ P1 F w0 ((gz, [.int .i64 t.kind, .int .i64 t.n, .string t.name, .slice ca t.args.length ccap]) :: (g10, [.int .i64 a, .int .i64 c]) :: (g7, [.int .i64 t.kind, .int .i64 t.n, .string t.name, .slice ta t.args.length tcap]) :: bs) wz2 (l1 ++ rT v0 l0 :: l2)) := Lib.hid (by rw [hwz]; exact HZ1.out.alloc #[.int .i64 t.kind, .int .i64 t.n, .string t.name, .slice ca t.args.length ccap] _ hgz)
    have HC2 := Lib.hid (HC1.out.below hBz)
    have hzs2 := hBz.size
    have EB2 := Lib.hid (EB1.out.step hBz)
    have EM2 : Hid (wz2.heap[bm]? = w.heap[bm]?) := Lib.hid ((hBz.block bm (by omega)).trans EM1.out)
    have EF2 : Hid (∀ b, F b → b ≠ bm → wz2.heap[b]? = w.heap[b]?) := Lib.hid fun b hf hn => (hBz.block b (by have := (HR.out.fh b hf).2.1; omega)).trans (EF1.out b hf hn)
    show K _ (wz1.alloc (.cells #[.int .i64 t.kind, .int .i64 t.n, .string t.name, .slice ca t.args.length ccap] 24))
    rw [← hwz, ← hgz]
    clear hwz hgz hBz
    refine hK.out _ _ (HQ11.out _ _ _ (HZ2.out.sub fun p hp => List.mem_cons_of_mem _ hp) EB2.out) (fun hHeld1 => ?_)
    clear hK K hHeld
    have hHeld := hHeld1
    clear hHeld1
    (try simp only [Act.put, List.setIfInBounds_toArray, List.set_cons_zero, List.set_cons_succ])
    refine rg_only (i := 8) rfl (by as_aux_lemma => kernel_rfl) (by rfl) (fun K hK => ?_)
    obtain ⟨sx, we, her, heg, hes, heb⟩ := HENT.out wz2 EM2.out
    refine wp_mapEntryQ _ _ rfl (by rfl) (by rfl) her ?_
    obtain ⟨wz3, hwz⟩ : ∃ W : World, W = we := ⟨_, rfl⟩
    have EE3 : Hid (wz3.heap[bm]? = we.heap[bm]?) := Lib.hid (by rw [hwz])
    rw [← hwz] at heg hes
    show K _ we
    rw [← hwz]
    have hzs3 : wz2.heap.size ≤ wz3.heap.size := heg.size
    have HEB := Lib.hid heb
    have HZ3 := Lib.hid (HZ2.out.entry fm heg)
    have EB3 := Lib.hid (EB2.out.heap (heg.block B (by omega) (fun e => hne (Option.some.inj e))))
    have EF3 : Hid (∀ b, F b → b ≠ bm → wz3.heap[b]? = w.heap[b]?) := Lib.hid fun b hf hn => (heg.block b (by have := (HR.out.fh b hf).2.1; omega) (fun e => hn (Option.some.inj e))).trans (EF2.out b hf hn)
    have HC3 := Lib.hid (HC2.out.to (fun _ h _ => h) fun b hb' hl => heg.block b hl fun e => (HZ2.out.pb b hb').2.1 (by have e1 : b = bm := Option.some.inj e; rw [e1]; exact fm))
    clear her heg hes heb hwz
    refine hK.out _ _ (HQ11.out _ _ _ (HZ3.out.sub fun p hp => List.mem_cons_of_mem _ hp) EB3.out) (fun hHeld1 => ?_)
    clear hK K hHeld
    have hHeld := hHeld1
    clear hHeld1
    (try simp only [Act.put, List.setIfInBounds_toArray, List.set_cons_zero, List.set_cons_succ])
    refine rg_take (i := 9) (v := ?_) rfl (by as_aux_lemma => kernel_rfl) (by as_aux_lemma => kernel_rfl) (by as_aux_lemma => kernel_rfl) (by rfl) ?_ hHeld ?_
    rotate_left 1
    · intro w hSw; (try dsimp only at hSw); go_simp; try (with_reducible rfl)
    (try simp only [Act.put, List.setIfInBounds_toArray, List.set_cons_zero, List.set_cons_succ])
    refine rg_take (i := 11) (v := ?_) rfl (by as_aux_lemma => kernel_rfl) (by as_aux_lemma => kernel_rfl) (by as_aux_lemma => kernel_rfl) (by rfl) ?_ hHeld ?_
    rotate_left 1
    · intro w hSw; (try dsimp only at hSw); go_simp; try (with_reducible rfl)
    (try simp only [Act.put, List.setIfInBounds_toArray, List.set_cons_zero, List.set_cons_succ])
    refine rg_only (i := 10) rfl (by as_aux_lemma => kernel_rfl) (by rfl) (fun K hK => ?_)
    refine wp_growQ (w := wz3) _ _ termF rfl l1 l2 (v := v0) (xs := l0) (y := t) (g0 := gz) (c := [.int .i64 t.kind, .int .i64 t.n, .string t.name, .slice ca t.args.length ccap]) (by rfl) (by rfl) HZ3.out (List.mem_cons_self ..) (termE_of HC3.out) rfl (by omega) ?_
    intro gn on cn wz4 hz hzg
    have HZ4 := Lib.hid hz
    have hzs4 := hzg.size
    have EE4 : Hid (wz4.heap[bm]? = we.heap[bm]?) := Lib.hid ((HZ3.out.stay hzg bm (.inr fm)).trans EE3.out)
    have EB4 := Lib.hid (EB3.out.heap (HZ3.out.stay hzg B (.inr fB)))
    have EF4 : Hid (∀ b, F b → b ≠ bm → wz4.heap[b]? = w.heap[b]?) := Lib.hid fun b hf hn => (HZ3.out.stay hzg b (.inr hf)).trans (EF3.out b hf hn)
    clear hz hzg
    refine hK.out _ _ (HQ11.out _ _ _ (HZ4.out.sub fun p hp => List.mem_cons_of_mem _ hp) EB4.out) (fun hHeld1 => ?_)
    clear hK K hHeld
    have hHeld := hHeld1
    clear hHeld1
    (try simp only [Act.put, List.setIfInBounds_toArray, List.set_cons_zero, List.set_cons_succ])
    refine rg_only (i := 12) rfl (by as_aux_lemma => kernel_rfl) (by rfl) (fun K hK => ?_)
    obtain ⟨wz5, hsr, hsm, hsg, hss⟩ := HEB.out wz4 (.slice (some ⟨gn, on, none⟩) (l0.length + 1) cn) EE4.out
    refine wp_entryStoreQ _ _ _ rfl (by rfl) (by rfl) (by rfl) hsr ?_
    have HZ5 := Lib.hid (HZ4.out.entry fm hsg)
    have HMz := Lib.hid hsm
    have hzs5 : wz4.heap.size ≤ wz5.heap.size := hsg.size
    have EB5 := Lib.hid (EB4.out.heap (hsg.block B (by omega) (fun e => hne (Option.some.inj e))))
    have EF5 : Hid (∀ b, F b → b ≠ bm → wz5.heap[b]? = w.heap[b]?) := Lib.hid fun b hf hn => (hsg.block b (by have := (HR.out.fh b hf).2.1; omega) (fun e => hn (Option.some.inj e))).trans (EF4.out b hf hn)
    clear hsr hsm hsg hss
    refine hK.out _ _ (HQ11.out _ _ _ (HZ5.out.sub fun p hp => List.mem_cons_of_mem _ hp) EB5.out) (fun hHeld1 => ?_)
    clear hK K hHeld
    have hHeld := hHeld1
    clear hHeld1
    (try simp only [Act.put, List.setIfInBounds_toArray, List.set_cons_zero, List.set_cons_succ])
    refine rg_done (by as_aux_lemma => kernel_rfl) ?_
    clear hHeld
    go_wp2_with fail
    go_ret
    refine ⟨by rw [HSE.out]; rfl, by omega, EF5.out, P1, HPP.out, .inr ⟨HSE.out, A' _, hsent _, ?_, HMz.out⟩⟩
    rw [hrows]
    exact HZ5.out.sub fun p hp => List.mem_cons_of_mem _ (List.mem_cons_of_mem _ (List.mem_cons_of_mem _ hp))
  · have hckb : (checkE t != 0) = true := by simp [hck]
    go_wp2_with fail
    go_ret
    exact wsend_bad HM.out fm (x := checkE t) hck (by unfold sendE; rw [if_neg hac, if_pos hck]) rfl HR.out HB1.out HS1.out fun p hp => List.mem_cons_of_mem _ hp
end Go.Proofs.Ytedfepnekjjmnab
