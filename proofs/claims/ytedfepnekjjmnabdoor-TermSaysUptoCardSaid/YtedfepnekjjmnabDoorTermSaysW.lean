/-
  TermSays: the walk. Conditions: the bound, and the table of powers as its initialiser lays it.
-/
import Derived.Test.YtedfepnekjjmnabDoorPrint
namespace Go.Proofs.YtedfepnekjjmnabDoor
open Go.RowKit
set_option linter.unusedSimpArgs false
set_option linter.unusedVariables false
set_option maxRecDepth 100000

set_option maxHeartbeats 4000000 in
theorem tsay_walk (t : T) (w : World) (v : Value) (hv : RT (fun b => b < w.heap.size) w t v) (hb : bulkL [t] ≤ 1048576) (htab : TabB w) : Calls Tryd.prog 3 #[v] w fun e w' => e = .returned (.bool true) ∧ Below w.heap.size w w' := by
  obtain ⟨a, cap, rfl, hcap, hr⟩ := hv
  obtain ⟨W0, hW0⟩ : ∃ W : World, W = w.alloc (.cells #[.int .i64 t.kind, .int .i64 t.n, .string t.name, .slice a t.args.length cap] 24) := ⟨_, rfl⟩
  obtain ⟨g0, hg0⟩ : ∃ g, g = w.heap.size := ⟨_, rfl⟩
  have HX : Hid (Blk W0 g0 [.int .i64 t.kind, .int .i64 t.n, .string t.name, .slice a t.args.length cap]) := Lib.hid (by rw [hW0]; exact Blk.new _ _ _ _ hg0)
  have HB0 : Hid (Below w.heap.size w W0) := Lib.hid (by rw [hW0]; exact below_alloc _ _)
  have HT0 : Hid (TabB W0) := Lib.hid (htab.on HB0.out)
  have HR : Hid (RT (fun b => b < w.heap.size) W0 t (.agg #[.int .i64 t.kind, .int .i64 t.n, .string t.name, .slice a t.args.length cap])) := Lib.hid (RT.below ⟨a, cap, rfl, hcap, hr⟩ HB0.out)
  have hs0 := HB0.out.size
  have hg0l : g0 < W0.heap.size := HX.out.lt
  have HW0 := Lib.hid hW0
  have HG0 := Lib.hid hg0
  clear hr hcap htab hW0 hg0
  go_enter Tryd.func3, Tryd.ntmps3
  go_upto_region 1 with fail
  rw [← HW0.out, ← HG0.out]
  have y0 := HX.out.cell 0 _ rfl
  have y1 := HX.out.cell 1 _ rfl
  have y2 := HX.out.cell 2 _ rfl
  have y3 := HX.out.cell 3 _ rfl
  go_wp2_with fail
  refine (rcheck_c t _ W0 _ HR.out (fun b hb => by omega) (by omega)).mono ?_
  rintro e w1 ⟨rfl, hB1⟩
  have hs1 := hB1.size
  have HB1 := Lib.hid hB1
  have HX1 := Lib.hid (HX.out.step hB1)
  have HR1 := Lib.hid (HR.out.below hB1)
  have HT1 := Lib.hid (HT0.out.on hB1)
  clear hB1 y0 y1 y2 y3
  have y0 := HX1.out.cell 0 _ rfl
  have y1 := HX1.out.cell 1 _ rfl
  have y2 := HX1.out.cell 2 _ rfl
  have y3 := HX1.out.cell 3 _ rfl
  by_cases hck : checkE t = 0
  · have HCK := Lib.hid hck
    rw [hck]
    clear hck
    go_wp2_with fail
    refine (rtext_c t _ w1 _ HR1.out (check_form0 HCK.out) (by omega) HT1.out).mono ?_
    rintro e w2 ⟨rfl, hB2⟩
    have hs2 := hB2.size
    have HB2 := Lib.hid hB2
    have HX2 := Lib.hid (HX1.out.step hB2)
    have HR2 := Lib.hid (HR1.out.below hB2)
    have HT2 := Lib.hid (HT1.out.on hB2)
    clear hB2 y0 y1 y2 y3
    have y0 := HX2.out.cell 0 _ rfl
    have y1 := HX2.out.cell 1 _ rfl
    have y2 := HX2.out.cell 2 _ rfl
    have y3 := HX2.out.cell 3 _ rfl
    have HPS : Hid (printS t = txT t) := Lib.hid (by unfold printS; rw [if_pos HCK.out])
    go_wp2_with fail
    refine (print_c t _ w2 _ HR2.out (by omega) HT2.out).mono ?_
    rintro e W3 ⟨rfl, hB3⟩
    rw [HPS.out, HCK.out]
    have hs3 := hB3.size
    have HB3 : Hid (Below w.heap.size w W3) := Lib.hid (HB0.out.trans ((HB1.out.trans ((HB2.out.trans (hB3.mono hs2)).mono hs1)).mono hs0))
    have HR3 := Lib.hid (HR2.out.below hB3)
    have HX3 := Lib.hid (HX2.out.step hB3)
    have HQ : Hid (∀ w' : World, Below W3.heap.size W3 w' → w'.cell? ⟨g0, 0, none⟩ = some (.int .i64 t.kind) ∧ w'.cell? ⟨g0, 1, none⟩ = some (.int .i64 t.n) ∧ w'.cell? ⟨g0, 2, none⟩ = some (.string t.name) ∧ w'.cell? ⟨g0, 3, none⟩ = some (.slice a t.args.length cap)) := Lib.hid fun w' h => ⟨(HX3.out.step h).cell 0 _ rfl, (HX3.out.step h).cell 1 _ rfl, (HX3.out.step h).cell 2 _ rfl, (HX3.out.step h).cell 3 _ rfl⟩
    clear hB3 y0 y1 y2 y3
    go_upto_region 6 with fail
    refine rg_start (fun w' => w'.cell? ⟨g0, 0, none⟩ = some (.int .i64 t.kind) ∧ w'.cell? ⟨g0, 1, none⟩ = some (.int .i64 t.n) ∧ w'.cell? ⟨g0, 2, none⟩ = some (.string t.name) ∧ w'.cell? ⟨g0, 3, none⟩ = some (.slice a t.args.length cap)) (by as_aux_lemma => kernel_rfl) (fun Wd h => HQ.out _ h) ?_
    intro wd hB hWd hWd' hHeld
    have HBd := Lib.hid hB
    clear hB
    refine rg_take (i := 0) (v := ?_) rfl (by as_aux_lemma => kernel_rfl) (by as_aux_lemma => kernel_rfl) (by as_aux_lemma => kernel_rfl) (by rfl) ?_ hHeld ?_
    rotate_left 1
    · intro w hSw; (try dsimp only at hSw); go_simp; try (with_reducible rfl)
    (try simp only [Act.put, List.setIfInBounds_toArray, List.set_cons_zero, List.set_cons_succ])
    refine rg_take (i := 2) (v := ?_) rfl (by as_aux_lemma => kernel_rfl) (by as_aux_lemma => kernel_rfl) (by as_aux_lemma => kernel_rfl) (by rfl) ?_ hHeld ?_
    rotate_left 1
    · intro w hSw; (try dsimp only at hSw); go_simp; try (with_reducible rfl)
    (try simp only [Act.put, List.setIfInBounds_toArray, List.set_cons_zero, List.set_cons_succ])
    refine rg_only (i := 1) rfl (by as_aux_lemma => kernel_rfl) (by rfl) (fun K hK => ?_)
    go_simp
    go_at_call 9
    refine (check_c t (fun b => b < w.heap.size) wd _ (HR3.out.below HBd.out) (by omega)).mono ?_
    rw [HCK.out]
    rintro e wa ⟨rfl, hB⟩
    have hs_wa := hB.size
    have HB_wa : Hid (Below W3.heap.size W3 wa) := Lib.hid (below_step HBd.out (by omega) hB)
    clear hB
    refine hK.out _ _ (HQ.out _ HB_wa.out) (fun hHeld1 => ?_)
    clear hK K hHeld
    have hHeld := hHeld1
    clear hHeld1
    (try simp only [Act.put, List.setIfInBounds_toArray, List.set_cons_zero, List.set_cons_succ])
    refine rg_take (i := 3) (v := ?_) rfl (by as_aux_lemma => kernel_rfl) (by as_aux_lemma => kernel_rfl) (by as_aux_lemma => kernel_rfl) (by rfl) ?_ hHeld ?_
    rotate_left 1
    · intro w hSw; (try dsimp only at hSw); go_simp; try (with_reducible rfl)
    (try simp only [Act.put, List.setIfInBounds_toArray, List.set_cons_zero, List.set_cons_succ])
    refine rg_take (i := 4) (v := ?_) rfl (by as_aux_lemma => kernel_rfl) (by as_aux_lemma => kernel_rfl) (by as_aux_lemma => kernel_rfl) (by rfl) ?_ hHeld ?_
    rotate_left 1
    · intro w hSw; (try dsimp only at hSw); go_simp; try (with_reducible rfl)
    (try simp only [Act.put, List.setIfInBounds_toArray, List.set_cons_zero, List.set_cons_succ])
    refine rg_take (i := 5) (v := ?_) rfl (by as_aux_lemma => kernel_rfl) (by as_aux_lemma => kernel_rfl) (by as_aux_lemma => kernel_rfl) (by rfl) ?_ hHeld ?_
    rotate_left 1
    · intro w hSw; (try dsimp only at hSw); go_simp; try (with_reducible rfl)
    (try simp only [Act.put, List.setIfInBounds_toArray, List.set_cons_zero, List.set_cons_succ])
    refine rg_take (i := 7) (v := ?_) rfl (by as_aux_lemma => kernel_rfl) (by as_aux_lemma => kernel_rfl) (by as_aux_lemma => kernel_rfl) (by rfl) ?_ hHeld ?_
    rotate_left 1
    · intro w hSw; (try dsimp only at hSw); go_simp; try (with_reducible rfl)
    (try simp only [Act.put, List.setIfInBounds_toArray, List.set_cons_zero, List.set_cons_succ])
    refine rg_only (i := 6) rfl (by as_aux_lemma => kernel_rfl) (by rfl) (fun K hK => ?_)
    go_simp
    go_at_call 10
    refine (closed_c t (fun b => b < w.heap.size) wa _ (HR3.out.below HB_wa.out) (by omega)).mono ?_
    rintro e wb ⟨rfl, hB⟩
    have hs_wb := hB.size
    have HB_wb : Hid (Below W3.heap.size W3 wb) := Lib.hid (below_step HB_wa.out (by omega) hB)
    clear hB
    refine hK.out _ _ (HQ.out _ HB_wb.out) (fun hHeld1 => ?_)
    clear hK K hHeld
    have hHeld := hHeld1
    clear hHeld1
    (try simp only [Act.put, List.setIfInBounds_toArray, List.set_cons_zero, List.set_cons_succ])
    refine rg_only (i := 8) rfl (by as_aux_lemma => kernel_rfl) (by rfl) (fun K hK => ?_)
    go_simp
    go_at_call 11
    refine (rclosed_c t (fun b => b < w.heap.size) wb _ (HR3.out.below HB_wb.out) (fun b hb => by omega) (by omega)).mono ?_
    rintro e wc ⟨rfl, hB⟩
    have hs_wc := hB.size
    have HB_wc : Hid (Below W3.heap.size W3 wc) := Lib.hid (below_step HB_wb.out (by omega) hB)
    clear hB
    refine hK.out _ _ (HQ.out _ HB_wc.out) (fun hHeld1 => ?_)
    clear hK K hHeld
    have hHeld := hHeld1
    clear hHeld1
    (try simp only [Act.put, List.setIfInBounds_toArray, List.set_cons_zero, List.set_cons_succ])
    refine rg_take (i := 9) (v := ?_) rfl (by as_aux_lemma => kernel_rfl) (by as_aux_lemma => kernel_rfl) (by as_aux_lemma => kernel_rfl) (by rfl) ?_ hHeld ?_
    rotate_left 1
    · intro w hSw; (try dsimp only at hSw); go_simp; try (with_reducible rfl)
    (try simp only [Act.put, List.setIfInBounds_toArray, List.set_cons_zero, List.set_cons_succ])
    refine rg_take (i := 10) (v := ?_) rfl (by as_aux_lemma => kernel_rfl) (by as_aux_lemma => kernel_rfl) (by as_aux_lemma => kernel_rfl) (by rfl) ?_ hHeld ?_
    rotate_left 1
    · intro w hSw; (try dsimp only at hSw); go_simp; try (with_reducible rfl)
    (try simp only [Act.put, List.setIfInBounds_toArray, List.set_cons_zero, List.set_cons_succ])
    refine rg_take (i := 11) (v := ?_) rfl (by as_aux_lemma => kernel_rfl) (by as_aux_lemma => kernel_rfl) (by as_aux_lemma => kernel_rfl) (by rfl) ?_ hHeld ?_
    rotate_left 1
    · intro w hSw; (try dsimp only at hSw); go_simp; try (with_reducible rfl)
    (try simp only [Act.put, List.setIfInBounds_toArray, List.set_cons_zero, List.set_cons_succ])
    refine rg_take (i := 12) (v := ?_) rfl (by as_aux_lemma => kernel_rfl) (by as_aux_lemma => kernel_rfl) (by as_aux_lemma => kernel_rfl) (by rfl) ?_ hHeld ?_
    rotate_left 1
    · intro w hSw; (try dsimp only at hSw); go_simp; try (with_reducible rfl)
    (try simp only [Act.put, List.setIfInBounds_toArray, List.set_cons_zero, List.set_cons_succ])
    refine rg_take (i := 14) (v := ?_) rfl (by as_aux_lemma => kernel_rfl) (by as_aux_lemma => kernel_rfl) (by as_aux_lemma => kernel_rfl) (by rfl) ?_ hHeld ?_
    rotate_left 1
    · intro w hSw; (try dsimp only at hSw); go_simp; try (with_reducible rfl)
    (try simp only [Act.put, List.setIfInBounds_toArray, List.set_cons_zero, List.set_cons_succ])
    refine rg_only (i := 13) rfl (by as_aux_lemma => kernel_rfl) (by rfl) (fun K hK => ?_)
    go_simp
    go_at_call 12
    refine (size_c t (fun b => b < w.heap.size) wc _ (HR3.out.below HB_wc.out) (by omega)).mono ?_
    rintro e we ⟨rfl, hB⟩
    have hs_we := hB.size
    have HB_we : Hid (Below W3.heap.size W3 we) := Lib.hid (below_step HB_wc.out (by omega) hB)
    clear hB
    refine hK.out _ _ (HQ.out _ HB_we.out) (fun hHeld1 => ?_)
    clear hK K hHeld
    have hHeld := hHeld1
    clear hHeld1
    (try simp only [Act.put, List.setIfInBounds_toArray, List.set_cons_zero, List.set_cons_succ])
    refine rg_only (i := 15) rfl (by as_aux_lemma => kernel_rfl) (by rfl) (fun K hK => ?_)
    go_simp
    go_at_call 13
    refine (rsize_c t (fun b => b < w.heap.size) we _ (HR3.out.below HB_we.out) (by omega)).mono ?_
    rintro e wf ⟨rfl, hB⟩
    have hs_wf := hB.size
    have HB_wf : Hid (Below W3.heap.size W3 wf) := Lib.hid (below_step HB_we.out (by omega) hB)
    clear hB
    refine hK.out _ _ (HQ.out _ HB_wf.out) (fun hHeld1 => ?_)
    clear hK K hHeld
    have hHeld := hHeld1
    clear hHeld1
    (try simp only [Act.put, List.setIfInBounds_toArray, List.set_cons_zero, List.set_cons_succ])
    refine rg_take (i := 16) (v := ?_) rfl (by as_aux_lemma => kernel_rfl) (by as_aux_lemma => kernel_rfl) (by as_aux_lemma => kernel_rfl) (by rfl) ?_ hHeld ?_
    rotate_left 1
    · intro w hSw; (try dsimp only at hSw); go_simp; try (with_reducible rfl)
    (try simp only [Act.put, List.setIfInBounds_toArray, List.set_cons_zero, List.set_cons_succ])
    refine rg_take (i := 17) (v := ?_) rfl (by as_aux_lemma => kernel_rfl) (by as_aux_lemma => kernel_rfl) (by as_aux_lemma => kernel_rfl) (by rfl) ?_ hHeld ?_
    rotate_left 1
    · intro w hSw; (try dsimp only at hSw); go_simp; try (with_reducible rfl)
    (try simp only [Act.put, List.setIfInBounds_toArray, List.set_cons_zero, List.set_cons_succ])
    refine rg_take (i := 18) (v := ?_) rfl (by as_aux_lemma => kernel_rfl) (by as_aux_lemma => kernel_rfl) (by as_aux_lemma => kernel_rfl) (by rfl) ?_ hHeld ?_
    rotate_left 1
    · intro w hSw; (try dsimp only at hSw); go_simp; try (with_reducible rfl)
    (try simp only [Act.put, List.setIfInBounds_toArray, List.set_cons_zero, List.set_cons_succ])
    refine rg_take (i := 19) (v := ?_) rfl (by as_aux_lemma => kernel_rfl) (by as_aux_lemma => kernel_rfl) (by as_aux_lemma => kernel_rfl) (by rfl) ?_ hHeld ?_
    rotate_left 1
    · intro w hSw; (try dsimp only at hSw); go_simp; try (with_reducible rfl)
    (try simp only [Act.put, List.setIfInBounds_toArray, List.set_cons_zero, List.set_cons_succ])
    refine rg_take (i := 20) (v := ?_) rfl (by as_aux_lemma => kernel_rfl) (by as_aux_lemma => kernel_rfl) (by as_aux_lemma => kernel_rfl) (by rfl) ?_ hHeld ?_
    rotate_left 1
    · intro w hSw; (try dsimp only at hSw); go_simp; try (with_reducible rfl)
    (try simp only [Act.put, List.setIfInBounds_toArray, List.set_cons_zero, List.set_cons_succ])
    refine rg_take (i := 21) (v := ?_) rfl (by as_aux_lemma => kernel_rfl) (by as_aux_lemma => kernel_rfl) (by as_aux_lemma => kernel_rfl) (by rfl) ?_ hHeld ?_
    rotate_left 1
    · intro w hSw; (try dsimp only at hSw); go_simp; try (with_reducible rfl)
    (try simp only [Act.put, List.setIfInBounds_toArray, List.set_cons_zero, List.set_cons_succ])
    refine rg_take (i := 22) (v := ?_) rfl (by as_aux_lemma => kernel_rfl) (by as_aux_lemma => kernel_rfl) (by as_aux_lemma => kernel_rfl) (by rfl) ?_ hHeld ?_
    rotate_left 1
    · intro w hSw; (try dsimp only at hSw); go_simp; try (with_reducible rfl)
    (try simp only [Act.put, List.setIfInBounds_toArray, List.set_cons_zero, List.set_cons_succ])
    refine rg_take (i := 23) (v := ?_) rfl (by as_aux_lemma => kernel_rfl) (by as_aux_lemma => kernel_rfl) (by as_aux_lemma => kernel_rfl) (by rfl) ?_ hHeld ?_
    rotate_left 1
    · intro w hSw; (try dsimp only at hSw); go_simp; try (with_reducible rfl)
    (try simp only [Act.put, List.setIfInBounds_toArray, List.set_cons_zero, List.set_cons_succ])
    refine rg_take (i := 24) (v := ?_) rfl (by as_aux_lemma => kernel_rfl) (by as_aux_lemma => kernel_rfl) (by as_aux_lemma => kernel_rfl) (by rfl) ?_ hHeld ?_
    rotate_left 1
    · intro w hSw; (try dsimp only at hSw); go_simp; try (with_reducible rfl)
    (try simp only [Act.put, List.setIfInBounds_toArray, List.set_cons_zero, List.set_cons_succ])
    refine rg_take (i := 25) (v := ?_) rfl (by as_aux_lemma => kernel_rfl) (by as_aux_lemma => kernel_rfl) (by as_aux_lemma => kernel_rfl) (by rfl) ?_ hHeld ?_
    rotate_left 1
    · intro w hSw; (try dsimp only at hSw); go_simp; try (with_reducible rfl)
    (try simp only [Act.put, List.setIfInBounds_toArray, List.set_cons_zero, List.set_cons_succ])
    refine rg_take (i := 26) (v := ?_) rfl (by as_aux_lemma => kernel_rfl) (by as_aux_lemma => kernel_rfl) (by as_aux_lemma => kernel_rfl) (by rfl) ?_ hHeld ?_
    rotate_left 1
    · intro w hSw; (try dsimp only at hSw); go_simp; try (with_reducible rfl)
    (try simp only [Act.put, List.setIfInBounds_toArray, List.set_cons_zero, List.set_cons_succ])
    refine rg_take (i := 27) (v := ?_) rfl (by as_aux_lemma => kernel_rfl) (by as_aux_lemma => kernel_rfl) (by as_aux_lemma => kernel_rfl) (by rfl) ?_ hHeld ?_
    rotate_left 1
    · intro w hSw; (try dsimp only at hSw); go_simp; try (with_reducible rfl)
    (try simp only [Act.put, List.setIfInBounds_toArray, List.set_cons_zero, List.set_cons_succ])
    refine rg_take (i := 28) (v := ?_) rfl (by as_aux_lemma => kernel_rfl) (by as_aux_lemma => kernel_rfl) (by as_aux_lemma => kernel_rfl) (by rfl) ?_ hHeld ?_
    rotate_left 1
    · intro w hSw; (try dsimp only at hSw); go_simp; try (with_reducible rfl)
    (try simp only [Act.put, List.setIfInBounds_toArray, List.set_cons_zero, List.set_cons_succ])
    refine rg_done (by as_aux_lemma => kernel_rfl) ?_
    clear hHeld
    go_wp2_with fail
    go_ret
    exact ⟨by simp, HB3.out.trans (HB_wf.out.mono (by omega))⟩
  · have HCK := Lib.hid hck
    have hcb : (checkE t == 0) = false := by simpa using hck
    clear hck
    obtain ⟨w2, rfl⟩ : ∃ w2, w2 = w1 := ⟨_, rfl⟩
    have hs2 : w2.heap.size ≤ w2.heap.size := Nat.le_refl _
    have HB2 := Lib.hid (Below.refl w2.heap.size w2)
    have HX2 := HX1
    have HR2 := HR1
    have HT2 := HT1
    have HPS : Hid (printS t = ⟨#[]⟩) := Lib.hid (by unfold printS; rw [if_neg HCK.out])
    go_wp2_with fail
    refine (print_c t _ w2 _ HR2.out (by omega) HT2.out).mono ?_
    rintro e W3 ⟨rfl, hB3⟩
    rw [HPS.out]
    have hs3 := hB3.size
    have HB3 : Hid (Below w.heap.size w W3) := Lib.hid (HB0.out.trans ((HB1.out.trans ((HB2.out.trans (hB3.mono hs2)).mono hs1)).mono hs0))
    have HR3 := Lib.hid (HR2.out.below hB3)
    have HX3 := Lib.hid (HX2.out.step hB3)
    have HQ : Hid (∀ w' : World, Below W3.heap.size W3 w' → w'.cell? ⟨g0, 0, none⟩ = some (.int .i64 t.kind) ∧ w'.cell? ⟨g0, 1, none⟩ = some (.int .i64 t.n) ∧ w'.cell? ⟨g0, 2, none⟩ = some (.string t.name) ∧ w'.cell? ⟨g0, 3, none⟩ = some (.slice a t.args.length cap)) := Lib.hid fun w' h => ⟨(HX3.out.step h).cell 0 _ rfl, (HX3.out.step h).cell 1 _ rfl, (HX3.out.step h).cell 2 _ rfl, (HX3.out.step h).cell 3 _ rfl⟩
    clear hB3 y0 y1 y2 y3
    go_upto_region 6 with fail
    refine rg_start (fun w' => w'.cell? ⟨g0, 0, none⟩ = some (.int .i64 t.kind) ∧ w'.cell? ⟨g0, 1, none⟩ = some (.int .i64 t.n) ∧ w'.cell? ⟨g0, 2, none⟩ = some (.string t.name) ∧ w'.cell? ⟨g0, 3, none⟩ = some (.slice a t.args.length cap)) (by as_aux_lemma => kernel_rfl) (fun Wd h => HQ.out _ h) ?_
    intro wd hB hWd hWd' hHeld
    have HBd := Lib.hid hB
    clear hB
    refine rg_take (i := 0) (v := ?_) rfl (by as_aux_lemma => kernel_rfl) (by as_aux_lemma => kernel_rfl) (by as_aux_lemma => kernel_rfl) (by rfl) ?_ hHeld ?_
    rotate_left 1
    · intro w hSw; (try dsimp only at hSw); go_simp; try (with_reducible rfl)
    (try simp only [Act.put, List.setIfInBounds_toArray, List.set_cons_zero, List.set_cons_succ])
    refine rg_take (i := 2) (v := ?_) rfl (by as_aux_lemma => kernel_rfl) (by as_aux_lemma => kernel_rfl) (by as_aux_lemma => kernel_rfl) (by rfl) ?_ hHeld ?_
    rotate_left 1
    · intro w hSw; (try dsimp only at hSw); go_simp; try (with_reducible rfl)
    (try simp only [Act.put, List.setIfInBounds_toArray, List.set_cons_zero, List.set_cons_succ])
    refine rg_only (i := 1) rfl (by as_aux_lemma => kernel_rfl) (by rfl) (fun K hK => ?_)
    go_simp
    go_at_call 9
    refine (check_c t (fun b => b < w.heap.size) wd _ (HR3.out.below HBd.out) (by omega)).mono ?_
    rintro e wa ⟨rfl, hB⟩
    have hs_wa := hB.size
    have HB_wa : Hid (Below W3.heap.size W3 wa) := Lib.hid (below_step HBd.out (by omega) hB)
    clear hB
    refine hK.out _ _ (HQ.out _ HB_wa.out) (fun hHeld1 => ?_)
    clear hK K hHeld
    have hHeld := hHeld1
    clear hHeld1
    (try simp only [Act.put, List.setIfInBounds_toArray, List.set_cons_zero, List.set_cons_succ])
    refine rg_take (i := 3) (v := ?_) rfl (by as_aux_lemma => kernel_rfl) (by as_aux_lemma => kernel_rfl) (by as_aux_lemma => kernel_rfl) (by rfl) ?_ hHeld ?_
    rotate_left 1
    · intro w hSw; (try dsimp only at hSw); go_simp; try (with_reducible rfl)
    (try simp only [Act.put, List.setIfInBounds_toArray, List.set_cons_zero, List.set_cons_succ])
    refine rg_take (i := 4) (v := ?_) rfl (by as_aux_lemma => kernel_rfl) (by as_aux_lemma => kernel_rfl) (by as_aux_lemma => kernel_rfl) (by rfl) ?_ hHeld ?_
    rotate_left 1
    · intro w hSw; (try dsimp only at hSw); go_simp; try (with_reducible rfl)
    (try simp only [Act.put, List.setIfInBounds_toArray, List.set_cons_zero, List.set_cons_succ])
    refine rg_take (i := 5) (v := ?_) rfl (by as_aux_lemma => kernel_rfl) (by as_aux_lemma => kernel_rfl) (by as_aux_lemma => kernel_rfl) (by rfl) ?_ hHeld ?_
    rotate_left 1
    · intro w hSw; (try dsimp only at hSw); go_simp; try (with_reducible rfl)
    (try simp only [Act.put, List.setIfInBounds_toArray, List.set_cons_zero, List.set_cons_succ])
    refine rg_take (i := 7) (v := ?_) rfl (by as_aux_lemma => kernel_rfl) (by as_aux_lemma => kernel_rfl) (by as_aux_lemma => kernel_rfl) (by rfl) ?_ hHeld ?_
    rotate_left 1
    · intro w hSw; (try dsimp only at hSw); go_simp; try (with_reducible rfl)
    (try simp only [Act.put, List.setIfInBounds_toArray, List.set_cons_zero, List.set_cons_succ])
    refine rg_only (i := 6) rfl (by as_aux_lemma => kernel_rfl) (by rfl) (fun K hK => ?_)
    go_simp
    go_at_call 10
    refine (closed_c t (fun b => b < w.heap.size) wa _ (HR3.out.below HB_wa.out) (by omega)).mono ?_
    rintro e wb ⟨rfl, hB⟩
    have hs_wb := hB.size
    have HB_wb : Hid (Below W3.heap.size W3 wb) := Lib.hid (below_step HB_wa.out (by omega) hB)
    clear hB
    refine hK.out _ _ (HQ.out _ HB_wb.out) (fun hHeld1 => ?_)
    clear hK K hHeld
    have hHeld := hHeld1
    clear hHeld1
    (try simp only [Act.put, List.setIfInBounds_toArray, List.set_cons_zero, List.set_cons_succ])
    refine rg_only (i := 8) rfl (by as_aux_lemma => kernel_rfl) (by rfl) (fun K hK => ?_)
    go_simp
    go_at_call 11
    refine (rclosed_c t (fun b => b < w.heap.size) wb _ (HR3.out.below HB_wb.out) (fun b hb => by omega) (by omega)).mono ?_
    rintro e wc ⟨rfl, hB⟩
    have hs_wc := hB.size
    have HB_wc : Hid (Below W3.heap.size W3 wc) := Lib.hid (below_step HB_wb.out (by omega) hB)
    clear hB
    refine hK.out _ _ (HQ.out _ HB_wc.out) (fun hHeld1 => ?_)
    clear hK K hHeld
    have hHeld := hHeld1
    clear hHeld1
    (try simp only [Act.put, List.setIfInBounds_toArray, List.set_cons_zero, List.set_cons_succ])
    refine rg_take (i := 9) (v := ?_) rfl (by as_aux_lemma => kernel_rfl) (by as_aux_lemma => kernel_rfl) (by as_aux_lemma => kernel_rfl) (by rfl) ?_ hHeld ?_
    rotate_left 1
    · intro w hSw; (try dsimp only at hSw); go_simp; try (with_reducible rfl)
    (try simp only [Act.put, List.setIfInBounds_toArray, List.set_cons_zero, List.set_cons_succ])
    refine rg_take (i := 10) (v := ?_) rfl (by as_aux_lemma => kernel_rfl) (by as_aux_lemma => kernel_rfl) (by as_aux_lemma => kernel_rfl) (by rfl) ?_ hHeld ?_
    rotate_left 1
    · intro w hSw; (try dsimp only at hSw); go_simp; try (with_reducible rfl)
    (try simp only [Act.put, List.setIfInBounds_toArray, List.set_cons_zero, List.set_cons_succ])
    refine rg_take (i := 11) (v := ?_) rfl (by as_aux_lemma => kernel_rfl) (by as_aux_lemma => kernel_rfl) (by as_aux_lemma => kernel_rfl) (by rfl) ?_ hHeld ?_
    rotate_left 1
    · intro w hSw; (try dsimp only at hSw); go_simp; try (with_reducible rfl)
    (try simp only [Act.put, List.setIfInBounds_toArray, List.set_cons_zero, List.set_cons_succ])
    refine rg_take (i := 12) (v := ?_) rfl (by as_aux_lemma => kernel_rfl) (by as_aux_lemma => kernel_rfl) (by as_aux_lemma => kernel_rfl) (by rfl) ?_ hHeld ?_
    rotate_left 1
    · intro w hSw; (try dsimp only at hSw); go_simp; try (with_reducible rfl)
    (try simp only [Act.put, List.setIfInBounds_toArray, List.set_cons_zero, List.set_cons_succ])
    refine rg_take (i := 14) (v := ?_) rfl (by as_aux_lemma => kernel_rfl) (by as_aux_lemma => kernel_rfl) (by as_aux_lemma => kernel_rfl) (by rfl) ?_ hHeld ?_
    rotate_left 1
    · intro w hSw; (try dsimp only at hSw); go_simp; try (with_reducible rfl)
    (try simp only [Act.put, List.setIfInBounds_toArray, List.set_cons_zero, List.set_cons_succ])
    refine rg_only (i := 13) rfl (by as_aux_lemma => kernel_rfl) (by rfl) (fun K hK => ?_)
    go_simp
    go_at_call 12
    refine (size_c t (fun b => b < w.heap.size) wc _ (HR3.out.below HB_wc.out) (by omega)).mono ?_
    rintro e we ⟨rfl, hB⟩
    have hs_we := hB.size
    have HB_we : Hid (Below W3.heap.size W3 we) := Lib.hid (below_step HB_wc.out (by omega) hB)
    clear hB
    refine hK.out _ _ (HQ.out _ HB_we.out) (fun hHeld1 => ?_)
    clear hK K hHeld
    have hHeld := hHeld1
    clear hHeld1
    (try simp only [Act.put, List.setIfInBounds_toArray, List.set_cons_zero, List.set_cons_succ])
    refine rg_only (i := 15) rfl (by as_aux_lemma => kernel_rfl) (by rfl) (fun K hK => ?_)
    go_simp
    go_at_call 13
    refine (rsize_c t (fun b => b < w.heap.size) we _ (HR3.out.below HB_we.out) (by omega)).mono ?_
    rintro e wf ⟨rfl, hB⟩
    have hs_wf := hB.size
    have HB_wf : Hid (Below W3.heap.size W3 wf) := Lib.hid (below_step HB_we.out (by omega) hB)
    clear hB
    refine hK.out _ _ (HQ.out _ HB_wf.out) (fun hHeld1 => ?_)
    clear hK K hHeld
    have hHeld := hHeld1
    clear hHeld1
    (try simp only [Act.put, List.setIfInBounds_toArray, List.set_cons_zero, List.set_cons_succ])
    refine rg_take (i := 16) (v := ?_) rfl (by as_aux_lemma => kernel_rfl) (by as_aux_lemma => kernel_rfl) (by as_aux_lemma => kernel_rfl) (by rfl) ?_ hHeld ?_
    rotate_left 1
    · intro w hSw; (try dsimp only at hSw); go_simp; try (with_reducible rfl)
    (try simp only [Act.put, List.setIfInBounds_toArray, List.set_cons_zero, List.set_cons_succ])
    refine rg_take (i := 17) (v := ?_) rfl (by as_aux_lemma => kernel_rfl) (by as_aux_lemma => kernel_rfl) (by as_aux_lemma => kernel_rfl) (by rfl) ?_ hHeld ?_
    rotate_left 1
    · intro w hSw; (try dsimp only at hSw); go_simp; try (with_reducible rfl)
    (try simp only [Act.put, List.setIfInBounds_toArray, List.set_cons_zero, List.set_cons_succ])
    refine rg_take (i := 18) (v := ?_) rfl (by as_aux_lemma => kernel_rfl) (by as_aux_lemma => kernel_rfl) (by as_aux_lemma => kernel_rfl) (by rfl) ?_ hHeld ?_
    rotate_left 1
    · intro w hSw; (try dsimp only at hSw); go_simp; try (with_reducible rfl)
    (try simp only [Act.put, List.setIfInBounds_toArray, List.set_cons_zero, List.set_cons_succ])
    refine rg_take (i := 19) (v := ?_) rfl (by as_aux_lemma => kernel_rfl) (by as_aux_lemma => kernel_rfl) (by as_aux_lemma => kernel_rfl) (by rfl) ?_ hHeld ?_
    rotate_left 1
    · intro w hSw; (try dsimp only at hSw); go_simp; try (with_reducible rfl)
    (try simp only [Act.put, List.setIfInBounds_toArray, List.set_cons_zero, List.set_cons_succ])
    refine rg_take (i := 20) (v := ?_) rfl (by as_aux_lemma => kernel_rfl) (by as_aux_lemma => kernel_rfl) (by as_aux_lemma => kernel_rfl) (by rfl) ?_ hHeld ?_
    rotate_left 1
    · intro w hSw; (try dsimp only at hSw); go_simp; try (with_reducible rfl)
    (try simp only [Act.put, List.setIfInBounds_toArray, List.set_cons_zero, List.set_cons_succ])
    refine rg_take (i := 21) (v := ?_) rfl (by as_aux_lemma => kernel_rfl) (by as_aux_lemma => kernel_rfl) (by as_aux_lemma => kernel_rfl) (by rfl) ?_ hHeld ?_
    rotate_left 1
    · intro w hSw; (try dsimp only at hSw); go_simp; try (with_reducible rfl)
    (try simp only [Act.put, List.setIfInBounds_toArray, List.set_cons_zero, List.set_cons_succ])
    refine rg_take (i := 22) (v := ?_) rfl (by as_aux_lemma => kernel_rfl) (by as_aux_lemma => kernel_rfl) (by as_aux_lemma => kernel_rfl) (by rfl) ?_ hHeld ?_
    rotate_left 1
    · intro w hSw; (try dsimp only at hSw); go_simp; try (with_reducible rfl)
    (try simp only [Act.put, List.setIfInBounds_toArray, List.set_cons_zero, List.set_cons_succ])
    refine rg_take (i := 23) (v := ?_) rfl (by as_aux_lemma => kernel_rfl) (by as_aux_lemma => kernel_rfl) (by as_aux_lemma => kernel_rfl) (by rfl) ?_ hHeld ?_
    rotate_left 1
    · intro w hSw; (try dsimp only at hSw); go_simp; try (with_reducible rfl)
    (try simp only [Act.put, List.setIfInBounds_toArray, List.set_cons_zero, List.set_cons_succ])
    refine rg_take (i := 24) (v := ?_) rfl (by as_aux_lemma => kernel_rfl) (by as_aux_lemma => kernel_rfl) (by as_aux_lemma => kernel_rfl) (by rfl) ?_ hHeld ?_
    rotate_left 1
    · intro w hSw; (try dsimp only at hSw); go_simp; try (with_reducible rfl)
    (try simp only [Act.put, List.setIfInBounds_toArray, List.set_cons_zero, List.set_cons_succ])
    refine rg_take (i := 25) (v := ?_) rfl (by as_aux_lemma => kernel_rfl) (by as_aux_lemma => kernel_rfl) (by as_aux_lemma => kernel_rfl) (by rfl) ?_ hHeld ?_
    rotate_left 1
    · intro w hSw; (try dsimp only at hSw); go_simp; try (with_reducible rfl)
    (try simp only [Act.put, List.setIfInBounds_toArray, List.set_cons_zero, List.set_cons_succ])
    refine rg_take (i := 26) (v := ?_) rfl (by as_aux_lemma => kernel_rfl) (by as_aux_lemma => kernel_rfl) (by as_aux_lemma => kernel_rfl) (by rfl) ?_ hHeld ?_
    rotate_left 1
    · intro w hSw; (try dsimp only at hSw); go_simp; try (with_reducible rfl)
    (try simp only [Act.put, List.setIfInBounds_toArray, List.set_cons_zero, List.set_cons_succ])
    refine rg_take (i := 27) (v := ?_) rfl (by as_aux_lemma => kernel_rfl) (by as_aux_lemma => kernel_rfl) (by as_aux_lemma => kernel_rfl) (by rfl) ?_ hHeld ?_
    rotate_left 1
    · intro w hSw; (try dsimp only at hSw); go_simp; try (with_reducible rfl)
    (try simp only [Act.put, List.setIfInBounds_toArray, List.set_cons_zero, List.set_cons_succ])
    refine rg_take (i := 28) (v := ?_) rfl (by as_aux_lemma => kernel_rfl) (by as_aux_lemma => kernel_rfl) (by as_aux_lemma => kernel_rfl) (by rfl) ?_ hHeld ?_
    rotate_left 1
    · intro w hSw; (try dsimp only at hSw); go_simp; try (with_reducible rfl)
    (try simp only [Act.put, List.setIfInBounds_toArray, List.set_cons_zero, List.set_cons_succ])
    refine rg_done (by as_aux_lemma => kernel_rfl) ?_
    clear hHeld
    go_wp2_with fail
    go_ret
    exact ⟨by simp, HB3.out.trans (HB_wf.out.mono (by omega))⟩
end Go.Proofs.YtedfepnekjjmnabDoor
