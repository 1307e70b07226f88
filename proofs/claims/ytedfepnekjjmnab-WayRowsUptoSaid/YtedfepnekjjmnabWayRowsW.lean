/-
  WayRows: the walk. No condition but the bound.
-/
import Derived.Test.YtedfepnekjjmnabJg
import Derived.Test.YtedfepnekjjmnabJf
namespace Go.Proofs.Ytedfepnekjjmnab
open Go.RowKit Go.Maps
set_option linter.unusedSimpArgs false
set_option linter.unusedVariables false
set_option maxRecDepth 100000

theorem send5 : sendE [] 1 2 (numT 5) = 0 := by
  have e2 : checkE (numT 5) = 0 := by simp [checkE, formL_cons, formL, headB, bareB, dpL_cons, dpL, szL_cons, szL, numT, inB]
  have e3 : closedL [numT 5] = true := by simp [closedL_cons, closedL, numT]
  have e0 : ¬ (pidW 1 = false ∨ pidW 2 = false) := by simp [pidW]
  have e1 : ¬ checkE (numT 5) ≠ 0 := by rw [e2]; simp
  have e4 : ¬ closedL [numT 5] = false := by rw [e3]; simp
  have e5 : ¬ (listF [] (1, 2)).length = 20 := by simp [listF, entF]
  unfold sendE
  rw [if_neg e0, if_neg e1, if_neg e4, if_neg e5]
theorem wf1 : wf64 1 := by unfold wf64; decide
theorem wf2 : wf64 2 := by unfold wf64; decide
theorem took1 {v3 : Value} {t : T} {A' : List Ent} (h : TookTo [((1, 2), v3, [numT 5])] (1, 2) t A') : t = numT 5 ∧ A' = [] := by
  obtain ⟨X, Y, v0, l0, hx, hX, hY, h⟩ := h
  have hXe : X = [] := by
    cases X with
    | nil => rfl
    | cons x X => simp at hx
  subst hXe
  have e1 := List.cons.inj hx
  have e2 := congrArg (fun q : Ent => q.2.2) e1.1
  obtain ⟨rfl, rfl⟩ := List.cons.inj (show [numT 5] = t :: l0 from e2)
  have hYe : Y = [] := e1.2.symm
  subst hYe
  rcases h with ⟨-, rfl⟩ | ⟨h, -⟩
  · exact ⟨rfl, rfl⟩
  · exact absurd rfl h
theorem num5b : bulkL [numT 5] ≤ 1099511627776 := by simp [numT, bulkL_cons, bulkL]; decide

set_option maxHeartbeats 1000000 in
theorem wayrows_walk (l : List WC) (P : Nat → Prop) (w : World) (v : Value) (hl : RX wcE P P w l v) (hP : ∀ b, P b → b < w.heap.size) (hb : wcsB l ≤ 1048576) (hll : l.length ≤ 1048576) :
    Calls Try.prog 4 #[v] w fun e w' => e = .returned (.bool true) ∧ Below w.heap.size w w' := by
  have hwl : l.length < 9223372036854775808 := by omega
  obtain ⟨bm, hbm⟩ : ∃ b, b = w.heap.size := ⟨_, rfl⟩
  obtain ⟨B, hBe⟩ : ∃ b, b = w.heap.size + 1 := ⟨_, rfl⟩
  have HL := Lib.hid hl
  have HPB := Lib.hid hP
  obtain ⟨ar, capr, rfl, hcapr⟩ := hl.form
  clear hl hP
  go_enter Try.func4, Try.ntmps4
  go_wp2_with fail
  refine (wnew_c w).mono ?_
  rintro e w1 ⟨rfl, hB1, hM1, hK1, hs1⟩
  rw [← hBe] at hK1
  rw [← hbm] at hM1 hK1
  rw [← hBe]
  obtain ⟨F2, hF2⟩ : ∃ F2 : Nat → Prop, F2 = fun b => b = B ∨ b = bm := ⟨_, rfl⟩
  have hfB : F2 B := by rw [hF2]; exact .inl rfl
  have hfm : F2 bm := by rw [hF2]; exact .inr rfl
  have hne : B ≠ bm := by omega
  have h5b := num5b
  have HS1 : Hid (RQ P F2 w [] w1 (rowsE [] ++ [])) := Lib.hid ((RQ.start P w HPB.out).step hB1 hB1.size (fun b hb => by rw [hF2] at hb; rcases hb with rfl | rfl; exact ⟨.inr (by omega), by omega⟩; exact ⟨.inr (by omega), by omega⟩) fun b hb _ => hB1.block b hb)
  have HM1 := Lib.hid hM1
  have HK1 := Lib.hid hK1
  have hb1 : w.heap.size ≤ bm := by omega
  have hb2 : bm < B := by omega
  have hb3 : B < w1.heap.size := by omega
  have hs1a := hB1.size
  clear hB1 hM1 hK1 hbm hBe hs1 hF2
  go_wp2_with fail
  refine (num_c _ _).mono ?_
  rintro e w2 ⟨rfl, hB2⟩
  have HS2 := Lib.hid (HS1.out.below hB2)
  have HM2 := Lib.hid (HM1.out.toQ (hB2.block bm (by omega)))
  have HK2 := Lib.hid (HK1.out.step hB2)
  have hs2 := hB2.size
  clear hB2
  go_wp2_with fail
  -- M1
  refine (wsend_c P F2 w [] w2 [] [] B bm 0 1 2 (numT 5) _ HS2.out HM2.out HK2.out hfm hfB hne (numT_rt _ _ 5) (by omega) h5b (by simp)).mono ?_
  rintro e w3 ⟨rfl, hs3, hfr3, P3, hP3, hsend⟩
  have hse := send5
  rw [hse]
  obtain ⟨v3, HS3, HM3⟩ : ∃ v3, Hid (RQ P3 F2 w [] w3 (rowsE [((1, 2), v3, [numT 5])] ++ [])) ∧ Hid (MapE w3 bm 1 [((1, 2), v3, [numT 5])]) := by
    rcases hsend with ⟨h, -⟩ | ⟨-, A', hA, h1, h2⟩
    · exact absurd hse h
    · rcases hA with ⟨X, Y, v, v', l', hx, -⟩ | ⟨-, v', rfl⟩
      · exact absurd hx (by cases X <;> simp)
      · exact ⟨v', Lib.hid h1, Lib.hid h2⟩
  have HK3 := Lib.hid (HK2.out.heap (hfr3 B hfB hne))
  clear hsend hfr3 hse
  go_wp2_with fail
  refine (wmany_c B bm 1 _ 1 2 w3 wf1 wf2 HK3.out HM3.out (HS3.out.form)).mono ?_
  rintro e w4 ⟨rfl, rfl⟩
  have hl12 : listF [((1, 2), v3, [numT 5])] (1, 2) = [numT 5] := by simp [listF, entF]
  have hl21 : listF [((1, 2), v3, [numT 5])] (2, 1) = [] := by simp [listF, entF]
  rw [hl12]
  go_wp2_with fail
  refine (wmany_c B bm 1 _ 2 1 w3 wf2 wf1 HK3.out HM3.out (HS3.out.form)).mono ?_
  rintro e w4 ⟨rfl, rfl⟩
  rw [hl21]
  go_wp2_with fail
  refine (wtake_c P3 F2 w [] w3 [] [((1, 2), v3, [numT 5])] B bm 1 1 2 HS3.out HM3.out HK3.out hfm hfB hne (by omega) wf1 wf2 (by simp)).mono ?_
  rintro e w5 ⟨hs5, hfr5, htake⟩
  obtain ⟨a4, c4, rfl, hc4, HS5, HM5⟩ : ∃ a4 c4, e = .returned (.tuple #[.agg #[.int .i64 1, .int .i64 5, .string ⟨#[]⟩, .slice a4 0 c4], .int .i64 0]) ∧ CapOk a4 0 c4 ∧ Hid (RQ P3 F2 w [] w5 []) ∧ Hid (MapE w5 bm 2 []) := by
    rcases htake with ⟨h, -⟩ | ⟨t, A', v, hT, rfl, hv, h1, h2⟩
    · rw [hl12] at h; cases h
    · obtain ⟨rfl, rfl⟩ := took1 hT
      obtain ⟨a, cap, rfl, hcap, -⟩ := hv
      exact ⟨a, cap, rfl, hcap, Lib.hid h1, Lib.hid h2⟩
  have HK5 := Lib.hid (HK3.out.heap (hfr5 B hfB hne))
  have HC4 := Lib.hid hc4
  clear htake hfr5 hc4 hl12 hl21
  go_upto_region 5 with fail
  obtain ⟨w8, hw8⟩ : ∃ W : World, W = w5.alloc (.cells #[.int .i64 1, .int .i64 5, .string ⟨#[]⟩, .slice a4 0 c4] 24) := ⟨_, rfl⟩
  obtain ⟨g4, hg4⟩ : ∃ g, g = w5.heap.size := ⟨_, rfl⟩
  have hB8 : Below w5.heap.size w5 w8 := by rw [hw8]; exact below_alloc _ _
  have HS8 : Hid (RQ P3 F2 w [(g4, [.int .i64 1, .int .i64 5, .string ⟨#[]⟩, .slice a4 0 c4])] w8 []) := Lib.hid (by rw [hw8]; exact HS5.out.alloc #[.int .i64 1, .int .i64 5, .string ⟨#[]⟩, .slice a4 0 c4] _ hg4)
  have HM8 := Lib.hid (HM5.out.toQ (hB8.block bm (by omega)))
  have HB8 := Lib.hid (HK5.out.step hB8)
  have hs8 := hB8.size
  rw [← hw8, ← hg4]
  clear hw8 hg4 hB8
  have HQ5 : Hid (∀ w' : World, RQ P3 F2 w [(g4, [.int .i64 1, .int .i64 5, .string ⟨#[]⟩, .slice a4 0 c4])] w' [] → w'.cell? ⟨g4, 0, none⟩ = some (.int .i64 1) ∧ w'.cell? ⟨g4, 1, none⟩ = some (.int .i64 5) ∧ w'.cell? ⟨g4, 2, none⟩ = some (.string ⟨#[]⟩) ∧ w'.cell? ⟨g4, 3, none⟩ = some (.slice a4 0 c4)) := Lib.hid fun w' h => ⟨h.cell (List.mem_cons_self ..) 0 _ rfl, h.cell (List.mem_cons_self ..) 1 _ rfl, h.cell (List.mem_cons_self ..) 2 _ rfl, h.cell (List.mem_cons_self ..) 3 _ rfl⟩
  refine rg_start (fun w' => w'.cell? ⟨g4, 0, none⟩ = some (.int .i64 1) ∧ w'.cell? ⟨g4, 1, none⟩ = some (.int .i64 5) ∧ w'.cell? ⟨g4, 2, none⟩ = some (.string ⟨#[]⟩) ∧ w'.cell? ⟨g4, 3, none⟩ = some (.slice a4 0 c4)) (by as_aux_lemma => kernel_rfl) (fun Wd h => HQ5.out _ (HS8.out.below h)) ?_
  intro wz0 hB hWd hWd' hHeld
  have HZ0 := Lib.hid (HS8.out.below hB)
  have HBZ0 := Lib.hid hB
  have hz0 := hB.size
  clear hB
  refine rg_take (i := 0) (v := ?_) rfl (by as_aux_lemma => kernel_rfl) (by as_aux_lemma => kernel_rfl) (by as_aux_lemma => kernel_rfl) (by rfl) ?_ hHeld ?_
  rotate_left 1
  · intro w hSw; (try dsimp only at hSw); go_simp; try (with_reducible rfl)
  (try simp only [Act.put, List.setIfInBounds_toArray, List.set_cons_zero, List.set_cons_succ])
  refine rg_take (i := 1) (v := ?_) rfl (by as_aux_lemma => kernel_rfl) (by as_aux_lemma => kernel_rfl) (by as_aux_lemma => kernel_rfl) (by rfl) ?_ hHeld ?_
  rotate_left 1
  · intro w hSw; (try dsimp only at hSw); go_simp; try (with_reducible rfl)
  (try simp only [Act.put, List.setIfInBounds_toArray, List.set_cons_zero, List.set_cons_succ])
  refine rg_take (i := 2) (v := ?_) rfl (by as_aux_lemma => kernel_rfl) (by as_aux_lemma => kernel_rfl) (by as_aux_lemma => kernel_rfl) (by rfl) ?_ hHeld ?_
  rotate_left 1
  · intro w hSw; (try dsimp only at hSw); go_simp; try (with_reducible rfl)
  (try simp only [Act.put, List.setIfInBounds_toArray, List.set_cons_zero, List.set_cons_succ])
  refine rg_take (i := 3) (v := ?_) rfl (by as_aux_lemma => kernel_rfl) (by as_aux_lemma => kernel_rfl) (by as_aux_lemma => kernel_rfl) (by rfl) ?_ hHeld ?_
  rotate_left 1
  · intro w hSw; (try dsimp only at hSw); go_simp; try (with_reducible rfl)
  (try simp only [Act.put, List.setIfInBounds_toArray, List.set_cons_zero, List.set_cons_succ])
  refine rg_only (i := 4) rfl (by as_aux_lemma => kernel_rfl) (by rfl) (fun K hK => ?_)
  go_simp
  go_at_call 23
  refine (num_c _ _).mono ?_
  rintro e wz1 ⟨rfl, hBz⟩
  have HZ1 := Lib.hid (HZ0.out.below hBz)
  have HBZ1 := Lib.hid hBz
  clear hBz
  refine hK.out _ _ (HQ5.out _ HZ1.out) (fun hHeld1 => ?_)
  clear hK K hHeld
  have hHeld := hHeld1
  clear hHeld1
  (try simp only [Act.put, List.setIfInBounds_toArray, List.set_cons_zero, List.set_cons_succ])
  refine rg_only (i := 5) rfl (by as_aux_lemma => kernel_rfl) (by rfl) (fun K hK => ?_)
  go_simp
  go_at_call 19
  refine (same_c (numT 5) (numT 5) (fun _ => False) wz1 _ _ ⟨a4, c4, rfl, HC4.out, by simp [numT, RTs]⟩ (numT_rt _ _ 5) h5b h5b).mono ?_
  rintro e wz2 ⟨rfl, hBz⟩
  rw [sameT_ok]
  have HZ2 := Lib.hid (HZ1.out.below hBz)
  have HBZ2 := Lib.hid (below_step HBZ1.out HBZ1.out.size hBz)
  clear hBz
  refine hK.out _ _ (HQ5.out _ HZ2.out) (fun hHeld1 => ?_)
  clear hK K hHeld
  have hHeld := hHeld1
  clear hHeld1
  (try simp only [Act.put, List.setIfInBounds_toArray, List.set_cons_zero, List.set_cons_succ])
  refine rg_take (i := 6) (v := ?_) rfl (by as_aux_lemma => kernel_rfl) (by as_aux_lemma => kernel_rfl) (by as_aux_lemma => kernel_rfl) (by rfl) ?_ hHeld ?_
  rotate_left 1
  · intro w hSw; (try dsimp only at hSw); go_simp; try (with_reducible rfl)
  (try simp only [Act.put, List.setIfInBounds_toArray, List.set_cons_zero, List.set_cons_succ])
  refine rg_take (i := 7) (v := ?_) rfl (by as_aux_lemma => kernel_rfl) (by as_aux_lemma => kernel_rfl) (by as_aux_lemma => kernel_rfl) (by rfl) ?_ hHeld ?_
  rotate_left 1
  · intro w hSw; (try dsimp only at hSw); go_simp; try (with_reducible rfl)
  (try simp only [Act.put, List.setIfInBounds_toArray, List.set_cons_zero, List.set_cons_succ])
  refine rg_take (i := 8) (v := ?_) rfl (by as_aux_lemma => kernel_rfl) (by as_aux_lemma => kernel_rfl) (by as_aux_lemma => kernel_rfl) (by rfl) ?_ hHeld ?_
  rotate_left 1
  · intro w hSw; (try dsimp only at hSw); go_simp; try (with_reducible rfl)
  (try simp only [Act.put, List.setIfInBounds_toArray, List.set_cons_zero, List.set_cons_succ])
  refine rg_take (i := 9) (v := ?_) rfl (by as_aux_lemma => kernel_rfl) (by as_aux_lemma => kernel_rfl) (by as_aux_lemma => kernel_rfl) (by rfl) ?_ hHeld ?_
  rotate_left 1
  · intro w hSw; (try dsimp only at hSw); go_simp; try (with_reducible rfl)
  (try simp only [Act.put, List.setIfInBounds_toArray, List.set_cons_zero, List.set_cons_succ])
  refine rg_only (i := 10) rfl (by as_aux_lemma => kernel_rfl) (by rfl) (fun K hK => ?_)
  go_simp
  go_at_call 26
  refine (wall_none B bm 2 wz2 ((HB8.out.step HBZ0.out).step HBZ2.out) ((HM8.out.toQ (HBZ0.out.block bm (by omega))).toQ (HBZ2.out.block bm (by omega)))).mono ?_
  rintro e wz3 ⟨rfl, hBz⟩
  have HZ3 := Lib.hid (HZ2.out.below hBz)
  have HBZ3 := Lib.hid (below_step HBZ2.out HBZ2.out.size hBz)
  clear hBz
  refine hK.out _ _ (HQ5.out _ HZ3.out) (fun hHeld1 => ?_)
  clear hK K hHeld
  have hHeld := hHeld1
  clear hHeld1
  (try simp only [Act.put, List.setIfInBounds_toArray, List.set_cons_zero, List.set_cons_succ])
  refine rg_take (i := 11) (v := ?_) rfl (by as_aux_lemma => kernel_rfl) (by as_aux_lemma => kernel_rfl) (by as_aux_lemma => kernel_rfl) (by rfl) ?_ hHeld ?_
  rotate_left 1
  · intro w hSw; (try dsimp only at hSw); go_simp; try (with_reducible rfl)
  (try simp only [Act.put, List.setIfInBounds_toArray, List.set_cons_zero, List.set_cons_succ])
  refine rg_take (i := 12) (v := ?_) rfl (by as_aux_lemma => kernel_rfl) (by as_aux_lemma => kernel_rfl) (by as_aux_lemma => kernel_rfl) (by rfl) ?_ hHeld ?_
  rotate_left 1
  · intro w hSw; (try dsimp only at hSw); go_simp; try (with_reducible rfl)
  (try simp only [Act.put, List.setIfInBounds_toArray, List.set_cons_zero, List.set_cons_succ])
  refine rg_take (i := 13) (v := ?_) rfl (by as_aux_lemma => kernel_rfl) (by as_aux_lemma => kernel_rfl) (by as_aux_lemma => kernel_rfl) (by rfl) ?_ hHeld ?_
  rotate_left 1
  · intro w hSw; (try dsimp only at hSw); go_simp; try (with_reducible rfl)
  (try simp only [Act.put, List.setIfInBounds_toArray, List.set_cons_zero, List.set_cons_succ])
  refine rg_done (by as_aux_lemma => kernel_rfl) ?_
  clear hHeld
  by_cases hbig : 100 < l.length
  · have hbigi : (100 : Int) < (l.length : Int) := by omega
    go_wp2_with fail
    go_ret
    exact ⟨rfl, HZ3.out.bel⟩
  · have hbigi : ¬ (100 : Int) < (l.length : Int) := by omega
    obtain ⟨W10, hW10⟩ : ∃ W : World, W = wz3.alloc (.map #[] 0) := ⟨_, rfl⟩
    obtain ⟨m2, hm2⟩ : ∃ b, b = wz3.heap.size := ⟨_, rfl⟩
    obtain ⟨W11, hW11⟩ : ∃ W : World, W = W10.alloc (.map #[] 0) := ⟨_, rfl⟩
    obtain ⟨m3, hm3⟩ : ∃ b, b = W10.heap.size := ⟨_, rfl⟩
    have hB10 : Below wz3.heap.size wz3 W10 := by rw [hW10]; exact below_alloc _ _
    have hB11 : Below W10.heap.size W10 W11 := by rw [hW11]; exact below_alloc _ _
    have hs10 : W10.heap.size = wz3.heap.size + 1 := by rw [hW10]; simp
    have hs11 : W11.heap.size = W10.heap.size + 1 := by rw [hW11]; simp
    have hM2 : MapE W11 m2 0 [] := by rw [hm2]; exact (show MapE W10 wz3.heap.size 0 [] by rw [hW10]; exact MapE.newQ wz3).toQ (hB11.block _ (by omega))
    have hM3 : MapE W11 m3 0 [] := by rw [hm3, hW11]; exact MapE.newQ W10
    have HM1z := Lib.hid ((HM8.out.toQ (HBZ0.out.block bm (by omega))).toQ (HBZ3.out.block bm (by omega)))
    have HK1z := Lib.hid ((HB8.out.step HBZ0.out).step HBZ3.out)
    have hz3 := HBZ3.out.size
    have HWR : Hid (WR P w B bm m2 m3 0 W11) := Lib.hid ⟨P3, [], [], [], 2, 0, 0, hP3, (HZ3.out.sub (bs' := []) (by simp)).step (below_step (HZ3.out.below hB10).bel (HZ3.out.below hB10).bel.size hB11) (by omega) (fun b hb => by
        unfold WF4 at hb
        rcases hb with rfl | rfl | rfl | rfl
        · exact ⟨.inl hfB, by omega⟩
        · exact ⟨.inl hfm, by omega⟩
        · exact ⟨.inr (by omega), by omega⟩
        · exact ⟨.inr (by omega), by omega⟩) fun b hb _ => (hB11.block b (by omega)).trans (hB10.block b hb),
      (HM1z.out.toQ (hB10.block bm (by omega))).toQ (hB11.block bm (by omega)), hM2, hM3, (HK1z.out.step hB10).step hB11, WInv.start, by omega, by omega, by omega⟩
    have hmne : bm ≠ m2 ∧ bm ≠ m3 ∧ B ≠ m2 ∧ B ≠ m3 ∧ m2 ≠ m3 := by refine ⟨?_, ?_, ?_, ?_, ?_⟩ <;> omega
    have HWW : Hid ((wz3.alloc (.map #[] 0)).alloc (.map #[] 0) = W11 ∧ wz3.heap.size = m2 ∧ m2 + 1 = m3) := Lib.hid ⟨by rw [hW11, hW10], hm2.symm, by omega⟩
    clear hW10 hW11 hm2 hm3 hB10 hB11 hs10 hs11 hM2 hM3
    have hmm := @run_makeMap Try.prog
    go_wp2_with fail
    rw [HWW.out.1, HWW.out.2.1, HWW.out.2.2]
    clear hmm HS1 HM1 HK1 HS2 HM2 HK2 HS3 HM3 HK3 HS5 HM5 HK5 HS8 HM8 HB8 HQ5 HC4 HZ0 HZ1 HZ2 HZ3 HM1z HK1z
    go_loopw [57] (fun i wr => ∃ k : Nat, k ≤ l.length ∧ i = .int .i64 k ∧ WR P w B bm m2 m3 k wr) (fun i _ => l.length - (intOf i).toNat)
    case atStart => exact ⟨0, Nat.zero_le _, rfl, HWR.out⟩
    case round =>
      obtain ⟨k, hkl, rfl, P1, A1, A2, A3, n1, n2, n3, hPP, hR, e1, e2, e3, hBK, hI, q1, q2, q3⟩ := hrel
      have HPP := Lib.hid hPP
      have HR := Lib.hid hR
      have HI := Lib.hid hI
      clear hPP hR hI
      by_cases hlt : k < l.length
      · have hlti : (k : Int) < (l.length : Int) := by omega
        obtain ⟨lb, lo, rfl⟩ := HL.out.addr (by decide) (by omega)
        obtain ⟨cs0, hC, hcells⟩ := HL.out.elem k hlt
        have hmem := wcsB_mem (List.getElem_mem hlt)
        obtain ⟨x, hx⟩ : ∃ x, x = l[k] := ⟨_, rfl⟩
        rw [← hx] at hC hmem
        obtain ⟨ax, cx, rfl, hwa, hwc, hrt⟩ := hC
        have hbx : bulkL [x.t] ≤ 1048576 := by unfold wcB at hmem; omega
        have HWA := Lib.hid hwa
        have HWC := Lib.hid hwc
        have HTX := Lib.hid hrt
        have HRng : Hid (wr.rangeAt lb (lo + k * 7) [.int .i64 x.kind, .int .i64 x.a, .int .i64 x.c, .int .i64 x.t.kind, .int .i64 x.t.n, .string x.t.name, .slice ax x.t.args.length cx]) := Lib.hid (fun i u hu => by
          have h := hcells i u hu
          have hlt2 := HPB.out lb h.1
          rw [World.cell?_of_block (w := w) (HR.out.bel.block lb hlt2)]
          exact h.2)
        have hm21 : m2 ≠ bm := hmne.1.symm
        have hm31 : m3 ≠ bm := hmne.2.1.symm
        have hBm2 : B ≠ m2 := hmne.2.2.1
        have hBm3 : B ≠ m3 := hmne.2.2.2.1
        have hm32 : m3 ≠ m2 := hmne.2.2.2.2.symm
        clear hx hwa hwc hrt hcells hmem
        go_upto_region 13 with (refine load_at (o := ⟨some 60, .load 61 (.tmp 59), _, _, _, _⟩) 61 7 szWC _ Try.underlying61 rfl _ rfl rfl rfl HRng.out rfl ?_)
        obtain ⟨W12, hW12⟩ : ∃ W : World, W = wr.alloc (.cells #[.int .i64 x.kind, .int .i64 x.a, .int .i64 x.c, .int .i64 x.t.kind, .int .i64 x.t.n, .string x.t.name, .slice ax x.t.args.length cx] 61) := ⟨_, rfl⟩
        obtain ⟨g9, hg9⟩ : ∃ g, g = wr.heap.size := ⟨_, rfl⟩
        have HS12 : Hid (RQ P1 (WF4 B bm m2 m3) w [(g9, [.int .i64 x.kind, .int .i64 x.a, .int .i64 x.c, .int .i64 x.t.kind, .int .i64 x.t.n, .string x.t.name, .slice ax x.t.args.length cx])] W12 (rowsE A1 ++ (rowsE A2 ++ rowsE A3))) := Lib.hid (by rw [hW12]; exact HR.out.alloc #[.int .i64 x.kind, .int .i64 x.a, .int .i64 x.c, .int .i64 x.t.kind, .int .i64 x.t.n, .string x.t.name, .slice ax x.t.args.length cx] _ hg9)
        have hB12 : Below wr.heap.size wr W12 := by rw [hW12]; exact below_alloc _ _
        rw [← hW12, ← hg9]
        clear hW12 hg9
        have y0 := HS12.out.cell (g := g9) (List.mem_cons_self ..) 0 _ rfl
        have y1 := HS12.out.cell (g := g9) (List.mem_cons_self ..) 1 _ rfl
        have y2 := HS12.out.cell (g := g9) (List.mem_cons_self ..) 2 _ rfl
        have y3 := HS12.out.cell (g := g9) (List.mem_cons_self ..) 3 _ rfl
        have y4 := HS12.out.cell (g := g9) (List.mem_cons_self ..) 4 _ rfl
        have y5 := HS12.out.cell (g := g9) (List.mem_cons_self ..) 5 _ rfl
        have y6 := HS12.out.cell (g := g9) (List.mem_cons_self ..) 6 _ rfl
        go_upto_region 14 with fail
        obtain ⟨W13, hW13⟩ : ∃ W : World, W = W12.alloc (.cells #[.int .i64 x.a, .int .i64 x.c] 62) := ⟨_, rfl⟩
        obtain ⟨g10, hg10⟩ : ∃ g, g = W12.heap.size := ⟨_, rfl⟩
        have HS13 : Hid (RQ P1 (WF4 B bm m2 m3) w [(g10, [.int .i64 x.a, .int .i64 x.c]), (g9, [.int .i64 x.kind, .int .i64 x.a, .int .i64 x.c, .int .i64 x.t.kind, .int .i64 x.t.n, .string x.t.name, .slice ax x.t.args.length cx])] W13 (rowsE A1 ++ (rowsE A2 ++ rowsE A3))) := Lib.hid (by rw [hW13]; exact HS12.out.alloc #[.int .i64 x.a, .int .i64 x.c] _ hg10)
        have hB13 : Below wr.heap.size wr W13 := below_step hB12 hB12.size (by rw [hW13]; exact below_alloc _ _)
        rw [← hW13, ← hg10]
        clear hW13 hg10 hB12 y0 y1 y2 y3 y4 y5 y6
        have fhs : ∀ b, (WF4 B bm m2 m3) b → W13.heap[b]? = wr.heap[b]? := fun b hb => hB13.block b (HR.out.fh b hb).2.1
        have HE1 := Lib.hid (e1.toQ (fhs bm (by unfold WF4; simp)))
        have HE2 := Lib.hid (e2.toQ (fhs m2 (by unfold WF4; simp)))
        have HE3 := Lib.hid (e3.toQ (fhs m3 (by unfold WF4; simp)))
        have HB13 := Lib.hid (hBK.heap (fhs B (by unfold WF4; simp)))
        have HT13 := Lib.hid (HTX.out.to (fun b h _ => HPP.out b h) fun b hb' _ => HS13.out.bel.block b (HPB.out b hb'))
        have hs13 := hB13.size
        clear fhs hB13 e1 e2 e3 hBK HR HS12
        have k0 := HS13.out.cell (g := g10) (List.mem_cons_self ..) 0 _ rfl
        have k1 := HS13.out.cell (g := g10) (List.mem_cons_self ..) 1 _ rfl
        have y0 := HS13.out.cell (g := g9) (List.mem_cons_of_mem _ (List.mem_cons_self ..)) 0 _ rfl
        have y1 := HS13.out.cell (g := g9) (List.mem_cons_of_mem _ (List.mem_cons_self ..)) 1 _ rfl
        have y2 := HS13.out.cell (g := g9) (List.mem_cons_of_mem _ (List.mem_cons_self ..)) 2 _ rfl
        have y3 := HS13.out.cell (g := g9) (List.mem_cons_of_mem _ (List.mem_cons_self ..)) 3 _ rfl
        have y4 := HS13.out.cell (g := g9) (List.mem_cons_of_mem _ (List.mem_cons_self ..)) 4 _ rfl
        have y5 := HS13.out.cell (g := g9) (List.mem_cons_of_mem _ (List.mem_cons_self ..)) 5 _ rfl
        have y6 := HS13.out.cell (g := g9) (List.mem_cons_of_mem _ (List.mem_cons_self ..)) 6 _ rfl
        by_cases hk0 : x.kind = 0
        · have b0 : (x.kind == 0) = true := by simpa using hk0
          clear hk0
          go_wp2_with fail
          refine (wsend_c P1 (WF4 B bm m2 m3) w [(g10, [.int .i64 x.a, .int .i64 x.c]), (g9, [.int .i64 x.kind, .int .i64 x.a, .int .i64 x.c, .int .i64 x.t.kind, .int .i64 x.t.n, .string x.t.name, .slice ax x.t.args.length cx])] W13 (rowsE A2 ++ rowsE A3) A1 B bm n1 x.a x.c x.t _ HS13.out HE1.out HB13.out (by unfold WF4; simp) (by unfold WF4; simp) hne HT13.out (by omega) (by omega) (HE1.out.len HI.out.l20)).mono ?_
          rintro e ws ⟨rfl, hss, hfs, P4, hP4, hsend⟩
          have HE2s := Lib.hid (HE2.out.toQ (hfs m2 (by unfold WF4; simp) hm21))
          have HE3s := Lib.hid (HE3.out.toQ (hfs m3 (by unfold WF4; simp) hm31))
          have HBs := Lib.hid (HB13.out.heap (hfs B (by unfold WF4; simp) hne))
          have HPPx : Hid (∀ b, P b → P4 b) := Lib.hid fun b hb => hP4 b (HPP.out b hb)
          obtain ⟨z, hz⟩ : ∃ z, z = sendE A1 x.a x.c x.t := ⟨_, rfl⟩
          rw [← hz] at hsend
          rw [← hz]
          have HZ := Lib.hid hz
          clear hz hfs hP4
          rcases hsend with ⟨hz0, hRs, hMs⟩ | ⟨hz0, B1, hsent1, hRs, hMs⟩
          · have b1 : (z == 0) = false := by simpa using hz0
            have HRs := Lib.hid (hRs.sub (bs' := []) (by simp))
            have HMs := Lib.hid hMs
            clear hRs hMs hz0
            go_wp2_with fail
            go_roundw
            case rel => exact ⟨k + 1, by omega, by go_num, P4, A1, A2, A3, n1, n2, n3, HPPx.out, HRs.out, HMs.out, HE2s.out, HE3s.out, HBs.out, HI.out.up, by omega, by omega, by omega⟩
            case measure => simp [intOf]; omega
          · have b1 : (z == 0) = true := by simpa using hz0
            have hl20 := sendE_ok (HZ.out.symm.trans hz0)
            have HRs := Lib.hid hRs
            have HMs := Lib.hid hMs
            have HS1T := Lib.hid hsent1
            have HTs := Lib.hid (HTX.out.to (fun b h _ => HPPx.out b h) fun b hb' _ => hRs.bel.block b (HPB.out b hb'))
            clear hRs hMs hz0 hsent1
            obtain ⟨l1, l2, v0, l0, A', hspl, hsent, hrw, hl0, hent⟩ := send_split (F := (WF4 B bm m2 m3)) (w0 := w) (rs := (rowsE A3 ++ rowsE B1)) x.t HE2s.out (show n2 < maxLen by unfold maxLen; omega) HWA.out HWC.out
            have HSpl := Lib.hid hspl
            have HRW := Lib.hid hrw
            have HSENT := Lib.hid hsent
            have hl0n : l0.length ≤ 100 := by rw [hl0]; exact Nat.le_trans (HI.out.lk _) (by omega)
            clear hspl hrw hsent hl0
            obtain ⟨Wb, hWb⟩ : ∃ W : World, W = ws.alloc (.cells #[.int .i64 x.t.kind, .int .i64 x.t.n, .string x.t.name, .slice ax x.t.args.length cx] 24) := ⟨_, rfl⟩
            obtain ⟨gz, hgz⟩ : ∃ g, g = ws.heap.size := ⟨_, rfl⟩
            have hBb : Below ws.heap.size ws Wb := by rw [hWb]; exact below_alloc _ _
            have HSb : Hid (RQ P4 (WF4 B bm m2 m3) w ((gz, [.int .i64 x.t.kind, .int .i64 x.t.n, .string x.t.name, .slice ax x.t.args.length cx]) :: [(g10, [.int .i64 x.a, .int .i64 x.c]), (g9, [.int .i64 x.kind, .int .i64 x.a, .int .i64 x.c, .int .i64 x.t.kind, .int .i64 x.t.n, .string x.t.name, .slice ax x.t.args.length cx])]) Wb (l1 ++ rT v0 l0 :: l2)) := Lib.hid (HSpl.out _ _ _ (by rw [hWb]; exact (HRs.out.perm (rot2 _ _ _)).alloc #[.int .i64 x.t.kind, .int .i64 x.t.n, .string x.t.name, .slice ax x.t.args.length cx] _ hgz))
            have HTb := Lib.hid (HTs.out.below hBb)
            have hmlt : m2 < ws.heap.size := (HRs.out.fh m2 (by unfold WF4; simp)).2.1
            obtain ⟨sx, we, her, heg, hes, heb⟩ := hent Wb (hBb.block m2 hmlt)
            have HWB := Lib.hid hWb
            have HGZ := Lib.hid hgz
            have HHER := Lib.hid her
            have HEB := Lib.hid heb
            have HSe := Lib.hid (HSb.out.entry (by unfold WF4; simp) heg)
            have HTe := Lib.hid (HTb.out.to (fun _ h _ => h) fun b hb hl => heg.block b hl fun e => (HSb.out.pb b hb).2.1 (by have e1 : b = m2 := Option.some.inj e; rw [e1]; unfold WF4; simp))
            have HKb : Hid (∀ b, (WF4 B bm m2 m3) b → b ≠ m2 → we.heap[b]? = ws.heap[b]?) := Lib.hid fun b hf hn => (heg.block b (HSb.out.fh b hf).2.1 (fun e => hn (Option.some.inj e))).trans (hBb.block b (HRs.out.fh b hf).2.1)
            have hsb := hBb.size
            have hse := heg.size
            clear hent hBb her heg hes heb hWb hgz hmlt
            have k0 := HRs.out.cell (g := g10) (List.mem_cons_self ..) 0 _ rfl
            have k1 := HRs.out.cell (g := g10) (List.mem_cons_self ..) 1 _ rfl
            have y0 := HRs.out.cell (g := g9) (List.mem_cons_of_mem _ (List.mem_cons_self ..)) 0 _ rfl
            have y1 := HRs.out.cell (g := g9) (List.mem_cons_of_mem _ (List.mem_cons_self ..)) 1 _ rfl
            have y2 := HRs.out.cell (g := g9) (List.mem_cons_of_mem _ (List.mem_cons_self ..)) 2 _ rfl
            have y3 := HRs.out.cell (g := g9) (List.mem_cons_of_mem _ (List.mem_cons_self ..)) 3 _ rfl
            have y4 := HRs.out.cell (g := g9) (List.mem_cons_of_mem _ (List.mem_cons_self ..)) 4 _ rfl
            have y5 := HRs.out.cell (g := g9) (List.mem_cons_of_mem _ (List.mem_cons_self ..)) 5 _ rfl
            have y6 := HRs.out.cell (g := g9) (List.mem_cons_of_mem _ (List.mem_cons_self ..)) 6 _ rfl
            go_wp2_with (first
              | (rw [← HWB.out, ← HGZ.out]; refine mapEntryQ _ _ rfl rfl (by rfl) (by rfl) HHER.out ?_)
              | (refine append_growQ _ _ rfl termF rfl l1 l2 (v := v0) (xs := l0) (y := x.t) (g0 := gz) (c := [.int .i64 x.t.kind, .int .i64 x.t.n, .string x.t.name, .slice ax x.t.args.length cx]) (by rfl) (by rfl) HSe.out (List.mem_cons_self ..) (termE_of HTe.out) rfl (by omega) ?_
                 intro gn on cn wn hz hzg
                 obtain ⟨wf, hsr, hsm, hsg, hss⟩ := HEB.out wn (.slice (some ⟨gn, on, none⟩) (l0.length + 1) cn) (HSe.out.stay hzg m2 (.inr (by unfold WF4; simp)))
                 have HSf := Lib.hid (hz.entry (bm := m2) (by unfold WF4; simp) hsg)
                 have HMf := Lib.hid hsm
                 have HKf : Hid (∀ b, (WF4 B bm m2 m3) b → b ≠ m2 → wf.heap[b]? = we.heap[b]?) := Lib.hid fun b hf hn => (hsg.block b (hz.fh b hf).2.1 (fun e => hn (Option.some.inj e))).trans (HSe.out.stay hzg b (.inr hf))
                 have HHSR := Lib.hid hsr
                 have hsn := hzg.size
                 have hsf := hsg.size
                 clear hz hzg hsr hsm hsg hss)
              | (refine entryStoreQ _ _ _ rfl rfl (by rfl) (by rfl) (by rfl) HHSR.out ?_))
            have hkk : ∀ b, (WF4 B bm m2 m3) b → b ≠ m2 → wf.heap[b]? = ws.heap[b]? := fun b h1 h2 => (HKf.out b h1 h2).trans (HKb.out b h1 h2)
            have h9 : RQ P4 (WF4 B bm m2 m3) w [] wf (rowsE (A' (.slice (some ⟨gn, on, none⟩) (l0.length + 1) cn)) ++ (rowsE A3 ++ rowsE B1)) := by rw [HRW.out]; exact HSf.out.sub (by simp)
            have HR9 := Lib.hid (h9.perm (rot2 _ _ _).symm)
            go_roundw
            case rel => exact ⟨k + 1, by omega, by go_num, P4, B1, A' _, A3, n1 + 1, n2 + 1, n3, HPPx.out, HR9.out, HMs.out.toQ (hkk bm (by unfold WF4; simp) hm21.symm), HMf.out, HE3s.out.toQ (hkk m3 (by unfold WF4; simp) hm32), HBs.out.heap (hkk B (by unfold WF4; simp) hBm2), HI.out.send HS1T.out (HSENT.out _) hl20 (by omega), by omega, by omega, by omega⟩
            case measure => simp [intOf]; omega
        · have b0 : (x.kind == 0) = false := by simpa using hk0
          clear hk0
          go_wp2_with fail
          refine (wtake_c P1 (WF4 B bm m2 m3) w [(g10, [.int .i64 x.a, .int .i64 x.c]), (g9, [.int .i64 x.kind, .int .i64 x.a, .int .i64 x.c, .int .i64 x.t.kind, .int .i64 x.t.n, .string x.t.name, .slice ax x.t.args.length cx])] W13 (rowsE A2 ++ rowsE A3) A1 B bm n1 x.a x.c HS13.out HE1.out HB13.out (by unfold WF4; simp) (by unfold WF4; simp) hne (by omega) HWA.out HWC.out (HE1.out.len HI.out.l20)).mono ?_
          rintro e ws ⟨hss, hfs, htake⟩
          have HE2s := Lib.hid (HE2.out.toQ (hfs m2 (by unfold WF4; simp) hm21))
          have HE3s := Lib.hid (HE3.out.toQ (hfs m3 (by unfold WF4; simp) hm31))
          have HBs := Lib.hid (HB13.out.heap (hfs B (by unfold WF4; simp) hne))
          clear hfs
          rcases htake with ⟨-, rfl, hRs, hMs⟩ | ⟨t, B1, vt, hT1, rfl, hvt, hRs, hMs⟩
          · have HRs := Lib.hid hRs
            have HMs := Lib.hid hMs
            clear hRs hMs
            go_upto_region 18 with fail
            obtain ⟨W18, hW18⟩ : ∃ W : World, W = ws.alloc (.cells #[.int .i64 0, .int .i64 0, .string ⟨#[]⟩, .slice none 0 0] 24) := ⟨_, rfl⟩
            obtain ⟨g11, hg11⟩ : ∃ g, g = ws.heap.size := ⟨_, rfl⟩
            have hB18 : Below ws.heap.size ws W18 := by rw [hW18]; exact below_alloc _ _
            have HR18 := Lib.hid ((HRs.out.below hB18).sub (bs' := []) (by simp))
            have fhs : ∀ b, (WF4 B bm m2 m3) b → W18.heap[b]? = ws.heap[b]? := fun b hb => hB18.block b (HRs.out.fh b hb).2.1
            rw [← hW18, ← hg11]
            clear hW18 hg11 hB18
            go_wp2_with fail
            go_roundw
            case rel => exact ⟨k + 1, by omega, by go_num, P1, A1, A2, A3, n1, n2, n3, HPP.out, HR18.out, HMs.out.toQ (fhs bm (by unfold WF4; simp)), HE2s.out.toQ (fhs m2 (by unfold WF4; simp)), HE3s.out.toQ (fhs m3 (by unfold WF4; simp)), HBs.out.heap (fhs B (by unfold WF4; simp)), HI.out.up, by omega, by omega, by omega⟩
            case measure => simp [intOf]; omega
          · obtain ⟨atk, ctk, rfl, hctk, hrtk⟩ := hvt
            have htb : bulkL [t] ≤ 1048576 := HI.out.mem1 _ t hT1.mem
            have HRs := Lib.hid hRs
            have HMs := Lib.hid hMs
            have HT1 := Lib.hid hT1
            have HTs : Hid (RT P1 ws t (.agg #[.int .i64 t.kind, .int .i64 t.n, .string t.name, .slice atk t.args.length ctk])) := Lib.hid ⟨atk, ctk, rfl, hctk, hrtk⟩
            clear hRs hMs hT1 hctk hrtk
            go_upto_region 18 with fail
            obtain ⟨W18, hW18⟩ : ∃ W : World, W = ws.alloc (.cells #[.int .i64 t.kind, .int .i64 t.n, .string t.name, .slice atk t.args.length ctk] 24) := ⟨_, rfl⟩
            obtain ⟨g11, hg11⟩ : ∃ g, g = ws.heap.size := ⟨_, rfl⟩
            have hB18 : Below ws.heap.size ws W18 := by rw [hW18]; exact below_alloc _ _
            have HR18 : Hid (RQ P1 (WF4 B bm m2 m3) w [(g11, [.int .i64 t.kind, .int .i64 t.n, .string t.name, .slice atk t.args.length ctk]), (g10, [.int .i64 x.a, .int .i64 x.c]), (g9, [.int .i64 x.kind, .int .i64 x.a, .int .i64 x.c, .int .i64 x.t.kind, .int .i64 x.t.n, .string x.t.name, .slice ax x.t.args.length cx])] W18 (rowsE B1 ++ (rowsE A2 ++ rowsE A3))) := Lib.hid (by rw [hW18]; exact HRs.out.alloc #[.int .i64 t.kind, .int .i64 t.n, .string t.name, .slice atk t.args.length ctk] _ hg11)
            have fhs : ∀ b, (WF4 B bm m2 m3) b → W18.heap[b]? = ws.heap[b]? := fun b hb => hB18.block b (HRs.out.fh b hb).2.1
            have HM18 := Lib.hid (HMs.out.toQ (fhs bm (by unfold WF4; simp)))
            have HE2t := Lib.hid (HE2s.out.toQ (fhs m2 (by unfold WF4; simp)))
            have HE3t := Lib.hid (HE3s.out.toQ (fhs m3 (by unfold WF4; simp)))
            have HBt := Lib.hid (HBs.out.heap (fhs B (by unfold WF4; simp)))
            have HTt := Lib.hid (HTs.out.below hB18)
            have hs18 := hB18.size
            rw [← hW18, ← hg11]
            clear hW18 hg11 hB18 fhs y0 y1 y2 y3 y4 y5 y6 k0 k1
            obtain ⟨l1, l2, v0, l0, A', hspl, hsent, hrw, hl0, hent⟩ := send_split (F := (WF4 B bm m2 m3)) (w0 := w) (rs := (rowsE B1 ++ rowsE A2)) t HE3t.out (show n3 < maxLen by unfold maxLen; omega) HWA.out HWC.out
            have HSpl := Lib.hid hspl
            have HRW := Lib.hid hrw
            have HSENT := Lib.hid hsent
            have hl0n : l0.length ≤ 100 := by rw [hl0]; exact Nat.le_trans (HI.out.len3 _) (by omega)
            clear hspl hrw hsent hl0
            obtain ⟨Wb, hWb⟩ : ∃ W : World, W = W18.alloc (.cells #[.int .i64 t.kind, .int .i64 t.n, .string t.name, .slice atk t.args.length ctk] 24) := ⟨_, rfl⟩
            obtain ⟨gz, hgz⟩ : ∃ g, g = W18.heap.size := ⟨_, rfl⟩
            have hBb : Below W18.heap.size W18 Wb := by rw [hWb]; exact below_alloc _ _
            have HSb : Hid (RQ P1 (WF4 B bm m2 m3) w ((gz, [.int .i64 t.kind, .int .i64 t.n, .string t.name, .slice atk t.args.length ctk]) :: [(g11, [.int .i64 t.kind, .int .i64 t.n, .string t.name, .slice atk t.args.length ctk]), (g10, [.int .i64 x.a, .int .i64 x.c]), (g9, [.int .i64 x.kind, .int .i64 x.a, .int .i64 x.c, .int .i64 x.t.kind, .int .i64 x.t.n, .string x.t.name, .slice ax x.t.args.length cx])]) Wb (l1 ++ rT v0 l0 :: l2)) := Lib.hid (HSpl.out _ _ _ (by rw [hWb]; exact (HR18.out.perm (rot3 _ _ _)).alloc #[.int .i64 t.kind, .int .i64 t.n, .string t.name, .slice atk t.args.length ctk] _ hgz))
            have HTb := Lib.hid (HTt.out.below hBb)
            have hmlt : m3 < W18.heap.size := (HR18.out.fh m3 (by unfold WF4; simp)).2.1
            obtain ⟨sx, we, her, heg, hes, heb⟩ := hent Wb (hBb.block m3 hmlt)
            have HWB := Lib.hid hWb
            have HGZ := Lib.hid hgz
            have HHER := Lib.hid her
            have HEB := Lib.hid heb
            have HSe := Lib.hid (HSb.out.entry (by unfold WF4; simp) heg)
            have HTe := Lib.hid (HTb.out.to (fun _ h _ => h) fun b hb hl => heg.block b hl fun e => (HSb.out.pb b hb).2.1 (by have e1 : b = m3 := Option.some.inj e; rw [e1]; unfold WF4; simp))
            have HKb : Hid (∀ b, (WF4 B bm m2 m3) b → b ≠ m3 → we.heap[b]? = W18.heap[b]?) := Lib.hid fun b hf hn => (heg.block b (HSb.out.fh b hf).2.1 (fun e => hn (Option.some.inj e))).trans (hBb.block b (HR18.out.fh b hf).2.1)
            have hsb := hBb.size
            have hse := heg.size
            clear hent hBb her heg hes heb hWb hgz hmlt
            have k0 := HR18.out.cell (g := g10) (List.mem_cons_of_mem _ (List.mem_cons_self ..)) 0 _ rfl
            have k1 := HR18.out.cell (g := g10) (List.mem_cons_of_mem _ (List.mem_cons_self ..)) 1 _ rfl
            have y0 := HR18.out.cell (g := g11) (List.mem_cons_self ..) 0 _ rfl
            have y1 := HR18.out.cell (g := g11) (List.mem_cons_self ..) 1 _ rfl
            have y2 := HR18.out.cell (g := g11) (List.mem_cons_self ..) 2 _ rfl
            have y3 := HR18.out.cell (g := g11) (List.mem_cons_self ..) 3 _ rfl
            go_wp2_with (first
              | (rw [← HWB.out, ← HGZ.out]; refine mapEntryQ _ _ rfl rfl (by rfl) (by rfl) HHER.out ?_)
              | (refine append_growQ _ _ rfl termF rfl l1 l2 (v := v0) (xs := l0) (y := t) (g0 := gz) (c := [.int .i64 t.kind, .int .i64 t.n, .string t.name, .slice atk t.args.length ctk]) (by rfl) (by rfl) HSe.out (List.mem_cons_self ..) (termE_of HTe.out) rfl (by omega) ?_
                 intro gn on cn wn hz hzg
                 obtain ⟨wf, hsr, hsm, hsg, hss⟩ := HEB.out wn (.slice (some ⟨gn, on, none⟩) (l0.length + 1) cn) (HSe.out.stay hzg m3 (.inr (by unfold WF4; simp)))
                 have HSf := Lib.hid (hz.entry (bm := m3) (by unfold WF4; simp) hsg)
                 have HMf := Lib.hid hsm
                 have HKf : Hid (∀ b, (WF4 B bm m2 m3) b → b ≠ m3 → wf.heap[b]? = we.heap[b]?) := Lib.hid fun b hf hn => (hsg.block b (hz.fh b hf).2.1 (fun e => hn (Option.some.inj e))).trans (HSe.out.stay hzg b (.inr hf))
                 have HHSR := Lib.hid hsr
                 have hsn := hzg.size
                 have hsf := hsg.size
                 clear hz hzg hsr hsm hsg hss)
              | (refine entryStoreQ _ _ _ rfl rfl (by rfl) (by rfl) (by rfl) HHSR.out ?_))
            have hkk : ∀ b, (WF4 B bm m2 m3) b → b ≠ m3 → wf.heap[b]? = W18.heap[b]? := fun b h1 h2 => (HKf.out b h1 h2).trans (HKb.out b h1 h2)
            have h9 : RQ P1 (WF4 B bm m2 m3) w [] wf (rowsE (A' (.slice (some ⟨gn, on, none⟩) (l0.length + 1) cn)) ++ (rowsE B1 ++ rowsE A2)) := by rw [HRW.out]; exact HSf.out.sub (by simp)
            have HR9 := Lib.hid (h9.perm (rot3 _ _ _).symm)
            go_roundw
            case rel => exact ⟨k + 1, by omega, by go_num, P1, B1, A2, A' _, n1 + 1, n2, n3 + 1, HPP.out, HR9.out, HM18.out.toQ (hkk bm (by unfold WF4; simp) hm31.symm), HE2t.out.toQ (hkk m2 (by unfold WF4; simp) hm32.symm), HMf.out, HBt.out.heap (hkk B (by unfold WF4; simp) hBm3), HI.out.take HT1.out (HSENT.out _), by omega, by omega, by omega⟩
            case measure => simp [intOf]; omega
      · have hlti : ¬ (k : Int) < (l.length : Int) := by omega
        obtain ⟨wl, rfl⟩ : ∃ wl : World, wl = wr := ⟨_, rfl⟩
        obtain ⟨⟨D2, hD2, hz2⟩, hnd2, hwf2⟩ := e2
        obtain ⟨⟨D3, hD3, hz3⟩, hnd3, hwf3⟩ := e3
        have HE3 : Hid (MapE wl m3 n3 A3) := Lib.hid ⟨⟨D3, hD3, hz3⟩, hnd3, hwf3⟩
        have HD2 := Lib.hid hD2
        have HD3 := Lib.hid hD3
        have HM1 := Lib.hid e1
        have HBK := Lib.hid hBK
        have HWF2 := Lib.hid hwf2
        have hle32 : (Maps.size D3 : Int) ≤ (Maps.size D2 : Int) := by rw [hz2, hz3]; have := HI.out.iv.le hnd3; omega
        obtain ⟨r, hr⟩ : ∃ r, r = wl.heap.size := ⟨_, rfl⟩
        have HRr := Lib.hid hr
        have hm2l : m2 < wl.heap.size := (HR.out.fh m2 (by unfold WF4; simp)).2.1
        have hm3l : m3 < wl.heap.size := (HR.out.fh m3 (by unfold WF4; simp)).2.1
        have hbml : bm < wl.heap.size := (HR.out.fh bm (by unfold WF4; simp)).2.1
        have hBl : B < wl.heap.size := (HR.out.fh B (by unfold WF4; simp)).2.1
        have hr1 : wl.heap.size ≤ r := by omega
        clear hD2 hD3 e1 hBK hwf2 hwf3 hz2 hz3 hnd2 hnd3 hr HWR
        go_wp2_with (at_range; refine wpList_range_own _ rfl _ 59 rfl 62 22 pair_keyed Try.underlying59 _ m2 n2 _ rfl HD2.out.1 ?_; intro wq hrg0 hg0 hs0)
        try go_frame
        rw [← HRr.out] at hrg0
        rw [← HRr.out]
        have hBq := below0 hg0
        have hrq : r < wq.heap.size := by have := HRr.out; omega
        have HRq : Hid (RQ P1 (fun b => (WF4 B bm m2 m3) b ∨ b = r) w [] wq (rowsE A1 ++ (rowsE A2 ++ rowsE A3))) := Lib.hid (HR.out.step (below_step HR.out.bel HR.out.bel.size hBq) hBq.size (fun b hb => by
          rcases hb with hb | rfl
          · exact ⟨.inl hb, by have := (HR.out.fh b hb).2.1; have := hBq.size; omega⟩
          · exact ⟨.inr hr1, hrq⟩) fun b hb _ => hBq.block b hb)
        have HBQ := Lib.hid hBq
        have HRG0 := Lib.hid hrg0
        clear hrg0 hg0 hs0 hBq
        go_loopw [13] (fun _ wz => ∃ (left : Lit → Bool) (cnt : Nat), wz.ranges Try.prog 62 rawR m2 r n2 D2 left cnt ∧ Keep (fun b => b = r) wq wz) (fun _ wz => wz.rangeLeft m2 r)
        case atStart => exact ⟨_, _, HRG0.out, Keep.refl _ _⟩
        case round =>
          obtain ⟨left, cnt, hrg, hK⟩ := hrel
          have HRG := Lib.hid hrg
          have HKR := Lib.hid hK
          have HRz : Hid (RQ P1 (fun b => (WF4 B bm m2 m3) b ∨ b = r) w [] wr (rowsE A1 ++ (rowsE A2 ++ rowsE A3))) := Lib.hid (HRq.out.keep (hK.mono fun b _ h => .inr h) fun b hb => ⟨.inl hb, by have := (HRq.out.fh b hb).2.1; have := hK.size; omega⟩)
          have hkr : ∀ b, b < wl.heap.size → wr.heap[b]? = wl.heap[b]? := fun b hb => (hK.block b (by have := HBQ.out.size; omega) (by omega)).trans (HBQ.out.block b hb)
          have hwrq := hK.size
          have hwlq := HBQ.out.size
          clear hK
          go_wp2_with (at_next; refine wpList_next_ranges _ rfl _ rfl 62 pair_keyed rawR pkE id (fun key kl hk => by obtain ⟨x, hx, _⟩ := key_inv hk; exact ⟨x, hx⟩) (fun v _ _ => ⟨v, rfl⟩) m2 r n2 _ _ _ rfl hrg ?_ ?_)
          · intro hc0 hl0
            clear hrg
            go_wp2_with (first
              | (at_len; refine wpList_len_own _ rfl _ 59 rfl 62 22 Try.underlying59 rawR m3 n3 D3 rfl (HD3.out.toQ (hkr m3 hm3l)).1 ?_)
              | (at_len; refine wpList_len_own _ rfl _ 59 rfl 62 22 Try.underlying59 rawR m2 n2 D2 rfl (HD2.out.toQ (hkr m2 hm2l)).1 ?_))
            go_ret
            exact ⟨by simp [hle32], HRz.out.bel⟩
          · intro x1 x2 c kl yd yp w2n cnt2 hkey hlk hv hat hrg2 hlt2 hg2 hs2 hen
            clear hrg
            obtain ⟨x', ex, hwx⟩ := key_inv hkey
            obtain ⟨x, hx⟩ : ∃ x : Int × Int, x = (x1, x2) := ⟨_, rfl⟩
            obtain rfl : x1 = x.1 := by rw [hx]
            obtain rfl : x2 = x.2 := by rw [hx]
            obtain rfl : x = x' := by have := pk_inj ex; exact Prod.ext this.1 this.2
            clear hx ex
            have hhas : has D2 kl = true := has_true_of_atKey hat
            obtain ⟨hf1, hf2⟩ := HD2.out.2 x.1 x.2 kl hwx.1 hwx.2 hkey
            rw [hhas] at hf1
            obtain ⟨c', hc'⟩ := Option.isSome_iff_exists.1 hf1.symm
            have hcv : c' = c := by
              have h1 := hf2 (.bool true)
              rw [hat, hc'] at h1
              simp only [rawR, id, Option.some.injEq, Prod.mk.injEq] at hv
              rw [← hv.1] at h1
              simpa using h1.symm
            subst hcv
            have HXW := Lib.hid hwx
            have hB2n : ∀ b, b < wl.heap.size → w2n.heap[b]? = wl.heap[b]? := fun b hb => (hg2.block b (by omega) (fun e => by have := Option.some.inj e; omega)).trans (hkr b hb)
            have HKR2 : Hid (Keep (fun b => b = r) wq w2n) := Lib.hid (HKR.out.trans ⟨hg2.os, hg2.tape, hg2.output, hg2.size, fun b hb hn => hg2.block b hb fun e => hn (Option.some.inj e)⟩)
            have HR2n : Hid (RQ P1 (fun b => (WF4 B bm m2 m3) b ∨ b = r) w [] w2n (rowsE A1 ++ (rowsE A2 ++ rowsE A3))) := Lib.hid (HRq.out.keep (HKR2.out.mono fun b _ h => .inr h) fun b hb => ⟨.inl hb, by have := (HRq.out.fh b hb).2.1; have := HKR2.out.size; omega⟩)
            have HRG2 := Lib.hid hrg2
            have hw2n := hg2.size
            clear hkey hlk hv hat hhas hf1 hf2 hg2 hs2 hrg2 hwx
            have hne2 : listF A2 x ≠ [] := by
              cases he : entF A2 x with
              | none =>
                have h0 : rawF A2 x.1 x.2 = none := by
                  show (entF A2 (x.1, x.2)).map _ = _
                  rw [show ((x.1, x.2) : Int × Int) = x from rfl, he]; rfl
                rw [h0] at hc'; cases hc'
              | some y =>
                obtain ⟨v, l'⟩ := y
                rw [(entF_listF he).1]
                obtain ⟨X, Y, e, -⟩ := entF_some he
                exact (HWF2.out (x, v, l') (by rw [e]; simp)).2.2
            obtain ⟨a2, c2, hr2, hl2, hg2a⟩ := (HR2n.out.perm (rot2 _ _ _)).rowAt x
            rw [hc'] at hr2
            obtain rfl : c' = .slice a2 (listF A2 x).length c2 := hr2
            obtain ⟨g2a, o2a, rfl⟩ := hg2a hne2
            obtain ⟨a3, c3, hr3, hl3, -⟩ := (HR2n.out.perm (rot3 _ _ _)).rowAt x
            have hls := HI.out.iv.ls x
            unfold pkE pk at hen
            simp only [id] at hen
            have hl2p := List.length_pos_iff.2 hne2
            clear hc' hne2 hg2a
            obtain ⟨L1, hL1⟩ : ∃ L, L = listF A1 x := ⟨_, rfl⟩
            obtain ⟨L2, hL2⟩ : ∃ L, L = listF A2 x := ⟨_, rfl⟩
            obtain ⟨L3, hL3⟩ : ∃ L, L = listF A3 x := ⟨_, rfl⟩
            have hk3 := HI.out.len3 x
            have hk1 := HI.out.l20 x
            have hb3 := bulk_le (c := 1048576) (l := listF A3 x) fun t ht => HI.out.bk x t (by rw [hls]; exact List.mem_append.2 (.inl ht))
            rw [← hL3] at hl3 hk3 hb3 hr3 hls
            rw [← hL2] at hl2 hen hls hl2p
            rw [← hL1] at hls hk1
            rw [← hL2]
            have h3b : bulkL L3 ≤ 1099511627776 := Nat.le_trans hb3 (Nat.le_trans (Nat.mul_le_mul_right _ (show L3.length ≤ 100 by omega)) (by decide))
            have hlen0 := congrArg List.length hls
            rw [List.length_append] at hlen0
            have hlen : L3.length + L1.length ≤ L2.length := by omega
            have hlen' : L2.length ≤ L3.length + L1.length := by omega
            clear hlen0
            obtain ⟨aq2, cq2, e2, hcap2, hrt2⟩ := hl2
            cases e2
            obtain ⟨aq3, cq3, e3, hcap3, hrt3⟩ := hl3
            cases e3
            have HRT2 : Hid (RTs (fun b => b < w2n.heap.size) w2n L3 (some ⟨g2a, o2a, none⟩) 0) := Lib.hid (RTs.pre (ys := L1) (by rw [← hls]; exact hrt2))
            have HRT3 := Lib.hid hrt3
            have HL1 := Lib.hid hL1
            have HL3E := Lib.hid hL3
            have HR3 := Lib.hid hr3
            have hc20 : ¬ c2 = 0 := by have := hcap2.1; omega
            clear hls hrt2 hrt3 hL1 hL2 hL3 hb3 hr3
            go_upto_region 24 with fail
            obtain ⟨W23, hW23⟩ : ∃ W : World, W = w2n.alloc (.cells #[.int .i64 x.1, .int .i64 x.2] 62) := ⟨_, rfl⟩
            obtain ⟨g13, hg13⟩ : ∃ g, g = w2n.heap.size := ⟨_, rfl⟩
            have hB23 : Below w2n.heap.size w2n W23 := by rw [hW23]; exact below_alloc _ _
            have HR23 : Hid (RQ P1 (fun b => (WF4 B bm m2 m3) b ∨ b = r) w [(g13, [.int .i64 x.1, .int .i64 x.2])] W23 (rowsE A1 ++ (rowsE A2 ++ rowsE A3))) := Lib.hid (by rw [hW23]; exact HR2n.out.alloc #[.int .i64 x.1, .int .i64 x.2] _ hg13)
            have HRG23 : Hid (W23.ranges Try.prog 62 rawR m2 r n2 D2 _ cnt2) := Lib.hid (by rw [hW23]; exact HRG2.out.alloc _)
            have HKR23 : Hid (Keep (fun b => b = r) wq W23) := Lib.hid (by rw [hW23]; exact HKR2.out.alloc _)
            rw [← hW23, ← hg13]
            have hf23 : ∀ b, b < wl.heap.size → W23.heap[b]? = wl.heap[b]? := fun b hb => (hB23.block b (by omega)).trans (hB2n b hb)
            have HBk23 := Lib.hid (HBK.out.heap (hf23 B hBl))
            have HM23 := Lib.hid (HM1.out.toQ (hf23 bm hbml))
            have HE323 := Lib.hid (HE3.out.toQ (hf23 m3 hm3l))
            have hs23 := hB23.size
            have hbm23 : bm < W23.heap.size := by omega
            have hm323 : m3 < W23.heap.size := by omega
            have HLA : Hid (RSl (fun b => b < W23.heap.size) W23 L3 (.slice (some ⟨g2a, o2a, none⟩) L3.length c2)) := Lib.hid (RSl.to (S := fun b => b < w2n.heap.size) ⟨_, _, rfl, ⟨by have := hcap2.1; omega, fun e => by cases e⟩, HRT2.out⟩ (fun b h _ => by omega) fun b hb _ => hB23.block b hb)
            have HLB : Hid (RSl (fun b => b < W23.heap.size) W23 L3 (.slice a3 L3.length c3)) := Lib.hid (RSl.to (S := fun b => b < w2n.heap.size) ⟨_, _, rfl, hcap3, HRT3.out⟩ (fun b h _ => by omega) fun b hb _ => hB23.block b hb)
            clear hW23 hg13 hB23 hf23
            have HLK : Hid (∀ w' : World, w'.heap[m3]? = W23.heap[m3]? → (Instr.lookup 59 (.map (some m3)) (.agg #[.int .i64 x.1, .int .i64 x.2]) false).run Try.prog w' = .ok (.slice a3 L3.length c3) w') := Lib.hid fun w' h => by
              have h1 := (HE323.out.toQ h).lookQ HXW.out.1 HXW.out.2
              rw [HR3.out] at h1
              exact h1
            have hlk3 := HLK.out W23 rfl
            have k0 := HR23.out.cell (g := g13) (List.mem_cons_self ..) 0 _ rfl
            have k1 := HR23.out.cell (g := g13) (List.mem_cons_self ..) 1 _ rfl
            go_upto_region 25 with fail
            clear hlk3 k0 k1
            have hgt : ¬ (L2.length : Int) < (L3.length : Int) := by omega
            have u1 : IntKind.i64.wrap ((L2.length : Int) - (L3.length : Int)) = (L1.length : Int) := by rw [IntKind.wrap_i64]; omega
            have hc2a : (0 : Int) ≤ (L3.length : Int) := by omega
            have hc2b : L3.length ≤ c2 := by have := hcap2.1; omega
            have HQ25 : Hid (∀ w' : World, Below W23.heap.size W23 w' → w'.heap[m3]? = W23.heap[m3]? ∧ w'.cell? ⟨g13, 0, none⟩ = some (.int .i64 x.1) ∧ w'.cell? ⟨g13, 1, none⟩ = some (.int .i64 x.2)) := Lib.hid fun w' h => ⟨h.block m3 hm323, (HR23.out.below h).cell (g := g13) (List.mem_cons_self ..) 0 _ rfl, (HR23.out.below h).cell (g := g13) (List.mem_cons_self ..) 1 _ rfl⟩
            refine rg_start (fun w' => w'.heap[m3]? = W23.heap[m3]? ∧ w'.cell? ⟨g13, 0, none⟩ = some (.int .i64 x.1) ∧ w'.cell? ⟨g13, 1, none⟩ = some (.int .i64 x.2)) (by as_aux_lemma => kernel_rfl) (fun Wd h => HQ25.out _ h) ?_
            intro wz0 hB hWd hWd' hHeld
            have HBZ0 := Lib.hid hB
            clear hB
            refine rg_take (i := 0) (v := ?_) rfl (by as_aux_lemma => kernel_rfl) (by as_aux_lemma => kernel_rfl) (by as_aux_lemma => kernel_rfl) (by rfl) ?_ hHeld ?_
            rotate_left 1
            · intro w hSw; (try dsimp only at hSw); go_simp; try (with_reducible rfl)
            (try simp only [Act.put, List.setIfInBounds_toArray, List.set_cons_zero, List.set_cons_succ])
            refine rg_take (i := 1) (v := ?_) rfl (by as_aux_lemma => kernel_rfl) (by as_aux_lemma => kernel_rfl) (by as_aux_lemma => kernel_rfl) (by rfl) ?_ hHeld ?_
            rotate_left 1
            · intro w hSw; (try dsimp only at hSw); go_simp; try (with_reducible rfl)
            (try simp only [Act.put, List.setIfInBounds_toArray, List.set_cons_zero, List.set_cons_succ])
            refine rg_take (i := 2) (v := ?_) rfl (by as_aux_lemma => kernel_rfl) (by as_aux_lemma => kernel_rfl) (by as_aux_lemma => kernel_rfl) (by rfl) ?_ hHeld ?_
            rotate_left 1
            · intro w hSw; (try dsimp only at hSw); go_simp; try (with_reducible rfl)
            (try simp only [Act.put, List.setIfInBounds_toArray, List.set_cons_zero, List.set_cons_succ])
            refine rg_take (i := 3) (v := ?_) rfl (by as_aux_lemma => kernel_rfl) (by as_aux_lemma => kernel_rfl) (by as_aux_lemma => kernel_rfl) (by rfl) ?_ hHeld ?_
            rotate_left 1
            · intro w hSw; (try dsimp only at hSw); go_simp; try (with_reducible rfl)
            (try simp only [Act.put, List.setIfInBounds_toArray, List.set_cons_zero, List.set_cons_succ])
            refine rg_take (i := 4) (v := ?_) rfl (by as_aux_lemma => kernel_rfl) (by as_aux_lemma => kernel_rfl) (by as_aux_lemma => kernel_rfl) (by rfl) ?_ hHeld ?_
            rotate_left 1
            · intro w hSw; (try dsimp only at hSw); go_simp; try (with_reducible rfl)
            (try simp only [Act.put, List.setIfInBounds_toArray, List.set_cons_zero, List.set_cons_succ])
            refine rg_take (i := 5) (v := ?_) rfl (by as_aux_lemma => kernel_rfl) (by as_aux_lemma => kernel_rfl) (by as_aux_lemma => kernel_rfl) (by rfl) ?_ hHeld ?_
            rotate_left 1
            · intro w hSw; (try dsimp only at hSw); go_simp; try (with_reducible rfl)
            (try simp only [Act.put, List.setIfInBounds_toArray, List.set_cons_zero, List.set_cons_succ])
            refine rg_take (i := 6) (v := ?_) rfl (by as_aux_lemma => kernel_rfl) (by as_aux_lemma => kernel_rfl) (by as_aux_lemma => kernel_rfl) (by rfl) ?_ hHeld ?_
            rotate_left 1
            · intro w hSw; (try dsimp only at hSw); go_simp; try (with_reducible rfl)
            (try simp only [Act.put, List.setIfInBounds_toArray, List.set_cons_zero, List.set_cons_succ])
            refine rg_take (i := 7) (v := ?_) rfl (by as_aux_lemma => kernel_rfl) (by as_aux_lemma => kernel_rfl) (by as_aux_lemma => kernel_rfl) (by rfl) ?_ hHeld ?_
            rotate_left 1
            · intro w hSw; (try dsimp only at hSw); have hLK := HLK.out w hSw.1; go_simp; try (with_reducible rfl)
            (try simp only [Act.put, List.setIfInBounds_toArray, List.set_cons_zero, List.set_cons_succ])
            refine rg_take (i := 8) (v := ?_) rfl (by as_aux_lemma => kernel_rfl) (by as_aux_lemma => kernel_rfl) (by as_aux_lemma => kernel_rfl) (by rfl) ?_ hHeld ?_
            rotate_left 1
            · intro w hSw; (try dsimp only at hSw); go_simp; try (with_reducible rfl)
            (try simp only [Act.put, List.setIfInBounds_toArray, List.set_cons_zero, List.set_cons_succ])
            refine rg_take (i := 9) (v := ?_) rfl (by as_aux_lemma => kernel_rfl) (by as_aux_lemma => kernel_rfl) (by as_aux_lemma => kernel_rfl) (by rfl) ?_ hHeld ?_
            rotate_left 1
            · intro w hSw; (try dsimp only at hSw); go_simp; try (with_reducible rfl)
            (try simp only [Act.put, List.setIfInBounds_toArray, List.set_cons_zero, List.set_cons_succ])
            refine rg_take (i := 10) (v := ?_) rfl (by as_aux_lemma => kernel_rfl) (by as_aux_lemma => kernel_rfl) (by as_aux_lemma => kernel_rfl) (by rfl) ?_ hHeld ?_
            rotate_left 1
            · intro w hSw; (try dsimp only at hSw); go_simp; try (with_reducible rfl)
            (try simp only [Act.put, List.setIfInBounds_toArray, List.set_cons_zero, List.set_cons_succ])
            refine rg_only (i := 11) rfl (by as_aux_lemma => kernel_rfl) (by rfl) (fun K hK => ?_)
            go_simp
            go_at_call 27
            refine (sameTerms_c (fun b => b < W23.heap.size) L3 L3 wz0 _ _ (HLB.out.to (fun _ h _ => h) fun b hb' _ => HBZ0.out.block b hb') (HLA.out.to (fun _ h _ => h) fun b hb' _ => HBZ0.out.block b hb') h3b h3b).mono ?_
            rintro e wz1 ⟨rfl, hBz⟩
            rw [(sameL_iff L3 L3).2 rfl]
            have HBZ1 := Lib.hid (below_step HBZ0.out HBZ0.out.size hBz)
            clear hBz
            refine hK.out _ _ (HQ25.out _ HBZ1.out) (fun hHeld1 => ?_)
            clear hK K hHeld
            have hHeld := hHeld1
            clear hHeld1
            (try simp only [Act.put, List.setIfInBounds_toArray, List.set_cons_zero, List.set_cons_succ])
            refine rg_take (i := 12) (v := ?_) rfl (by as_aux_lemma => kernel_rfl) (by as_aux_lemma => kernel_rfl) (by as_aux_lemma => kernel_rfl) (by rfl) ?_ hHeld ?_
            rotate_left 1
            · intro w hSw; (try dsimp only at hSw); go_simp; try (with_reducible rfl)
            (try simp only [Act.put, List.setIfInBounds_toArray, List.set_cons_zero, List.set_cons_succ])
            refine rg_take (i := 13) (v := ?_) rfl (by as_aux_lemma => kernel_rfl) (by as_aux_lemma => kernel_rfl) (by as_aux_lemma => kernel_rfl) (by rfl) ?_ hHeld ?_
            rotate_left 1
            · intro w hSw; (try dsimp only at hSw); go_simp; try (with_reducible rfl)
            (try simp only [Act.put, List.setIfInBounds_toArray, List.set_cons_zero, List.set_cons_succ])
            refine rg_take (i := 14) (v := ?_) rfl (by as_aux_lemma => kernel_rfl) (by as_aux_lemma => kernel_rfl) (by as_aux_lemma => kernel_rfl) (by rfl) ?_ hHeld ?_
            rotate_left 1
            · intro w hSw; (try dsimp only at hSw); go_simp; try (with_reducible rfl)
            (try simp only [Act.put, List.setIfInBounds_toArray, List.set_cons_zero, List.set_cons_succ])
            refine rg_take (i := 15) (v := ?_) rfl (by as_aux_lemma => kernel_rfl) (by as_aux_lemma => kernel_rfl) (by as_aux_lemma => kernel_rfl) (by rfl) ?_ hHeld ?_
            rotate_left 1
            · intro w hSw; (try dsimp only at hSw); go_simp; try (with_reducible rfl)
            (try simp only [Act.put, List.setIfInBounds_toArray, List.set_cons_zero, List.set_cons_succ])
            refine rg_take (i := 16) (v := ?_) rfl (by as_aux_lemma => kernel_rfl) (by as_aux_lemma => kernel_rfl) (by as_aux_lemma => kernel_rfl) (by rfl) ?_ hHeld ?_
            rotate_left 1
            · intro w hSw; (try dsimp only at hSw); go_simp; try (with_reducible rfl)
            (try simp only [Act.put, List.setIfInBounds_toArray, List.set_cons_zero, List.set_cons_succ])
            refine rg_take (i := 17) (v := ?_) rfl (by as_aux_lemma => kernel_rfl) (by as_aux_lemma => kernel_rfl) (by as_aux_lemma => kernel_rfl) (by rfl) ?_ hHeld ?_
            rotate_left 1
            · intro w hSw; (try dsimp only at hSw); go_simp; try (with_reducible rfl)
            (try simp only [Act.put, List.setIfInBounds_toArray, List.set_cons_zero, List.set_cons_succ])
            refine rg_take (i := 18) (v := ?_) rfl (by as_aux_lemma => kernel_rfl) (by as_aux_lemma => kernel_rfl) (by as_aux_lemma => kernel_rfl) (by rfl) ?_ hHeld ?_
            rotate_left 1
            · intro w hSw; (try dsimp only at hSw); go_simp; try (with_reducible rfl)
            (try simp only [Act.put, List.setIfInBounds_toArray, List.set_cons_zero, List.set_cons_succ])
            refine rg_take (i := 19) (v := ?_) rfl (by as_aux_lemma => kernel_rfl) (by as_aux_lemma => kernel_rfl) (by as_aux_lemma => kernel_rfl) (by rfl) ?_ hHeld ?_
            rotate_left 1
            · intro w hSw; (try dsimp only at hSw); go_simp; try (with_reducible rfl)
            (try simp only [Act.put, List.setIfInBounds_toArray, List.set_cons_zero, List.set_cons_succ])
            refine rg_take (i := 21) (v := ?_) rfl (by as_aux_lemma => kernel_rfl) (by as_aux_lemma => kernel_rfl) (by as_aux_lemma => kernel_rfl) (by rfl) ?_ hHeld ?_
            rotate_left 1
            · intro w hSw; (try dsimp only at hSw); go_simp; try (with_reducible rfl)
            (try simp only [Act.put, List.setIfInBounds_toArray, List.set_cons_zero, List.set_cons_succ])
            refine rg_take (i := 22) (v := ?_) rfl (by as_aux_lemma => kernel_rfl) (by as_aux_lemma => kernel_rfl) (by as_aux_lemma => kernel_rfl) (by rfl) ?_ hHeld ?_
            rotate_left 1
            · intro w hSw; (try dsimp only at hSw); go_simp; try (with_reducible rfl)
            (try simp only [Act.put, List.setIfInBounds_toArray, List.set_cons_zero, List.set_cons_succ])
            refine rg_take (i := 23) (v := ?_) rfl (by as_aux_lemma => kernel_rfl) (by as_aux_lemma => kernel_rfl) (by as_aux_lemma => kernel_rfl) (by rfl) ?_ hHeld ?_
            rotate_left 1
            · intro w hSw; (try dsimp only at hSw); go_simp; try (with_reducible rfl)
            (try simp only [Act.put, List.setIfInBounds_toArray, List.set_cons_zero, List.set_cons_succ])
            refine rg_take (i := 24) (v := ?_) rfl (by as_aux_lemma => kernel_rfl) (by as_aux_lemma => kernel_rfl) (by as_aux_lemma => kernel_rfl) (by rfl) ?_ hHeld ?_
            rotate_left 1
            · intro w hSw; (try dsimp only at hSw); go_simp; try (with_reducible rfl)
            (try simp only [Act.put, List.setIfInBounds_toArray, List.set_cons_zero, List.set_cons_succ])
            refine rg_only (i := 20) rfl (by as_aux_lemma => kernel_rfl) (by rfl) (fun K hK => ?_)
            go_simp
            go_at_call 24
            refine (wmany_c B bm n1 A1 x.1 x.2 wz1 HXW.out.1 HXW.out.2 (HBk23.out.step HBZ1.out) (HM23.out.toQ (HBZ1.out.block bm hbm23)) (HR23.out.form)).mono ?_
            rintro e wz2 ⟨rfl, rfl⟩
            rw [← HL1.out]
            refine hK.out _ _ (HQ25.out _ HBZ1.out) (fun hHeld1 => ?_)
            clear hK K hHeld
            have hHeld := hHeld1
            clear hHeld1
            (try simp only [Act.put, List.setIfInBounds_toArray, List.set_cons_zero, List.set_cons_succ])
            refine rg_take (i := 25) (v := ?_) rfl (by as_aux_lemma => kernel_rfl) (by as_aux_lemma => kernel_rfl) (by as_aux_lemma => kernel_rfl) (by rfl) ?_ hHeld ?_
            rotate_left 1
            · intro w hSw; (try dsimp only at hSw); go_simp; try (with_reducible rfl)
            (try simp only [Act.put, List.setIfInBounds_toArray, List.set_cons_zero, List.set_cons_succ])
            refine rg_take (i := 26) (v := ?_) rfl (by as_aux_lemma => kernel_rfl) (by as_aux_lemma => kernel_rfl) (by as_aux_lemma => kernel_rfl) (by rfl) ?_ hHeld ?_
            rotate_left 1
            · intro w hSw; (try dsimp only at hSw); go_simp; try (with_reducible rfl)
            (try simp only [Act.put, List.setIfInBounds_toArray, List.set_cons_zero, List.set_cons_succ])
            refine rg_done (by as_aux_lemma => kernel_rfl) ?_
            clear hHeld
            go_wp2_with fail
            go_roundw
            case rel => exact ⟨_, cnt2, HRG23.out.kept (Below.grown0 HBZ1.out) (by simp) (by simp), HKR23.out.then HBZ1.out⟩
            case measure => rw [(HRG23.out.kept (Below.grown0 HBZ1.out) (by simp) (by simp)).left_eq, HRG.out.left_eq]; exact hlt2
end Go.Proofs.Ytedfepnekjjmnab
