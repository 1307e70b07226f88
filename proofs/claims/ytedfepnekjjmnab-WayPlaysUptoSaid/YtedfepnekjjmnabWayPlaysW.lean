/-
  WayPlays: the walk. No condition but the bound.
-/
import Derived.Deep.CutBlock
import Derived.Deep.DeepCutAuto
import Derived.Test.YtedfepnekjjmnabJg
import Derived.Test.YtedfepnekjjmnabJf
import Derived.Test.YtedfepnekjjmnabJc
namespace Go.Proofs.Ytedfepnekjjmnab
open Go.RowKit Go.Maps
set_option linter.unusedSimpArgs false
set_option linter.unusedVariables false
set_option maxRecDepth 100000

theorem zeroB : bulkL [zeroT] ≤ 1099511627776 := by simp [zeroT, bulkL_cons, bulkL]; decide
set_option maxHeartbeats 2000000 in
theorem wayplays_walk (l : List WC) (P : Nat → Prop) (w : World) (v : Value) (hl : RX wcE P P w l v) (hP : ∀ b, P b → b < w.heap.size) (hb : wcsB l ≤ 1048576) (hll : l.length ≤ 1048576) :
    Calls Try.prog 5 #[v] w fun e w' => e = .returned (.bool true) ∧ Below w.heap.size w w' := by
  have hwl : l.length < 9223372036854775808 := by omega
  obtain ⟨bm, hbm⟩ : ∃ b, b = w.heap.size := ⟨_, rfl⟩
  obtain ⟨B, hBe⟩ : ∃ b, b = w.heap.size + 1 := ⟨_, rfl⟩
  have HL := Lib.hid hl
  have HPB := Lib.hid hP
  obtain ⟨ar, capr, rfl, hcapr⟩ := hl.form
  clear hl hP
  go_enter Try.func5, Try.ntmps5
  go_wp2_with fail
  refine (wnew_c w).mono ?_
  rintro e w1 ⟨rfl, hB1, hM1, hK1, hs1⟩
  rw [← hBe] at hK1
  rw [← hbm] at hM1 hK1
  rw [← hBe]
  have HM1 := Lib.hid hM1
  have HK1 := Lib.hid hK1
  have HB1 := Lib.hid hB1
  have hb1 : w.heap.size ≤ bm := by omega
  have hb2 : bm < B := by omega
  have hb3 : B < w1.heap.size := by omega
  have hs1a := hB1.size
  clear hB1 hM1 hK1 hbm hBe hs1
  by_cases hbig : 100 < l.length
  · have hbigi : (100 : Int) < (l.length : Int) := by omega
    go_wp2_with fail
    go_ret
    exact ⟨rfl, HB1.out⟩
  have hbigi : ¬ (100 : Int) < (l.length : Int) := by omega
  go_wp2_with fail
  refine (newsys_c w1).mono ?_
  rintro e w2 ⟨g, m, p, q, rfl, hB2, hm1, hm2, hm3, hMG, hGB⟩
  have hBbm : B ≠ bm := by omega
  have hbmm : bm ≠ m := by omega
  have hgbm : g ≠ bm := by omega
  have hgm : g ≠ m := by omega
  have hBm : B ≠ m := by omega
  have HWP : Hid (WP [] P w B bm g m p q 0 w2) := Lib.hid ⟨P, [], [], 0, 0, fun _ h => h, (RQ.start P w HPB.out).step (below_step HB1.out HB1.out.size hB2) (by have := hB2.size; omega) (fun b hb => by
      unfold WF4 at hb
      rcases hb with rfl | rfl | rfl | rfl
      · exact ⟨.inr (by omega), by omega⟩
      · exact ⟨.inr (by omega), by omega⟩
      · exact ⟨.inr (by omega), by omega⟩
      · exact ⟨.inr (by omega), by omega⟩) fun b hb _ => (hB2.block b (by omega)).trans (HB1.out.block b hb), HM1.out.toQ (hB2.block bm (by omega)), hMG, HK1.out.step hB2, hGB, PInv.start, by omega, by omega⟩
  clear hB2 hMG hGB
  go_wp2_with fail
  go_loopw [20] (fun i wr => ∃ k : Nat, k ≤ l.length ∧ i = .int .i64 k ∧ WP [] P w B bm g m p q k wr) (fun i _ => l.length - (intOf i).toNat)
  case atStart => exact ⟨0, Nat.zero_le _, rfl, HWP.out⟩
  case round =>
    obtain ⟨k, hkl, rfl, P1, A1, A2, n1, n2, hPP, hR, e1, e2, hBK, hGK, hI, q1, q2⟩ := hrel
    obtain ⟨wr0, rfl⟩ : ∃ W : World, W = wr := ⟨_, rfl⟩
    have HPP := Lib.hid hPP
    have HR := Lib.hid hR
    have HI := Lib.hid hI
    clear hPP hR hI
    by_cases hlt : k < l.length
    · have hlti : (k : Int) < (l.length : Int) := by omega
      obtain ⟨lb, lo, rfl⟩ := HL.out.addr (by decide) (by omega)
      obtain ⟨cs0, hC, hcells⟩ := HL.out.elem k hlt
      have hmem := wcsB_mem (List.getElem_mem hlt)
      obtain ⟨x, hx⟩ : ∃ x, x = l[k] := ⟨_, rfl⟩
      rw [← hx] at hC hmem
      obtain ⟨ax, cx, rfl, hwa, hwc, hrt⟩ := hC
      have hbx : bulkL [x.t] ≤ 1048576 := by unfold wcB at hmem; omega
      have HWA := Lib.hid hwa
      have HWC := Lib.hid hwc
      have HTX := Lib.hid hrt
      have HRng : Hid (wr0.rangeAt lb (lo + k * 7) [.int .i64 x.kind, .int .i64 x.a, .int .i64 x.c, .int .i64 x.t.kind, .int .i64 x.t.n, .string x.t.name, .slice ax x.t.args.length cx]) := Lib.hid (fun i u hu => by
        have h := hcells i u hu
        have hlt2 := HPB.out lb h.1
        rw [World.cell?_of_block (w := w) (HR.out.bel.block lb hlt2)]
        exact h.2)
      clear hx hwa hwc hrt hcells hmem
      go_upto_region 10 with (refine load_at (o := ⟨some 23, .load 61 (.tmp 22), _, _, _, _⟩) 61 7 szWC _ Try.underlying61 rfl _ rfl rfl rfl HRng.out rfl ?_)
      obtain ⟨W12, hW12⟩ : ∃ W : World, W = wr0.alloc (.cells #[.int .i64 x.kind, .int .i64 x.a, .int .i64 x.c, .int .i64 x.t.kind, .int .i64 x.t.n, .string x.t.name, .slice ax x.t.args.length cx] 61) := ⟨_, rfl⟩
      obtain ⟨g6, hg6⟩ : ∃ g, g = wr0.heap.size := ⟨_, rfl⟩
      have HS12 : Hid (RQ P1 (WF4 B bm g m) w [(g6, [.int .i64 x.kind, .int .i64 x.a, .int .i64 x.c, .int .i64 x.t.kind, .int .i64 x.t.n, .string x.t.name, .slice ax x.t.args.length cx])] W12 (rowsE A1 ++ rowsE A2)) := Lib.hid (by rw [hW12]; exact HR.out.alloc #[.int .i64 x.kind, .int .i64 x.a, .int .i64 x.c, .int .i64 x.t.kind, .int .i64 x.t.n, .string x.t.name, .slice ax x.t.args.length cx] _ hg6)
      have hB12 : Below wr0.heap.size wr0 W12 := by rw [hW12]; exact below_alloc _ _
      rw [← hW12, ← hg6]
      clear hW12 hg6
      have y0 := HS12.out.cell (g := g6) (List.mem_cons_self ..) 0 _ rfl
      have y1 := HS12.out.cell (g := g6) (List.mem_cons_self ..) 1 _ rfl
      have y2 := HS12.out.cell (g := g6) (List.mem_cons_self ..) 2 _ rfl
      have y3 := HS12.out.cell (g := g6) (List.mem_cons_self ..) 3 _ rfl
      have y4 := HS12.out.cell (g := g6) (List.mem_cons_self ..) 4 _ rfl
      have y5 := HS12.out.cell (g := g6) (List.mem_cons_self ..) 5 _ rfl
      have y6 := HS12.out.cell (g := g6) (List.mem_cons_self ..) 6 _ rfl
      go_upto_region 11 with fail
      obtain ⟨W13, hW13⟩ : ∃ W : World, W = W12.alloc (.cells #[.int .i64 x.a, .int .i64 x.c] 62) := ⟨_, rfl⟩
      obtain ⟨g7, hg7⟩ : ∃ g, g = W12.heap.size := ⟨_, rfl⟩
      have HS13 : Hid (RQ P1 (WF4 B bm g m) w [(g7, [.int .i64 x.a, .int .i64 x.c]), (g6, [.int .i64 x.kind, .int .i64 x.a, .int .i64 x.c, .int .i64 x.t.kind, .int .i64 x.t.n, .string x.t.name, .slice ax x.t.args.length cx])] W13 (rowsE A1 ++ rowsE A2)) := Lib.hid (by rw [hW13]; exact HS12.out.alloc #[.int .i64 x.a, .int .i64 x.c] _ hg7)
      have hB13 : Below wr0.heap.size wr0 W13 := below_step hB12 hB12.size (by rw [hW13]; exact below_alloc _ _)
      rw [← hW13, ← hg7]
      clear hW13 hg7 hB12 y0 y1 y2 y3 y4 y5 y6
      have fhs : ∀ b, (WF4 B bm g m) b → W13.heap[b]? = wr0.heap[b]? := fun b hb => hB13.block b (HR.out.fh b hb).2.1
      have HE13 := Lib.hid (e1.toQ (fhs bm (by unfold WF4; simp)))
      have HG13 := Lib.hid (e2.toQ (fhs m (by unfold WF4; simp)))
      have HBk13 := Lib.hid (hBK.heap (fhs B (by unfold WF4; simp)))
      have HGk13 := Lib.hid (hGK.heap (fhs g (by unfold WF4; simp)))
      have HT13 := Lib.hid (HTX.out.to (fun b h _ => HPP.out b h) fun b hb' _ => HS13.out.bel.block b (HPB.out b hb'))
      have hs13 := hB13.size
      clear fhs hB13 e1 e2 hBK hGK HR HS12
      have y0 := HS13.out.cell (g := g6) (List.mem_cons_of_mem _ (List.mem_cons_self ..)) 0 _ rfl
      have y1 := HS13.out.cell (g := g6) (List.mem_cons_of_mem _ (List.mem_cons_self ..)) 1 _ rfl
      have y2 := HS13.out.cell (g := g6) (List.mem_cons_of_mem _ (List.mem_cons_self ..)) 2 _ rfl
      have y3 := HS13.out.cell (g := g6) (List.mem_cons_of_mem _ (List.mem_cons_self ..)) 3 _ rfl
      have y4 := HS13.out.cell (g := g6) (List.mem_cons_of_mem _ (List.mem_cons_self ..)) 4 _ rfl
      have y5 := HS13.out.cell (g := g6) (List.mem_cons_of_mem _ (List.mem_cons_self ..)) 5 _ rfl
      have y6 := HS13.out.cell (g := g6) (List.mem_cons_of_mem _ (List.mem_cons_self ..)) 6 _ rfl
      go_upto_block 2 with fail
      clear y0 y1 y2 y3 y4 y5 y6
      go_cut [8] (fun _ wx => WP [(g7, [.int .i64 x.a, .int .i64 x.c]), (g6, [.int .i64 x.kind, .int .i64 x.a, .int .i64 x.c, .int .i64 x.t.kind, .int .i64 x.t.n, .string x.t.name, .slice ax x.t.args.length cx])] P w B bm g m p q (k + 1) wx)
      case first =>
        by_cases hk0 : x.kind = 0
        · have b0 : (x.kind == 0) = true := by simpa using hk0
          clear hk0
          have y0 := HS13.out.cell (g := g6) (List.mem_cons_of_mem _ (List.mem_cons_self ..)) 0 _ rfl
          have y1 := HS13.out.cell (g := g6) (List.mem_cons_of_mem _ (List.mem_cons_self ..)) 1 _ rfl
          have y2 := HS13.out.cell (g := g6) (List.mem_cons_of_mem _ (List.mem_cons_self ..)) 2 _ rfl
          have y3 := HS13.out.cell (g := g6) (List.mem_cons_of_mem _ (List.mem_cons_self ..)) 3 _ rfl
          have y4 := HS13.out.cell (g := g6) (List.mem_cons_of_mem _ (List.mem_cons_self ..)) 4 _ rfl
          have y5 := HS13.out.cell (g := g6) (List.mem_cons_of_mem _ (List.mem_cons_self ..)) 5 _ rfl
          have y6 := HS13.out.cell (g := g6) (List.mem_cons_of_mem _ (List.mem_cons_self ..)) 6 _ rfl
          go_wp2_with fail
          refine (rputable_c x.t P1 W13 _ HT13.out (fun b hb' => (HS13.out.pb b hb').1) (by omega)).mono ?_
          rintro e w14 ⟨rfl, hB14⟩
          have HS14 := Lib.hid (HS13.out.below hB14)
          have HE14 := Lib.hid (HE13.out.toQ (hB14.block bm (HS13.out.fh bm (by unfold WF4; simp)).2.1))
          have HG14 := Lib.hid (HG13.out.toQ (hB14.block m (HS13.out.fh m (by unfold WF4; simp)).2.1))
          have HBk14 := Lib.hid (HBk13.out.step hB14)
          have HGk14 := Lib.hid (HGk13.out.step hB14)
          have hs14 := hB14.size
          clear hB14 y0 y1 y2 y3 y4 y5 y6
          obtain ⟨e0, he0⟩ : ∃ e0, e0 = putE x.t := ⟨_, rfl⟩
          have HE0 := Lib.hid he0
          rw [← he0]
          clear he0
          obtain ⟨z, hz⟩ : ∃ z, z = sendE A1 x.a x.c x.t := ⟨_, rfl⟩
          have HZ := Lib.hid hz
          clear hz
          have hm14 : m < w14.heap.size := (HS14.out.fh m (by unfold WF4; simp)).2.1
          go_upto_block 3 with fail
          go_cut [8] (fun s8 wx => s8 = .int .i64 z ∧ Below w14.heap.size w14 wx)
          case first =>
            have y0 := HS14.out.cell (g := g6) (List.mem_cons_of_mem _ (List.mem_cons_self ..)) 0 _ rfl
            have y1 := HS14.out.cell (g := g6) (List.mem_cons_of_mem _ (List.mem_cons_self ..)) 1 _ rfl
            have y2 := HS14.out.cell (g := g6) (List.mem_cons_of_mem _ (List.mem_cons_self ..)) 2 _ rfl
            have y3 := HS14.out.cell (g := g6) (List.mem_cons_of_mem _ (List.mem_cons_self ..)) 3 _ rfl
            have y4 := HS14.out.cell (g := g6) (List.mem_cons_of_mem _ (List.mem_cons_self ..)) 4 _ rfl
            have y5 := HS14.out.cell (g := g6) (List.mem_cons_of_mem _ (List.mem_cons_self ..)) 5 _ rfl
            have y6 := HS14.out.cell (g := g6) (List.mem_cons_of_mem _ (List.mem_cons_self ..)) 6 _ rfl
            cases ha : inB x.a 1 99
            · have hz1 : z = 1 := by rw [HZ.out]; unfold sendE; rw [if_pos (.inl (by rw [← inB_pid]; exact ha))]
              go_wp2_with fail
              refine (in_c x.a 1 99 _).mono ?_
              rintro e w15 ⟨rfl, rfl⟩
              rw [ha]
              go_wp2_with fail
              go_meet
              exact ⟨by rw [hz1], Below.refl _ _⟩
            cases hc : inB x.c 1 99
            · have hz1 : z = 1 := by rw [HZ.out]; unfold sendE; rw [if_pos (.inr (by rw [← inB_pid]; exact hc))]
              go_wp2_with fail
              refine (in_c x.a 1 99 _).mono ?_
              rintro e w15 ⟨rfl, rfl⟩
              rw [ha]
              go_wp2_with fail
              refine (in_c x.c 1 99 _).mono ?_
              rintro e w15 ⟨rfl, rfl⟩
              rw [hc]
              go_wp2_with fail
              go_meet
              exact ⟨by rw [hz1], Below.refl _ _⟩
            have hpid : ¬ (pidW x.a = false ∨ pidW x.c = false) := by rw [← inB_pid, ← inB_pid, ha, hc]; simp
            obtain ⟨a2, c2, hr2, -, -⟩ := (HS14.out.perm (List.perm_append_comm (l₁ := rowsE A1) (l₂ := rowsE A2))).rowAt (x.a, x.c)
            obtain ⟨L, hL⟩ : ∃ L, L = (listF A2 (x.a, x.c)).length := ⟨_, rfl⟩
            rw [← hL] at hr2
            rw [HI.out.ls] at hL
            have HR2 := Lib.hid hr2
            have HLL := Lib.hid hL
            clear hr2 hL
            have HLK : Hid (∀ w' : World, w'.heap[m]? = w14.heap[m]? → (Instr.lookup 59 (.map (some m)) (.agg #[.int .i64 x.a, .int .i64 x.c]) false).run Try.prog w' = .ok (.slice a2 L c2) w') := Lib.hid fun w' h => by
              have h1 := (HG14.out.toQ h).lookQ HWA.out HWC.out
              rw [HR2.out] at h1
              exact h1
            have HQ16 : Hid (∀ w' : World, Below w14.heap.size w14 w' → w'.heap[m]? = w14.heap[m]? ∧ w'.cell? ⟨g, 4, none⟩ = some (.map (some m)) ∧ w'.cell? ⟨g7, 0, none⟩ = some (.int .i64 x.a) ∧ w'.cell? ⟨g7, 1, none⟩ = some (.int .i64 x.c)) := Lib.hid fun w' h => ⟨h.block m hm14, (HGk14.out.step h).cell 4 _ rfl, (HS14.out.below h).cell (g := g7) (List.mem_cons_self ..) 0 _ rfl, (HS14.out.below h).cell (g := g7) (List.mem_cons_self ..) 1 _ rfl⟩
            have HPID := Lib.hid hpid
            clear hpid
            go_wp2_with fail
            refine (in_c x.a 1 99 _).mono ?_
            rintro e w15 ⟨rfl, rfl⟩
            rw [ha]
            go_wp2_with fail
            refine (in_c x.c 1 99 _).mono ?_
            rintro e w15 ⟨rfl, rfl⟩
            rw [hc]
            clear y0 y1 y2 y3 y4 y5 y6 ha hc
            by_cases hp : e0 = 0
            · have bp : (e0 == 0) = true := by simpa using hp
              have hsp := sendE_put HPID.out (HE0.out.symm.trans hp) A1
              have HP0 := Lib.hid hp
              clear hp
              by_cases h20 : L = 20
              · have b20 : ((L : Int) == 20) = true := by simp [h20]
                have hz2 : z = 2 := by rw [HZ.out, hsp, if_pos (HLL.out.symm.trans h20)]
                clear h20 hsp
                go_upto_region 16 with fail
                refine rg_start (fun w' => w'.heap[m]? = w14.heap[m]? ∧ w'.cell? ⟨g, 4, none⟩ = some (.map (some m)) ∧ w'.cell? ⟨g7, 0, none⟩ = some (.int .i64 x.a) ∧ w'.cell? ⟨g7, 1, none⟩ = some (.int .i64 x.c)) (by as_aux_lemma => kernel_rfl) (fun Wd h => HQ16.out _ h) ?_
                intro wz0 hB hWd hWd' hHeld
                have HB16 := Lib.hid hB
                clear hB
                refine rg_take (i := 0) (v := ?_) rfl (by as_aux_lemma => kernel_rfl) (by as_aux_lemma => kernel_rfl) (by as_aux_lemma => kernel_rfl) (by rfl) ?_ hHeld ?_
                rotate_left 1
                · intro w hSw; (try dsimp only at hSw); go_simp; try (with_reducible rfl)
                (try simp only [Act.put, List.setIfInBounds_toArray, List.set_cons_zero, List.set_cons_succ])
                refine rg_take (i := 1) (v := ?_) rfl (by as_aux_lemma => kernel_rfl) (by as_aux_lemma => kernel_rfl) (by as_aux_lemma => kernel_rfl) (by rfl) ?_ hHeld ?_
                rotate_left 1
                · intro w hSw; (try dsimp only at hSw); go_simp; try (with_reducible rfl)
                (try simp only [Act.put, List.setIfInBounds_toArray, List.set_cons_zero, List.set_cons_succ])
                refine rg_take (i := 2) (v := ?_) rfl (by as_aux_lemma => kernel_rfl) (by as_aux_lemma => kernel_rfl) (by as_aux_lemma => kernel_rfl) (by rfl) ?_ hHeld ?_
                rotate_left 1
                · intro w hSw; (try dsimp only at hSw); go_simp; try (with_reducible rfl)
                (try simp only [Act.put, List.setIfInBounds_toArray, List.set_cons_zero, List.set_cons_succ])
                refine rg_take (i := 3) (v := ?_) rfl (by as_aux_lemma => kernel_rfl) (by as_aux_lemma => kernel_rfl) (by as_aux_lemma => kernel_rfl) (by rfl) ?_ hHeld ?_
                rotate_left 1
                · intro w hSw; (try dsimp only at hSw); go_simp; try (with_reducible rfl)
                (try simp only [Act.put, List.setIfInBounds_toArray, List.set_cons_zero, List.set_cons_succ])
                refine rg_take (i := 4) (v := ?_) rfl (by as_aux_lemma => kernel_rfl) (by as_aux_lemma => kernel_rfl) (by as_aux_lemma => kernel_rfl) (by rfl) ?_ hHeld ?_
                rotate_left 1
                · intro w hSw; (try dsimp only at hSw); go_simp; try (with_reducible rfl)
                (try simp only [Act.put, List.setIfInBounds_toArray, List.set_cons_zero, List.set_cons_succ])
                refine rg_take (i := 5) (v := ?_) rfl (by as_aux_lemma => kernel_rfl) (by as_aux_lemma => kernel_rfl) (by as_aux_lemma => kernel_rfl) (by rfl) ?_ hHeld ?_
                rotate_left 1
                · intro w hSw; (try dsimp only at hSw); go_simp; try (with_reducible rfl)
                (try simp only [Act.put, List.setIfInBounds_toArray, List.set_cons_zero, List.set_cons_succ])
                refine rg_take (i := 6) (v := ?_) rfl (by as_aux_lemma => kernel_rfl) (by as_aux_lemma => kernel_rfl) (by as_aux_lemma => kernel_rfl) (by rfl) ?_ hHeld ?_
                rotate_left 1
                · intro w hSw; (try dsimp only at hSw); go_simp; try (with_reducible rfl)
                (try simp only [Act.put, List.setIfInBounds_toArray, List.set_cons_zero, List.set_cons_succ])
                refine rg_take (i := 7) (v := ?_) rfl (by as_aux_lemma => kernel_rfl) (by as_aux_lemma => kernel_rfl) (by as_aux_lemma => kernel_rfl) (by rfl) ?_ hHeld ?_
                rotate_left 1
                · intro w hSw; (try dsimp only at hSw); go_simp; try (with_reducible rfl)
                (try simp only [Act.put, List.setIfInBounds_toArray, List.set_cons_zero, List.set_cons_succ])
                refine rg_take (i := 8) (v := ?_) rfl (by as_aux_lemma => kernel_rfl) (by as_aux_lemma => kernel_rfl) (by as_aux_lemma => kernel_rfl) (by rfl) ?_ hHeld ?_
                rotate_left 1
                · intro w hSw; (try dsimp only at hSw); have hLK := HLK.out w hSw.1; go_simp; try (with_reducible rfl)
                (try simp only [Act.put, List.setIfInBounds_toArray, List.set_cons_zero, List.set_cons_succ])
                refine rg_take (i := 9) (v := ?_) rfl (by as_aux_lemma => kernel_rfl) (by as_aux_lemma => kernel_rfl) (by as_aux_lemma => kernel_rfl) (by rfl) ?_ hHeld ?_
                rotate_left 1
                · intro w hSw; (try dsimp only at hSw); go_simp; try (with_reducible rfl)
                (try simp only [Act.put, List.setIfInBounds_toArray, List.set_cons_zero, List.set_cons_succ])
                refine rg_take (i := 10) (v := ?_) rfl (by as_aux_lemma => kernel_rfl) (by as_aux_lemma => kernel_rfl) (by as_aux_lemma => kernel_rfl) (by rfl) ?_ hHeld ?_
                rotate_left 1
                · intro w hSw; (try dsimp only at hSw); go_simp; try (with_reducible rfl)
                (try simp only [Act.put, List.setIfInBounds_toArray, List.set_cons_zero, List.set_cons_succ])
                refine rg_take (i := 11) (v := ?_) rfl (by as_aux_lemma => kernel_rfl) (by as_aux_lemma => kernel_rfl) (by as_aux_lemma => kernel_rfl) (by rfl) ?_ hHeld ?_
                rotate_left 1
                · intro w hSw; (try dsimp only at hSw); go_simp; try (with_reducible rfl)
                (try simp only [Act.put, List.setIfInBounds_toArray, List.set_cons_zero, List.set_cons_succ])
                refine rg_take (i := 12) (v := ?_) rfl (by as_aux_lemma => kernel_rfl) (by as_aux_lemma => kernel_rfl) (by as_aux_lemma => kernel_rfl) (by rfl) ?_ hHeld ?_
                rotate_left 1
                · intro w hSw; (try dsimp only at hSw); go_simp; try (with_reducible rfl)
                (try simp only [Act.put, List.setIfInBounds_toArray, List.set_cons_zero, List.set_cons_succ])
                refine rg_done (by as_aux_lemma => kernel_rfl) ?_
                clear hHeld
                go_wp2_with fail
                go_meet
                exact ⟨by rw [hz2], HB16.out⟩
              · have b20 : ((L : Int) == 20) = false := by simp; omega
                have hz2 : z = e0 := by rw [HP0.out, HZ.out, hsp, if_neg (fun e => h20 (HLL.out.trans e))]
                clear h20 hsp
                go_upto_region 16 with fail
                refine rg_start (fun w' => w'.heap[m]? = w14.heap[m]? ∧ w'.cell? ⟨g, 4, none⟩ = some (.map (some m)) ∧ w'.cell? ⟨g7, 0, none⟩ = some (.int .i64 x.a) ∧ w'.cell? ⟨g7, 1, none⟩ = some (.int .i64 x.c)) (by as_aux_lemma => kernel_rfl) (fun Wd h => HQ16.out _ h) ?_
                intro wz0 hB hWd hWd' hHeld
                have HB16 := Lib.hid hB
                clear hB
                refine rg_take (i := 0) (v := ?_) rfl (by as_aux_lemma => kernel_rfl) (by as_aux_lemma => kernel_rfl) (by as_aux_lemma => kernel_rfl) (by rfl) ?_ hHeld ?_
                rotate_left 1
                · intro w hSw; (try dsimp only at hSw); go_simp; try (with_reducible rfl)
                (try simp only [Act.put, List.setIfInBounds_toArray, List.set_cons_zero, List.set_cons_succ])
                refine rg_take (i := 1) (v := ?_) rfl (by as_aux_lemma => kernel_rfl) (by as_aux_lemma => kernel_rfl) (by as_aux_lemma => kernel_rfl) (by rfl) ?_ hHeld ?_
                rotate_left 1
                · intro w hSw; (try dsimp only at hSw); go_simp; try (with_reducible rfl)
                (try simp only [Act.put, List.setIfInBounds_toArray, List.set_cons_zero, List.set_cons_succ])
                refine rg_take (i := 2) (v := ?_) rfl (by as_aux_lemma => kernel_rfl) (by as_aux_lemma => kernel_rfl) (by as_aux_lemma => kernel_rfl) (by rfl) ?_ hHeld ?_
                rotate_left 1
                · intro w hSw; (try dsimp only at hSw); go_simp; try (with_reducible rfl)
                (try simp only [Act.put, List.setIfInBounds_toArray, List.set_cons_zero, List.set_cons_succ])
                refine rg_take (i := 3) (v := ?_) rfl (by as_aux_lemma => kernel_rfl) (by as_aux_lemma => kernel_rfl) (by as_aux_lemma => kernel_rfl) (by rfl) ?_ hHeld ?_
                rotate_left 1
                · intro w hSw; (try dsimp only at hSw); go_simp; try (with_reducible rfl)
                (try simp only [Act.put, List.setIfInBounds_toArray, List.set_cons_zero, List.set_cons_succ])
                refine rg_take (i := 4) (v := ?_) rfl (by as_aux_lemma => kernel_rfl) (by as_aux_lemma => kernel_rfl) (by as_aux_lemma => kernel_rfl) (by rfl) ?_ hHeld ?_
                rotate_left 1
                · intro w hSw; (try dsimp only at hSw); go_simp; try (with_reducible rfl)
                (try simp only [Act.put, List.setIfInBounds_toArray, List.set_cons_zero, List.set_cons_succ])
                refine rg_take (i := 5) (v := ?_) rfl (by as_aux_lemma => kernel_rfl) (by as_aux_lemma => kernel_rfl) (by as_aux_lemma => kernel_rfl) (by rfl) ?_ hHeld ?_
                rotate_left 1
                · intro w hSw; (try dsimp only at hSw); go_simp; try (with_reducible rfl)
                (try simp only [Act.put, List.setIfInBounds_toArray, List.set_cons_zero, List.set_cons_succ])
                refine rg_take (i := 6) (v := ?_) rfl (by as_aux_lemma => kernel_rfl) (by as_aux_lemma => kernel_rfl) (by as_aux_lemma => kernel_rfl) (by rfl) ?_ hHeld ?_
                rotate_left 1
                · intro w hSw; (try dsimp only at hSw); go_simp; try (with_reducible rfl)
                (try simp only [Act.put, List.setIfInBounds_toArray, List.set_cons_zero, List.set_cons_succ])
                refine rg_take (i := 7) (v := ?_) rfl (by as_aux_lemma => kernel_rfl) (by as_aux_lemma => kernel_rfl) (by as_aux_lemma => kernel_rfl) (by rfl) ?_ hHeld ?_
                rotate_left 1
                · intro w hSw; (try dsimp only at hSw); go_simp; try (with_reducible rfl)
                (try simp only [Act.put, List.setIfInBounds_toArray, List.set_cons_zero, List.set_cons_succ])
                refine rg_take (i := 8) (v := ?_) rfl (by as_aux_lemma => kernel_rfl) (by as_aux_lemma => kernel_rfl) (by as_aux_lemma => kernel_rfl) (by rfl) ?_ hHeld ?_
                rotate_left 1
                · intro w hSw; (try dsimp only at hSw); have hLK := HLK.out w hSw.1; go_simp; try (with_reducible rfl)
                (try simp only [Act.put, List.setIfInBounds_toArray, List.set_cons_zero, List.set_cons_succ])
                refine rg_take (i := 9) (v := ?_) rfl (by as_aux_lemma => kernel_rfl) (by as_aux_lemma => kernel_rfl) (by as_aux_lemma => kernel_rfl) (by rfl) ?_ hHeld ?_
                rotate_left 1
                · intro w hSw; (try dsimp only at hSw); go_simp; try (with_reducible rfl)
                (try simp only [Act.put, List.setIfInBounds_toArray, List.set_cons_zero, List.set_cons_succ])
                refine rg_take (i := 10) (v := ?_) rfl (by as_aux_lemma => kernel_rfl) (by as_aux_lemma => kernel_rfl) (by as_aux_lemma => kernel_rfl) (by rfl) ?_ hHeld ?_
                rotate_left 1
                · intro w hSw; (try dsimp only at hSw); go_simp; try (with_reducible rfl)
                (try simp only [Act.put, List.setIfInBounds_toArray, List.set_cons_zero, List.set_cons_succ])
                refine rg_take (i := 11) (v := ?_) rfl (by as_aux_lemma => kernel_rfl) (by as_aux_lemma => kernel_rfl) (by as_aux_lemma => kernel_rfl) (by rfl) ?_ hHeld ?_
                rotate_left 1
                · intro w hSw; (try dsimp only at hSw); go_simp; try (with_reducible rfl)
                (try simp only [Act.put, List.setIfInBounds_toArray, List.set_cons_zero, List.set_cons_succ])
                refine rg_take (i := 12) (v := ?_) rfl (by as_aux_lemma => kernel_rfl) (by as_aux_lemma => kernel_rfl) (by as_aux_lemma => kernel_rfl) (by rfl) ?_ hHeld ?_
                rotate_left 1
                · intro w hSw; (try dsimp only at hSw); go_simp; try (with_reducible rfl)
                (try simp only [Act.put, List.setIfInBounds_toArray, List.set_cons_zero, List.set_cons_succ])
                refine rg_done (by as_aux_lemma => kernel_rfl) ?_
                clear hHeld
                go_wp2_with fail
                go_meet
                exact ⟨by rw [hz2], HB16.out⟩
            · have bp : (e0 == 0) = false := by simpa using hp
              have hz2 : z = e0 := by rw [HZ.out, HE0.out]; exact sendE_bad HPID.out (by rw [← HE0.out]; exact hp) A1
              clear hp
              go_upto_region 16 with fail
              refine rg_start (fun w' => w'.heap[m]? = w14.heap[m]? ∧ w'.cell? ⟨g, 4, none⟩ = some (.map (some m)) ∧ w'.cell? ⟨g7, 0, none⟩ = some (.int .i64 x.a) ∧ w'.cell? ⟨g7, 1, none⟩ = some (.int .i64 x.c)) (by as_aux_lemma => kernel_rfl) (fun Wd h => HQ16.out _ h) ?_
              intro wz0 hB hWd hWd' hHeld
              have HB16 := Lib.hid hB
              clear hB
              refine rg_take (i := 0) (v := ?_) rfl (by as_aux_lemma => kernel_rfl) (by as_aux_lemma => kernel_rfl) (by as_aux_lemma => kernel_rfl) (by rfl) ?_ hHeld ?_
              rotate_left 1
              · intro w hSw; (try dsimp only at hSw); go_simp; try (with_reducible rfl)
              (try simp only [Act.put, List.setIfInBounds_toArray, List.set_cons_zero, List.set_cons_succ])
              refine rg_take (i := 1) (v := ?_) rfl (by as_aux_lemma => kernel_rfl) (by as_aux_lemma => kernel_rfl) (by as_aux_lemma => kernel_rfl) (by rfl) ?_ hHeld ?_
              rotate_left 1
              · intro w hSw; (try dsimp only at hSw); go_simp; try (with_reducible rfl)
              (try simp only [Act.put, List.setIfInBounds_toArray, List.set_cons_zero, List.set_cons_succ])
              refine rg_take (i := 2) (v := ?_) rfl (by as_aux_lemma => kernel_rfl) (by as_aux_lemma => kernel_rfl) (by as_aux_lemma => kernel_rfl) (by rfl) ?_ hHeld ?_
              rotate_left 1
              · intro w hSw; (try dsimp only at hSw); go_simp; try (with_reducible rfl)
              (try simp only [Act.put, List.setIfInBounds_toArray, List.set_cons_zero, List.set_cons_succ])
              refine rg_off (i := 3) rfl (by as_aux_lemma => kernel_rfl) (by as_aux_lemma => kernel_rfl) (by as_aux_lemma => kernel_rfl) (by rfl) hHeld ?_
              (try simp only [Act.put, List.setIfInBounds_toArray, List.set_cons_zero, List.set_cons_succ])
              refine rg_off (i := 4) rfl (by as_aux_lemma => kernel_rfl) (by as_aux_lemma => kernel_rfl) (by as_aux_lemma => kernel_rfl) (by rfl) hHeld ?_
              (try simp only [Act.put, List.setIfInBounds_toArray, List.set_cons_zero, List.set_cons_succ])
              refine rg_off (i := 5) rfl (by as_aux_lemma => kernel_rfl) (by as_aux_lemma => kernel_rfl) (by as_aux_lemma => kernel_rfl) (by rfl) hHeld ?_
              (try simp only [Act.put, List.setIfInBounds_toArray, List.set_cons_zero, List.set_cons_succ])
              refine rg_off (i := 6) rfl (by as_aux_lemma => kernel_rfl) (by as_aux_lemma => kernel_rfl) (by as_aux_lemma => kernel_rfl) (by rfl) hHeld ?_
              (try simp only [Act.put, List.setIfInBounds_toArray, List.set_cons_zero, List.set_cons_succ])
              refine rg_off (i := 7) rfl (by as_aux_lemma => kernel_rfl) (by as_aux_lemma => kernel_rfl) (by as_aux_lemma => kernel_rfl) (by rfl) hHeld ?_
              (try simp only [Act.put, List.setIfInBounds_toArray, List.set_cons_zero, List.set_cons_succ])
              refine rg_off (i := 8) rfl (by as_aux_lemma => kernel_rfl) (by as_aux_lemma => kernel_rfl) (by as_aux_lemma => kernel_rfl) (by rfl) hHeld ?_
              (try simp only [Act.put, List.setIfInBounds_toArray, List.set_cons_zero, List.set_cons_succ])
              refine rg_off (i := 9) rfl (by as_aux_lemma => kernel_rfl) (by as_aux_lemma => kernel_rfl) (by as_aux_lemma => kernel_rfl) (by rfl) hHeld ?_
              (try simp only [Act.put, List.setIfInBounds_toArray, List.set_cons_zero, List.set_cons_succ])
              refine rg_off (i := 10) rfl (by as_aux_lemma => kernel_rfl) (by as_aux_lemma => kernel_rfl) (by as_aux_lemma => kernel_rfl) (by rfl) hHeld ?_
              (try simp only [Act.put, List.setIfInBounds_toArray, List.set_cons_zero, List.set_cons_succ])
              refine rg_take (i := 11) (v := ?_) rfl (by as_aux_lemma => kernel_rfl) (by as_aux_lemma => kernel_rfl) (by as_aux_lemma => kernel_rfl) (by rfl) ?_ hHeld ?_
              rotate_left 1
              · intro w hSw; (try dsimp only at hSw); go_simp; try (with_reducible rfl)
              (try simp only [Act.put, List.setIfInBounds_toArray, List.set_cons_zero, List.set_cons_succ])
              refine rg_take (i := 12) (v := ?_) rfl (by as_aux_lemma => kernel_rfl) (by as_aux_lemma => kernel_rfl) (by as_aux_lemma => kernel_rfl) (by rfl) ?_ hHeld ?_
              rotate_left 1
              · intro w hSw; (try dsimp only at hSw); go_simp; try (with_reducible rfl)
              (try simp only [Act.put, List.setIfInBounds_toArray, List.set_cons_zero, List.set_cons_succ])
              refine rg_done (by as_aux_lemma => kernel_rfl) ?_
              clear hHeld
              go_wp2_with fail
              go_meet
              exact ⟨by rw [hz2], HB16.out⟩
          case rest =>
            obtain ⟨rfl, hBc⟩ := hcut
            obtain ⟨w16, rfl⟩ : ∃ W : World, W = wc := ⟨_, rfl⟩
            have bz : (z != z) = false := by simp
            have HS16 := Lib.hid (HS14.out.below hBc)
            have HE16 := Lib.hid (HE14.out.toQ (hBc.block bm (HS14.out.fh bm (by unfold WF4; simp)).2.1))
            have HG16 := Lib.hid (HG14.out.toQ (hBc.block m (HS14.out.fh m (by unfold WF4; simp)).2.1))
            have HBk16 := Lib.hid (HBk14.out.step hBc)
            have HGk16 := Lib.hid (HGk14.out.step hBc)
            have hs16 := hBc.size
            have HT16 := Lib.hid (HTX.out.to (fun b h _ => HPP.out b h) fun b hb' _ => HS16.out.bel.block b (HPB.out b hb'))
            clear hBc
            have y0 := HS16.out.cell (g := g6) (List.mem_cons_of_mem _ (List.mem_cons_self ..)) 0 _ rfl
            have y1 := HS16.out.cell (g := g6) (List.mem_cons_of_mem _ (List.mem_cons_self ..)) 1 _ rfl
            have y2 := HS16.out.cell (g := g6) (List.mem_cons_of_mem _ (List.mem_cons_self ..)) 2 _ rfl
            have y3 := HS16.out.cell (g := g6) (List.mem_cons_of_mem _ (List.mem_cons_self ..)) 3 _ rfl
            have y4 := HS16.out.cell (g := g6) (List.mem_cons_of_mem _ (List.mem_cons_self ..)) 4 _ rfl
            have y5 := HS16.out.cell (g := g6) (List.mem_cons_of_mem _ (List.mem_cons_self ..)) 5 _ rfl
            have y6 := HS16.out.cell (g := g6) (List.mem_cons_of_mem _ (List.mem_cons_self ..)) 6 _ rfl
            go_wp2_with fail
            refine (wsend_c P1 (WF4 B bm g m) w [(g7, [.int .i64 x.a, .int .i64 x.c]), (g6, [.int .i64 x.kind, .int .i64 x.a, .int .i64 x.c, .int .i64 x.t.kind, .int .i64 x.t.n, .string x.t.name, .slice ax x.t.args.length cx])] w16 (rowsE A2) A1 B bm n1 x.a x.c x.t _ HS16.out HE16.out HBk16.out (by unfold WF4; simp) (by unfold WF4; simp) hBbm HT16.out (by omega) (by omega) (HE16.out.len HI.out.l20)).mono ?_
            rintro e ws ⟨rfl, hss, hfs, P4, hP4, hsend⟩
            have HGs0 := Lib.hid (HG16.out.toQ (hfs m (by unfold WF4; simp) hbmm.symm))
            have HGs := Lib.hid (HGk16.out.heap (hfs g (by unfold WF4; simp) hgbm))
            have HBs := Lib.hid (HBk16.out.heap (hfs B (by unfold WF4; simp) hBbm))
            have HPPx : Hid (∀ b, P b → P4 b) := Lib.hid fun b hb => hP4 b (HPP.out b hb)
            rw [← HZ.out] at hsend
            rw [← HZ.out]
            clear hfs hP4
            rcases hsend with ⟨hz0, hRs, hMs⟩ | ⟨hz0, B1, hsent1, hRs, hMs⟩
            · have b1 : (z == 0) = false := by simpa using hz0
              have HRs := Lib.hid hRs
              have HMs := Lib.hid hMs
              clear hRs hMs hz0
              go_wp2_with fail
              go_meet
              exact ⟨P4, A1, A2, n1, n2, HPPx.out, HRs.out, HMs.out, HGs0.out, HBs.out, HGs.out, HI.out, by omega, by omega⟩
            · have b1 : (z == 0) = true := by simpa using hz0
              have hl20 := sendE_ok (HZ.out.symm.trans hz0)
              have hpid := sendE_pid (HZ.out.symm.trans hz0)
              have HRs := Lib.hid hRs
              have HMs := Lib.hid hMs
              have HS1T := Lib.hid hsent1
              have HTs := Lib.hid (HTX.out.to (fun b h _ => HPPx.out b h) fun b hb' _ => hRs.bel.block b (HPB.out b hb'))
              obtain ⟨l1, l2, v0, l0, A', hspl, hsent, hrw, hl0, hent⟩ := send_splitG (F := (WF4 B bm g m)) (w0 := w) (rs := rowsE B1) x.t HGs0.out (show n2 < maxLen by unfold maxLen; omega) HWA.out HWC.out
              have HZs : Hid (RQ P4 (WF4 B bm g m) w [(g7, [.int .i64 x.a, .int .i64 x.c]), (g6, [.int .i64 x.kind, .int .i64 x.a, .int .i64 x.c, .int .i64 x.t.kind, .int .i64 x.t.n, .string x.t.name, .slice ax x.t.args.length cx])] ws (l1 ++ rT v0 l0 :: l2)) := Lib.hid (hspl _ _ _ (hRs.perm List.perm_append_comm))
              have HENT := Lib.hid hent
              have HRW := Lib.hid hrw
              have HSENT := Lib.hid hsent
              have hl0n : l0.length ≤ 20 := by rw [hl0, HI.out.ls]; exact HI.out.l20 _
              clear hRs hMs hz0 hsent1 hspl hrw hsent hl0 hent y0 y1 y2 y3 y4 y5 y6
              have HQ21 : Hid (∀ (w' : World) (rows : List Rw), RQ P4 (WF4 B bm g m) w [(g7, [.int .i64 x.a, .int .i64 x.c]), (g6, [.int .i64 x.kind, .int .i64 x.a, .int .i64 x.c, .int .i64 x.t.kind, .int .i64 x.t.n, .string x.t.name, .slice ax x.t.args.length cx])] w' rows → Blk w' g [.slice none 0 0, .int .i64 0, .int .i64 0, .map (some p), .map (some m), .map (some q), .slice none 0 0] → w'.cell? ⟨g, 4, none⟩ = some (.map (some m)) ∧ w'.cell? ⟨g7, 0, none⟩ = some (.int .i64 x.a) ∧ w'.cell? ⟨g7, 1, none⟩ = some (.int .i64 x.c) ∧ w'.cell? ⟨g6, 3, none⟩ = some (.int .i64 x.t.kind) ∧ w'.cell? ⟨g6, 4, none⟩ = some (.int .i64 x.t.n) ∧ w'.cell? ⟨g6, 5, none⟩ = some (.string x.t.name) ∧ w'.cell? ⟨g6, 6, none⟩ = some (.slice ax x.t.args.length cx)) := Lib.hid fun w' rows h hg => ⟨hg.cell 4 _ rfl, h.cell (List.mem_cons_self ..) 0 _ rfl, h.cell (List.mem_cons_self ..) 1 _ rfl, h.cell (List.mem_cons_of_mem _ (List.mem_cons_self ..)) 3 _ rfl, h.cell (List.mem_cons_of_mem _ (List.mem_cons_self ..)) 4 _ rfl, h.cell (List.mem_cons_of_mem _ (List.mem_cons_self ..)) 5 _ rfl, h.cell (List.mem_cons_of_mem _ (List.mem_cons_self ..)) 6 _ rfl⟩
              go_upto_region 21 with fail
              refine rg_start (fun w' => w'.cell? ⟨g, 4, none⟩ = some (.map (some m)) ∧ w'.cell? ⟨g7, 0, none⟩ = some (.int .i64 x.a) ∧ w'.cell? ⟨g7, 1, none⟩ = some (.int .i64 x.c) ∧ w'.cell? ⟨g6, 3, none⟩ = some (.int .i64 x.t.kind) ∧ w'.cell? ⟨g6, 4, none⟩ = some (.int .i64 x.t.n) ∧ w'.cell? ⟨g6, 5, none⟩ = some (.string x.t.name) ∧ w'.cell? ⟨g6, 6, none⟩ = some (.slice ax x.t.args.length cx)) (by as_aux_lemma => kernel_rfl) (fun Wd h => HQ21.out _ _ (HZs.out.below h) (HGs.out.step h)) ?_
              intro wz0 hB hWd hWd' hHeld
              have HZ0 := Lib.hid (HZs.out.below hB)
              have EG0 := Lib.hid (HGs.out.step hB)
              have EM0 : Hid (wz0.heap[m]? = ws.heap[m]?) := Lib.hid (hB.block m (HRs.out.fh m (by unfold WF4; simp)).2.1)
              have EF0 : Hid (∀ b, (WF4 B bm g m) b → b ≠ m → wz0.heap[b]? = ws.heap[b]?) := Lib.hid fun b hf hn => hB.block b (HRs.out.fh b hf).2.1
              have HC0 := Lib.hid (HTs.out.below hB)
              clear hB
              refine rg_take (i := 0) (v := ?_) rfl (by as_aux_lemma => kernel_rfl) (by as_aux_lemma => kernel_rfl) (by as_aux_lemma => kernel_rfl) (by rfl) ?_ hHeld ?_
              rotate_left 1
              · intro w hSw; (try dsimp only at hSw); go_simp; try (with_reducible rfl)
              (try simp only [Act.put, List.setIfInBounds_toArray, List.set_cons_zero, List.set_cons_succ])
              refine rg_take (i := 1) (v := ?_) rfl (by as_aux_lemma => kernel_rfl) (by as_aux_lemma => kernel_rfl) (by as_aux_lemma => kernel_rfl) (by rfl) ?_ hHeld ?_
              rotate_left 1
              · intro w hSw; (try dsimp only at hSw); go_simp; try (with_reducible rfl)
              (try simp only [Act.put, List.setIfInBounds_toArray, List.set_cons_zero, List.set_cons_succ])
              refine rg_take (i := 2) (v := ?_) rfl (by as_aux_lemma => kernel_rfl) (by as_aux_lemma => kernel_rfl) (by as_aux_lemma => kernel_rfl) (by rfl) ?_ hHeld ?_
              rotate_left 1
              · intro w hSw; (try dsimp only at hSw); go_simp; try (with_reducible rfl)
              (try simp only [Act.put, List.setIfInBounds_toArray, List.set_cons_zero, List.set_cons_succ])
              refine rg_take (i := 3) (v := ?_) rfl (by as_aux_lemma => kernel_rfl) (by as_aux_lemma => kernel_rfl) (by as_aux_lemma => kernel_rfl) (by rfl) ?_ hHeld ?_
              rotate_left 1
              · intro w hSw; (try dsimp only at hSw); go_simp; try (with_reducible rfl)
              (try simp only [Act.put, List.setIfInBounds_toArray, List.set_cons_zero, List.set_cons_succ])
              refine rg_take (i := 4) (v := ?_) rfl (by as_aux_lemma => kernel_rfl) (by as_aux_lemma => kernel_rfl) (by as_aux_lemma => kernel_rfl) (by rfl) ?_ hHeld ?_
              rotate_left 1
              · intro w hSw; (try dsimp only at hSw); go_simp; try (with_reducible rfl)
              (try simp only [Act.put, List.setIfInBounds_toArray, List.set_cons_zero, List.set_cons_succ])
              refine rg_take (i := 5) (v := ?_) rfl (by as_aux_lemma => kernel_rfl) (by as_aux_lemma => kernel_rfl) (by as_aux_lemma => kernel_rfl) (by rfl) ?_ hHeld ?_
              rotate_left 1
              · intro w hSw; (try dsimp only at hSw); go_simp; try (with_reducible rfl)
              (try simp only [Act.put, List.setIfInBounds_toArray, List.set_cons_zero, List.set_cons_succ])
              refine rg_take (i := 6) (v := ?_) rfl (by as_aux_lemma => kernel_rfl) (by as_aux_lemma => kernel_rfl) (by as_aux_lemma => kernel_rfl) (by rfl) ?_ hHeld ?_
              rotate_left 1
              · intro w hSw; (try dsimp only at hSw); go_simp; try (with_reducible rfl)
              (try simp only [Act.put, List.setIfInBounds_toArray, List.set_cons_zero, List.set_cons_succ])
              refine rg_only (i := 7) rfl (by as_aux_lemma => kernel_rfl) (by rfl) (fun K hK => ?_)
              refine build1 _ rfl (by rfl) ?_
              obtain ⟨wz1, hwz⟩ : ∃ W : World, W = wz0.alloc (.cells #[.int .i64 x.t.kind, .int .i64 x.t.n, .string x.t.name, .slice ax x.t.args.length cx] 24) := ⟨_, rfl⟩
              obtain ⟨gz, hgz⟩ : ∃ g, g = wz0.heap.size := ⟨_, rfl⟩
              have hBz : Below wz0.heap.size wz0 wz1 := by rw [hwz]; exact below_alloc _ _
              have HZ1 : Hid (RQ P4 (WF4 B bm g m) w ((gz, [.int .i64 x.t.kind, .int .i64 x.t.n, .string x.t.name, .slice ax x.t.args.length cx]) :: [(g7, [.int .i64 x.a, .int .i64 x.c]), (g6, [.int .i64 x.kind, .int .i64 x.a, .int .i64 x.c, .int .i64 x.t.kind, .int .i64 x.t.n, .string x.t.name, .slice ax x.t.args.length cx])]) wz1 (l1 ++ rT v0 l0 :: l2)) := Lib.hid (by rw [hwz]; exact HZ0.out.alloc #[.int .i64 x.t.kind, .int .i64 x.t.n, .string x.t.name, .slice ax x.t.args.length cx] _ hgz)
              have HC1 := Lib.hid (HC0.out.below hBz)
              have hzs1 := hBz.size
              have EG1 := Lib.hid (EG0.out.step hBz)
              have EM1 : Hid (wz1.heap[m]? = ws.heap[m]?) := Lib.hid ((hBz.block m (HZ0.out.fh m (by unfold WF4; simp)).2.1).trans EM0.out)
              have EF1 : Hid (∀ b, (WF4 B bm g m) b → b ≠ m → wz1.heap[b]? = ws.heap[b]?) := Lib.hid fun b hf hn => (hBz.block b (HZ0.out.fh b hf).2.1).trans (EF0.out b hf hn)
              show K _ (wz0.alloc (.cells #[.int .i64 x.t.kind, .int .i64 x.t.n, .string x.t.name, .slice ax x.t.args.length cx] 24))
              rw [← hwz, ← hgz]
              clear hwz hgz hBz
              refine hK.out _ _ (HQ21.out _ _ (HZ1.out.sub fun p hp => List.mem_cons_of_mem _ hp) EG1.out) (fun hHeld1 => ?_)
              clear hK K hHeld
              have hHeld := hHeld1
              clear hHeld1
              (try simp only [Act.put, List.setIfInBounds_toArray, List.set_cons_zero, List.set_cons_succ])
              refine rg_only (i := 8) rfl (by as_aux_lemma => kernel_rfl) (by rfl) (fun K hK => ?_)
              obtain ⟨sx, we, her, heg, hes, heb⟩ := HENT.out wz1 EM1.out
              refine wp_mapEntryQ _ _ rfl (by rfl) (by rfl) her ?_
              obtain ⟨wz2, hwz⟩ : ∃ W : World, W = we := ⟨_, rfl⟩
              have EE2 : Hid (wz2.heap[m]? = we.heap[m]?) := Lib.hid (by rw [hwz])
              rw [← hwz] at heg hes
              show K _ we
              rw [← hwz]
              have hzs2 : wz1.heap.size ≤ wz2.heap.size := heg.size
              have HEB := Lib.hid heb
              have HZ2 := Lib.hid (HZ1.out.entry (by unfold WF4; simp) heg)
              have EG2 := Lib.hid (EG1.out.heap (heg.block g (HZ1.out.fh g (by unfold WF4; simp)).2.1 (fun e => hgm (Option.some.inj e))))
              have EF2 : Hid (∀ b, (WF4 B bm g m) b → b ≠ m → wz2.heap[b]? = ws.heap[b]?) := Lib.hid fun b hf hn => (heg.block b (HZ1.out.fh b hf).2.1 (fun e => hn (Option.some.inj e))).trans (EF1.out b hf hn)
              have HC2 := Lib.hid (HC1.out.to (fun _ h _ => h) fun b hb' hl => heg.block b hl fun e => (HZ1.out.pb b hb').2.1 (by have e1 : b = m := Option.some.inj e; rw [e1]; unfold WF4; simp))
              clear her heg hes heb hwz
              refine hK.out _ _ (HQ21.out _ _ (HZ2.out.sub fun p hp => List.mem_cons_of_mem _ hp) EG2.out) (fun hHeld1 => ?_)
              clear hK K hHeld
              have hHeld := hHeld1
              clear hHeld1
              (try simp only [Act.put, List.setIfInBounds_toArray, List.set_cons_zero, List.set_cons_succ])
              refine rg_take (i := 9) (v := ?_) rfl (by as_aux_lemma => kernel_rfl) (by as_aux_lemma => kernel_rfl) (by as_aux_lemma => kernel_rfl) (by rfl) ?_ hHeld ?_
              rotate_left 1
              · intro w hSw; (try dsimp only at hSw); go_simp; try (with_reducible rfl)
              (try simp only [Act.put, List.setIfInBounds_toArray, List.set_cons_zero, List.set_cons_succ])
              refine rg_take (i := 11) (v := ?_) rfl (by as_aux_lemma => kernel_rfl) (by as_aux_lemma => kernel_rfl) (by as_aux_lemma => kernel_rfl) (by rfl) ?_ hHeld ?_
              rotate_left 1
              · intro w hSw; (try dsimp only at hSw); go_simp; try (with_reducible rfl)
              (try simp only [Act.put, List.setIfInBounds_toArray, List.set_cons_zero, List.set_cons_succ])
              refine rg_only (i := 10) rfl (by as_aux_lemma => kernel_rfl) (by rfl) (fun K hK => ?_)
              refine wp_growQ (w := wz2) _ _ termF rfl l1 l2 (v := v0) (xs := l0) (y := x.t) (g0 := gz) (c := [.int .i64 x.t.kind, .int .i64 x.t.n, .string x.t.name, .slice ax x.t.args.length cx]) (by rfl) (by rfl) HZ2.out (List.mem_cons_self ..) (termE_of HC2.out) rfl (by omega) ?_
              intro gn on cn wz3 hz hzg
              have HZ3 := Lib.hid hz
              have hzs3 := hzg.size
              have EE3 : Hid (wz3.heap[m]? = we.heap[m]?) := Lib.hid ((HZ2.out.stay hzg m (.inr (by unfold WF4; simp))).trans EE2.out)
              have EG3 := Lib.hid (EG2.out.heap (HZ2.out.stay hzg g (.inr (by unfold WF4; simp))))
              have EF3 : Hid (∀ b, (WF4 B bm g m) b → b ≠ m → wz3.heap[b]? = ws.heap[b]?) := Lib.hid fun b hf hn => (HZ2.out.stay hzg b (.inr hf)).trans (EF2.out b hf hn)
              clear hz hzg
              refine hK.out _ _ (HQ21.out _ _ (HZ3.out.sub fun p hp => List.mem_cons_of_mem _ hp) EG3.out) (fun hHeld1 => ?_)
              clear hK K hHeld
              have hHeld := hHeld1
              clear hHeld1
              (try simp only [Act.put, List.setIfInBounds_toArray, List.set_cons_zero, List.set_cons_succ])
              refine rg_only (i := 12) rfl (by as_aux_lemma => kernel_rfl) (by rfl) (fun K hK => ?_)
              obtain ⟨wz4, hsr, hsm, hsg, hss⟩ := HEB.out wz3 (.slice (some ⟨gn, on, none⟩) (l0.length + 1) cn) EE3.out
              refine wp_entryStoreQ _ _ _ rfl (by rfl) (by rfl) (by rfl) hsr ?_
              have HZ4 := Lib.hid (HZ3.out.entry (by unfold WF4; simp) hsg)
              have HMz := Lib.hid hsm
              have hzs4 : wz3.heap.size ≤ wz4.heap.size := hsg.size
              have EG4 := Lib.hid (EG3.out.heap (hsg.block g (HZ3.out.fh g (by unfold WF4; simp)).2.1 (fun e => hgm (Option.some.inj e))))
              have EF4 : Hid (∀ b, (WF4 B bm g m) b → b ≠ m → wz4.heap[b]? = ws.heap[b]?) := Lib.hid fun b hf hn => (hsg.block b (HZ3.out.fh b hf).2.1 (fun e => hn (Option.some.inj e))).trans (EF3.out b hf hn)
              clear hsr hsm hsg hss
              refine hK.out _ _ (HQ21.out _ _ (HZ4.out.sub fun p hp => List.mem_cons_of_mem _ hp) EG4.out) (fun hHeld1 => ?_)
              clear hK K hHeld
              have hHeld := hHeld1
              clear hHeld1
              (try simp only [Act.put, List.setIfInBounds_toArray, List.set_cons_zero, List.set_cons_succ])
              refine rg_done (by as_aux_lemma => kernel_rfl) ?_
              clear hHeld
              go_wp2_with fail
              go_meet
              have h9 : RQ P4 (WF4 B bm g m) w [(g7, [.int .i64 x.a, .int .i64 x.c]), (g6, [.int .i64 x.kind, .int .i64 x.a, .int .i64 x.c, .int .i64 x.t.kind, .int .i64 x.t.n, .string x.t.name, .slice ax x.t.args.length cx])] wz4 (rowsE (A' (.slice (some ⟨gn, on, none⟩) (l0.length + 1) cn)) ++ rowsE B1) := by rw [HRW.out]; exact HZ4.out.sub fun p hp => List.mem_cons_of_mem _ hp
              exact ⟨P4, B1, A' _, n1 + 1, n2 + 1, HPPx.out, h9.perm (List.perm_append_comm), HMs.out.toQ (EF4.out bm (by unfold WF4; simp) hbmm), HMz.out, HBs.out.heap (EF4.out B (by unfold WF4; simp) hBm), EG4.out, HI.out.send HS1T.out (HSENT.out _) hl20 (by omega) hpid, by omega, by omega⟩
        · have b0 : (x.kind == 0) = false := by simpa using hk0
          clear hk0
          by_cases hk1 : x.kind = 1
          · have b1 : (x.kind == 1) = true := by simpa using hk1
            clear hk1
            have y0 := HS13.out.cell (g := g6) (List.mem_cons_of_mem _ (List.mem_cons_self ..)) 0 _ rfl
            have y1 := HS13.out.cell (g := g6) (List.mem_cons_of_mem _ (List.mem_cons_self ..)) 1 _ rfl
            have y2 := HS13.out.cell (g := g6) (List.mem_cons_of_mem _ (List.mem_cons_self ..)) 2 _ rfl
            have y3 := HS13.out.cell (g := g6) (List.mem_cons_of_mem _ (List.mem_cons_self ..)) 3 _ rfl
            have y4 := HS13.out.cell (g := g6) (List.mem_cons_of_mem _ (List.mem_cons_self ..)) 4 _ rfl
            have y5 := HS13.out.cell (g := g6) (List.mem_cons_of_mem _ (List.mem_cons_self ..)) 5 _ rfl
            have y6 := HS13.out.cell (g := g6) (List.mem_cons_of_mem _ (List.mem_cons_self ..)) 6 _ rfl
            go_wp2_with fail
            refine (wtake_c P1 (WF4 B bm g m) w [(g7, [.int .i64 x.a, .int .i64 x.c]), (g6, [.int .i64 x.kind, .int .i64 x.a, .int .i64 x.c, .int .i64 x.t.kind, .int .i64 x.t.n, .string x.t.name, .slice ax x.t.args.length cx])] W13 (rowsE A2) A1 B bm n1 x.a x.c HS13.out HE13.out HBk13.out (by unfold WF4; simp) (by unfold WF4; simp) hBbm (by omega) HWA.out HWC.out (HE13.out.len HI.out.l20)).mono ?_
            rintro e ws ⟨hss, hfs, htake⟩
            have HGs0 := Lib.hid (HG13.out.toQ (hfs m (by unfold WF4; simp) hbmm.symm))
            have HGs := Lib.hid (HGk13.out.heap (hfs g (by unfold WF4; simp) hgbm))
            have HBs := Lib.hid (HBk13.out.heap (hfs B (by unfold WF4; simp) hBbm))
            clear hfs y0 y1 y2 y3 y4 y5 y6
            rcases htake with ⟨hnil, rfl, hRs, hMs⟩ | ⟨t, B1, vt, hT1, rfl, hvt, hRs, hMs⟩
            · have HRs := Lib.hid hRs
              have HMs := Lib.hid hMs
              clear hRs hMs
              go_upto_region 24 with fail
              obtain ⟨W18, hW18⟩ : ∃ W : World, W = ws.alloc (.cells #[.int .i64 0, .int .i64 0, .string ⟨#[]⟩, .slice none 0 0] 24) := ⟨_, rfl⟩
              obtain ⟨g9, hg9⟩ : ∃ g, g = ws.heap.size := ⟨_, rfl⟩
              have hB18 : Below ws.heap.size ws W18 := by rw [hW18]; exact below_alloc _ _
              have HS18 : Hid (RQ P1 (WF4 B bm g m) w [(g9, [.int .i64 0, .int .i64 0, .string ⟨#[]⟩, .slice none 0 0]), (g7, [.int .i64 x.a, .int .i64 x.c]), (g6, [.int .i64 x.kind, .int .i64 x.a, .int .i64 x.c, .int .i64 x.t.kind, .int .i64 x.t.n, .string x.t.name, .slice ax x.t.args.length cx])] W18 (rowsE A1 ++ rowsE A2)) := Lib.hid (by rw [hW18]; exact HRs.out.alloc #[.int .i64 0, .int .i64 0, .string ⟨#[]⟩, .slice none 0 0] _ hg9)
              have fhs : ∀ b, (WF4 B bm g m) b → W18.heap[b]? = ws.heap[b]? := fun b hb => hB18.block b (HRs.out.fh b hb).2.1
              have HE18 := Lib.hid (HMs.out.toQ (fhs bm (by unfold WF4; simp)))
              have HG18 := Lib.hid (HGs0.out.toQ (fhs m (by unfold WF4; simp)))
              have HBk18 := Lib.hid (HBs.out.heap (fhs B (by unfold WF4; simp)))
              have HGk18 := Lib.hid (HGs.out.heap (fhs g (by unfold WF4; simp)))
              have HBW18 := Lib.hid hB18
              have hs18 := hB18.size
              have hm18 : m < W18.heap.size := (HS18.out.fh m (by unfold WF4; simp)).2.1
              rw [← hW18, ← hg9]
              clear hW18 hg9 hB18 fhs
              obtain ⟨a2, c2, hr2, -, hg2a⟩ := (HS18.out.perm (List.perm_append_comm (l₁ := rowsE A1) (l₂ := rowsE A2))).rowAt (x.a, x.c)
              rw [HI.out.ls, hnil] at hr2
              have HR2 : Hid ((rawF A2 x.a x.c).getD (.slice none 0 0) = .slice a2 0 c2) := Lib.hid hr2
              clear hr2 hg2a
              have HLK : Hid (∀ w' : World, w'.heap[m]? = W18.heap[m]? → (Instr.lookup 59 (.map (some m)) (.agg #[.int .i64 x.a, .int .i64 x.c]) false).run Try.prog w' = .ok (.slice a2 0 c2) w') := Lib.hid fun w' h => by
                have h1 := (HG18.out.toQ h).lookQ HWA.out HWC.out
                rw [HR2.out] at h1
                exact h1
              have HQ24 : Hid (∀ w' : World, Below W18.heap.size W18 w' → w'.heap[m]? = W18.heap[m]? ∧ w'.cell? ⟨g, 4, none⟩ = some (.map (some m)) ∧ w'.cell? ⟨g7, 0, none⟩ = some (.int .i64 x.a) ∧ w'.cell? ⟨g7, 1, none⟩ = some (.int .i64 x.c)) := Lib.hid fun w' h => ⟨h.block m hm18, (HGk18.out.step h).cell 4 _ rfl, (HS18.out.below h).cell (g := g7) (List.mem_cons_of_mem _ (List.mem_cons_self ..)) 0 _ rfl, (HS18.out.below h).cell (g := g7) (List.mem_cons_of_mem _ (List.mem_cons_self ..)) 1 _ rfl⟩
              refine rg_start (fun w' => w'.heap[m]? = W18.heap[m]? ∧ w'.cell? ⟨g, 4, none⟩ = some (.map (some m)) ∧ w'.cell? ⟨g7, 0, none⟩ = some (.int .i64 x.a) ∧ w'.cell? ⟨g7, 1, none⟩ = some (.int .i64 x.c)) (by as_aux_lemma => kernel_rfl) (fun Wd h => HQ24.out _ h) ?_
              intro wd hB hWd hWd' hHeld
              have HBd := Lib.hid hB
              clear hB
              refine rg_take (i := 0) (v := ?_) rfl (by as_aux_lemma => kernel_rfl) (by as_aux_lemma => kernel_rfl) (by as_aux_lemma => kernel_rfl) (by rfl) ?_ hHeld ?_
              rotate_left 1
              · intro w hSw; (try dsimp only at hSw); go_simp; try (with_reducible rfl)
              (try simp only [Act.put, List.setIfInBounds_toArray, List.set_cons_zero, List.set_cons_succ])
              refine rg_take (i := 1) (v := ?_) rfl (by as_aux_lemma => kernel_rfl) (by as_aux_lemma => kernel_rfl) (by as_aux_lemma => kernel_rfl) (by rfl) ?_ hHeld ?_
              rotate_left 1
              · intro w hSw; (try dsimp only at hSw); go_simp; try (with_reducible rfl)
              (try simp only [Act.put, List.setIfInBounds_toArray, List.set_cons_zero, List.set_cons_succ])
              refine rg_take (i := 2) (v := ?_) rfl (by as_aux_lemma => kernel_rfl) (by as_aux_lemma => kernel_rfl) (by as_aux_lemma => kernel_rfl) (by rfl) ?_ hHeld ?_
              rotate_left 1
              · intro w hSw; (try dsimp only at hSw); go_simp; try (with_reducible rfl)
              (try simp only [Act.put, List.setIfInBounds_toArray, List.set_cons_zero, List.set_cons_succ])
              refine rg_take (i := 3) (v := ?_) rfl (by as_aux_lemma => kernel_rfl) (by as_aux_lemma => kernel_rfl) (by as_aux_lemma => kernel_rfl) (by rfl) ?_ hHeld ?_
              rotate_left 1
              · intro w hSw; (try dsimp only at hSw); go_simp; try (with_reducible rfl)
              (try simp only [Act.put, List.setIfInBounds_toArray, List.set_cons_zero, List.set_cons_succ])
              refine rg_take (i := 4) (v := ?_) rfl (by as_aux_lemma => kernel_rfl) (by as_aux_lemma => kernel_rfl) (by as_aux_lemma => kernel_rfl) (by rfl) ?_ hHeld ?_
              rotate_left 1
              · intro w hSw; (try dsimp only at hSw); go_simp; try (with_reducible rfl)
              (try simp only [Act.put, List.setIfInBounds_toArray, List.set_cons_zero, List.set_cons_succ])
              refine rg_take (i := 5) (v := ?_) rfl (by as_aux_lemma => kernel_rfl) (by as_aux_lemma => kernel_rfl) (by as_aux_lemma => kernel_rfl) (by rfl) ?_ hHeld ?_
              rotate_left 1
              · intro w hSw; (try dsimp only at hSw); have hLK := HLK.out w hSw.1; go_simp; try (with_reducible rfl)
              (try simp only [Act.put, List.setIfInBounds_toArray, List.set_cons_zero, List.set_cons_succ])
              refine rg_take (i := 6) (v := ?_) rfl (by as_aux_lemma => kernel_rfl) (by as_aux_lemma => kernel_rfl) (by as_aux_lemma => kernel_rfl) (by rfl) ?_ hHeld ?_
              rotate_left 1
              · intro w hSw; (try dsimp only at hSw); go_simp; try (with_reducible rfl)
              (try simp only [Act.put, List.setIfInBounds_toArray, List.set_cons_zero, List.set_cons_succ])
              refine rg_take (i := 7) (v := ?_) rfl (by as_aux_lemma => kernel_rfl) (by as_aux_lemma => kernel_rfl) (by as_aux_lemma => kernel_rfl) (by rfl) ?_ hHeld ?_
              rotate_left 1
              · intro w hSw; (try dsimp only at hSw); go_simp; try (with_reducible rfl)
              (try simp only [Act.put, List.setIfInBounds_toArray, List.set_cons_zero, List.set_cons_succ])
              refine rg_done (by as_aux_lemma => kernel_rfl) ?_
              clear hHeld
              have HSd := Lib.hid (HS18.out.below HBd.out)
              have y0 := HSd.out.cell (g := g9) (List.mem_cons_self ..) 0 _ rfl
              have y1 := HSd.out.cell (g := g9) (List.mem_cons_self ..) 1 _ rfl
              have y2 := HSd.out.cell (g := g9) (List.mem_cons_self ..) 2 _ rfl
              have y3 := HSd.out.cell (g := g9) (List.mem_cons_self ..) 3 _ rfl
              go_wp2_with fail
              refine (same_c zeroT zeroT (fun _ => False) wd _ _ (zeroT_rt _ _) (zeroT_rt _ _) zeroB zeroB).mono ?_
              rintro e we ⟨rfl, hBz⟩
              rw [sameT_ok]
              have HBe := Lib.hid (below_step HBd.out HBd.out.size hBz)
              clear hBz
              go_wp2_with fail
              go_meet
              have HSe := Lib.hid (HS18.out.below HBe.out)
              have HEe := Lib.hid (HE18.out.toQ (HBe.out.block bm (HS18.out.fh bm (by unfold WF4; simp)).2.1))
              have HGe := Lib.hid (HG18.out.toQ (HBe.out.block m (HS18.out.fh m (by unfold WF4; simp)).2.1))
              have HBke := Lib.hid (HBk18.out.step HBe.out)
              have HGke := Lib.hid (HGk18.out.step HBe.out)
              have hse := HBe.out.size
              exact ⟨P1, A1, A2, n1, n2, HPP.out, HSe.out.sub (fun p hp => List.mem_cons_of_mem _ hp), HEe.out, HGe.out, HBke.out, HGke.out, HI.out, by omega, by omega⟩
            · skip
              obtain ⟨atk, ctk, rfl, hctk, hrtk⟩ := hvt
              have htb : bulkL [t] ≤ 1048576 := HI.out.bk _ t hT1.mem
              have hl1 := hT1.list.1
              have HRs := Lib.hid hRs
              have HMs := Lib.hid hMs
              have HT1 := Lib.hid hT1
              have HTs : Hid (RT P1 ws t (.agg #[.int .i64 t.kind, .int .i64 t.n, .string t.name, .slice atk t.args.length ctk])) := Lib.hid ⟨atk, ctk, rfl, hctk, hrtk⟩
              rw [← HI.out.ls] at hl1
              obtain ⟨tl, htl⟩ : ∃ tl, tl = listF B1 (x.a, x.c) := ⟨_, rfl⟩
              rw [← htl] at hl1
              clear hRs hMs hT1 hctk hrtk htl
              obtain ⟨X, Y, vh, rfl, hX⟩ : ∃ X Y vh, A2 = X ++ ((x.a, x.c), vh, t :: tl) :: Y ∧ (x.a, x.c) ∉ keyE X := by
                cases he : entF A2 (x.a, x.c) with
                | none => rw [show listF A2 (x.a, x.c) = [] by unfold listF; rw [he]; rfl] at hl1; cases hl1
                | some y =>
                  obtain ⟨X, Y, e, hX⟩ := entF_some he
                  obtain ⟨v, l'⟩ := y
                  have e2 := (entF_listF he).1
                  rw [hl1] at e2
                  exact ⟨X, Y, v, by rw [e, ← e2], hX⟩
              have HX := Lib.hid hX
              clear hl1
              have hrow : ∀ v l', rowsE B1 ++ rowsE (X ++ ((x.a, x.c), v, l') :: Y) = (rowsE B1 ++ rowsE X) ++ rT v l' :: rowsE Y := fun v l' => by simp [rowsE]
              obtain ⟨gh, oh, ch, -, -, hvh, hch, -⟩ := (by have h := HRs.out; rw [hrow] at h; exact h : RQ P1 (WF4 B bm g m) w [(g7, [.int .i64 x.a, .int .i64 x.c]), (g6, [.int .i64 x.kind, .int .i64 x.a, .int .i64 x.c, .int .i64 x.t.kind, .int .i64 x.t.n, .string x.t.name, .slice ax x.t.args.length cx])] ws ((rowsE B1 ++ rowsE X) ++ rT vh (t :: tl) :: rowsE Y)).headR
              subst hvh
              go_upto_region 24 with fail
              obtain ⟨W18, hW18⟩ : ∃ W : World, W = ws.alloc (.cells #[.int .i64 t.kind, .int .i64 t.n, .string t.name, .slice atk t.args.length ctk] 24) := ⟨_, rfl⟩
              obtain ⟨g9, hg9⟩ : ∃ g, g = ws.heap.size := ⟨_, rfl⟩
              have hB18 : Below ws.heap.size ws W18 := by rw [hW18]; exact below_alloc _ _
              have HS18 : Hid (RQ P1 (WF4 B bm g m) w [(g9, [.int .i64 t.kind, .int .i64 t.n, .string t.name, .slice atk t.args.length ctk]), (g7, [.int .i64 x.a, .int .i64 x.c]), (g6, [.int .i64 x.kind, .int .i64 x.a, .int .i64 x.c, .int .i64 x.t.kind, .int .i64 x.t.n, .string x.t.name, .slice ax x.t.args.length cx])] W18 (rowsE B1 ++ rowsE (X ++ ((x.a, x.c), .slice (some ⟨gh, oh, none⟩) (tl.length + 1) ch, t :: tl) :: Y))) := Lib.hid (by rw [hW18]; exact HRs.out.alloc #[.int .i64 t.kind, .int .i64 t.n, .string t.name, .slice atk t.args.length ctk] _ hg9)
              have fhs : ∀ b, (WF4 B bm g m) b → W18.heap[b]? = ws.heap[b]? := fun b hb => hB18.block b (HRs.out.fh b hb).2.1
              have HE18 := Lib.hid (HMs.out.toQ (fhs bm (by unfold WF4; simp)))
              have HG18 := Lib.hid (HGs0.out.toQ (fhs m (by unfold WF4; simp)))
              have HBk18 := Lib.hid (HBs.out.heap (fhs B (by unfold WF4; simp)))
              have HGk18 := Lib.hid (HGs.out.heap (fhs g (by unfold WF4; simp)))
              have HBW18 := Lib.hid hB18
              have hs18 := hB18.size
              have hm18 : m < W18.heap.size := (HS18.out.fh m (by unfold WF4; simp)).2.1
              rw [← hW18, ← hg9]
              clear hW18 hg9 hB18 fhs
              obtain ⟨a2, c2, hr2, -, hg2a⟩ := (HS18.out.perm (List.perm_append_comm (l₁ := rowsE B1) (l₂ := rowsE (X ++ ((x.a, x.c), .slice (some ⟨gh, oh, none⟩) (tl.length + 1) ch, t :: tl) :: Y)))).rowAt (x.a, x.c)
              have hr2' : (rawF (X ++ ((x.a, x.c), .slice (some ⟨gh, oh, none⟩) (tl.length + 1) ch, t :: tl) :: Y) x.a x.c).getD (.slice none 0 0) = .slice (some ⟨gh, oh, none⟩) (tl.length + 1) ch := by rw [rawF_at (k := (x.a, x.c)) HX.out]; rfl
              have HR2 := Lib.hid hr2'
              clear hr2 hr2' hg2a
              have HLK : Hid (∀ w' : World, w'.heap[m]? = W18.heap[m]? → (Instr.lookup 59 (.map (some m)) (.agg #[.int .i64 x.a, .int .i64 x.c]) false).run Try.prog w' = .ok (.slice (some ⟨gh, oh, none⟩) (tl.length + 1) ch) w') := Lib.hid fun w' h => by
                have h1 := (HG18.out.toQ h).lookQ HWA.out HWC.out
                rw [HR2.out] at h1
                exact h1
              have HSL : Hid (RQ P1 (WF4 B bm g m) w [(g9, [.int .i64 t.kind, .int .i64 t.n, .string t.name, .slice atk t.args.length ctk]), (g7, [.int .i64 x.a, .int .i64 x.c]), (g6, [.int .i64 x.kind, .int .i64 x.a, .int .i64 x.c, .int .i64 x.t.kind, .int .i64 x.t.n, .string x.t.name, .slice ax x.t.args.length cx])] W18 ((rowsE B1 ++ rowsE X) ++ rT (.slice (some ⟨gh, oh, none⟩) (tl.length + 1) ch) (t :: tl) :: rowsE Y)) := Lib.hid (by have h := HS18.out; rw [hrow] at h; exact h)
              obtain ⟨gq, oq, cq, ah, cah, hvq, -, x0, x1, x2, x3, hrt⟩ := HSL.out.headR
              cases hvq
              have HTT := Lib.hid (HTs.out.below HBW18.out)
              have HUU := Lib.hid hrt
              have HX0 : Hid (W18.cell? ⟨gh, oh, none⟩ = some (.int .i64 t.kind) ∧ W18.cell? ⟨gh, oh + 1, none⟩ = some (.int .i64 t.n) ∧ W18.cell? ⟨gh, oh + 2, none⟩ = some (.string t.name) ∧ W18.cell? ⟨gh, oh + 3, none⟩ = some (.slice ah t.args.length cah)) := Lib.hid ⟨x0, x1, x2, x3⟩
              have hghl : gh < W18.heap.size := World.block_lt_of_cell? W18 _ x0
              clear hrt x0 x1 x2 x3
              have HQ24 : Hid (∀ w' : World, Below W18.heap.size W18 w' → w'.heap[m]? = W18.heap[m]? ∧ w'.cell? ⟨g, 4, none⟩ = some (.map (some m)) ∧ w'.cell? ⟨g7, 0, none⟩ = some (.int .i64 x.a) ∧ w'.cell? ⟨g7, 1, none⟩ = some (.int .i64 x.c)) := Lib.hid fun w' h => ⟨h.block m hm18, (HGk18.out.step h).cell 4 _ rfl, (HS18.out.below h).cell (g := g7) (List.mem_cons_of_mem _ (List.mem_cons_self ..)) 0 _ rfl, (HS18.out.below h).cell (g := g7) (List.mem_cons_of_mem _ (List.mem_cons_self ..)) 1 _ rfl⟩
              have HQ27 : Hid (∀ w' : World, Below W18.heap.size W18 w' → w'.heap[m]? = W18.heap[m]? ∧ w'.cell? ⟨g, 4, none⟩ = some (.map (some m)) ∧ w'.cell? ⟨g7, 0, none⟩ = some (.int .i64 x.a) ∧ w'.cell? ⟨g7, 1, none⟩ = some (.int .i64 x.c) ∧ w'.cell? ⟨g9, 0, none⟩ = some (.int .i64 t.kind) ∧ w'.cell? ⟨g9, 1, none⟩ = some (.int .i64 t.n) ∧ w'.cell? ⟨g9, 2, none⟩ = some (.string t.name) ∧ w'.cell? ⟨g9, 3, none⟩ = some (.slice atk t.args.length ctk) ∧ w'.cell? ⟨gh, oh, none⟩ = some (.int .i64 t.kind) ∧ w'.cell? ⟨gh, oh + 1, none⟩ = some (.int .i64 t.n) ∧ w'.cell? ⟨gh, oh + 2, none⟩ = some (.string t.name) ∧ w'.cell? ⟨gh, oh + 3, none⟩ = some (.slice ah t.args.length cah)) := Lib.hid fun w' h => by
                obtain ⟨q0, q1, q2, q3⟩ := HQ24.out w' h
                obtain ⟨u0, u1, u2, u3⟩ := HX0.out
                exact ⟨q0, q1, q2, q3, (HS18.out.below h).cell (g := g9) (List.mem_cons_self ..) 0 _ rfl, (HS18.out.below h).cell (g := g9) (List.mem_cons_self ..) 1 _ rfl, (HS18.out.below h).cell (g := g9) (List.mem_cons_self ..) 2 _ rfl, (HS18.out.below h).cell (g := g9) (List.mem_cons_self ..) 3 _ rfl, (h.cell (p := ⟨gh, oh, none⟩) hghl).trans u0, (h.cell (p := ⟨gh, oh + 1, none⟩) hghl).trans u1, (h.cell (p := ⟨gh, oh + 2, none⟩) hghl).trans u2, (h.cell (p := ⟨gh, oh + 3, none⟩) hghl).trans u3⟩
              have HQ29 : Hid (∀ (w' : World) (rows : List Rw), RQ P1 (WF4 B bm g m) w [(g9, [.int .i64 t.kind, .int .i64 t.n, .string t.name, .slice atk t.args.length ctk]), (g7, [.int .i64 x.a, .int .i64 x.c]), (g6, [.int .i64 x.kind, .int .i64 x.a, .int .i64 x.c, .int .i64 x.t.kind, .int .i64 x.t.n, .string x.t.name, .slice ax x.t.args.length cx])] w' rows → Blk w' g [.slice none 0 0, .int .i64 0, .int .i64 0, .map (some p), .map (some m), .map (some q), .slice none 0 0] → w'.cell? ⟨g, 4, none⟩ = some (.map (some m)) ∧ w'.cell? ⟨g7, 0, none⟩ = some (.int .i64 x.a) ∧ w'.cell? ⟨g7, 1, none⟩ = some (.int .i64 x.c)) := Lib.hid fun w' rows h hg => ⟨hg.cell 4 _ rfl, h.cell (g := g7) (List.mem_cons_of_mem _ (List.mem_cons_self ..)) 0 _ rfl, h.cell (g := g7) (List.mem_cons_of_mem _ (List.mem_cons_self ..)) 1 _ rfl⟩
              have HTK : Hid (∀ (w' : World) (v' : Value), w'.heap[m]? = W18.heap[m]? → ∃ w1, (Instr.mapUpdate 59 (.map (some m)) (.agg #[.int .i64 x.a, .int .i64 x.c]) v').run Try.prog w' = .ok () w1 ∧ w'.grownBy w1 (some m) ∧ ∀ l', MapG w1 m (n2 + 1) (X ++ ((x.a, x.c), v', l') :: Y)) := Lib.hid fun w' v' e => by
                obtain ⟨w1, h1, h2, -⟩ := (HG18.out.toQ e).updQ (k := (x.a, x.c)) (show n2 < maxLen by unfold maxLen; omega) v' []
                refine ⟨w1, h1, h2, fun l' => ?_⟩
                obtain ⟨w2, h3, -, h4⟩ := (HG18.out.toQ e).updQ (k := (x.a, x.c)) (show n2 < maxLen by unfold maxLen; omega) v' l'
                rw [h1] at h3
                cases h3
                exact h4
              have q0 : ((tl.length : Int) + 1 == 0) = false := by simp; omega
              have q0b : (0 : Int) < (tl.length : Int) + 1 := by omega
              have q1 : (1 : Int) ≤ (tl.length : Int) + 1 := by omega
              have q2 : (tl.length : Int) + 1 ≤ ch := by omega
              refine rg_start (fun w' => w'.heap[m]? = W18.heap[m]? ∧ w'.cell? ⟨g, 4, none⟩ = some (.map (some m)) ∧ w'.cell? ⟨g7, 0, none⟩ = some (.int .i64 x.a) ∧ w'.cell? ⟨g7, 1, none⟩ = some (.int .i64 x.c)) (by as_aux_lemma => kernel_rfl) (fun Wd h => HQ24.out _ h) ?_
              intro wd hB hWd hWd' hHeld
              have HBd := Lib.hid hB
              clear hB
              refine rg_take (i := 0) (v := ?_) rfl (by as_aux_lemma => kernel_rfl) (by as_aux_lemma => kernel_rfl) (by as_aux_lemma => kernel_rfl) (by rfl) ?_ hHeld ?_
              rotate_left 1
              · intro w hSw; (try dsimp only at hSw); go_simp; try (with_reducible rfl)
              (try simp only [Act.put, List.setIfInBounds_toArray, List.set_cons_zero, List.set_cons_succ])
              refine rg_take (i := 1) (v := ?_) rfl (by as_aux_lemma => kernel_rfl) (by as_aux_lemma => kernel_rfl) (by as_aux_lemma => kernel_rfl) (by rfl) ?_ hHeld ?_
              rotate_left 1
              · intro w hSw; (try dsimp only at hSw); go_simp; try (with_reducible rfl)
              (try simp only [Act.put, List.setIfInBounds_toArray, List.set_cons_zero, List.set_cons_succ])
              refine rg_take (i := 2) (v := ?_) rfl (by as_aux_lemma => kernel_rfl) (by as_aux_lemma => kernel_rfl) (by as_aux_lemma => kernel_rfl) (by rfl) ?_ hHeld ?_
              rotate_left 1
              · intro w hSw; (try dsimp only at hSw); go_simp; try (with_reducible rfl)
              (try simp only [Act.put, List.setIfInBounds_toArray, List.set_cons_zero, List.set_cons_succ])
              refine rg_take (i := 3) (v := ?_) rfl (by as_aux_lemma => kernel_rfl) (by as_aux_lemma => kernel_rfl) (by as_aux_lemma => kernel_rfl) (by rfl) ?_ hHeld ?_
              rotate_left 1
              · intro w hSw; (try dsimp only at hSw); go_simp; try (with_reducible rfl)
              (try simp only [Act.put, List.setIfInBounds_toArray, List.set_cons_zero, List.set_cons_succ])
              refine rg_take (i := 4) (v := ?_) rfl (by as_aux_lemma => kernel_rfl) (by as_aux_lemma => kernel_rfl) (by as_aux_lemma => kernel_rfl) (by rfl) ?_ hHeld ?_
              rotate_left 1
              · intro w hSw; (try dsimp only at hSw); go_simp; try (with_reducible rfl)
              (try simp only [Act.put, List.setIfInBounds_toArray, List.set_cons_zero, List.set_cons_succ])
              refine rg_take (i := 5) (v := ?_) rfl (by as_aux_lemma => kernel_rfl) (by as_aux_lemma => kernel_rfl) (by as_aux_lemma => kernel_rfl) (by rfl) ?_ hHeld ?_
              rotate_left 1
              · intro w hSw; (try dsimp only at hSw); have hLK := HLK.out w hSw.1; go_simp; try (with_reducible rfl)
              (try simp only [Act.put, List.setIfInBounds_toArray, List.set_cons_zero, List.set_cons_succ])
              refine rg_take (i := 6) (v := ?_) rfl (by as_aux_lemma => kernel_rfl) (by as_aux_lemma => kernel_rfl) (by as_aux_lemma => kernel_rfl) (by rfl) ?_ hHeld ?_
              rotate_left 1
              · intro w hSw; (try dsimp only at hSw); go_simp; try (with_reducible rfl)
              (try simp only [Act.put, List.setIfInBounds_toArray, List.set_cons_zero, List.set_cons_succ])
              refine rg_take (i := 7) (v := ?_) rfl (by as_aux_lemma => kernel_rfl) (by as_aux_lemma => kernel_rfl) (by as_aux_lemma => kernel_rfl) (by rfl) ?_ hHeld ?_
              rotate_left 1
              · intro w hSw; (try dsimp only at hSw); go_simp; try (with_reducible rfl)
              (try simp only [Act.put, List.setIfInBounds_toArray, List.set_cons_zero, List.set_cons_succ])
              refine rg_done (by as_aux_lemma => kernel_rfl) ?_
              clear hHeld
              go_upto_region 27 with fail
              refine rg_start (fun w' => w'.heap[m]? = W18.heap[m]? ∧ w'.cell? ⟨g, 4, none⟩ = some (.map (some m)) ∧ w'.cell? ⟨g7, 0, none⟩ = some (.int .i64 x.a) ∧ w'.cell? ⟨g7, 1, none⟩ = some (.int .i64 x.c) ∧ w'.cell? ⟨g9, 0, none⟩ = some (.int .i64 t.kind) ∧ w'.cell? ⟨g9, 1, none⟩ = some (.int .i64 t.n) ∧ w'.cell? ⟨g9, 2, none⟩ = some (.string t.name) ∧ w'.cell? ⟨g9, 3, none⟩ = some (.slice atk t.args.length ctk) ∧ w'.cell? ⟨gh, oh, none⟩ = some (.int .i64 t.kind) ∧ w'.cell? ⟨gh, oh + 1, none⟩ = some (.int .i64 t.n) ∧ w'.cell? ⟨gh, oh + 2, none⟩ = some (.string t.name) ∧ w'.cell? ⟨gh, oh + 3, none⟩ = some (.slice ah t.args.length cah)) (by as_aux_lemma => kernel_rfl) (fun Wd h => HQ27.out _ (below_step HBd.out HBd.out.size h)) ?_
              intro wf hB hWd2 hWd2' hHeld
              have HBf := Lib.hid (below_step HBd.out HBd.out.size hB)
              clear hB
              refine rg_take (i := 0) (v := ?_) rfl (by as_aux_lemma => kernel_rfl) (by as_aux_lemma => kernel_rfl) (by as_aux_lemma => kernel_rfl) (by rfl) ?_ hHeld ?_
              rotate_left 1
              · intro w hSw; (try dsimp only at hSw); go_simp; try (with_reducible rfl)
              (try simp only [Act.put, List.setIfInBounds_toArray, List.set_cons_zero, List.set_cons_succ])
              refine rg_take (i := 1) (v := ?_) rfl (by as_aux_lemma => kernel_rfl) (by as_aux_lemma => kernel_rfl) (by as_aux_lemma => kernel_rfl) (by rfl) ?_ hHeld ?_
              rotate_left 1
              · intro w hSw; (try dsimp only at hSw); go_simp; try (with_reducible rfl)
              (try simp only [Act.put, List.setIfInBounds_toArray, List.set_cons_zero, List.set_cons_succ])
              refine rg_take (i := 2) (v := ?_) rfl (by as_aux_lemma => kernel_rfl) (by as_aux_lemma => kernel_rfl) (by as_aux_lemma => kernel_rfl) (by rfl) ?_ hHeld ?_
              rotate_left 1
              · intro w hSw; (try dsimp only at hSw); go_simp; try (with_reducible rfl)
              (try simp only [Act.put, List.setIfInBounds_toArray, List.set_cons_zero, List.set_cons_succ])
              refine rg_take (i := 3) (v := ?_) rfl (by as_aux_lemma => kernel_rfl) (by as_aux_lemma => kernel_rfl) (by as_aux_lemma => kernel_rfl) (by rfl) ?_ hHeld ?_
              rotate_left 1
              · intro w hSw; (try dsimp only at hSw); go_simp; try (with_reducible rfl)
              (try simp only [Act.put, List.setIfInBounds_toArray, List.set_cons_zero, List.set_cons_succ])
              refine rg_take (i := 4) (v := ?_) rfl (by as_aux_lemma => kernel_rfl) (by as_aux_lemma => kernel_rfl) (by as_aux_lemma => kernel_rfl) (by rfl) ?_ hHeld ?_
              rotate_left 1
              · intro w hSw; (try dsimp only at hSw); go_simp; try (with_reducible rfl)
              (try simp only [Act.put, List.setIfInBounds_toArray, List.set_cons_zero, List.set_cons_succ])
              refine rg_take (i := 5) (v := ?_) rfl (by as_aux_lemma => kernel_rfl) (by as_aux_lemma => kernel_rfl) (by as_aux_lemma => kernel_rfl) (by rfl) ?_ hHeld ?_
              rotate_left 1
              · intro w hSw; (try dsimp only at hSw); go_simp; try (with_reducible rfl)
              (try simp only [Act.put, List.setIfInBounds_toArray, List.set_cons_zero, List.set_cons_succ])
              refine rg_take (i := 6) (v := ?_) rfl (by as_aux_lemma => kernel_rfl) (by as_aux_lemma => kernel_rfl) (by as_aux_lemma => kernel_rfl) (by rfl) ?_ hHeld ?_
              rotate_left 1
              · intro w hSw; (try dsimp only at hSw); go_simp; try (with_reducible rfl)
              (try simp only [Act.put, List.setIfInBounds_toArray, List.set_cons_zero, List.set_cons_succ])
              refine rg_take (i := 7) (v := ?_) rfl (by as_aux_lemma => kernel_rfl) (by as_aux_lemma => kernel_rfl) (by as_aux_lemma => kernel_rfl) (by rfl) ?_ hHeld ?_
              rotate_left 1
              · intro w hSw; (try dsimp only at hSw); go_simp; try (with_reducible rfl)
              (try simp only [Act.put, List.setIfInBounds_toArray, List.set_cons_zero, List.set_cons_succ])
              refine rg_take (i := 8) (v := ?_) rfl (by as_aux_lemma => kernel_rfl) (by as_aux_lemma => kernel_rfl) (by as_aux_lemma => kernel_rfl) (by rfl) ?_ hHeld ?_
              rotate_left 1
              · intro w hSw; (try dsimp only at hSw); go_simp; try (with_reducible rfl)
              (try simp only [Act.put, List.setIfInBounds_toArray, List.set_cons_zero, List.set_cons_succ])
              refine rg_take (i := 9) (v := ?_) rfl (by as_aux_lemma => kernel_rfl) (by as_aux_lemma => kernel_rfl) (by as_aux_lemma => kernel_rfl) (by rfl) ?_ hHeld ?_
              rotate_left 1
              · intro w hSw; (try dsimp only at hSw); have hLK := HLK.out w hSw.1; go_simp; try (with_reducible rfl)
              (try simp only [Act.put, List.setIfInBounds_toArray, List.set_cons_zero, List.set_cons_succ])
              refine rg_take (i := 10) (v := ?_) rfl (by as_aux_lemma => kernel_rfl) (by as_aux_lemma => kernel_rfl) (by as_aux_lemma => kernel_rfl) (by rfl) ?_ hHeld ?_
              rotate_left 1
              · intro w hSw; (try dsimp only at hSw); go_simp; try (with_reducible rfl)
              (try simp only [Act.put, List.setIfInBounds_toArray, List.set_cons_zero, List.set_cons_succ])
              refine rg_take (i := 11) (v := ?_) rfl (by as_aux_lemma => kernel_rfl) (by as_aux_lemma => kernel_rfl) (by as_aux_lemma => kernel_rfl) (by rfl) ?_ hHeld ?_
              rotate_left 1
              · intro w hSw; (try dsimp only at hSw); go_simp; try (with_reducible rfl)
              (try simp only [Act.put, List.setIfInBounds_toArray, List.set_cons_zero, List.set_cons_succ])
              refine rg_only (i := 12) rfl (by as_aux_lemma => kernel_rfl) (by rfl) (fun K hK => ?_)
              go_simp
              go_at_call 19
              refine (same_c t t P1 wf _ _ (HTT.out.below HBf.out) (HUU.out.below HBf.out) (by omega) (by omega)).mono ?_
              rintro e wh ⟨rfl, hBz⟩
              rw [sameT_ok]
              have HBh := Lib.hid (below_step HBf.out HBf.out.size hBz)
              clear hBz
              refine hK.out _ _ (HQ27.out _ HBh.out) (fun hHeld1 => ?_)
              clear hK K hHeld
              have hHeld := hHeld1
              clear hHeld1
              (try simp only [Act.put, List.setIfInBounds_toArray, List.set_cons_zero, List.set_cons_succ])
              refine rg_take (i := 13) (v := ?_) rfl (by as_aux_lemma => kernel_rfl) (by as_aux_lemma => kernel_rfl) (by as_aux_lemma => kernel_rfl) (by rfl) ?_ hHeld ?_
              rotate_left 1
              · intro w hSw; (try dsimp only at hSw); go_simp; try (with_reducible rfl)
              (try simp only [Act.put, List.setIfInBounds_toArray, List.set_cons_zero, List.set_cons_succ])
              refine rg_take (i := 14) (v := ?_) rfl (by as_aux_lemma => kernel_rfl) (by as_aux_lemma => kernel_rfl) (by as_aux_lemma => kernel_rfl) (by rfl) ?_ hHeld ?_
              rotate_left 1
              · intro w hSw; (try dsimp only at hSw); go_simp; try (with_reducible rfl)
              (try simp only [Act.put, List.setIfInBounds_toArray, List.set_cons_zero, List.set_cons_succ])
              refine rg_done (by as_aux_lemma => kernel_rfl) ?_
              clear hHeld
              have HSh := Lib.hid (HSL.out.below HBh.out)
              by_cases hc1 : ch = 1
              · have hl0 : tl = [] := List.eq_nil_of_length_eq_zero (by omega)
                subst hl0 hc1
                simp only [List.length_nil, Nat.zero_add, Int.natCast_zero, Int.zero_add] at *
                go_upto_region 29 with fail
                refine rg_start (fun w' => w'.cell? ⟨g, 4, none⟩ = some (.map (some m)) ∧ w'.cell? ⟨g7, 0, none⟩ = some (.int .i64 x.a) ∧ w'.cell? ⟨g7, 1, none⟩ = some (.int .i64 x.c)) (by as_aux_lemma => kernel_rfl) (fun Wd h => HQ29.out _ _ (HSh.out.below h) ((HGk18.out.step HBh.out).step h)) ?_
                intro wz0 hB hWd3 hWd3' hHeld
                have HZ0 := Lib.hid (HSh.out.below hB)
                have HBz0 := Lib.hid (below_step HBh.out HBh.out.size hB)
                have HGz := Lib.hid (HGk18.out.step HBz0.out)
                have EM0 : Hid (wz0.heap[m]? = W18.heap[m]?) := Lib.hid (HBz0.out.block m hm18)
                have hlk := HLK.out wz0 EM0.out
                clear hB
                refine rg_take (i := 0) (v := ?_) rfl (by as_aux_lemma => kernel_rfl) (by as_aux_lemma => kernel_rfl) (by as_aux_lemma => kernel_rfl) (by rfl) ?_ hHeld ?_
                rotate_left 1
                · intro w hSw; (try dsimp only at hSw); go_simp; try (with_reducible rfl)
                (try simp only [Act.put, List.setIfInBounds_toArray, List.set_cons_zero, List.set_cons_succ])
                refine rg_take (i := 1) (v := ?_) rfl (by as_aux_lemma => kernel_rfl) (by as_aux_lemma => kernel_rfl) (by as_aux_lemma => kernel_rfl) (by rfl) ?_ hHeld ?_
                rotate_left 1
                · intro w hSw; (try dsimp only at hSw); go_simp; try (with_reducible rfl)
                (try simp only [Act.put, List.setIfInBounds_toArray, List.set_cons_zero, List.set_cons_succ])
                refine rg_take (i := 2) (v := ?_) rfl (by as_aux_lemma => kernel_rfl) (by as_aux_lemma => kernel_rfl) (by as_aux_lemma => kernel_rfl) (by rfl) ?_ hHeld ?_
                rotate_left 1
                · intro w hSw; (try dsimp only at hSw); go_simp; try (with_reducible rfl)
                (try simp only [Act.put, List.setIfInBounds_toArray, List.set_cons_zero, List.set_cons_succ])
                refine rg_take (i := 3) (v := ?_) rfl (by as_aux_lemma => kernel_rfl) (by as_aux_lemma => kernel_rfl) (by as_aux_lemma => kernel_rfl) (by rfl) ?_ hHeld ?_
                rotate_left 1
                · intro w hSw; (try dsimp only at hSw); go_simp; try (with_reducible rfl)
                (try simp only [Act.put, List.setIfInBounds_toArray, List.set_cons_zero, List.set_cons_succ])
                refine rg_take (i := 4) (v := ?_) rfl (by as_aux_lemma => kernel_rfl) (by as_aux_lemma => kernel_rfl) (by as_aux_lemma => kernel_rfl) (by rfl) ?_ hHeld ?_
                rotate_left 1
                · intro w hSw; (try dsimp only at hSw); go_simp; try (with_reducible rfl)
                (try simp only [Act.put, List.setIfInBounds_toArray, List.set_cons_zero, List.set_cons_succ])
                refine rg_take (i := 5) (v := ?_) rfl (by as_aux_lemma => kernel_rfl) (by as_aux_lemma => kernel_rfl) (by as_aux_lemma => kernel_rfl) (by rfl) ?_ hHeld ?_
                rotate_left 1
                · intro w hSw; (try dsimp only at hSw); go_simp; try (with_reducible rfl)
                (try simp only [Act.put, List.setIfInBounds_toArray, List.set_cons_zero, List.set_cons_succ])
                refine rg_take (i := 6) (v := ?_) rfl (by as_aux_lemma => kernel_rfl) (by as_aux_lemma => kernel_rfl) (by as_aux_lemma => kernel_rfl) (by rfl) ?_ hHeld ?_
                rotate_left 1
                · intro w hSw; (try dsimp only at hSw); go_simp; try (with_reducible rfl)
                (try simp only [Act.put, List.setIfInBounds_toArray, List.set_cons_zero, List.set_cons_succ])
                refine rg_take (i := 7) (v := ?_) rfl (by as_aux_lemma => kernel_rfl) (by as_aux_lemma => kernel_rfl) (by as_aux_lemma => kernel_rfl) (by rfl) ?_ hHeld ?_
                rotate_left 1
                · intro w hSw; (try dsimp only at hSw); go_simp; try (with_reducible rfl)
                (try simp only [Act.put, List.setIfInBounds_toArray, List.set_cons_zero, List.set_cons_succ])
                refine rg_take (i := 8) (v := ?_) rfl (by as_aux_lemma => kernel_rfl) (by as_aux_lemma => kernel_rfl) (by as_aux_lemma => kernel_rfl) (by rfl) ?_ hHeld ?_
                rotate_left 1
                · intro w hSw; (try dsimp only at hSw); go_simp; try (with_reducible rfl)
                (try simp only [Act.put, List.setIfInBounds_toArray, List.set_cons_zero, List.set_cons_succ])
                refine rg_take (i := 9) (v := ?_) rfl (by as_aux_lemma => kernel_rfl) (by as_aux_lemma => kernel_rfl) (by as_aux_lemma => kernel_rfl) (by rfl) ?_ hHeld ?_
                rotate_left 1
                · intro w hSw; (try dsimp only at hSw); go_simp; try (with_reducible rfl)
                (try simp only [Act.put, List.setIfInBounds_toArray, List.set_cons_zero, List.set_cons_succ])
                refine rg_only (i := 10) rfl (by as_aux_lemma => kernel_rfl) (by rfl) (fun K hK => ?_)
                go_simp
                skip
                refine hK.out _ _ (HQ29.out _ _ HZ0.out HGz.out) (fun hHeld1 => ?_)
                clear hK K hHeld
                have hHeld := hHeld1
                clear hHeld1
                (try simp only [Act.put, List.setIfInBounds_toArray, List.set_cons_zero, List.set_cons_succ])
                refine rg_take (i := 11) (v := ?_) rfl (by as_aux_lemma => kernel_rfl) (by as_aux_lemma => kernel_rfl) (by as_aux_lemma => kernel_rfl) (by rfl) ?_ hHeld ?_
                rotate_left 1
                · intro w hSw; (try dsimp only at hSw); go_simp; try (with_reducible rfl)
                (try simp only [Act.put, List.setIfInBounds_toArray, List.set_cons_zero, List.set_cons_succ])
                refine rg_only (i := 12) rfl (by as_aux_lemma => kernel_rfl) (by rfl) (fun K hK => ?_)
                obtain ⟨wu, hur, hug, hum⟩ := HTK.out wz0 (.slice (some ⟨gh, oh, none⟩) 0 0) EM0.out
                refine wp_mapUpdateQ _ _ _ rfl (by rfl) (by rfl) (by rfl) hur ?_
                have HSu := Lib.hid (HZ0.out.entry (by unfold WF4; simp) hug)
                have HGu := Lib.hid (HGz.out.heap (hug.block g (HZ0.out.fh g (by unfold WF4; simp)).2.1 (fun e => hgm (Option.some.inj e))))
                have EFu : Hid (∀ b, (WF4 B bm g m) b → b ≠ m → wu.heap[b]? = W18.heap[b]?) := Lib.hid fun b hf hn => (hug.block b (HZ0.out.fh b hf).2.1 (fun e => hn (Option.some.inj e))).trans (HBz0.out.block b (HS18.out.fh b hf).2.1)
                have HUM := Lib.hid hum
                clear hur hug hum
                refine hK.out _ _ (HQ29.out _ _ HSu.out HGu.out) (fun hHeld1 => ?_)
                clear hK K hHeld
                have hHeld := hHeld1
                clear hHeld1
                (try simp only [Act.put, List.setIfInBounds_toArray, List.set_cons_zero, List.set_cons_succ])
                refine rg_done (by as_aux_lemma => kernel_rfl) ?_
                clear hHeld
                go_wp2_with fail
                go_meet
                have h9 : RQ P1 (WF4 B bm g m) w [(g7, [.int .i64 x.a, .int .i64 x.c]), (g6, [.int .i64 x.kind, .int .i64 x.a, .int .i64 x.c, .int .i64 x.t.kind, .int .i64 x.t.n, .string x.t.name, .slice ax x.t.args.length cx])] wu (rowsE B1 ++ rowsE (X ++ ((x.a, x.c), .slice (some ⟨gh, oh, none⟩) 0 0, []) :: Y)) := by
                  have h8 := HSu.out.zeroR rfl
                  have e9 : rowsE B1 ++ rowsE (X ++ ((x.a, x.c), .slice (some ⟨gh, oh, none⟩) 0 0, []) :: Y) = (rowsE B1 ++ rowsE X) ++ rT (.slice (some ⟨gh, oh, none⟩) 0 0) ([]) :: rowsE Y := by simp [rowsE]
                  rw [e9]; exact h8.sub fun p hp => List.mem_cons_of_mem _ hp
                exact ⟨P1, B1, X ++ ((x.a, x.c), .slice (some ⟨gh, oh, none⟩) 0 0, []) :: Y, n1 + 1, n2 + 1, HPP.out, h9, HE18.out.toQ (EFu.out bm (by unfold WF4; simp) hbmm), HUM.out _, HBk18.out.heap (EFu.out B (by unfold WF4; simp) hBm), HGu.out, HI.out.take HT1.out ⟨X, Y, _, _, t, [], rfl, HX.out, rfl⟩, by omega, by omega⟩
              · have q3 : ¬ ch = 1 := hc1
                go_upto_region 29 with fail
                refine rg_start (fun w' => w'.cell? ⟨g, 4, none⟩ = some (.map (some m)) ∧ w'.cell? ⟨g7, 0, none⟩ = some (.int .i64 x.a) ∧ w'.cell? ⟨g7, 1, none⟩ = some (.int .i64 x.c)) (by as_aux_lemma => kernel_rfl) (fun Wd h => HQ29.out _ _ (HSh.out.below h) ((HGk18.out.step HBh.out).step h)) ?_
                intro wz0 hB hWd3 hWd3' hHeld
                have HZ0 := Lib.hid (HSh.out.below hB)
                have HBz0 := Lib.hid (below_step HBh.out HBh.out.size hB)
                have HGz := Lib.hid (HGk18.out.step HBz0.out)
                have EM0 : Hid (wz0.heap[m]? = W18.heap[m]?) := Lib.hid (HBz0.out.block m hm18)
                have hlk := HLK.out wz0 EM0.out
                clear hB
                refine rg_take (i := 0) (v := ?_) rfl (by as_aux_lemma => kernel_rfl) (by as_aux_lemma => kernel_rfl) (by as_aux_lemma => kernel_rfl) (by rfl) ?_ hHeld ?_
                rotate_left 1
                · intro w hSw; (try dsimp only at hSw); go_simp; try (with_reducible rfl)
                (try simp only [Act.put, List.setIfInBounds_toArray, List.set_cons_zero, List.set_cons_succ])
                refine rg_take (i := 1) (v := ?_) rfl (by as_aux_lemma => kernel_rfl) (by as_aux_lemma => kernel_rfl) (by as_aux_lemma => kernel_rfl) (by rfl) ?_ hHeld ?_
                rotate_left 1
                · intro w hSw; (try dsimp only at hSw); go_simp; try (with_reducible rfl)
                (try simp only [Act.put, List.setIfInBounds_toArray, List.set_cons_zero, List.set_cons_succ])
                refine rg_take (i := 2) (v := ?_) rfl (by as_aux_lemma => kernel_rfl) (by as_aux_lemma => kernel_rfl) (by as_aux_lemma => kernel_rfl) (by rfl) ?_ hHeld ?_
                rotate_left 1
                · intro w hSw; (try dsimp only at hSw); go_simp; try (with_reducible rfl)
                (try simp only [Act.put, List.setIfInBounds_toArray, List.set_cons_zero, List.set_cons_succ])
                refine rg_take (i := 3) (v := ?_) rfl (by as_aux_lemma => kernel_rfl) (by as_aux_lemma => kernel_rfl) (by as_aux_lemma => kernel_rfl) (by rfl) ?_ hHeld ?_
                rotate_left 1
                · intro w hSw; (try dsimp only at hSw); go_simp; try (with_reducible rfl)
                (try simp only [Act.put, List.setIfInBounds_toArray, List.set_cons_zero, List.set_cons_succ])
                refine rg_take (i := 4) (v := ?_) rfl (by as_aux_lemma => kernel_rfl) (by as_aux_lemma => kernel_rfl) (by as_aux_lemma => kernel_rfl) (by rfl) ?_ hHeld ?_
                rotate_left 1
                · intro w hSw; (try dsimp only at hSw); go_simp; try (with_reducible rfl)
                (try simp only [Act.put, List.setIfInBounds_toArray, List.set_cons_zero, List.set_cons_succ])
                refine rg_take (i := 5) (v := ?_) rfl (by as_aux_lemma => kernel_rfl) (by as_aux_lemma => kernel_rfl) (by as_aux_lemma => kernel_rfl) (by rfl) ?_ hHeld ?_
                rotate_left 1
                · intro w hSw; (try dsimp only at hSw); go_simp; try (with_reducible rfl)
                (try simp only [Act.put, List.setIfInBounds_toArray, List.set_cons_zero, List.set_cons_succ])
                refine rg_take (i := 6) (v := ?_) rfl (by as_aux_lemma => kernel_rfl) (by as_aux_lemma => kernel_rfl) (by as_aux_lemma => kernel_rfl) (by rfl) ?_ hHeld ?_
                rotate_left 1
                · intro w hSw; (try dsimp only at hSw); go_simp; try (with_reducible rfl)
                (try simp only [Act.put, List.setIfInBounds_toArray, List.set_cons_zero, List.set_cons_succ])
                refine rg_take (i := 7) (v := ?_) rfl (by as_aux_lemma => kernel_rfl) (by as_aux_lemma => kernel_rfl) (by as_aux_lemma => kernel_rfl) (by rfl) ?_ hHeld ?_
                rotate_left 1
                · intro w hSw; (try dsimp only at hSw); go_simp; try (with_reducible rfl)
                (try simp only [Act.put, List.setIfInBounds_toArray, List.set_cons_zero, List.set_cons_succ])
                refine rg_take (i := 8) (v := ?_) rfl (by as_aux_lemma => kernel_rfl) (by as_aux_lemma => kernel_rfl) (by as_aux_lemma => kernel_rfl) (by rfl) ?_ hHeld ?_
                rotate_left 1
                · intro w hSw; (try dsimp only at hSw); go_simp; try (with_reducible rfl)
                (try simp only [Act.put, List.setIfInBounds_toArray, List.set_cons_zero, List.set_cons_succ])
                refine rg_take (i := 9) (v := ?_) rfl (by as_aux_lemma => kernel_rfl) (by as_aux_lemma => kernel_rfl) (by as_aux_lemma => kernel_rfl) (by rfl) ?_ hHeld ?_
                rotate_left 1
                · intro w hSw; (try dsimp only at hSw); go_simp; try (with_reducible rfl)
                (try simp only [Act.put, List.setIfInBounds_toArray, List.set_cons_zero, List.set_cons_succ])
                refine rg_only (i := 10) rfl (by as_aux_lemma => kernel_rfl) (by rfl) (fun K hK => ?_)
                go_simp
                skip
                refine hK.out _ _ (HQ29.out _ _ HZ0.out HGz.out) (fun hHeld1 => ?_)
                clear hK K hHeld
                have hHeld := hHeld1
                clear hHeld1
                (try simp only [Act.put, List.setIfInBounds_toArray, List.set_cons_zero, List.set_cons_succ])
                refine rg_take (i := 11) (v := ?_) rfl (by as_aux_lemma => kernel_rfl) (by as_aux_lemma => kernel_rfl) (by as_aux_lemma => kernel_rfl) (by rfl) ?_ hHeld ?_
                rotate_left 1
                · intro w hSw; (try dsimp only at hSw); go_simp; try (with_reducible rfl)
                (try simp only [Act.put, List.setIfInBounds_toArray, List.set_cons_zero, List.set_cons_succ])
                refine rg_only (i := 12) rfl (by as_aux_lemma => kernel_rfl) (by rfl) (fun K hK => ?_)
                obtain ⟨wu, hur, hug, hum⟩ := HTK.out wz0 (Value.slice (some ⟨gh, oh + 4, none⟩) tl.length (ch - 1)) EM0.out
                refine wp_mapUpdateQ _ _ _ rfl (by rfl) (by rfl) (by rfl) hur ?_
                have HSu := Lib.hid (HZ0.out.entry (by unfold WF4; simp) hug)
                have HGu := Lib.hid (HGz.out.heap (hug.block g (HZ0.out.fh g (by unfold WF4; simp)).2.1 (fun e => hgm (Option.some.inj e))))
                have EFu : Hid (∀ b, (WF4 B bm g m) b → b ≠ m → wu.heap[b]? = W18.heap[b]?) := Lib.hid fun b hf hn => (hug.block b (HZ0.out.fh b hf).2.1 (fun e => hn (Option.some.inj e))).trans (HBz0.out.block b (HS18.out.fh b hf).2.1)
                have HUM := Lib.hid hum
                clear hur hug hum
                refine hK.out _ _ (HQ29.out _ _ HSu.out HGu.out) (fun hHeld1 => ?_)
                clear hK K hHeld
                have hHeld := hHeld1
                clear hHeld1
                (try simp only [Act.put, List.setIfInBounds_toArray, List.set_cons_zero, List.set_cons_succ])
                refine rg_done (by as_aux_lemma => kernel_rfl) ?_
                clear hHeld
                go_wp2_with fail
                go_meet
                have h9 : RQ P1 (WF4 B bm g m) w [(g7, [.int .i64 x.a, .int .i64 x.c]), (g6, [.int .i64 x.kind, .int .i64 x.a, .int .i64 x.c, .int .i64 x.t.kind, .int .i64 x.t.n, .string x.t.name, .slice ax x.t.args.length cx])] wu (rowsE B1 ++ rowsE (X ++ ((x.a, x.c), .slice (some ⟨gh, oh + 4, none⟩) tl.length (ch - 1), tl) :: Y)) := by
                  have h8 := HSu.out.tailR rfl
                  have e9 : rowsE B1 ++ rowsE (X ++ ((x.a, x.c), .slice (some ⟨gh, oh + 4, none⟩) tl.length (ch - 1), tl) :: Y) = (rowsE B1 ++ rowsE X) ++ rT (.slice (some ⟨gh, oh + 4, none⟩) tl.length (ch - 1)) (tl) :: rowsE Y := by simp [rowsE]
                  rw [e9]; exact h8.sub fun p hp => List.mem_cons_of_mem _ hp
                exact ⟨P1, B1, X ++ ((x.a, x.c), .slice (some ⟨gh, oh + 4, none⟩) tl.length (ch - 1), tl) :: Y, n1 + 1, n2 + 1, HPP.out, h9, HE18.out.toQ (EFu.out bm (by unfold WF4; simp) hbmm), HUM.out _, HBk18.out.heap (EFu.out B (by unfold WF4; simp) hBm), HGu.out, HI.out.take HT1.out ⟨X, Y, _, _, t, tl, rfl, HX.out, rfl⟩, by omega, by omega⟩
          · have b1 : (x.kind == 1) = false := by simpa using hk1
            clear hk1
            go_wp2_with fail
            go_meet
            exact ⟨P1, A1, A2, n1, n2, HPP.out, HS13.out, HE13.out, HG13.out, HBk13.out, HGk13.out, HI.out, by omega, by omega⟩
      case rest =>
        clear HS13 HE13 HG13 HBk13 HGk13 HT13 HPP HI
        obtain ⟨P1, A1, A2, n1, n2, hPP, hR, e1, e2, hBK, hGK, hI, q1, q2⟩ := hcut
        have HPP := Lib.hid hPP
        have HSc := Lib.hid hR
        have HEc := Lib.hid e1
        have HGc := Lib.hid e2
        have HBkc := Lib.hid hBK
        have HGkc := Lib.hid hGK
        have HI := Lib.hid hI
        have hmc : m < wc.heap.size := (hR.fh m (by unfold WF4; simp)).2.1
        have hbmc : bm < wc.heap.size := (hR.fh bm (by unfold WF4; simp)).2.1
        clear hPP hR e1 e2 hBK hGK hI
        have HA1L : Hid (A1.length ≤ 1000000) := Lib.hid (by
          have h1 := HEc.out.nd
          have h2 := keys_le (m := grid 9801) h1 fun x hx => by
            obtain ⟨h3, h4, h5, h6⟩ := HI.out.ky x hx
            have h7 : x ∈ openL [(x, .slice none 0 0, [zeroT])] 9801 := (openL_mem _ x).2 ⟨⟨h3, h4, h5, h6⟩, by simp [listF, entF]⟩
            exact (List.mem_filter.1 h7).1
          simp [keyE, grid] at h2
          omega)
        have HFORM : Hid (∀ k : Int × Int, ∃ x cap, (rawF A2 k.1 k.2).getD (.slice none 0 0) = .slice x (listF A2 k).length cap) := Lib.hid fun k => by
          obtain ⟨a, c, h, -⟩ := (HSc.out.perm (List.perm_append_comm (l₁ := rowsE A1) (l₂ := rowsE A2))).rowAt k
          exact ⟨a, c, h⟩
        obtain ⟨a2, c2, hr2⟩ := HFORM.out (x.a, x.c)
        obtain ⟨L, hL⟩ : ∃ L, L = (listF A2 (x.a, x.c)).length := ⟨_, rfl⟩
        rw [← hL] at hr2
        rw [HI.out.ls] at hL
        have HR2 := Lib.hid hr2
        have HLL := Lib.hid hL
        clear hr2 hL
        have HLK : Hid (∀ w' : World, w'.heap[m]? = wc.heap[m]? → (Instr.lookup 59 (.map (some m)) (.agg #[.int .i64 x.a, .int .i64 x.c]) false).run Try.prog w' = .ok (.slice a2 L c2) w') := Lib.hid fun w' h => by
          have h1 := (HGc.out.toQ h).lookQ HWA.out HWC.out
          rw [HR2.out] at h1
          exact h1
        have HQ30 : Hid (∀ w' : World, Below wc.heap.size wc w' → w'.heap[m]? = wc.heap[m]? ∧ w'.cell? ⟨g, 4, none⟩ = some (.map (some m)) ∧ w'.cell? ⟨g7, 0, none⟩ = some (.int .i64 x.a) ∧ w'.cell? ⟨g7, 1, none⟩ = some (.int .i64 x.c) ∧ w'.cell? ⟨g6, 1, none⟩ = some (.int .i64 x.a) ∧ w'.cell? ⟨g6, 2, none⟩ = some (.int .i64 x.c)) := Lib.hid fun w' h => ⟨h.block m hmc, (HGkc.out.step h).cell 4 _ rfl, (HSc.out.below h).cell (g := g7) (List.mem_cons_self ..) 0 _ rfl, (HSc.out.below h).cell (g := g7) (List.mem_cons_self ..) 1 _ rfl, (HSc.out.below h).cell (g := g6) (List.mem_cons_of_mem _ (List.mem_cons_self ..)) 1 _ rfl, (HSc.out.below h).cell (g := g6) (List.mem_cons_of_mem _ (List.mem_cons_self ..)) 2 _ rfl⟩
        have bLL : ((L : Int) != (L : Int)) = false := by simp
        go_upto_region 30 with fail
        refine rg_start (fun w' => w'.heap[m]? = wc.heap[m]? ∧ w'.cell? ⟨g, 4, none⟩ = some (.map (some m)) ∧ w'.cell? ⟨g7, 0, none⟩ = some (.int .i64 x.a) ∧ w'.cell? ⟨g7, 1, none⟩ = some (.int .i64 x.c) ∧ w'.cell? ⟨g6, 1, none⟩ = some (.int .i64 x.a) ∧ w'.cell? ⟨g6, 2, none⟩ = some (.int .i64 x.c)) (by as_aux_lemma => kernel_rfl) (fun Wd h => HQ30.out _ h) ?_
        intro wz0 hB hWd hWd' hHeld
        have HB0 := Lib.hid hB
        clear hB
        refine rg_take (i := 0) (v := ?_) rfl (by as_aux_lemma => kernel_rfl) (by as_aux_lemma => kernel_rfl) (by as_aux_lemma => kernel_rfl) (by rfl) ?_ hHeld ?_
        rotate_left 1
        · intro w hSw; (try dsimp only at hSw); go_simp; try (with_reducible rfl)
        (try simp only [Act.put, List.setIfInBounds_toArray, List.set_cons_zero, List.set_cons_succ])
        refine rg_take (i := 2) (v := ?_) rfl (by as_aux_lemma => kernel_rfl) (by as_aux_lemma => kernel_rfl) (by as_aux_lemma => kernel_rfl) (by rfl) ?_ hHeld ?_
        rotate_left 1
        · intro w hSw; (try dsimp only at hSw); go_simp; try (with_reducible rfl)
        (try simp only [Act.put, List.setIfInBounds_toArray, List.set_cons_zero, List.set_cons_succ])
        refine rg_only (i := 1) rfl (by as_aux_lemma => kernel_rfl) (by rfl) (fun K hK => ?_)
        go_simp
        go_at_call 26
        refine (wall_c B bm n1 A1 wz0 (HBkc.out.step HB0.out) (HEc.out.toQ (HB0.out.block bm hbmc)) (HA1L.out)).mono ?_
        rintro e wz1 ⟨vA, ts, rfl, hsort, hmem, hrow, hBz⟩
        obtain rfl := all_open HEc.out HI.out hsort hmem
        have HA := Lib.hid (RX.fl2 hrow)
        have HB1 := Lib.hid (below_step HB0.out HB0.out.size hBz)
        clear hrow hBz hsort hmem
        refine hK.out _ _ (HQ30.out _ HB1.out) (fun hHeld1 => ?_)
        clear hK K hHeld
        have hHeld := hHeld1
        clear hHeld1
        (try simp only [Act.put, List.setIfInBounds_toArray, List.set_cons_zero, List.set_cons_succ])
        refine rg_only (i := 3) rfl (by as_aux_lemma => kernel_rfl) (by rfl) (fun K hK => ?_)
        go_simp
        go_at_call 31
        refine (ropen_c g m n2 p q A2 wz1 (HGkc.out.step HB1.out) (HGc.out.toQ (HB1.out.block m hmc)) (by have := HB1.out.size; omega) HFORM.out).mono ?_
        rintro e wz2 ⟨vO, rfl, hO⟩
        have HO : Hid (RX pairE _ _ wz2 (openL A2 9801) vO) := Lib.hid (hO.rx (List.mem_cons_self ..))
        have HB2 := Lib.hid (below_step HB1.out HB1.out.size hO.bel)
        have HA := Lib.hid (HA.out.below hO.bel)
        clear hO
        refine hK.out _ _ (HQ30.out _ HB2.out) (fun hHeld1 => ?_)
        clear hK K hHeld
        have hHeld := hHeld1
        clear hHeld1
        (try simp only [Act.put, List.setIfInBounds_toArray, List.set_cons_zero, List.set_cons_succ])
        refine rg_only (i := 4) rfl (by as_aux_lemma => kernel_rfl) (by rfl) (fun K hK => ?_)
        go_simp
        go_at_call 30
        refine (equalQ_c _ _ _ _ (openL A2 9801) vA vO wz2 HA.out HO.out (Nat.le_trans (openL_len _ _) (by decide)) (openL_wf A2)).mono ?_
        rintro e wz3 ⟨rfl, hBz⟩
        have HB3 := Lib.hid (below_step HB2.out HB2.out.size hBz)
        clear hBz
        refine hK.out _ _ (HQ30.out _ HB3.out) (fun hHeld1 => ?_)
        clear hK K hHeld
        have hHeld := hHeld1
        clear hHeld1
        (try simp only [Act.put, List.setIfInBounds_toArray, List.set_cons_zero, List.set_cons_succ])
        refine rg_take (i := 5) (v := ?_) rfl (by as_aux_lemma => kernel_rfl) (by as_aux_lemma => kernel_rfl) (by as_aux_lemma => kernel_rfl) (by rfl) ?_ hHeld ?_
        rotate_left 1
        · intro w hSw; (try dsimp only at hSw); go_simp; try (with_reducible rfl)
        (try simp only [Act.put, List.setIfInBounds_toArray, List.set_cons_zero, List.set_cons_succ])
        refine rg_take (i := 6) (v := ?_) rfl (by as_aux_lemma => kernel_rfl) (by as_aux_lemma => kernel_rfl) (by as_aux_lemma => kernel_rfl) (by rfl) ?_ hHeld ?_
        rotate_left 1
        · intro w hSw; (try dsimp only at hSw); go_simp; try (with_reducible rfl)
        (try simp only [Act.put, List.setIfInBounds_toArray, List.set_cons_zero, List.set_cons_succ])
        refine rg_take (i := 7) (v := ?_) rfl (by as_aux_lemma => kernel_rfl) (by as_aux_lemma => kernel_rfl) (by as_aux_lemma => kernel_rfl) (by rfl) ?_ hHeld ?_
        rotate_left 1
        · intro w hSw; (try dsimp only at hSw); go_simp; try (with_reducible rfl)
        (try simp only [Act.put, List.setIfInBounds_toArray, List.set_cons_zero, List.set_cons_succ])
        refine rg_take (i := 8) (v := ?_) rfl (by as_aux_lemma => kernel_rfl) (by as_aux_lemma => kernel_rfl) (by as_aux_lemma => kernel_rfl) (by rfl) ?_ hHeld ?_
        rotate_left 1
        · intro w hSw; (try dsimp only at hSw); go_simp; try (with_reducible rfl)
        (try simp only [Act.put, List.setIfInBounds_toArray, List.set_cons_zero, List.set_cons_succ])
        refine rg_take (i := 9) (v := ?_) rfl (by as_aux_lemma => kernel_rfl) (by as_aux_lemma => kernel_rfl) (by as_aux_lemma => kernel_rfl) (by rfl) ?_ hHeld ?_
        rotate_left 1
        · intro w hSw; (try dsimp only at hSw); go_simp; try (with_reducible rfl)
        (try simp only [Act.put, List.setIfInBounds_toArray, List.set_cons_zero, List.set_cons_succ])
        refine rg_take (i := 10) (v := ?_) rfl (by as_aux_lemma => kernel_rfl) (by as_aux_lemma => kernel_rfl) (by as_aux_lemma => kernel_rfl) (by rfl) ?_ hHeld ?_
        rotate_left 1
        · intro w hSw; (try dsimp only at hSw); go_simp; try (with_reducible rfl)
        (try simp only [Act.put, List.setIfInBounds_toArray, List.set_cons_zero, List.set_cons_succ])
        refine rg_take (i := 11) (v := ?_) rfl (by as_aux_lemma => kernel_rfl) (by as_aux_lemma => kernel_rfl) (by as_aux_lemma => kernel_rfl) (by rfl) ?_ hHeld ?_
        rotate_left 1
        · intro w hSw; (try dsimp only at hSw); go_simp; try (with_reducible rfl)
        (try simp only [Act.put, List.setIfInBounds_toArray, List.set_cons_zero, List.set_cons_succ])
        refine rg_take (i := 13) (v := ?_) rfl (by as_aux_lemma => kernel_rfl) (by as_aux_lemma => kernel_rfl) (by as_aux_lemma => kernel_rfl) (by rfl) ?_ hHeld ?_
        rotate_left 1
        · intro w hSw; (try dsimp only at hSw); go_simp; try (with_reducible rfl)
        (try simp only [Act.put, List.setIfInBounds_toArray, List.set_cons_zero, List.set_cons_succ])
        refine rg_take (i := 14) (v := ?_) rfl (by as_aux_lemma => kernel_rfl) (by as_aux_lemma => kernel_rfl) (by as_aux_lemma => kernel_rfl) (by rfl) ?_ hHeld ?_
        rotate_left 1
        · intro w hSw; (try dsimp only at hSw); go_simp; try (with_reducible rfl)
        (try simp only [Act.put, List.setIfInBounds_toArray, List.set_cons_zero, List.set_cons_succ])
        refine rg_take (i := 15) (v := ?_) rfl (by as_aux_lemma => kernel_rfl) (by as_aux_lemma => kernel_rfl) (by as_aux_lemma => kernel_rfl) (by rfl) ?_ hHeld ?_
        rotate_left 1
        · intro w hSw; (try dsimp only at hSw); go_simp; try (with_reducible rfl)
        (try simp only [Act.put, List.setIfInBounds_toArray, List.set_cons_zero, List.set_cons_succ])
        refine rg_take (i := 16) (v := ?_) rfl (by as_aux_lemma => kernel_rfl) (by as_aux_lemma => kernel_rfl) (by as_aux_lemma => kernel_rfl) (by rfl) ?_ hHeld ?_
        rotate_left 1
        · intro w hSw; (try dsimp only at hSw); go_simp; try (with_reducible rfl)
        (try simp only [Act.put, List.setIfInBounds_toArray, List.set_cons_zero, List.set_cons_succ])
        refine rg_take (i := 17) (v := ?_) rfl (by as_aux_lemma => kernel_rfl) (by as_aux_lemma => kernel_rfl) (by as_aux_lemma => kernel_rfl) (by rfl) ?_ hHeld ?_
        rotate_left 1
        · intro w hSw; (try dsimp only at hSw); go_simp; try (with_reducible rfl)
        (try simp only [Act.put, List.setIfInBounds_toArray, List.set_cons_zero, List.set_cons_succ])
        refine rg_take (i := 18) (v := ?_) rfl (by as_aux_lemma => kernel_rfl) (by as_aux_lemma => kernel_rfl) (by as_aux_lemma => kernel_rfl) (by rfl) ?_ hHeld ?_
        rotate_left 1
        · intro w hSw; (try dsimp only at hSw); have hLK := HLK.out w hSw.1; go_simp; try (with_reducible rfl)
        (try simp only [Act.put, List.setIfInBounds_toArray, List.set_cons_zero, List.set_cons_succ])
        refine rg_take (i := 19) (v := ?_) rfl (by as_aux_lemma => kernel_rfl) (by as_aux_lemma => kernel_rfl) (by as_aux_lemma => kernel_rfl) (by rfl) ?_ hHeld ?_
        rotate_left 1
        · intro w hSw; (try dsimp only at hSw); go_simp; try (with_reducible rfl)
        (try simp only [Act.put, List.setIfInBounds_toArray, List.set_cons_zero, List.set_cons_succ])
        refine rg_only (i := 12) rfl (by as_aux_lemma => kernel_rfl) (by rfl) (fun K hK => ?_)
        go_simp
        go_at_call 24
        refine (wmany_c B bm n1 A1 x.a x.c wz3 HWA.out HWC.out (HBkc.out.step HB3.out) (HEc.out.toQ (HB3.out.block bm hbmc)) (HSc.out.form)).mono ?_
        rintro e wz4 ⟨rfl, rfl⟩
        rw [← HLL.out]
        refine hK.out _ _ (HQ30.out _ HB3.out) (fun hHeld1 => ?_)
        clear hK K hHeld
        have hHeld := hHeld1
        clear hHeld1
        (try simp only [Act.put, List.setIfInBounds_toArray, List.set_cons_zero, List.set_cons_succ])
        refine rg_take (i := 20) (v := ?_) rfl (by as_aux_lemma => kernel_rfl) (by as_aux_lemma => kernel_rfl) (by as_aux_lemma => kernel_rfl) (by rfl) ?_ hHeld ?_
        rotate_left 1
        · intro w hSw; (try dsimp only at hSw); go_simp; try (with_reducible rfl)
        (try simp only [Act.put, List.setIfInBounds_toArray, List.set_cons_zero, List.set_cons_succ])
        refine rg_take (i := 21) (v := ?_) rfl (by as_aux_lemma => kernel_rfl) (by as_aux_lemma => kernel_rfl) (by as_aux_lemma => kernel_rfl) (by rfl) ?_ hHeld ?_
        rotate_left 1
        · intro w hSw; (try dsimp only at hSw); go_simp; try (with_reducible rfl)
        (try simp only [Act.put, List.setIfInBounds_toArray, List.set_cons_zero, List.set_cons_succ])
        refine rg_done (by as_aux_lemma => kernel_rfl) ?_
        clear hHeld
        go_wp2_with fail
        go_roundw
        case rel => exact ⟨k + 1, by omega, by go_num, P1, A1, A2, n1, n2, HPP.out, (HSc.out.below HB3.out).sub (by simp), HEc.out.toQ (HB3.out.block bm hbmc), HGc.out.toQ (HB3.out.block m hmc), HBkc.out.step HB3.out, HGkc.out.step HB3.out, HI.out, q1, q2⟩
        case measure => simp [intOf]; omega
    · have hlti : ¬ (k : Int) < (l.length : Int) := by omega
      go_wp2_with fail
      go_ret
      exact ⟨rfl, HR.out.bel⟩
end Go.Proofs.Ytedfepnekjjmnab
