/-
  HeapAgain: the walk. No condition but the bounds.
-/
import Derived.Test.YtedfepnekjjmnaaJi
import Derived.Test.YtedfepnekjjmnaaJc
namespace Go.Proofs.Ytedfepnekjjmnaa
open Go.RowKit
set_option linter.unusedSimpArgs false
set_option linter.unusedVariables false
set_option maxRecDepth 100000

set_option maxHeartbeats 8000000 in
theorem again_walk (l : List T) (keep : List Int) (S R S2 : Nat → Prop) (w : World) (v u : Value) (hv : RSl S w l v) (hu : RX intE R S2 w keep u) (hb : bulkL l ≤ 1048576) (hk : keep.length ≤ 1048576) :
    Calls Try.prog 11 #[v, u] w fun e w' => e = .returned (.bool true) ∧ Below w.heap.size w w' := by
  obtain ⟨a, cap, rfl, hcap, hr⟩ := hv
  have HV : Hid (RSl (fun b => S b ∧ b < w.heap.size) w l (.slice a l.length cap)) := Lib.hid (RSl.to (S := S) ⟨a, cap, rfl, hcap, hr⟩ (fun b h hl => ⟨h, hl⟩) fun _ _ _ => rfl)
  obtain ⟨ai, capi, csi, rfl, hci, hCi, hji⟩ := hu
  have HU : Hid (RX intE R S2 w keep (.slice ai keep.length capi)) := Lib.hid ⟨ai, capi, csi, rfl, hci, hCi, hji⟩
  have hla := length_le_bulk l
  have hcl := hcap.1
  have hcki := hci.1
  clear hr hCi hji hcap hci
  go_enter Try.func11, Try.ntmps11
  go_wp2_with fail
  refine (kept_c w).mono ?_
  rintro e w1 ⟨rfl, hB1⟩
  have HB1 := Lib.hid hB1
  have hs1 := hB1.size
  clear hB1
  go_wp2_with fail
  refine (hnew_ok 1000 w1 (by omega) (by omega)).mono ?_
  rintro e w2 ⟨rfl, hB2, hR2, hs2⟩
  have HB2 := Lib.hid hB2
  have HR2 := Lib.hid hR2
  have hs2a : w1.heap.size + 1 ≤ w2.heap.size := by omega
  clear hB2 hR2 hs2
  obtain ⟨n, hn⟩ : ∃ n : Nat, n = min 20 l.length := ⟨_, rfl⟩
  have hn20 : n ≤ 20 := by omega
  have hnl : n ≤ l.length := by omega
  have HN := Lib.hid hn
  clear hn
  go_upto_region 8 with fail
  go_cut [37, 38, 39] (fun s37 s38 s39 wx => s37 = .slice a n cap ∧ s38 = .int .i64 n ∧ s39 = .int .i64 0 ∧ wx = w2)
  case first =>
    go_wp2_with fail
    all_goals go_meet
    all_goals first
      | (have e : n = l.length := (by have := HN.out; omega)
         rw [e]; exact ⟨rfl, rfl, rfl, rfl⟩)
      | (have e : n = 20 := (by have := HN.out; omega)
         rw [e]; exact ⟨rfl, rfl, rfl, rfl⟩)
  case rest =>
    obtain ⟨rfl, rfl, rfl, rfl⟩ := hcut
    have HAG : Hid (AG1 S w w1.heap.size 0 (.slice none 0 0) (.slice none 0 0) wc) := Lib.hid (AG1.start (HB1.out.trans (HB2.out.mono (by omega))) HR2.out (by omega))
    obtain ⟨B, hBe⟩ : ∃ B, B = w1.heap.size := ⟨_, rfl⟩
    rw [← hBe] at HAG
    rw [← hBe]
    clear HR2 hBe
    go_wp2_with fail
    go_loopw [7, 8, 39] (fun s7 s8 i wr => ∃ k : Nat, k ≤ n ∧ i = .int .i64 k ∧ AG1 S w B k s7 s8 wr) (fun _ _ i _ => n - (intOf i).toNat)
    case atStart => exact ⟨0, Nat.zero_le _, rfl, HAG.out⟩
    case round =>
      obtain ⟨k, hkn, rfl, F, H, ts, xs, hS, hR, hW, hSt, hxl, hwl, hnl, hbl⟩ := hrel
      obtain ⟨wq, rfl⟩ : ∃ wq : World, wq = wr := ⟨_, rfl⟩
      have hxt1 : xs.length ≤ ts.length := by have := hSt.length; omega
      have hxt2 : ts.length ≤ xs.length := by have := hSt.length; omega
      obtain ⟨⟨a7, c7, rfl⟩, a8, c8, rfl⟩ := hS.form2
      by_cases hlt : k < n
      · obtain ⟨lb, lo, rfl⟩ := HV.out.rts.addr (by omega)
        have hVq := (HV.out.rts).to (S' := AgP S w) (fun b h _ => h) fun b hb _ => hS.bel.block b hb.2
        obtain ⟨t, ht⟩ : ∃ t, t = l[k] := ⟨_, rfl⟩
        obtain ⟨a', cap', hSb, d0, d1, d2, d3, hE⟩ := hVq.elem k (by omega)
        rw [← ht] at d0 d1 d2 d3 hE
        have hbt : bulkL [t] ≤ 1048576 := by rw [ht]; have := bulk_at (show k < l.length by omega); omega
        have HTP : Hid (RT (AgP S w) w t (.agg #[.int .i64 t.kind, .int .i64 t.n, .string t.name, .slice a' t.args.length cap'])) := Lib.hid (hE.to (fun _ h _ => h) fun b hb _ => (hS.bel.block b hb.2).symm)
        have HBL := Lib.hid hbl
        have HS := Lib.hid hS
        have HR := Lib.hid hR
        have HW := Lib.hid hW
        have HSt := Lib.hid hSt
        have hsq := hS.bel.size
        clear hVq ht hSb hE hS hR hW hSt HAG hbl
        go_upto_region 11 with fail
        obtain ⟨W10, hW10⟩ : ∃ W : World, W = wq.alloc (.cells #[.int .i64 t.kind, .int .i64 t.n, .string t.name, .slice a' t.args.length cap'] 29) := ⟨_, rfl⟩
        obtain ⟨g10, hg10⟩ : ∃ g, g = wq.heap.size := ⟨_, rfl⟩
        have HS10 : Hid (RS (AgP S w) F w [(g10, [.int .i64 t.kind, .int .i64 t.n, .string t.name, .slice a' t.args.length cap'])] W10 [rW (.slice a7 xs.length c7) xs, rT (.slice a8 ts.length c8) ts]) := Lib.hid (by rw [hW10]; exact HS.out.alloc #[.int .i64 t.kind, .int .i64 t.n, .string t.name, .slice a' t.args.length cap'] _ hg10)
        have HR10 : Hid (HeapR F W10 B 1000 H) := Lib.hid (by rw [hW10]; exact HR.out.below (below_alloc _ _))
        rw [← hW10, ← hg10]
        have y0 := HS10.out.cell (List.mem_singleton.2 rfl) 0 _ rfl
        have y1 := HS10.out.cell (List.mem_singleton.2 rfl) 1 _ rfl
        have y2 := HS10.out.cell (List.mem_singleton.2 rfl) 2 _ rfl
        have y3 := HS10.out.cell (List.mem_singleton.2 rfl) 3 _ rfl
        clear hW10 hg10 d0 d1 d2 d3
        go_wp2_with fail
        refine (hPut_c t F (AgP S w) W10 B 1000 H _ HR10.out (HTP.out.to (fun _ h _ => h) fun b hb _ => HS10.out.bel.block b hb.2) (fun b hb => ⟨(HS10.out.pb b hb).1, (HS10.out.pb b hb).2.1⟩) (by omega) (by omega) (by omega)).mono ?_
        rintro e wp ⟨rfl, hKp, hRp⟩
        obtain ⟨Kp, hKe⟩ : ∃ K, K = putHO 1000 H t := ⟨_, rfl⟩
        have hst := HSt.out.put HW.out 1000 t
        have hB2 := putHO_bounds HW.out hwl t
        rw [← hKe] at hRp hst hB2
        rw [← hKe]
        obtain ⟨F2, hF2⟩ : ∃ F2 : Nat → Prop, F2 = fun b => (F b ∨ W10.heap.size ≤ b) ∧ b < wp.heap.size := ⟨_, rfl⟩
        have HSp : Hid (RS (AgP S w) F2 w [(g10, [.int .i64 t.kind, .int .i64 t.n, .string t.name, .slice a' t.args.length cap'])] wp [rW (.slice a7 xs.length c7) xs, rT (.slice a8 ts.length c8) ts]) := Lib.hid (HS10.out.keep hKp fun b hb => by rw [hF2] at hb; exact hb)
        have HRp : Hid (HeapR F2 wp B 1000 Kp.2.2) := Lib.hid (by rw [hF2]; exact hRp.low)
        clear hKp hRp hKe hF2 y0 y1 y2 y3
        go_upto_region 12 with fail
        obtain ⟨W11, hW11⟩ : ∃ W : World, W = wp.alloc (.cells #[.int .i64 Kp.1.kind, .int .i64 Kp.1.n] 69) := ⟨_, rfl⟩
        obtain ⟨g11, hg11⟩ : ∃ g, g = wp.heap.size := ⟨_, rfl⟩
        have HS11 : Hid (RS (AgP S w) F2 w [(g11, [.int .i64 Kp.1.kind, .int .i64 Kp.1.n]), (g10, [.int .i64 t.kind, .int .i64 t.n, .string t.name, .slice a' t.args.length cap'])] W11 [rW (.slice a7 xs.length c7) xs, rT (.slice a8 ts.length c8) ts]) := Lib.hid (by rw [hW11]; exact HSp.out.alloc #[.int .i64 Kp.1.kind, .int .i64 Kp.1.n] _ hg11)
        have HR11 : Hid (HeapR F2 W11 B 1000 Kp.2.2) := Lib.hid (by rw [hW11]; exact HRp.out.below (below_alloc _ _))
        rw [← hW11, ← hg11]
        clear hW11 hg11
        rcases hst with ⟨he, hst⟩ | ⟨he, hst⟩
        · have he0 : (Kp.2.1 == 0) = true := by rw [he]; rfl
          have HST := Lib.hid hst
          have HQ13 : Hid (∀ (w' : World) (rs : List Rw), RS (AgP S w) F2 w [(g11, [.int .i64 Kp.1.kind, .int .i64 Kp.1.n]), (g10, [.int .i64 t.kind, .int .i64 t.n, .string t.name, .slice a' t.args.length cap'])] w' rs → w'.cell? ⟨g11, 0, none⟩ = some (.int .i64 Kp.1.kind) ∧ w'.cell? ⟨g11, 1, none⟩ = some (.int .i64 Kp.1.n) ∧ w'.cell? ⟨g10, 0, none⟩ = some (.int .i64 t.kind) ∧ w'.cell? ⟨g10, 1, none⟩ = some (.int .i64 t.n) ∧ w'.cell? ⟨g10, 2, none⟩ = some (.string t.name) ∧ w'.cell? ⟨g10, 3, none⟩ = some (.slice a' t.args.length cap')) := Lib.hid fun w' rs h => ⟨h.cell (List.Mem.head _) 0 _ rfl, h.cell (List.Mem.head _) 1 _ rfl, h.cell (List.Mem.tail _ (List.Mem.head _)) 0 _ rfl, h.cell (List.Mem.tail _ (List.Mem.head _)) 1 _ rfl, h.cell (List.Mem.tail _ (List.Mem.head _)) 2 _ rfl, h.cell (List.Mem.tail _ (List.Mem.head _)) 3 _ rfl⟩
          clear hst he
          go_upto_region 13 with fail
          refine rg_start (fun w' => w'.cell? ⟨g11, 0, none⟩ = some (.int .i64 Kp.1.kind) ∧ w'.cell? ⟨g11, 1, none⟩ = some (.int .i64 Kp.1.n) ∧ w'.cell? ⟨g10, 0, none⟩ = some (.int .i64 t.kind) ∧ w'.cell? ⟨g10, 1, none⟩ = some (.int .i64 t.n) ∧ w'.cell? ⟨g10, 2, none⟩ = some (.string t.name) ∧ w'.cell? ⟨g10, 3, none⟩ = some (.slice a' t.args.length cap')) (by as_aux_lemma => kernel_rfl) (fun Wd h => HQ13.out _ _ (HS11.out.below h)) ?_
          intro wz0 hB hWd hWd' hHeld
          have HZ0 := Lib.hid (HS11.out.below hB)
          have HRz0 := Lib.hid (HR11.out.below hB)
          clear hB
          refine rg_take (i := 0) (v := ?_) rfl (by as_aux_lemma => kernel_rfl) (by as_aux_lemma => kernel_rfl) (by as_aux_lemma => kernel_rfl) (by rfl) ?_ hHeld ?_
          rotate_left 1
          · intro w hSw; (try dsimp only at hSw); go_simp; try (with_reducible rfl)
          (try simp only [Act.put, List.setIfInBounds_toArray, List.set_cons_zero, List.set_cons_succ])
          refine rg_take (i := 1) (v := ?_) rfl (by as_aux_lemma => kernel_rfl) (by as_aux_lemma => kernel_rfl) (by as_aux_lemma => kernel_rfl) (by rfl) ?_ hHeld ?_
          rotate_left 1
          · intro w hSw; (try dsimp only at hSw); go_simp; try (with_reducible rfl)
          (try simp only [Act.put, List.setIfInBounds_toArray, List.set_cons_zero, List.set_cons_succ])
          refine rg_take (i := 4) (v := ?_) rfl (by as_aux_lemma => kernel_rfl) (by as_aux_lemma => kernel_rfl) (by as_aux_lemma => kernel_rfl) (by rfl) ?_ hHeld ?_
          rotate_left 1
          · intro w hSw; (try dsimp only at hSw); go_simp; try (with_reducible rfl)
          (try simp only [Act.put, List.setIfInBounds_toArray, List.set_cons_zero, List.set_cons_succ])
          refine rg_take (i := 5) (v := ?_) rfl (by as_aux_lemma => kernel_rfl) (by as_aux_lemma => kernel_rfl) (by as_aux_lemma => kernel_rfl) (by rfl) ?_ hHeld ?_
          rotate_left 1
          · intro w hSw; (try dsimp only at hSw); go_simp; try (with_reducible rfl)
          (try simp only [Act.put, List.setIfInBounds_toArray, List.set_cons_zero, List.set_cons_succ])
          refine rg_two (i := 2) (j := 6) rfl rfl (by as_aux_lemma => kernel_rfl) (by rfl) (by rfl) (fun K hK => ?_) (fun K hK => ?_)
          · skip
            refine buildW1 _ rfl (by rfl) ?_
            obtain ⟨wz1, hwz⟩ : ∃ W : World, W = wz0.alloc (.cells #[.int .i64 Kp.1.kind, .int .i64 Kp.1.n] 69) := ⟨_, rfl⟩
            obtain ⟨g53, hgw⟩ : ∃ g, g = wz0.heap.size := ⟨_, rfl⟩
            have HZ1 : Hid (RS _ F2 w ((g53, [.int .i64 Kp.1.kind, .int .i64 Kp.1.n]) :: [(g11, [.int .i64 Kp.1.kind, .int .i64 Kp.1.n]), (g10, [.int .i64 t.kind, .int .i64 t.n, .string t.name, .slice a' t.args.length cap'])]) wz1 [rW (.slice a7 xs.length c7) xs, rT (.slice a8 ts.length c8) ts]) := Lib.hid (by rw [hwz]; exact HZ0.out.alloc #[.int .i64 Kp.1.kind, .int .i64 Kp.1.n] 69 hgw)
            have HRz1 : Hid (HeapR F2 wz1 B 1000 Kp.2.2) := Lib.hid (HRz0.out.below (by rw [hwz]; exact below_alloc _ _))
            skip
            show K _ (wz0.alloc (.cells #[.int .i64 Kp.1.kind, .int .i64 Kp.1.n] 69))
            rw [← hwz, ← hgw]
            clear hwz hgw
            refine hK.out _ _ (HQ13.out _ _ (HZ1.out.sub (by simp))) (fun hHeld1 => ?_)
            clear hK K hHeld
            have hHeld := hHeld1
            clear hHeld1
            (try simp only [Act.put, List.setIfInBounds_toArray, List.set_cons_zero, List.set_cons_succ])
            refine rg_two (i := 3) (j := 6) rfl rfl (by as_aux_lemma => kernel_rfl) (by rfl) (by rfl) (fun K hK => ?_) (fun K hK => ?_)
            · skip
              refine wp_growR (w := wz1) _ _ wrdF rfl [] [rT (.slice a8 ts.length c8) ts] (v := (.slice a7 xs.length c7)) (xs := xs) (y := Kp.1) (g0 := g53) (c := [.int .i64 Kp.1.kind, .int .i64 Kp.1.n]) (by rfl) (by rfl) HZ1.out (by simp) (by exact rfl) (by exact rfl) (by omega) ?_
              intro g7 c7n wz2 hz hzg
              have HZ2 := Lib.hid hz
              have HRz2 := Lib.hid (RS.stayR (l1 := []) (l2 := [rT (.slice a8 ts.length c8) ts]) HZ1.out hzg HRz1.out)
              skip
              clear hz hzg
              refine hK.out _ _ (HQ13.out _ _ (HZ2.out.sub (by simp))) (fun hHeld1 => ?_)
              clear hK K hHeld
              have hHeld := hHeld1
              clear hHeld1
              (try simp only [Act.put, List.setIfInBounds_toArray, List.set_cons_zero, List.set_cons_succ])
              refine rg_only (i := 6) rfl (by as_aux_lemma => kernel_rfl) (by rfl) (fun K hK => ?_)
              refine build1 _ rfl (by rfl) ?_
              obtain ⟨wz3, hwz⟩ : ∃ W : World, W = wz2.alloc (.cells #[.int .i64 t.kind, .int .i64 t.n, .string t.name, .slice a' t.args.length cap'] 29) := ⟨_, rfl⟩
              obtain ⟨g57, hgw⟩ : ∃ g, g = wz2.heap.size := ⟨_, rfl⟩
              have HZ3 : Hid (RS _ F2 w ((g57, [.int .i64 t.kind, .int .i64 t.n, .string t.name, .slice a' t.args.length cap']) :: (g53, [.int .i64 Kp.1.kind, .int .i64 Kp.1.n]) :: [(g11, [.int .i64 Kp.1.kind, .int .i64 Kp.1.n]), (g10, [.int .i64 t.kind, .int .i64 t.n, .string t.name, .slice a' t.args.length cap'])]) wz3 [rW (.slice (some ⟨g7, 0, none⟩) (xs.length + 1) c7n) (xs ++ [Kp.1]), rT (.slice a8 ts.length c8) ts]) := Lib.hid (by rw [hwz]; exact HZ2.out.alloc #[.int .i64 t.kind, .int .i64 t.n, .string t.name, .slice a' t.args.length cap'] 29 hgw)
              have HRz3 : Hid (HeapR F2 wz3 B 1000 Kp.2.2) := Lib.hid (HRz2.out.below (by rw [hwz]; exact below_alloc _ _))
              skip
              show K _ (wz2.alloc (.cells #[.int .i64 t.kind, .int .i64 t.n, .string t.name, .slice a' t.args.length cap'] 29))
              rw [← hwz, ← hgw]
              clear hwz hgw
              refine hK.out _ _ (HQ13.out _ _ (HZ3.out.sub (by simp))) (fun hHeld1 => ?_)
              clear hK K hHeld
              have hHeld := hHeld1
              clear hHeld1
              (try simp only [Act.put, List.setIfInBounds_toArray, List.set_cons_zero, List.set_cons_succ])
              refine rg_only (i := 7) rfl (by as_aux_lemma => kernel_rfl) (by rfl) (fun K hK => ?_)
              refine wp_growR (w := wz3) _ _ termF rfl [rW (.slice (some ⟨g7, 0, none⟩) (xs.length + 1) c7n) (xs ++ [Kp.1])] [] (v := (.slice a8 ts.length c8)) (xs := ts) (y := t) (g0 := g57) (c := [.int .i64 t.kind, .int .i64 t.n, .string t.name, .slice a' t.args.length cap']) (by rfl) (by rfl) HZ3.out (by simp) (by exact (termE_of (HTP.out.to (fun _ h _ => h) fun b hb hl => HZ3.out.bel.block b hb.2))) (by exact rfl) (by omega) ?_
              intro g8 c8n wz4 hz hzg
              have HZ4 := Lib.hid hz
              have HRz4 := Lib.hid (RS.stayR (l1 := [rW (.slice (some ⟨g7, 0, none⟩) (xs.length + 1) c7n) (xs ++ [Kp.1])]) (l2 := []) HZ3.out hzg HRz3.out)
              skip
              clear hz hzg
              refine hK.out _ _ (HQ13.out _ _ (HZ4.out.sub (by simp))) (fun hHeld1 => ?_)
              clear hK K hHeld
              have hHeld := hHeld1
              clear hHeld1
              (try simp only [Act.put, List.setIfInBounds_toArray, List.set_cons_zero, List.set_cons_succ])
              refine rg_take (i := 8) (v := ?_) rfl (by as_aux_lemma => kernel_rfl) (by as_aux_lemma => kernel_rfl) (by as_aux_lemma => kernel_rfl) (by rfl) ?_ hHeld ?_
              rotate_left 1
              · intro w hSw; (try dsimp only at hSw); go_simp; try (with_reducible rfl)
              (try simp only [Act.put, List.setIfInBounds_toArray, List.set_cons_zero, List.set_cons_succ])
              refine rg_take (i := 9) (v := ?_) rfl (by as_aux_lemma => kernel_rfl) (by as_aux_lemma => kernel_rfl) (by as_aux_lemma => kernel_rfl) (by rfl) ?_ hHeld ?_
              rotate_left 1
              · intro w hSw; (try dsimp only at hSw); go_simp; try (with_reducible rfl)
              (try simp only [Act.put, List.setIfInBounds_toArray, List.set_cons_zero, List.set_cons_succ])
              refine rg_done (by as_aux_lemma => kernel_rfl) ?_
              clear hHeld
              go_wp2_with fail
              go_roundw
              case rel =>
                refine ⟨k + 1, by omega, by go_num, F2, Kp.2.2, ts ++ [t], xs ++ [Kp.1], HZ4.out.sub (bs' := []) (by simp), HRz4.out, hB2.1, HST.out, by simp; omega, hB2.2.1, by have := hB2.2.2; omega, bulks_snoc HBL.out hbt⟩
              case measure => simp [intOf]; omega
            · skip
              refine build1 _ rfl (by rfl) ?_
              obtain ⟨wz2, hwz⟩ : ∃ W : World, W = wz1.alloc (.cells #[.int .i64 t.kind, .int .i64 t.n, .string t.name, .slice a' t.args.length cap'] 29) := ⟨_, rfl⟩
              obtain ⟨g57, hgw⟩ : ∃ g, g = wz1.heap.size := ⟨_, rfl⟩
              have HZ2 : Hid (RS _ F2 w ((g57, [.int .i64 t.kind, .int .i64 t.n, .string t.name, .slice a' t.args.length cap']) :: (g53, [.int .i64 Kp.1.kind, .int .i64 Kp.1.n]) :: [(g11, [.int .i64 Kp.1.kind, .int .i64 Kp.1.n]), (g10, [.int .i64 t.kind, .int .i64 t.n, .string t.name, .slice a' t.args.length cap'])]) wz2 [rW (.slice a7 xs.length c7) xs, rT (.slice a8 ts.length c8) ts]) := Lib.hid (by rw [hwz]; exact HZ1.out.alloc #[.int .i64 t.kind, .int .i64 t.n, .string t.name, .slice a' t.args.length cap'] 29 hgw)
              have HRz2 : Hid (HeapR F2 wz2 B 1000 Kp.2.2) := Lib.hid (HRz1.out.below (by rw [hwz]; exact below_alloc _ _))
              skip
              show K _ (wz1.alloc (.cells #[.int .i64 t.kind, .int .i64 t.n, .string t.name, .slice a' t.args.length cap'] 29))
              rw [← hwz, ← hgw]
              clear hwz hgw
              refine hK.out _ _ (HQ13.out _ _ (HZ2.out.sub (by simp))) (fun hHeld1 => ?_)
              clear hK K hHeld
              have hHeld := hHeld1
              clear hHeld1
              (try simp only [Act.put, List.setIfInBounds_toArray, List.set_cons_zero, List.set_cons_succ])
              refine rg_only (i := 3) rfl (by as_aux_lemma => kernel_rfl) (by rfl) (fun K hK => ?_)
              refine wp_growR (w := wz2) _ _ wrdF rfl [] [rT (.slice a8 ts.length c8) ts] (v := (.slice a7 xs.length c7)) (xs := xs) (y := Kp.1) (g0 := g53) (c := [.int .i64 Kp.1.kind, .int .i64 Kp.1.n]) (by rfl) (by rfl) HZ2.out (by simp) (by exact rfl) (by exact rfl) (by omega) ?_
              intro g7 c7n wz3 hz hzg
              have HZ3 := Lib.hid hz
              have HRz3 := Lib.hid (RS.stayR (l1 := []) (l2 := [rT (.slice a8 ts.length c8) ts]) HZ2.out hzg HRz2.out)
              skip
              clear hz hzg
              refine hK.out _ _ (HQ13.out _ _ (HZ3.out.sub (by simp))) (fun hHeld1 => ?_)
              clear hK K hHeld
              have hHeld := hHeld1
              clear hHeld1
              (try simp only [Act.put, List.setIfInBounds_toArray, List.set_cons_zero, List.set_cons_succ])
              refine rg_only (i := 7) rfl (by as_aux_lemma => kernel_rfl) (by rfl) (fun K hK => ?_)
              refine wp_growR (w := wz3) _ _ termF rfl [rW (.slice (some ⟨g7, 0, none⟩) (xs.length + 1) c7n) (xs ++ [Kp.1])] [] (v := (.slice a8 ts.length c8)) (xs := ts) (y := t) (g0 := g57) (c := [.int .i64 t.kind, .int .i64 t.n, .string t.name, .slice a' t.args.length cap']) (by rfl) (by rfl) HZ3.out (by simp) (by exact (termE_of (HTP.out.to (fun _ h _ => h) fun b hb hl => HZ3.out.bel.block b hb.2))) (by exact rfl) (by omega) ?_
              intro g8 c8n wz4 hz hzg
              have HZ4 := Lib.hid hz
              have HRz4 := Lib.hid (RS.stayR (l1 := [rW (.slice (some ⟨g7, 0, none⟩) (xs.length + 1) c7n) (xs ++ [Kp.1])]) (l2 := []) HZ3.out hzg HRz3.out)
              skip
              clear hz hzg
              refine hK.out _ _ (HQ13.out _ _ (HZ4.out.sub (by simp))) (fun hHeld1 => ?_)
              clear hK K hHeld
              have hHeld := hHeld1
              clear hHeld1
              (try simp only [Act.put, List.setIfInBounds_toArray, List.set_cons_zero, List.set_cons_succ])
              refine rg_take (i := 8) (v := ?_) rfl (by as_aux_lemma => kernel_rfl) (by as_aux_lemma => kernel_rfl) (by as_aux_lemma => kernel_rfl) (by rfl) ?_ hHeld ?_
              rotate_left 1
              · intro w hSw; (try dsimp only at hSw); go_simp; try (with_reducible rfl)
              (try simp only [Act.put, List.setIfInBounds_toArray, List.set_cons_zero, List.set_cons_succ])
              refine rg_take (i := 9) (v := ?_) rfl (by as_aux_lemma => kernel_rfl) (by as_aux_lemma => kernel_rfl) (by as_aux_lemma => kernel_rfl) (by rfl) ?_ hHeld ?_
              rotate_left 1
              · intro w hSw; (try dsimp only at hSw); go_simp; try (with_reducible rfl)
              (try simp only [Act.put, List.setIfInBounds_toArray, List.set_cons_zero, List.set_cons_succ])
              refine rg_done (by as_aux_lemma => kernel_rfl) ?_
              clear hHeld
              go_wp2_with fail
              go_roundw
              case rel =>
                refine ⟨k + 1, by omega, by go_num, F2, Kp.2.2, ts ++ [t], xs ++ [Kp.1], HZ4.out.sub (bs' := []) (by simp), HRz4.out, hB2.1, HST.out, by simp; omega, hB2.2.1, by have := hB2.2.2; omega, bulks_snoc HBL.out hbt⟩
              case measure => simp [intOf]; omega
          · skip
            refine build1 _ rfl (by rfl) ?_
            obtain ⟨wz1, hwz⟩ : ∃ W : World, W = wz0.alloc (.cells #[.int .i64 t.kind, .int .i64 t.n, .string t.name, .slice a' t.args.length cap'] 29) := ⟨_, rfl⟩
            obtain ⟨g57, hgw⟩ : ∃ g, g = wz0.heap.size := ⟨_, rfl⟩
            have HZ1 : Hid (RS _ F2 w ((g57, [.int .i64 t.kind, .int .i64 t.n, .string t.name, .slice a' t.args.length cap']) :: [(g11, [.int .i64 Kp.1.kind, .int .i64 Kp.1.n]), (g10, [.int .i64 t.kind, .int .i64 t.n, .string t.name, .slice a' t.args.length cap'])]) wz1 [rW (.slice a7 xs.length c7) xs, rT (.slice a8 ts.length c8) ts]) := Lib.hid (by rw [hwz]; exact HZ0.out.alloc #[.int .i64 t.kind, .int .i64 t.n, .string t.name, .slice a' t.args.length cap'] 29 hgw)
            have HRz1 : Hid (HeapR F2 wz1 B 1000 Kp.2.2) := Lib.hid (HRz0.out.below (by rw [hwz]; exact below_alloc _ _))
            skip
            show K _ (wz0.alloc (.cells #[.int .i64 t.kind, .int .i64 t.n, .string t.name, .slice a' t.args.length cap'] 29))
            rw [← hwz, ← hgw]
            clear hwz hgw
            refine hK.out _ _ (HQ13.out _ _ (HZ1.out.sub (by simp))) (fun hHeld1 => ?_)
            clear hK K hHeld
            have hHeld := hHeld1
            clear hHeld1
            (try simp only [Act.put, List.setIfInBounds_toArray, List.set_cons_zero, List.set_cons_succ])
            refine rg_only (i := 2) rfl (by as_aux_lemma => kernel_rfl) (by rfl) (fun K hK => ?_)
            refine buildW1 _ rfl (by rfl) ?_
            obtain ⟨wz2, hwz⟩ : ∃ W : World, W = wz1.alloc (.cells #[.int .i64 Kp.1.kind, .int .i64 Kp.1.n] 69) := ⟨_, rfl⟩
            obtain ⟨g53, hgw⟩ : ∃ g, g = wz1.heap.size := ⟨_, rfl⟩
            have HZ2 : Hid (RS _ F2 w ((g53, [.int .i64 Kp.1.kind, .int .i64 Kp.1.n]) :: (g57, [.int .i64 t.kind, .int .i64 t.n, .string t.name, .slice a' t.args.length cap']) :: [(g11, [.int .i64 Kp.1.kind, .int .i64 Kp.1.n]), (g10, [.int .i64 t.kind, .int .i64 t.n, .string t.name, .slice a' t.args.length cap'])]) wz2 [rW (.slice a7 xs.length c7) xs, rT (.slice a8 ts.length c8) ts]) := Lib.hid (by rw [hwz]; exact HZ1.out.alloc #[.int .i64 Kp.1.kind, .int .i64 Kp.1.n] 69 hgw)
            have HRz2 : Hid (HeapR F2 wz2 B 1000 Kp.2.2) := Lib.hid (HRz1.out.below (by rw [hwz]; exact below_alloc _ _))
            skip
            show K _ (wz1.alloc (.cells #[.int .i64 Kp.1.kind, .int .i64 Kp.1.n] 69))
            rw [← hwz, ← hgw]
            clear hwz hgw
            refine hK.out _ _ (HQ13.out _ _ (HZ2.out.sub (by simp))) (fun hHeld1 => ?_)
            clear hK K hHeld
            have hHeld := hHeld1
            clear hHeld1
            (try simp only [Act.put, List.setIfInBounds_toArray, List.set_cons_zero, List.set_cons_succ])
            refine rg_only (i := 3) rfl (by as_aux_lemma => kernel_rfl) (by rfl) (fun K hK => ?_)
            refine wp_growR (w := wz2) _ _ wrdF rfl [] [rT (.slice a8 ts.length c8) ts] (v := (.slice a7 xs.length c7)) (xs := xs) (y := Kp.1) (g0 := g53) (c := [.int .i64 Kp.1.kind, .int .i64 Kp.1.n]) (by rfl) (by rfl) HZ2.out (by simp) (by exact rfl) (by exact rfl) (by omega) ?_
            intro g7 c7n wz3 hz hzg
            have HZ3 := Lib.hid hz
            have HRz3 := Lib.hid (RS.stayR (l1 := []) (l2 := [rT (.slice a8 ts.length c8) ts]) HZ2.out hzg HRz2.out)
            skip
            clear hz hzg
            refine hK.out _ _ (HQ13.out _ _ (HZ3.out.sub (by simp))) (fun hHeld1 => ?_)
            clear hK K hHeld
            have hHeld := hHeld1
            clear hHeld1
            (try simp only [Act.put, List.setIfInBounds_toArray, List.set_cons_zero, List.set_cons_succ])
            refine rg_only (i := 7) rfl (by as_aux_lemma => kernel_rfl) (by rfl) (fun K hK => ?_)
            refine wp_growR (w := wz3) _ _ termF rfl [rW (.slice (some ⟨g7, 0, none⟩) (xs.length + 1) c7n) (xs ++ [Kp.1])] [] (v := (.slice a8 ts.length c8)) (xs := ts) (y := t) (g0 := g57) (c := [.int .i64 t.kind, .int .i64 t.n, .string t.name, .slice a' t.args.length cap']) (by rfl) (by rfl) HZ3.out (by simp) (by exact (termE_of (HTP.out.to (fun _ h _ => h) fun b hb hl => HZ3.out.bel.block b hb.2))) (by exact rfl) (by omega) ?_
            intro g8 c8n wz4 hz hzg
            have HZ4 := Lib.hid hz
            have HRz4 := Lib.hid (RS.stayR (l1 := [rW (.slice (some ⟨g7, 0, none⟩) (xs.length + 1) c7n) (xs ++ [Kp.1])]) (l2 := []) HZ3.out hzg HRz3.out)
            skip
            clear hz hzg
            refine hK.out _ _ (HQ13.out _ _ (HZ4.out.sub (by simp))) (fun hHeld1 => ?_)
            clear hK K hHeld
            have hHeld := hHeld1
            clear hHeld1
            (try simp only [Act.put, List.setIfInBounds_toArray, List.set_cons_zero, List.set_cons_succ])
            refine rg_take (i := 8) (v := ?_) rfl (by as_aux_lemma => kernel_rfl) (by as_aux_lemma => kernel_rfl) (by as_aux_lemma => kernel_rfl) (by rfl) ?_ hHeld ?_
            rotate_left 1
            · intro w hSw; (try dsimp only at hSw); go_simp; try (with_reducible rfl)
            (try simp only [Act.put, List.setIfInBounds_toArray, List.set_cons_zero, List.set_cons_succ])
            refine rg_take (i := 9) (v := ?_) rfl (by as_aux_lemma => kernel_rfl) (by as_aux_lemma => kernel_rfl) (by as_aux_lemma => kernel_rfl) (by rfl) ?_ hHeld ?_
            rotate_left 1
            · intro w hSw; (try dsimp only at hSw); go_simp; try (with_reducible rfl)
            (try simp only [Act.put, List.setIfInBounds_toArray, List.set_cons_zero, List.set_cons_succ])
            refine rg_done (by as_aux_lemma => kernel_rfl) ?_
            clear hHeld
            go_wp2_with fail
            go_roundw
            case rel =>
              refine ⟨k + 1, by omega, by go_num, F2, Kp.2.2, ts ++ [t], xs ++ [Kp.1], HZ4.out.sub (bs' := []) (by simp), HRz4.out, hB2.1, HST.out, by simp; omega, hB2.2.1, by have := hB2.2.2; omega, bulks_snoc HBL.out hbt⟩
            case measure => simp [intOf]; omega
        · have he0 : (Kp.2.1 == 0) = false := by simpa using he
          clear he
          go_wp2_with fail
          go_roundw
          case rel => exact ⟨k + 1, by omega, by go_num, F2, Kp.2.2, ts, xs, HS11.out.sub (bs' := []) (by simp), HR11.out, hB2.1, hst, by omega, hB2.2.1, by have := hB2.2.2; omega, HBL.out⟩
          case measure => simp [intOf]; omega
      · skip
        obtain ⟨m, hm⟩ : ∃ m : Nat, m = min 20 keep.length := ⟨_, rfl⟩
        have hm20 : m ≤ 20 := by omega
        have hml : m ≤ keep.length := by omega
        have HM := Lib.hid hm
        have HS := Lib.hid hS
        have HR := Lib.hid hR
        have HW := Lib.hid hW
        have HSt := Lib.hid hSt
        have hsq := hS.bel.size
        have hx20 : xs.length ≤ 20 := by omega
        have HBL := Lib.hid hbl
        clear hm hS hR hW hSt HAG hbl
        go_upto_region 17 with fail
        go_cut [64, 65, 66] (fun s64 s65 s66 wx => s64 = .slice ai m capi ∧ s65 = .int .i64 m ∧ s66 = .int .i64 0 ∧ wx = wq)
        case first =>
          go_wp2_with fail
          all_goals go_meet
          all_goals first
            | (have e : m = keep.length := (by have := HM.out; omega)
               rw [e]; exact ⟨rfl, rfl, rfl, rfl⟩)
            | (have e : m = 20 := (by have := HM.out; omega)
               rw [e]; exact ⟨rfl, rfl, rfl, rfl⟩)
        case rest =>
          obtain ⟨rfl, rfl, rfl, rfl⟩ := hcut
          have HAG2 : Hid (AG2 (AgP S w) F w B 0 H (.slice a7 xs.length c7) (.slice a8 ts.length c8) xs ts (.slice none 0 0) (.slice none 0 0) wc) := Lib.hid ⟨[], [], HS.out.more, HR.out, Stand.nil _, Nat.le_refl _, by simp⟩
          clear HS HR
          go_wp2_with fail
          go_loopw [13, 14, 66] (fun s13 s14 i wr => ∃ k2 : Nat, k2 ≤ m ∧ i = .int .i64 k2 ∧ AG2 (AgP S w) F w B k2 H (.slice a7 xs.length c7) (.slice a8 ts.length c8) xs ts s13 s14 wr) (fun _ _ i _ => m - (intOf i).toNat)
          case atStart => exact ⟨0, Nat.zero_le _, rfl, HAG2.out⟩
          case round =>
            clear HAG2
            obtain ⟨k2, hk2, rfl, us, ys, hS, hR, hSt2, hyl, hbl2⟩ := hrel
            obtain ⟨wq, rfl⟩ : ∃ wq : World, wq = wr := ⟨_, rfl⟩
            obtain ⟨⟨a13, c13, rfl⟩, a14, c14, rfl⟩ := hS.form4
            have hyt1 : ys.length ≤ us.length := by have := hSt2.length; omega
            have hyt2 : us.length ≤ ys.length := by have := hSt2.length; omega
            have hsq2 := hS.bel.size
            have HSq := Lib.hid hS
            have HRq := Lib.hid hR
            have HSt2 := Lib.hid hSt2
            have HBL2 := Lib.hid hbl2
            clear hS hR hSt2 hbl2
            by_cases hlt2 : k2 < m
            · have HUq : Hid (RX intE R S2 wq keep (.slice ai keep.length capi)) := Lib.hid (RX.ito HU.out fun b _ hb => HSq.out.bel.block b hb)
              obtain ⟨ib, io, rfl⟩ := HUq.out.addr (by decide) (by omega)
              obtain ⟨-, d0⟩ := HUq.out.int k2 (by omega)
              obtain ⟨q, hq⟩ : ∃ q, q = keep[k2] := ⟨_, rfl⟩
              rw [← hq] at d0
              clear hq
              by_cases hx0 : 0 < xs.length
              · go_wp2_with fail
                refine (rest_c q xs.length wq (by omega) (by omega)).mono ?_
                rintro e wz ⟨rfl, hwz⟩
                subst wz
                have hm1 := Int.emod_nonneg q (b := (xs.length : Int)) (by omega)
                have hm2 := Int.emod_lt_of_pos q (b := (xs.length : Int)) (by omega)
                obtain ⟨i, hi⟩ : ∃ i : Nat, (i : Int) = q % (xs.length : Int) := ⟨(q % (xs.length : Int)).toNat, by omega⟩
                rw [← hi]
                have hix : i < xs.length := by omega
                have hit : i < ts.length := by omega
                obtain ⟨g7, c7', e7⟩ := HSq.out.form0 (r := rW (.slice a7 xs.length c7) xs) (by simp) (by exact hx0)
                obtain ⟨g8, c8', e8⟩ := HSq.out.form0 (r := rT (.slice a8 ts.length c8) ts) (by simp) (by exact (show 0 < ts.length by omega))
                simp only [rW, rT, Value.slice.injEq] at e7 e8
                obtain ⟨rfl, -, -⟩ := e7
                obtain ⟨rfl, -, -⟩ := e8
                have hst2 := HSt.out.pick HSt2.out i hit hix
                obtain ⟨y2, hy2⟩ : ∃ y, y = xs[i] := ⟨_, rfl⟩
                obtain ⟨t2, ht2⟩ : ∃ t, t = ts[i] := ⟨_, rfl⟩
                obtain ⟨e0, e1⟩ := HSq.out.wrd (g := g7) (xs := xs) (n := xs.length) (cap := c7) (by simp) i hix
                obtain ⟨a2', cap2', hE2, f0, f1, f2, f3⟩ := HSq.out.term (g := g8) (ts := ts) (n := ts.length) (cap := c8) (by simp) i hit
                rw [← hy2] at e0 e1 hst2
                rw [← ht2] at f0 f1 f2 f3 hE2 hst2
                have HTP2 : Hid (RT (AgP S w) w t2 (.agg #[.int .i64 t2.kind, .int .i64 t2.n, .string t2.name, .slice a2' t2.args.length cap2'])) := Lib.hid (hE2.to (fun _ h _ => h) fun b hb _ => (HSq.out.bel.block b hb.2).symm)
                have HST2 := Lib.hid hst2
                have HBT2 : Hid (bulkL [t2] ≤ 1048576) := Lib.hid (by rw [ht2]; exact HBL.out _ (List.getElem_mem hit))
                have hg7l : g7 < wq.heap.size := (HSq.out.lt (r := rW (.slice (some ⟨g7, 0, none⟩) xs.length c7) xs) (by simp) g7 rfl).2
                have hg8l : g8 < wq.heap.size := (HSq.out.lt (r := rT (.slice (some ⟨g8, 0, none⟩) ts.length c8) ts) (by simp) g8 rfl).2
                have HQ22 : Hid (∀ w' : World, w'.heap[g7]? = wq.heap[g7]? → w'.heap[g8]? = wq.heap[g8]? → w'.cell? ⟨g7, i * 2, none⟩ = some (.int .i64 y2.kind) ∧ w'.cell? ⟨g7, i * 2 + 1, none⟩ = some (.int .i64 y2.n) ∧ w'.cell? ⟨g8, i * 4, none⟩ = some (.int .i64 t2.kind) ∧ w'.cell? ⟨g8, i * 4 + 1, none⟩ = some (.int .i64 t2.n) ∧ w'.cell? ⟨g8, i * 4 + 2, none⟩ = some (.string t2.name) ∧ w'.cell? ⟨g8, i * 4 + 3, none⟩ = some (.slice a2' t2.args.length cap2')) :=
                  Lib.hid fun w' h7 h8 => ⟨(World.cell?_of_block h7).trans e0, (World.cell?_of_block h7).trans e1, (World.cell?_of_block h8).trans f0, (World.cell?_of_block h8).trans f1, (World.cell?_of_block h8).trans f2, (World.cell?_of_block h8).trans f3⟩
                clear hi hm1 hm2 hst2 hy2 ht2 hE2 e0 e1 f0 f1 f2 f3 d0
                go_upto_region 22 with fail
                refine rg_start (fun w' => w'.cell? ⟨g7, i * 2, none⟩ = some (.int .i64 y2.kind) ∧ w'.cell? ⟨g7, i * 2 + 1, none⟩ = some (.int .i64 y2.n) ∧ w'.cell? ⟨g8, i * 4, none⟩ = some (.int .i64 t2.kind) ∧ w'.cell? ⟨g8, i * 4 + 1, none⟩ = some (.int .i64 t2.n) ∧ w'.cell? ⟨g8, i * 4 + 2, none⟩ = some (.string t2.name) ∧ w'.cell? ⟨g8, i * 4 + 3, none⟩ = some (.slice a2' t2.args.length cap2')) (by as_aux_lemma => kernel_rfl) (fun Wd h => HQ22.out _ (h.block _ hg7l) (h.block _ hg8l)) ?_
                intro wz0 hB hWd hWd' hHeld
                have HZ0 := Lib.hid (HSq.out.below hB)
                have HRz0 := Lib.hid (HRq.out.below hB)
                have Eg70 : Hid (wz0.heap[g7]? = wq.heap[g7]?) := Lib.hid (hB.block _ hg7l)
                have Eg80 : Hid (wz0.heap[g8]? = wq.heap[g8]?) := Lib.hid (hB.block _ hg8l)
                clear hB
                refine rg_take (i := 0) (v := ?_) rfl (by as_aux_lemma => kernel_rfl) (by as_aux_lemma => kernel_rfl) (by as_aux_lemma => kernel_rfl) (by rfl) ?_ hHeld ?_
                rotate_left 1
                · intro w hSw; (try dsimp only at hSw); go_simp; try (with_reducible rfl)
                (try simp only [Act.put, List.setIfInBounds_toArray, List.set_cons_zero, List.set_cons_succ])
                refine rg_take (i := 1) (v := ?_) rfl (by as_aux_lemma => kernel_rfl) (by as_aux_lemma => kernel_rfl) (by as_aux_lemma => kernel_rfl) (by rfl) ?_ hHeld ?_
                rotate_left 1
                · intro w hSw; (try dsimp only at hSw); go_simp; try (with_reducible rfl)
                (try simp only [Act.put, List.setIfInBounds_toArray, List.set_cons_zero, List.set_cons_succ])
                refine rg_take (i := 2) (v := ?_) rfl (by as_aux_lemma => kernel_rfl) (by as_aux_lemma => kernel_rfl) (by as_aux_lemma => kernel_rfl) (by rfl) ?_ hHeld ?_
                rotate_left 1
                · intro w hSw; (try dsimp only at hSw); go_simp; try (with_reducible rfl)
                (try simp only [Act.put, List.setIfInBounds_toArray, List.set_cons_zero, List.set_cons_succ])
                refine rg_take (i := 3) (v := ?_) rfl (by as_aux_lemma => kernel_rfl) (by as_aux_lemma => kernel_rfl) (by as_aux_lemma => kernel_rfl) (by rfl) ?_ hHeld ?_
                rotate_left 1
                · intro w hSw; (try dsimp only at hSw); go_simp; try (with_reducible rfl)
                (try simp only [Act.put, List.setIfInBounds_toArray, List.set_cons_zero, List.set_cons_succ])
                refine rg_take (i := 4) (v := ?_) rfl (by as_aux_lemma => kernel_rfl) (by as_aux_lemma => kernel_rfl) (by as_aux_lemma => kernel_rfl) (by rfl) ?_ hHeld ?_
                rotate_left 1
                · intro w hSw; (try dsimp only at hSw); go_simp; try (with_reducible rfl)
                (try simp only [Act.put, List.setIfInBounds_toArray, List.set_cons_zero, List.set_cons_succ])
                refine rg_take (i := 7) (v := ?_) rfl (by as_aux_lemma => kernel_rfl) (by as_aux_lemma => kernel_rfl) (by as_aux_lemma => kernel_rfl) (by rfl) ?_ hHeld ?_
                rotate_left 1
                · intro w hSw; (try dsimp only at hSw); go_simp; try (with_reducible rfl)
                (try simp only [Act.put, List.setIfInBounds_toArray, List.set_cons_zero, List.set_cons_succ])
                refine rg_take (i := 8) (v := ?_) rfl (by as_aux_lemma => kernel_rfl) (by as_aux_lemma => kernel_rfl) (by as_aux_lemma => kernel_rfl) (by rfl) ?_ hHeld ?_
                rotate_left 1
                · intro w hSw; (try dsimp only at hSw); go_simp; try (with_reducible rfl)
                (try simp only [Act.put, List.setIfInBounds_toArray, List.set_cons_zero, List.set_cons_succ])
                refine rg_take (i := 9) (v := ?_) rfl (by as_aux_lemma => kernel_rfl) (by as_aux_lemma => kernel_rfl) (by as_aux_lemma => kernel_rfl) (by rfl) ?_ hHeld ?_
                rotate_left 1
                · intro w hSw; (try dsimp only at hSw); go_simp; try (with_reducible rfl)
                (try simp only [Act.put, List.setIfInBounds_toArray, List.set_cons_zero, List.set_cons_succ])
                refine rg_take (i := 10) (v := ?_) rfl (by as_aux_lemma => kernel_rfl) (by as_aux_lemma => kernel_rfl) (by as_aux_lemma => kernel_rfl) (by rfl) ?_ hHeld ?_
                rotate_left 1
                · intro w hSw; (try dsimp only at hSw); go_simp; try (with_reducible rfl)
                (try simp only [Act.put, List.setIfInBounds_toArray, List.set_cons_zero, List.set_cons_succ])
                refine rg_take (i := 11) (v := ?_) rfl (by as_aux_lemma => kernel_rfl) (by as_aux_lemma => kernel_rfl) (by as_aux_lemma => kernel_rfl) (by rfl) ?_ hHeld ?_
                rotate_left 1
                · intro w hSw; (try dsimp only at hSw); go_simp; try (with_reducible rfl)
                (try simp only [Act.put, List.setIfInBounds_toArray, List.set_cons_zero, List.set_cons_succ])
                refine rg_two (i := 5) (j := 12) rfl rfl (by as_aux_lemma => kernel_rfl) (by rfl) (by rfl) (fun K hK => ?_) (fun K hK => ?_)
                · skip
                  refine buildW1 _ rfl (by rfl) ?_
                  obtain ⟨wz1, hwz⟩ : ∃ W : World, W = wz0.alloc (.cells #[.int .i64 y2.kind, .int .i64 y2.n] 69) := ⟨_, rfl⟩
                  obtain ⟨g82, hgw⟩ : ∃ g, g = wz0.heap.size := ⟨_, rfl⟩
                  have HZ1 : Hid (RS _ F w ((g82, [.int .i64 y2.kind, .int .i64 y2.n]) :: []) wz1 [rW (.slice (some ⟨g7, 0, none⟩) xs.length c7) xs, rT (.slice (some ⟨g8, 0, none⟩) ts.length c8) ts, rW (.slice a13 ys.length c13) ys, rT (.slice a14 us.length c14) us]) := Lib.hid (by rw [hwz]; exact HZ0.out.alloc #[.int .i64 y2.kind, .int .i64 y2.n] 69 hgw)
                  have HRz1 : Hid (HeapR F wz1 B 1000 H) := Lib.hid (HRz0.out.below (by rw [hwz]; exact below_alloc _ _))
                  have Eg71 : Hid (wz1.heap[g7]? = wq.heap[g7]?) := Lib.hid (by rw [hwz, Below.heap_alloc _ _ _ (HZ0.out.lt (r := rW (.slice (some ⟨g7, 0, none⟩) xs.length c7) xs) (by simp) g7 rfl).2]; exact Eg70.out)
                  have Eg81 : Hid (wz1.heap[g8]? = wq.heap[g8]?) := Lib.hid (by rw [hwz, Below.heap_alloc _ _ _ (HZ0.out.lt (r := rT (.slice (some ⟨g8, 0, none⟩) ts.length c8) ts) (by simp) g8 rfl).2]; exact Eg80.out)
                  show K _ (wz0.alloc (.cells #[.int .i64 y2.kind, .int .i64 y2.n] 69))
                  rw [← hwz, ← hgw]
                  clear hwz hgw
                  refine hK.out _ _ (HQ22.out _ Eg71.out Eg81.out) (fun hHeld1 => ?_)
                  clear hK K hHeld
                  have hHeld := hHeld1
                  clear hHeld1
                  (try simp only [Act.put, List.setIfInBounds_toArray, List.set_cons_zero, List.set_cons_succ])
                  refine rg_two (i := 6) (j := 12) rfl rfl (by as_aux_lemma => kernel_rfl) (by rfl) (by rfl) (fun K hK => ?_) (fun K hK => ?_)
                  · skip
                    refine wp_growR (w := wz1) _ _ wrdF rfl [rW (.slice (some ⟨g7, 0, none⟩) xs.length c7) xs, rT (.slice (some ⟨g8, 0, none⟩) ts.length c8) ts] [rT (.slice a14 us.length c14) us] (v := (.slice a13 ys.length c13)) (xs := ys) (y := y2) (g0 := g82) (c := [.int .i64 y2.kind, .int .i64 y2.n]) (by rfl) (by rfl) HZ1.out (by simp) (by exact rfl) (by exact rfl) (by omega) ?_
                    intro g13 c13n wz2 hz hzg
                    have HZ2 := Lib.hid hz
                    have HRz2 := Lib.hid (RS.stayR (l1 := [rW (.slice (some ⟨g7, 0, none⟩) xs.length c7) xs, rT (.slice (some ⟨g8, 0, none⟩) ts.length c8) ts]) (l2 := [rT (.slice a14 us.length c14) us]) HZ1.out hzg HRz1.out)
                    have Eg72 : Hid (wz2.heap[g7]? = wq.heap[g7]?) := Lib.hid ((hzg.block g7 (HZ1.out.lt (r := rW (.slice (some ⟨g7, 0, none⟩) xs.length c7) xs) (by simp) g7 rfl).2 (fun e => HZ1.out.one (b := g7) rfl (s := rW (.slice a13 ys.length c13) ys) (by simp) e.symm)).trans Eg71.out)
                    have Eg82 : Hid (wz2.heap[g8]? = wq.heap[g8]?) := Lib.hid ((hzg.block g8 (HZ1.out.lt (r := rT (.slice (some ⟨g8, 0, none⟩) ts.length c8) ts) (by simp) g8 rfl).2 (fun e => HZ1.out.two (b := g8) rfl (s := rW (.slice a13 ys.length c13) ys) (by simp) e.symm)).trans Eg81.out)
                    clear hz hzg
                    refine hK.out _ _ (HQ22.out _ Eg72.out Eg82.out) (fun hHeld1 => ?_)
                    clear hK K hHeld
                    have hHeld := hHeld1
                    clear hHeld1
                    (try simp only [Act.put, List.setIfInBounds_toArray, List.set_cons_zero, List.set_cons_succ])
                    refine rg_only (i := 12) rfl (by as_aux_lemma => kernel_rfl) (by rfl) (fun K hK => ?_)
                    refine build1 _ rfl (by rfl) ?_
                    obtain ⟨wz3, hwz⟩ : ∃ W : World, W = wz2.alloc (.cells #[.int .i64 t2.kind, .int .i64 t2.n, .string t2.name, .slice a2' t2.args.length cap2'] 29) := ⟨_, rfl⟩
                    obtain ⟨g89, hgw⟩ : ∃ g, g = wz2.heap.size := ⟨_, rfl⟩
                    have HZ3 : Hid (RS _ F w ((g89, [.int .i64 t2.kind, .int .i64 t2.n, .string t2.name, .slice a2' t2.args.length cap2']) :: (g82, [.int .i64 y2.kind, .int .i64 y2.n]) :: []) wz3 [rW (.slice (some ⟨g7, 0, none⟩) xs.length c7) xs, rT (.slice (some ⟨g8, 0, none⟩) ts.length c8) ts, rW (.slice (some ⟨g13, 0, none⟩) (ys.length + 1) c13n) (ys ++ [y2]), rT (.slice a14 us.length c14) us]) := Lib.hid (by rw [hwz]; exact HZ2.out.alloc #[.int .i64 t2.kind, .int .i64 t2.n, .string t2.name, .slice a2' t2.args.length cap2'] 29 hgw)
                    have HRz3 : Hid (HeapR F wz3 B 1000 H) := Lib.hid (HRz2.out.below (by rw [hwz]; exact below_alloc _ _))
                    have Eg73 : Hid (wz3.heap[g7]? = wq.heap[g7]?) := Lib.hid (by rw [hwz, Below.heap_alloc _ _ _ (HZ2.out.lt (r := rW (.slice (some ⟨g7, 0, none⟩) xs.length c7) xs) (by simp) g7 rfl).2]; exact Eg72.out)
                    have Eg83 : Hid (wz3.heap[g8]? = wq.heap[g8]?) := Lib.hid (by rw [hwz, Below.heap_alloc _ _ _ (HZ2.out.lt (r := rT (.slice (some ⟨g8, 0, none⟩) ts.length c8) ts) (by simp) g8 rfl).2]; exact Eg82.out)
                    show K _ (wz2.alloc (.cells #[.int .i64 t2.kind, .int .i64 t2.n, .string t2.name, .slice a2' t2.args.length cap2'] 29))
                    rw [← hwz, ← hgw]
                    clear hwz hgw
                    refine hK.out _ _ (HQ22.out _ Eg73.out Eg83.out) (fun hHeld1 => ?_)
                    clear hK K hHeld
                    have hHeld := hHeld1
                    clear hHeld1
                    (try simp only [Act.put, List.setIfInBounds_toArray, List.set_cons_zero, List.set_cons_succ])
                    refine rg_only (i := 13) rfl (by as_aux_lemma => kernel_rfl) (by rfl) (fun K hK => ?_)
                    refine wp_growR (w := wz3) _ _ termF rfl [rW (.slice (some ⟨g7, 0, none⟩) xs.length c7) xs, rT (.slice (some ⟨g8, 0, none⟩) ts.length c8) ts, rW (.slice (some ⟨g13, 0, none⟩) (ys.length + 1) c13n) (ys ++ [y2])] [] (v := (.slice a14 us.length c14)) (xs := us) (y := t2) (g0 := g89) (c := [.int .i64 t2.kind, .int .i64 t2.n, .string t2.name, .slice a2' t2.args.length cap2']) (by rfl) (by rfl) HZ3.out (by simp) (by exact (termE_of (HTP2.out.to (fun _ h _ => h) fun b hb hl => HZ3.out.bel.block b hb.2))) (by exact rfl) (by omega) ?_
                    intro g14 c14n wz4 hz hzg
                    have HZ4 := Lib.hid hz
                    have HRz4 := Lib.hid (RS.stayR (l1 := [rW (.slice (some ⟨g7, 0, none⟩) xs.length c7) xs, rT (.slice (some ⟨g8, 0, none⟩) ts.length c8) ts, rW (.slice (some ⟨g13, 0, none⟩) (ys.length + 1) c13n) (ys ++ [y2])]) (l2 := []) HZ3.out hzg HRz3.out)
                    have Eg74 : Hid (wz4.heap[g7]? = wq.heap[g7]?) := Lib.hid ((hzg.block g7 (HZ3.out.lt (r := rW (.slice (some ⟨g7, 0, none⟩) xs.length c7) xs) (by simp) g7 rfl).2 (fun e => HZ3.out.one (b := g7) rfl (s := rT (.slice a14 us.length c14) us) (by simp) e.symm)).trans Eg73.out)
                    have Eg84 : Hid (wz4.heap[g8]? = wq.heap[g8]?) := Lib.hid ((hzg.block g8 (HZ3.out.lt (r := rT (.slice (some ⟨g8, 0, none⟩) ts.length c8) ts) (by simp) g8 rfl).2 (fun e => HZ3.out.two (b := g8) rfl (s := rT (.slice a14 us.length c14) us) (by simp) e.symm)).trans Eg83.out)
                    clear hz hzg
                    refine hK.out _ _ (HQ22.out _ Eg74.out Eg84.out) (fun hHeld1 => ?_)
                    clear hK K hHeld
                    have hHeld := hHeld1
                    clear hHeld1
                    (try simp only [Act.put, List.setIfInBounds_toArray, List.set_cons_zero, List.set_cons_succ])
                    refine rg_take (i := 14) (v := ?_) rfl (by as_aux_lemma => kernel_rfl) (by as_aux_lemma => kernel_rfl) (by as_aux_lemma => kernel_rfl) (by rfl) ?_ hHeld ?_
                    rotate_left 1
                    · intro w hSw; (try dsimp only at hSw); go_simp; try (with_reducible rfl)
                    (try simp only [Act.put, List.setIfInBounds_toArray, List.set_cons_zero, List.set_cons_succ])
                    refine rg_take (i := 15) (v := ?_) rfl (by as_aux_lemma => kernel_rfl) (by as_aux_lemma => kernel_rfl) (by as_aux_lemma => kernel_rfl) (by rfl) ?_ hHeld ?_
                    rotate_left 1
                    · intro w hSw; (try dsimp only at hSw); go_simp; try (with_reducible rfl)
                    (try simp only [Act.put, List.setIfInBounds_toArray, List.set_cons_zero, List.set_cons_succ])
                    refine rg_done (by as_aux_lemma => kernel_rfl) ?_
                    clear hHeld
                    go_wp2_with fail
                    go_roundw
                    case rel => exact ⟨k2 + 1, by omega, by go_num, us ++ [t2], ys ++ [y2], HZ4.out.sub (bs' := []) (by simp), HRz4.out, HST2.out, by simp; omega, bulks_snoc HBL2.out HBT2.out⟩
                    case measure => simp [intOf]; omega
                  · skip
                    refine build1 _ rfl (by rfl) ?_
                    obtain ⟨wz2, hwz⟩ : ∃ W : World, W = wz1.alloc (.cells #[.int .i64 t2.kind, .int .i64 t2.n, .string t2.name, .slice a2' t2.args.length cap2'] 29) := ⟨_, rfl⟩
                    obtain ⟨g89, hgw⟩ : ∃ g, g = wz1.heap.size := ⟨_, rfl⟩
                    have HZ2 : Hid (RS _ F w ((g89, [.int .i64 t2.kind, .int .i64 t2.n, .string t2.name, .slice a2' t2.args.length cap2']) :: (g82, [.int .i64 y2.kind, .int .i64 y2.n]) :: []) wz2 [rW (.slice (some ⟨g7, 0, none⟩) xs.length c7) xs, rT (.slice (some ⟨g8, 0, none⟩) ts.length c8) ts, rW (.slice a13 ys.length c13) ys, rT (.slice a14 us.length c14) us]) := Lib.hid (by rw [hwz]; exact HZ1.out.alloc #[.int .i64 t2.kind, .int .i64 t2.n, .string t2.name, .slice a2' t2.args.length cap2'] 29 hgw)
                    have HRz2 : Hid (HeapR F wz2 B 1000 H) := Lib.hid (HRz1.out.below (by rw [hwz]; exact below_alloc _ _))
                    have Eg72 : Hid (wz2.heap[g7]? = wq.heap[g7]?) := Lib.hid (by rw [hwz, Below.heap_alloc _ _ _ (HZ1.out.lt (r := rW (.slice (some ⟨g7, 0, none⟩) xs.length c7) xs) (by simp) g7 rfl).2]; exact Eg71.out)
                    have Eg82 : Hid (wz2.heap[g8]? = wq.heap[g8]?) := Lib.hid (by rw [hwz, Below.heap_alloc _ _ _ (HZ1.out.lt (r := rT (.slice (some ⟨g8, 0, none⟩) ts.length c8) ts) (by simp) g8 rfl).2]; exact Eg81.out)
                    show K _ (wz1.alloc (.cells #[.int .i64 t2.kind, .int .i64 t2.n, .string t2.name, .slice a2' t2.args.length cap2'] 29))
                    rw [← hwz, ← hgw]
                    clear hwz hgw
                    refine hK.out _ _ (HQ22.out _ Eg72.out Eg82.out) (fun hHeld1 => ?_)
                    clear hK K hHeld
                    have hHeld := hHeld1
                    clear hHeld1
                    (try simp only [Act.put, List.setIfInBounds_toArray, List.set_cons_zero, List.set_cons_succ])
                    refine rg_only (i := 6) rfl (by as_aux_lemma => kernel_rfl) (by rfl) (fun K hK => ?_)
                    refine wp_growR (w := wz2) _ _ wrdF rfl [rW (.slice (some ⟨g7, 0, none⟩) xs.length c7) xs, rT (.slice (some ⟨g8, 0, none⟩) ts.length c8) ts] [rT (.slice a14 us.length c14) us] (v := (.slice a13 ys.length c13)) (xs := ys) (y := y2) (g0 := g82) (c := [.int .i64 y2.kind, .int .i64 y2.n]) (by rfl) (by rfl) HZ2.out (by simp) (by exact rfl) (by exact rfl) (by omega) ?_
                    intro g13 c13n wz3 hz hzg
                    have HZ3 := Lib.hid hz
                    have HRz3 := Lib.hid (RS.stayR (l1 := [rW (.slice (some ⟨g7, 0, none⟩) xs.length c7) xs, rT (.slice (some ⟨g8, 0, none⟩) ts.length c8) ts]) (l2 := [rT (.slice a14 us.length c14) us]) HZ2.out hzg HRz2.out)
                    have Eg73 : Hid (wz3.heap[g7]? = wq.heap[g7]?) := Lib.hid ((hzg.block g7 (HZ2.out.lt (r := rW (.slice (some ⟨g7, 0, none⟩) xs.length c7) xs) (by simp) g7 rfl).2 (fun e => HZ2.out.one (b := g7) rfl (s := rW (.slice a13 ys.length c13) ys) (by simp) e.symm)).trans Eg72.out)
                    have Eg83 : Hid (wz3.heap[g8]? = wq.heap[g8]?) := Lib.hid ((hzg.block g8 (HZ2.out.lt (r := rT (.slice (some ⟨g8, 0, none⟩) ts.length c8) ts) (by simp) g8 rfl).2 (fun e => HZ2.out.two (b := g8) rfl (s := rW (.slice a13 ys.length c13) ys) (by simp) e.symm)).trans Eg82.out)
                    clear hz hzg
                    refine hK.out _ _ (HQ22.out _ Eg73.out Eg83.out) (fun hHeld1 => ?_)
                    clear hK K hHeld
                    have hHeld := hHeld1
                    clear hHeld1
                    (try simp only [Act.put, List.setIfInBounds_toArray, List.set_cons_zero, List.set_cons_succ])
                    refine rg_only (i := 13) rfl (by as_aux_lemma => kernel_rfl) (by rfl) (fun K hK => ?_)
                    refine wp_growR (w := wz3) _ _ termF rfl [rW (.slice (some ⟨g7, 0, none⟩) xs.length c7) xs, rT (.slice (some ⟨g8, 0, none⟩) ts.length c8) ts, rW (.slice (some ⟨g13, 0, none⟩) (ys.length + 1) c13n) (ys ++ [y2])] [] (v := (.slice a14 us.length c14)) (xs := us) (y := t2) (g0 := g89) (c := [.int .i64 t2.kind, .int .i64 t2.n, .string t2.name, .slice a2' t2.args.length cap2']) (by rfl) (by rfl) HZ3.out (by simp) (by exact (termE_of (HTP2.out.to (fun _ h _ => h) fun b hb hl => HZ3.out.bel.block b hb.2))) (by exact rfl) (by omega) ?_
                    intro g14 c14n wz4 hz hzg
                    have HZ4 := Lib.hid hz
                    have HRz4 := Lib.hid (RS.stayR (l1 := [rW (.slice (some ⟨g7, 0, none⟩) xs.length c7) xs, rT (.slice (some ⟨g8, 0, none⟩) ts.length c8) ts, rW (.slice (some ⟨g13, 0, none⟩) (ys.length + 1) c13n) (ys ++ [y2])]) (l2 := []) HZ3.out hzg HRz3.out)
                    have Eg74 : Hid (wz4.heap[g7]? = wq.heap[g7]?) := Lib.hid ((hzg.block g7 (HZ3.out.lt (r := rW (.slice (some ⟨g7, 0, none⟩) xs.length c7) xs) (by simp) g7 rfl).2 (fun e => HZ3.out.one (b := g7) rfl (s := rT (.slice a14 us.length c14) us) (by simp) e.symm)).trans Eg73.out)
                    have Eg84 : Hid (wz4.heap[g8]? = wq.heap[g8]?) := Lib.hid ((hzg.block g8 (HZ3.out.lt (r := rT (.slice (some ⟨g8, 0, none⟩) ts.length c8) ts) (by simp) g8 rfl).2 (fun e => HZ3.out.two (b := g8) rfl (s := rT (.slice a14 us.length c14) us) (by simp) e.symm)).trans Eg83.out)
                    clear hz hzg
                    refine hK.out _ _ (HQ22.out _ Eg74.out Eg84.out) (fun hHeld1 => ?_)
                    clear hK K hHeld
                    have hHeld := hHeld1
                    clear hHeld1
                    (try simp only [Act.put, List.setIfInBounds_toArray, List.set_cons_zero, List.set_cons_succ])
                    refine rg_take (i := 14) (v := ?_) rfl (by as_aux_lemma => kernel_rfl) (by as_aux_lemma => kernel_rfl) (by as_aux_lemma => kernel_rfl) (by rfl) ?_ hHeld ?_
                    rotate_left 1
                    · intro w hSw; (try dsimp only at hSw); go_simp; try (with_reducible rfl)
                    (try simp only [Act.put, List.setIfInBounds_toArray, List.set_cons_zero, List.set_cons_succ])
                    refine rg_take (i := 15) (v := ?_) rfl (by as_aux_lemma => kernel_rfl) (by as_aux_lemma => kernel_rfl) (by as_aux_lemma => kernel_rfl) (by rfl) ?_ hHeld ?_
                    rotate_left 1
                    · intro w hSw; (try dsimp only at hSw); go_simp; try (with_reducible rfl)
                    (try simp only [Act.put, List.setIfInBounds_toArray, List.set_cons_zero, List.set_cons_succ])
                    refine rg_done (by as_aux_lemma => kernel_rfl) ?_
                    clear hHeld
                    go_wp2_with fail
                    go_roundw
                    case rel => exact ⟨k2 + 1, by omega, by go_num, us ++ [t2], ys ++ [y2], HZ4.out.sub (bs' := []) (by simp), HRz4.out, HST2.out, by simp; omega, bulks_snoc HBL2.out HBT2.out⟩
                    case measure => simp [intOf]; omega
                · skip
                  refine build1 _ rfl (by rfl) ?_
                  obtain ⟨wz1, hwz⟩ : ∃ W : World, W = wz0.alloc (.cells #[.int .i64 t2.kind, .int .i64 t2.n, .string t2.name, .slice a2' t2.args.length cap2'] 29) := ⟨_, rfl⟩
                  obtain ⟨g89, hgw⟩ : ∃ g, g = wz0.heap.size := ⟨_, rfl⟩
                  have HZ1 : Hid (RS _ F w ((g89, [.int .i64 t2.kind, .int .i64 t2.n, .string t2.name, .slice a2' t2.args.length cap2']) :: []) wz1 [rW (.slice (some ⟨g7, 0, none⟩) xs.length c7) xs, rT (.slice (some ⟨g8, 0, none⟩) ts.length c8) ts, rW (.slice a13 ys.length c13) ys, rT (.slice a14 us.length c14) us]) := Lib.hid (by rw [hwz]; exact HZ0.out.alloc #[.int .i64 t2.kind, .int .i64 t2.n, .string t2.name, .slice a2' t2.args.length cap2'] 29 hgw)
                  have HRz1 : Hid (HeapR F wz1 B 1000 H) := Lib.hid (HRz0.out.below (by rw [hwz]; exact below_alloc _ _))
                  have Eg71 : Hid (wz1.heap[g7]? = wq.heap[g7]?) := Lib.hid (by rw [hwz, Below.heap_alloc _ _ _ (HZ0.out.lt (r := rW (.slice (some ⟨g7, 0, none⟩) xs.length c7) xs) (by simp) g7 rfl).2]; exact Eg70.out)
                  have Eg81 : Hid (wz1.heap[g8]? = wq.heap[g8]?) := Lib.hid (by rw [hwz, Below.heap_alloc _ _ _ (HZ0.out.lt (r := rT (.slice (some ⟨g8, 0, none⟩) ts.length c8) ts) (by simp) g8 rfl).2]; exact Eg80.out)
                  show K _ (wz0.alloc (.cells #[.int .i64 t2.kind, .int .i64 t2.n, .string t2.name, .slice a2' t2.args.length cap2'] 29))
                  rw [← hwz, ← hgw]
                  clear hwz hgw
                  refine hK.out _ _ (HQ22.out _ Eg71.out Eg81.out) (fun hHeld1 => ?_)
                  clear hK K hHeld
                  have hHeld := hHeld1
                  clear hHeld1
                  (try simp only [Act.put, List.setIfInBounds_toArray, List.set_cons_zero, List.set_cons_succ])
                  refine rg_only (i := 5) rfl (by as_aux_lemma => kernel_rfl) (by rfl) (fun K hK => ?_)
                  refine buildW1 _ rfl (by rfl) ?_
                  obtain ⟨wz2, hwz⟩ : ∃ W : World, W = wz1.alloc (.cells #[.int .i64 y2.kind, .int .i64 y2.n] 69) := ⟨_, rfl⟩
                  obtain ⟨g82, hgw⟩ : ∃ g, g = wz1.heap.size := ⟨_, rfl⟩
                  have HZ2 : Hid (RS _ F w ((g82, [.int .i64 y2.kind, .int .i64 y2.n]) :: (g89, [.int .i64 t2.kind, .int .i64 t2.n, .string t2.name, .slice a2' t2.args.length cap2']) :: []) wz2 [rW (.slice (some ⟨g7, 0, none⟩) xs.length c7) xs, rT (.slice (some ⟨g8, 0, none⟩) ts.length c8) ts, rW (.slice a13 ys.length c13) ys, rT (.slice a14 us.length c14) us]) := Lib.hid (by rw [hwz]; exact HZ1.out.alloc #[.int .i64 y2.kind, .int .i64 y2.n] 69 hgw)
                  have HRz2 : Hid (HeapR F wz2 B 1000 H) := Lib.hid (HRz1.out.below (by rw [hwz]; exact below_alloc _ _))
                  have Eg72 : Hid (wz2.heap[g7]? = wq.heap[g7]?) := Lib.hid (by rw [hwz, Below.heap_alloc _ _ _ (HZ1.out.lt (r := rW (.slice (some ⟨g7, 0, none⟩) xs.length c7) xs) (by simp) g7 rfl).2]; exact Eg71.out)
                  have Eg82 : Hid (wz2.heap[g8]? = wq.heap[g8]?) := Lib.hid (by rw [hwz, Below.heap_alloc _ _ _ (HZ1.out.lt (r := rT (.slice (some ⟨g8, 0, none⟩) ts.length c8) ts) (by simp) g8 rfl).2]; exact Eg81.out)
                  show K _ (wz1.alloc (.cells #[.int .i64 y2.kind, .int .i64 y2.n] 69))
                  rw [← hwz, ← hgw]
                  clear hwz hgw
                  refine hK.out _ _ (HQ22.out _ Eg72.out Eg82.out) (fun hHeld1 => ?_)
                  clear hK K hHeld
                  have hHeld := hHeld1
                  clear hHeld1
                  (try simp only [Act.put, List.setIfInBounds_toArray, List.set_cons_zero, List.set_cons_succ])
                  refine rg_only (i := 6) rfl (by as_aux_lemma => kernel_rfl) (by rfl) (fun K hK => ?_)
                  refine wp_growR (w := wz2) _ _ wrdF rfl [rW (.slice (some ⟨g7, 0, none⟩) xs.length c7) xs, rT (.slice (some ⟨g8, 0, none⟩) ts.length c8) ts] [rT (.slice a14 us.length c14) us] (v := (.slice a13 ys.length c13)) (xs := ys) (y := y2) (g0 := g82) (c := [.int .i64 y2.kind, .int .i64 y2.n]) (by rfl) (by rfl) HZ2.out (by simp) (by exact rfl) (by exact rfl) (by omega) ?_
                  intro g13 c13n wz3 hz hzg
                  have HZ3 := Lib.hid hz
                  have HRz3 := Lib.hid (RS.stayR (l1 := [rW (.slice (some ⟨g7, 0, none⟩) xs.length c7) xs, rT (.slice (some ⟨g8, 0, none⟩) ts.length c8) ts]) (l2 := [rT (.slice a14 us.length c14) us]) HZ2.out hzg HRz2.out)
                  have Eg73 : Hid (wz3.heap[g7]? = wq.heap[g7]?) := Lib.hid ((hzg.block g7 (HZ2.out.lt (r := rW (.slice (some ⟨g7, 0, none⟩) xs.length c7) xs) (by simp) g7 rfl).2 (fun e => HZ2.out.one (b := g7) rfl (s := rW (.slice a13 ys.length c13) ys) (by simp) e.symm)).trans Eg72.out)
                  have Eg83 : Hid (wz3.heap[g8]? = wq.heap[g8]?) := Lib.hid ((hzg.block g8 (HZ2.out.lt (r := rT (.slice (some ⟨g8, 0, none⟩) ts.length c8) ts) (by simp) g8 rfl).2 (fun e => HZ2.out.two (b := g8) rfl (s := rW (.slice a13 ys.length c13) ys) (by simp) e.symm)).trans Eg82.out)
                  clear hz hzg
                  refine hK.out _ _ (HQ22.out _ Eg73.out Eg83.out) (fun hHeld1 => ?_)
                  clear hK K hHeld
                  have hHeld := hHeld1
                  clear hHeld1
                  (try simp only [Act.put, List.setIfInBounds_toArray, List.set_cons_zero, List.set_cons_succ])
                  refine rg_only (i := 13) rfl (by as_aux_lemma => kernel_rfl) (by rfl) (fun K hK => ?_)
                  refine wp_growR (w := wz3) _ _ termF rfl [rW (.slice (some ⟨g7, 0, none⟩) xs.length c7) xs, rT (.slice (some ⟨g8, 0, none⟩) ts.length c8) ts, rW (.slice (some ⟨g13, 0, none⟩) (ys.length + 1) c13n) (ys ++ [y2])] [] (v := (.slice a14 us.length c14)) (xs := us) (y := t2) (g0 := g89) (c := [.int .i64 t2.kind, .int .i64 t2.n, .string t2.name, .slice a2' t2.args.length cap2']) (by rfl) (by rfl) HZ3.out (by simp) (by exact (termE_of (HTP2.out.to (fun _ h _ => h) fun b hb hl => HZ3.out.bel.block b hb.2))) (by exact rfl) (by omega) ?_
                  intro g14 c14n wz4 hz hzg
                  have HZ4 := Lib.hid hz
                  have HRz4 := Lib.hid (RS.stayR (l1 := [rW (.slice (some ⟨g7, 0, none⟩) xs.length c7) xs, rT (.slice (some ⟨g8, 0, none⟩) ts.length c8) ts, rW (.slice (some ⟨g13, 0, none⟩) (ys.length + 1) c13n) (ys ++ [y2])]) (l2 := []) HZ3.out hzg HRz3.out)
                  have Eg74 : Hid (wz4.heap[g7]? = wq.heap[g7]?) := Lib.hid ((hzg.block g7 (HZ3.out.lt (r := rW (.slice (some ⟨g7, 0, none⟩) xs.length c7) xs) (by simp) g7 rfl).2 (fun e => HZ3.out.one (b := g7) rfl (s := rT (.slice a14 us.length c14) us) (by simp) e.symm)).trans Eg73.out)
                  have Eg84 : Hid (wz4.heap[g8]? = wq.heap[g8]?) := Lib.hid ((hzg.block g8 (HZ3.out.lt (r := rT (.slice (some ⟨g8, 0, none⟩) ts.length c8) ts) (by simp) g8 rfl).2 (fun e => HZ3.out.two (b := g8) rfl (s := rT (.slice a14 us.length c14) us) (by simp) e.symm)).trans Eg83.out)
                  clear hz hzg
                  refine hK.out _ _ (HQ22.out _ Eg74.out Eg84.out) (fun hHeld1 => ?_)
                  clear hK K hHeld
                  have hHeld := hHeld1
                  clear hHeld1
                  (try simp only [Act.put, List.setIfInBounds_toArray, List.set_cons_zero, List.set_cons_succ])
                  refine rg_take (i := 14) (v := ?_) rfl (by as_aux_lemma => kernel_rfl) (by as_aux_lemma => kernel_rfl) (by as_aux_lemma => kernel_rfl) (by rfl) ?_ hHeld ?_
                  rotate_left 1
                  · intro w hSw; (try dsimp only at hSw); go_simp; try (with_reducible rfl)
                  (try simp only [Act.put, List.setIfInBounds_toArray, List.set_cons_zero, List.set_cons_succ])
                  refine rg_take (i := 15) (v := ?_) rfl (by as_aux_lemma => kernel_rfl) (by as_aux_lemma => kernel_rfl) (by as_aux_lemma => kernel_rfl) (by rfl) ?_ hHeld ?_
                  rotate_left 1
                  · intro w hSw; (try dsimp only at hSw); go_simp; try (with_reducible rfl)
                  (try simp only [Act.put, List.setIfInBounds_toArray, List.set_cons_zero, List.set_cons_succ])
                  refine rg_done (by as_aux_lemma => kernel_rfl) ?_
                  clear hHeld
                  go_wp2_with fail
                  go_roundw
                  case rel => exact ⟨k2 + 1, by omega, by go_num, us ++ [t2], ys ++ [y2], HZ4.out.sub (bs' := []) (by simp), HRz4.out, HST2.out, by simp; omega, bulks_snoc HBL2.out HBT2.out⟩
                  case measure => simp [intOf]; omega
              · go_wp2_with fail
                go_roundw
                case rel => exact ⟨k2 + 1, by omega, by go_num, us, ys, HSq.out, HRq.out, HSt2.out, by omega, HBL2.out⟩
                case measure => simp [intOf]; omega
            · skip
              have hrx : RX wrdE (fun b => (Value.slice a13 ys.length c13).ownBlock = some b) (AgP S w) wq ys (.slice a13 ys.length c13) := HSq.out.rx (r := rW (.slice a13 ys.length c13) ys) (by simp)
              have HRX := Lib.hid hrx
              clear hrx
              go_wp2_with fail
              refine (hcollect_c F _ _ wq B 1000 H ys _ HRX.out (by omega) HRq.out HW.out (by omega) HSt2.out.stands).mono ?_
              rintro e w4 ⟨v18, tw, out, ks, rfl, hK4, hCol, hR4, hO4, hb4⟩
              obtain ⟨a18, c18, rfl⟩ := hO4.form
              obtain ⟨H4, hH4⟩ : ∃ H4 : HS, H4 = ⟨tw, H.names⟩ := ⟨_, rfl⟩
              have hst4 := HSt2.out.col hCol
              have hwf4 := hCol.wf HW.out H.names
              rw [← hH4] at hR4 hst4 hwf4
              have htl : tw.length ≤ 1000 := by have := hCol.le HW.out; omega
              have hH4n : H4.names.length ≤ k * 1048576 := by rw [hH4]; exact hnl
              have hH4w1 : H4.ws.length ≤ tw.length := by rw [hH4]; exact Nat.le_refl _
              have hH4w2 : tw.length ≤ H4.ws.length := by rw [hH4]; exact Nat.le_refl _
              obtain ⟨F4, hF4⟩ : ∃ F4 : Nat → Prop, F4 = fun b => (F b ∨ (wq.heap.size ≤ b ∧ (Value.slice a18 out.length c18).ownBlock ≠ some b)) ∧ b < w4.heap.size := ⟨_, rfl⟩
              have HR4 : Hid (HeapR F4 w4 B 1000 H4) := Lib.hid (by rw [hF4]; exact hR4.low)
              have HS4 : Hid (RS (AgP S w) F4 w [] w4 [rT (.slice a14 us.length c14) us]) := Lib.hid ((HSq.out.rows (rs' := [rT (.slice a14 us.length c14) us]) (by simp)).keep hK4 fun b hb => by
                rw [hF4] at hb; exact ⟨hb.1.imp id (·.1), hb.2⟩)
              have HO4 := Lib.hid hO4
              have HN4 : Hid (∀ b, (Value.slice a18 out.length c18).ownBlock = some b → w.heap.size ≤ b ∧ ¬ F4 b ∧ (Value.slice a14 us.length c14).ownBlock ≠ some b) := Lib.hid (fun b hb => by
                have h1 := hb4 b hb
                refine ⟨by omega, fun hf => ?_, fun e => ?_⟩
                · rw [hF4] at hf
                  rcases hf.1 with h | h
                  · have := (HSq.out.fh b h).2.1; omega
                  · exact h.2 hb
                · have := (HSq.out.lt (r := rT (.slice a14 us.length c14) us) (by simp) b e).2; omega)
              have HCol := Lib.hid hCol
              have HST4 := Lib.hid hst4
              have HWF4 := Lib.hid hwf4
              have HH4 := Lib.hid hH4
              clear hK4 hCol hR4 hO4 hb4 hH4 hst4 hwf4 hF4
              go_wp2_with fail
              refine (hused_c F4 w4 B 1000 H4 HR4.out).mono ?_
              rintro e w5 ⟨rfl, hw5⟩
              subst w5
              go_wp2_with fail
              refine (hcollect_c F4 _ _ w4 B 1000 H4 out _ HO4.out.rx (by have := HST4.out.length; omega) HR4.out HWF4.out (by omega) HST4.out.stands).mono ?_
              rintro e w6 ⟨v20, tw2, out2, ks2, rfl, hK6, hCol2, hR6, hO6, hb6⟩
              obtain ⟨a20, c20, rfl⟩ := hO6.form
              obtain ⟨H6, hH6⟩ : ∃ H6 : HS, H6 = ⟨tw2, H4.names⟩ := ⟨_, rfl⟩
              have hst6 := HST4.out.col hCol2
              have hwf6 := hCol2.wf HWF4.out H4.names
              have hag : tw2.length = H4.ws.length := by
                have h1 := HCol.out.again (nm := H.names) HW.out (by rw [← HH4.out]; exact hCol2)
                omega
              rw [← hH6] at hR6 hst6 hwf6
              have hH6n : H6.names.length ≤ k * 1048576 := by rw [hH6]; exact hH4n
              have hH6w : H6.ws.length = H4.ws.length := by rw [hH6]; exact hag
              have hH6l : H6.ws.length ≤ 1000 := by omega
              have hlo : out2.length = us.length := by have := hst6.length; omega
              have HOL : Hid (out2.length = us.length) := Lib.hid hlo
              obtain ⟨F6, hF6⟩ : ∃ F6 : Nat → Prop, F6 = fun b => (F4 b ∨ (w4.heap.size ≤ b ∧ (Value.slice a20 out2.length c20).ownBlock ≠ some b)) ∧ b < w6.heap.size := ⟨_, rfl⟩
              have HR6 : Hid (HeapR F6 w6 B 1000 H6) := Lib.hid (by rw [hF6]; exact hR6.low)
              have HS6 : Hid (RS (AgP S w) F6 w [] w6 [rT (.slice a14 us.length c14) us]) := Lib.hid (HS4.out.keep hK6 fun b hb => by
                rw [hF6] at hb; exact ⟨hb.1.imp id (·.1), hb.2⟩)
              rw [hlo] at hO6 ⊢
              have HO6 := Lib.hid hO6
              have HST6 := Lib.hid hst6
              have HWF6 := Lib.hid hwf6
              have HU6 := Lib.hid hH6w
              have hus20 : us.length ≤ 20 := by omega
              have hs6 := HS6.out.bel.size
              clear hK6 hCol2 hR6 hO6 hb6 hH6 hst6 hwf6 hF6 hag hH6w hlo
              go_wp2_with fail
              refine (hused_c F6 w6 B 1000 H6 HR6.out).mono ?_
              rintro e w7 ⟨rfl, hw7⟩
              subst w7
              rw [HU6.out]
              go_wp2_with fail
              go_loopw [127] (fun i wr => ∃ k3 : Nat, k3 ≤ us.length ∧ i = .int .i64 k3 ∧ Below w6.heap.size w6 wr) (fun i _ => us.length - (intOf i).toNat)
              case atStart => exact ⟨0, Nat.zero_le _, rfl, Below.refl _ _⟩
              case round =>
                obtain ⟨k3, hk3, rfl, hB3⟩ := hrel
                obtain ⟨wv, rfl⟩ : ∃ wv : World, wv = wr := ⟨_, rfl⟩
                have hs3 := hB3.size
                have HB3 := Lib.hid hB3
                have HS7 := Lib.hid (HS6.out.below hB3)
                have HR7 := Lib.hid (HR6.out.below hB3)
                have HO7 : Hid (OwnW wv (.slice a20 us.length c20) out2) := Lib.hid (HO6.out.to hs3 fun b hb => hB3.block b (HO6.out.block b hb).2)
                clear hB3
                by_cases hlt3 : k3 < us.length
                · have hlt4 : k3 < out2.length := by rw [HOL.out]; exact hlt3
                  obtain ⟨g20, rfl⟩ : ∃ g, a20 = some ⟨g, 0, none⟩ := by
                    obtain ⟨g, cap, e⟩ := HO7.out.form0 (by omega)
                    simp only [Value.slice.injEq] at e
                    exact ⟨g, e.1⟩
                  obtain ⟨g14, rfl⟩ : ∃ g, a14 = some ⟨g, 0, none⟩ := by
                    obtain ⟨g, cap, e⟩ := HS7.out.form0 (r := rT (.slice a14 us.length c14) us) (by simp) (by exact (show 0 < us.length by omega))
                    simp only [rT, Value.slice.injEq] at e
                    exact ⟨g, e.1⟩
                  obtain ⟨-, d0, d1⟩ := HO7.out.rx.wrd k3 hlt4
                  obtain ⟨a3', cap3', hT3, f0, f1, f2, f3⟩ := HS7.out.term (g := g14) (ts := us) (n := us.length) (cap := c14) (by simp) k3 hlt3
                  obtain ⟨hr3, hl3⟩ := HST6.out.at k3 hlt3 hlt4
                  have HBu : Hid (bulkL [us[k3]] ≤ 1099511627776) := Lib.hid (by have := HBL2.out _ (List.getElem_mem hlt3); omega)
                  obtain ⟨x3, hx3⟩ : ∃ x, x = out2[k3] := ⟨_, rfl⟩
                  obtain ⟨u3, hu3⟩ : ∃ u, u = us[k3] := ⟨_, rfl⟩
                  rw [← hx3] at d0 d1 hr3
                  rw [← hu3] at hT3 f0 f1 f2 f3 hr3 hl3 HBu
                  simp only [Nat.zero_add] at d0 d1
                  have HREP := Lib.hid hr3
                  have HLF := Lib.hid hl3
                  have HT3 := Lib.hid hT3
                  have HF3 : Hid (wv.cell? ⟨g14, k3 * 4, none⟩ = some (.int .i64 u3.kind) ∧ wv.cell? ⟨g14, k3 * 4 + 1, none⟩ = some (.int .i64 u3.n) ∧ wv.cell? ⟨g14, k3 * 4 + 2, none⟩ = some (.string u3.name) ∧ wv.cell? ⟨g14, k3 * 4 + 3, none⟩ = some (.slice a3' u3.args.length cap3')) := Lib.hid ⟨f0, f1, f2, f3⟩
                  have hg14 : g14 < wv.heap.size := (HS7.out.lt (r := rT (.slice (some ⟨g14, 0, none⟩) us.length c14) us) (by simp) g14 rfl).2
                  clear hx3 hu3 hr3 hl3 hT3 f0 f1 f2 f3
                  go_wp2_with fail
                  refine (hGet_c u3 F6 wv B 1000 H6 x3 HR7.out HREP.out HLF.out HWF6.out.heads (by omega) (by omega)).mono ?_
                  rintro e wg ⟨b3, p3, rfl, hBg, hTg⟩
                  have hsg := hBg.size
                  have HBG := Lib.hid hBg
                  have HTG := Lib.hid hTg
                  clear hBg hTg d0 d1
                  go_upto_region 33 with fail
                  obtain ⟨W23, hW23⟩ : ∃ W : World, W = wg.alloc (.cells #[.int .i64 u3.kind, .int .i64 u3.n, .string u3.name, .slice b3 u3.args.length p3] 29) := ⟨_, rfl⟩
                  obtain ⟨g23, hg23⟩ : ∃ g, g = wg.heap.size := ⟨_, rfl⟩
                  have HX23 : Hid (Blk W23 g23 [.int .i64 u3.kind, .int .i64 u3.n, .string u3.name, .slice b3 u3.args.length p3]) := Lib.hid (by rw [hW23]; exact Blk.new _ _ _ _ hg23)
                  have HBg : Hid (Below wv.heap.size wv W23) := Lib.hid (by rw [hW23]; exact below_step HBG.out (by omega) (below_alloc _ _))
                  have hs23 := HBg.out.size
                  have hg23l : g23 < W23.heap.size := HX23.out.lt
                  have HTg : Hid (RT (fun _ => True) W23 u3 (.agg #[.int .i64 u3.kind, .int .i64 u3.n, .string u3.name, .slice b3 u3.args.length p3])) := Lib.hid (by rw [hW23]; exact (HTG.out.below (below_alloc _ _)).mono fun _ _ => trivial)
                  have HTw : Hid (RT (fun _ => True) W23 u3 (.agg #[.int .i64 u3.kind, .int .i64 u3.n, .string u3.name, .slice a3' u3.args.length cap3'])) := Lib.hid ((HT3.out.below HBg.out).mono fun _ _ => trivial)
                  have HQ33 : Hid (∀ w' : World, Below W23.heap.size W23 w' → w'.cell? ⟨g23, 0, none⟩ = some (.int .i64 u3.kind) ∧ w'.cell? ⟨g23, 1, none⟩ = some (.int .i64 u3.n) ∧ w'.cell? ⟨g23, 2, none⟩ = some (.string u3.name) ∧ w'.cell? ⟨g23, 3, none⟩ = some (.slice b3 u3.args.length p3) ∧ w'.cell? ⟨g14, k3 * 4, none⟩ = some (.int .i64 u3.kind) ∧ w'.cell? ⟨g14, k3 * 4 + 1, none⟩ = some (.int .i64 u3.n) ∧ w'.cell? ⟨g14, k3 * 4 + 2, none⟩ = some (.string u3.name) ∧ w'.cell? ⟨g14, k3 * 4 + 3, none⟩ = some (.slice a3' u3.args.length cap3')) :=
                    Lib.hid fun w' h => by
                      have hb := h.block g14 (by omega)
                      have hc := HBg.out.block g14 hg14
                      have hd := hb.trans hc
                      obtain ⟨f0, f1, f2, f3⟩ := HF3.out
                      exact ⟨(HX23.out.step h).cell 0 _ rfl, (HX23.out.step h).cell 1 _ rfl, (HX23.out.step h).cell 2 _ rfl, (HX23.out.step h).cell 3 _ rfl, (World.cell?_of_block hd).trans f0, (World.cell?_of_block hd).trans f1, (World.cell?_of_block hd).trans f2, (World.cell?_of_block hd).trans f3⟩
                  rw [← hW23, ← hg23]
                  clear hW23 hg23
                  refine rg_start (fun w' => w'.cell? ⟨g23, 0, none⟩ = some (.int .i64 u3.kind) ∧ w'.cell? ⟨g23, 1, none⟩ = some (.int .i64 u3.n) ∧ w'.cell? ⟨g23, 2, none⟩ = some (.string u3.name) ∧ w'.cell? ⟨g23, 3, none⟩ = some (.slice b3 u3.args.length p3) ∧ w'.cell? ⟨g14, k3 * 4, none⟩ = some (.int .i64 u3.kind) ∧ w'.cell? ⟨g14, k3 * 4 + 1, none⟩ = some (.int .i64 u3.n) ∧ w'.cell? ⟨g14, k3 * 4 + 2, none⟩ = some (.string u3.name) ∧ w'.cell? ⟨g14, k3 * 4 + 3, none⟩ = some (.slice a3' u3.args.length cap3')) (by as_aux_lemma => kernel_rfl) (fun Wd h => HQ33.out _ h) ?_
                  intro Wd hB hWd hWd' hHeld
                  have HBd := Lib.hid hB
                  clear hB
                  refine rg_take (i := 0) (v := ?_) rfl (by as_aux_lemma => kernel_rfl) (by as_aux_lemma => kernel_rfl) (by as_aux_lemma => kernel_rfl) (by rfl) ?_ hHeld ?_
                  rotate_left 1
                  · intro w hSw; (try dsimp only at hSw); go_simp; try (with_reducible rfl)
                  (try simp only [Act.put, List.setIfInBounds_toArray, List.set_cons_zero, List.set_cons_succ])
                  refine rg_take (i := 1) (v := ?_) rfl (by as_aux_lemma => kernel_rfl) (by as_aux_lemma => kernel_rfl) (by as_aux_lemma => kernel_rfl) (by rfl) ?_ hHeld ?_
                  rotate_left 1
                  · intro w hSw; (try dsimp only at hSw); go_simp; try (with_reducible rfl)
                  (try simp only [Act.put, List.setIfInBounds_toArray, List.set_cons_zero, List.set_cons_succ])
                  refine rg_take (i := 2) (v := ?_) rfl (by as_aux_lemma => kernel_rfl) (by as_aux_lemma => kernel_rfl) (by as_aux_lemma => kernel_rfl) (by rfl) ?_ hHeld ?_
                  rotate_left 1
                  · intro w hSw; (try dsimp only at hSw); go_simp; try (with_reducible rfl)
                  (try simp only [Act.put, List.setIfInBounds_toArray, List.set_cons_zero, List.set_cons_succ])
                  refine rg_take (i := 3) (v := ?_) rfl (by as_aux_lemma => kernel_rfl) (by as_aux_lemma => kernel_rfl) (by as_aux_lemma => kernel_rfl) (by rfl) ?_ hHeld ?_
                  rotate_left 1
                  · intro w hSw; (try dsimp only at hSw); go_simp; try (with_reducible rfl)
                  (try simp only [Act.put, List.setIfInBounds_toArray, List.set_cons_zero, List.set_cons_succ])
                  refine rg_take (i := 4) (v := ?_) rfl (by as_aux_lemma => kernel_rfl) (by as_aux_lemma => kernel_rfl) (by as_aux_lemma => kernel_rfl) (by rfl) ?_ hHeld ?_
                  rotate_left 1
                  · intro w hSw; (try dsimp only at hSw); go_simp; try (with_reducible rfl)
                  (try simp only [Act.put, List.setIfInBounds_toArray, List.set_cons_zero, List.set_cons_succ])
                  refine rg_take (i := 5) (v := ?_) rfl (by as_aux_lemma => kernel_rfl) (by as_aux_lemma => kernel_rfl) (by as_aux_lemma => kernel_rfl) (by rfl) ?_ hHeld ?_
                  rotate_left 1
                  · intro w hSw; (try dsimp only at hSw); go_simp; try (with_reducible rfl)
                  (try simp only [Act.put, List.setIfInBounds_toArray, List.set_cons_zero, List.set_cons_succ])
                  refine rg_take (i := 6) (v := ?_) rfl (by as_aux_lemma => kernel_rfl) (by as_aux_lemma => kernel_rfl) (by as_aux_lemma => kernel_rfl) (by rfl) ?_ hHeld ?_
                  rotate_left 1
                  · intro w hSw; (try dsimp only at hSw); go_simp; try (with_reducible rfl)
                  (try simp only [Act.put, List.setIfInBounds_toArray, List.set_cons_zero, List.set_cons_succ])
                  refine rg_take (i := 7) (v := ?_) rfl (by as_aux_lemma => kernel_rfl) (by as_aux_lemma => kernel_rfl) (by as_aux_lemma => kernel_rfl) (by rfl) ?_ hHeld ?_
                  rotate_left 1
                  · intro w hSw; (try dsimp only at hSw); go_simp; try (with_reducible rfl)
                  (try simp only [Act.put, List.setIfInBounds_toArray, List.set_cons_zero, List.set_cons_succ])
                  refine rg_only (i := 8) rfl (by as_aux_lemma => kernel_rfl) (by rfl) (fun K hK => ?_)
                  go_simp
                  go_at_call 19
                  refine (same_c u3 u3 (fun _ => True) Wd _ _ (HTg.out.below HBd.out) (HTw.out.below HBd.out) HBu.out HBu.out).mono ?_
                  rintro e wd ⟨rfl, hB⟩
                  have HBe : Hid (Below W23.heap.size W23 wd) := Lib.hid (below_step HBd.out (by have := HBd.out.size; omega) hB)
                  rw [(sameT_iff u3 u3).2 rfl]
                  clear hB
                  refine hK.out _ _ (HQ33.out _ HBe.out) (fun hHeld1 => ?_)
                  clear hK K hHeld
                  have hHeld := hHeld1
                  clear hHeld1
                  (try simp only [Act.put, List.setIfInBounds_toArray, List.set_cons_zero, List.set_cons_succ])
                  refine rg_take (i := 9) (v := ?_) rfl (by as_aux_lemma => kernel_rfl) (by as_aux_lemma => kernel_rfl) (by as_aux_lemma => kernel_rfl) (by rfl) ?_ hHeld ?_
                  rotate_left 1
                  · intro w hSw; (try dsimp only at hSw); go_simp; try (with_reducible rfl)
                  (try simp only [Act.put, List.setIfInBounds_toArray, List.set_cons_zero, List.set_cons_succ])
                  refine rg_take (i := 10) (v := ?_) rfl (by as_aux_lemma => kernel_rfl) (by as_aux_lemma => kernel_rfl) (by as_aux_lemma => kernel_rfl) (by rfl) ?_ hHeld ?_
                  rotate_left 1
                  · intro w hSw; (try dsimp only at hSw); go_simp; try (with_reducible rfl)
                  (try simp only [Act.put, List.setIfInBounds_toArray, List.set_cons_zero, List.set_cons_succ])
                  refine rg_done (by as_aux_lemma => kernel_rfl) ?_
                  clear hHeld
                  go_wp2_with fail
                  go_roundw
                  case rel => exact ⟨k3 + 1, by omega, by go_num, HB3.out.trans ((HBg.out.trans (HBe.out.mono (by omega))).mono (by omega))⟩
                  case measure => simp [intOf]; omega
                · go_wp2_with fail
                  refine (hcollect_c F6 (fun _ => False) (fun _ => False) wv B 1000 H6 [] _ (RX.nil _ _ _) (by simp) HR7.out HWF6.out (by omega) (by simp)).mono ?_
                  rintro e w8 ⟨v154, tw3, out3, ks3, rfl, hK8, hCol3, hR8, hO8, hb8⟩
                  obtain ⟨a154, c154, rfl⟩ := hO8.form
                  obtain ⟨rfl, rfl⟩ := hCol3.none
                  have HR8 := Lib.hid hR8
                  have HB8 : Hid (Below w.heap.size w w8) := Lib.hid (HS7.out.bel.trans (hK8.below (by have := HS7.out.bel.size; omega) fun b hb => (HS7.out.fh b hb).1))
                  clear hK8 hCol3 hR8 hO8 hb8
                  go_wp2_with fail
                  refine (hused_c _ w8 B 1000 _ HR8.out).mono ?_
                  rintro e w9 ⟨rfl, hw9⟩
                  subst w9
                  go_wp2_with fail
                  go_ret
                  exact ⟨rfl, HB8.out⟩
end Go.Proofs.Ytedfepnekjjmnaa
