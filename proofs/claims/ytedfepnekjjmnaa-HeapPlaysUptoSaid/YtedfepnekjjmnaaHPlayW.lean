/-
  clerklaw.HeapPlays: its walk. No condition but bounds.
-/
import Derived.Deep.CutBlock
import Derived.Deep.DeepCutAuto
import Derived.Test.YtedfepnekjjmnaaJl
import Derived.Test.YtedfepnekjjmnaaLiveN
import Derived.Test.YtedfepnekjjmnaaJk
namespace Go.Proofs.Ytedfepnekjjmnaa
open Go.RowKit
set_option linter.unusedSimpArgs false
set_option linter.unusedVariables false
set_option maxRecDepth 100000


set_option maxHeartbeats 8000000 in
theorem heapplays_walk (room : Int) (l : List HC) (P0 : Nat → Prop) (w : World) (v : Value) (hv : RX hcE P0 P0 w l v) (hP : ∀ b, P0 b → b < w.heap.size) (hb : hcsB l ≤ 2097152) :
    Calls Try.prog 13 #[.int .i64 room, v] w fun e w' => e = .returned (.bool true) ∧ Below w.heap.size w w' := by
  obtain ⟨av, cv, rfl, hcv⟩ := hv.form
  have HV := Lib.hid hv; have HP := Lib.hid hP; have HBB := Lib.hid hb
  have hlb := hcsB_len l
  clear hv hP
  go_enter Try.func13, Try.ntmps13
  by_cases hr : 0 ≤ room ∧ room ≤ 1000
  · have hin : inB room 0 1000 = true := by simp [inB]; omega
    go_wp2_with fail
    refine (hnew_ok room w hr.1 hr.2).mono ?_
    rintro e w1 ⟨rfl, hB1, hR1, hs1⟩
    obtain ⟨B, hBe⟩ : ∃ B, B = w.heap.size := ⟨_, rfl⟩
    have HB1 := Lib.hid hB1; have HR1 : Hid (HeapR (fun b => b = B) w1 B room ⟨[], []⟩) := Lib.hid (by rw [hBe]; exact hR1)
    have HS1 := Lib.hid hs1; have HBE := Lib.hid hBe
    clear hB1 hR1 hs1
    rw [← hBe]
    clear hBe
    go_wp2_with fail
    refine (in_c room 0 1000 _).mono ?_
    rintro e w2 ⟨rfl, rfl⟩
    rw [hin]
    by_cases h60 : 60 < l.length
    · have q60 : (60 : Int) < (l.length : Int) := by omega
      go_wp2_with fail
      go_ret
      exact ⟨rfl, HB1.out⟩
    · have q60 : ¬ (60 : Int) < (l.length : Int) := by omega
      go_wp2_with fail
      go_loopw [7, 8, 9, 10, 63] (fun v7 v8 v9 v10 i wr => ∃ c : Nat, c ≤ l.length ∧ i = .int .i64 (c : Int) ∧ HPI P0 w B room 2097152 c v7 v8 v9 v10 wr) (fun _ _ _ _ i _ => l.length - (intOf i).toNat)
      case atStart =>
        have h0 := RQ.start P0 w HP.out
        have hs := HS1.out
        have hBe := HBE.out
        have h1 : RQ P0 (fun b => b = B) w [] w1 [] := h0.step HB1.out HB1.out.size (fun b hb => ⟨.inr (by omega), by omega⟩) fun b hb _ => HB1.out.block b hb
        exact ⟨0, Nat.zero_le _, rfl, P0, fun b => b = B, ⟨[], []⟩, [], [], [], fun _ => (0, []), [], fun _ h => h, ((h1.nil ptrF).nil termF).nil wrdF, HR1.out, HPl.start hr.1 _, ⟨by simp, by simp, by simp⟩, rfl, by simp, by simp⟩
      case round =>
        obtain ⟨c, hcl, rfl, hI⟩ := hrel
        have HI := Lib.hid hI
        clear hI
        by_cases hlt : c < l.length
        · skip
          obtain ⟨b, o, rfl⟩ := HV.out.addr (by decide) (by omega)
          obtain ⟨cs, ⟨ad, cap, a2, c2, rfl, hT, hA⟩, hC⟩ := HV.out.elem c hlt
          obtain ⟨X, hX⟩ : ∃ X, X = l[c] := ⟨_, rfl⟩
          have hbX := hcsB_mem (List.getElem_mem hlt)
          rw [← hX] at hT hA hC hbX
          clear hX
          obtain ⟨Pw, F, H, xs, ts, ns, N, P, hPP, hRQ, hHR, hHP, hNR, rfl, hnm, hnl⟩ := HI.out
          clear HI
          obtain ⟨a7, c7, e7, hc7⟩ := (hRQ.rx (List.mem_cons_self ..)).form
          obtain ⟨a8, c8, e8, hc8⟩ := (hRQ.rx (List.mem_cons_of_mem _ (List.mem_cons_self ..))).form
          obtain ⟨a9, c9, e9, hc9⟩ := (hRQ.rx (List.mem_cons_of_mem _ (List.mem_cons_of_mem _ (List.mem_cons_self ..)))).form
          simp only [rW, rT, rN] at e7 e8 e9
          subst e7 e8 e9
          have hB := hRQ.bel
          have hsz := hB.size
          have ltw : ∀ {p : Addr} {u : Value}, w.cell? p = some u → wr.cell? p = some u := fun h => (hB.cell (World.block_lt_of_cell? w _ h)).trans h
          have z0 : wr.cell? ⟨b, o + c * 6, none⟩ = some (.int .i64 X.kind) := ltw (hC 0 _ rfl).2
          have z1 : wr.cell? ⟨b, o + c * 6 + 1, none⟩ = some (.int .i64 X.t.kind) := ltw (hC 1 _ rfl).2
          have z2 : wr.cell? ⟨b, o + c * 6 + 2, none⟩ = some (.int .i64 X.t.n) := ltw (hC 2 _ rfl).2
          have z3 : wr.cell? ⟨b, o + c * 6 + 3, none⟩ = some (.string X.t.name) := ltw (hC 3 _ rfl).2
          have z4 : wr.cell? ⟨b, o + c * 6 + 4, none⟩ = some (.slice ad X.t.args.length cap) := ltw (hC 4 _ rfl).2
          have z5 : wr.cell? ⟨b, o + c * 6 + 5, none⟩ = some (.slice a2 X.at'.length c2) := ltw (hC 5 _ rfl).2
          clear hC ltw
          obtain ⟨g12, hg12⟩ : ∃ g, g = wr.heap.size := ⟨_, rfl⟩
          obtain ⟨W2, hW2⟩ : ∃ W : World, W = wr.alloc (.cells #[.int .i64 X.kind, .int .i64 X.t.kind, .int .i64 X.t.n, .string X.t.name, .slice ad X.t.args.length cap, .slice a2 X.at'.length c2] 81) := ⟨_, rfl⟩
          have HR2 : Hid (RQ Pw F w [(g12, [.int .i64 X.kind, .int .i64 X.t.kind, .int .i64 X.t.n, .string X.t.name, .slice ad X.t.args.length cap, .slice a2 X.at'.length c2])] W2 [rW (.slice a7 xs.length c7) xs, rT (.slice a8 ts.length c8) ts, rN (.slice a9 ns.length c9) ns]) := Lib.hid (by rw [hW2]; exact hRQ.alloc #[.int .i64 X.kind, .int .i64 X.t.kind, .int .i64 X.t.n, .string X.t.name, .slice ad X.t.args.length cap, .slice a2 X.at'.length c2] _ hg12)
          have HB2 : Hid (Below wr.heap.size wr W2) := Lib.hid (by rw [hW2]; exact below_alloc _ _)
          have HH2 : Hid (HeapR F W2 B room H) := Lib.hid (hHR.to HB2.out.size (fun _ h => h) fun b hb _ => HB2.out.block b (hRQ.fh b hb).2.1)
          have HN2 : Hid (NodesR Pw W2 N (P.map (·.1))) := Lib.hid (hNR.to (fun _ h _ => h) fun b _ hl => HB2.out.block b hl)
          have HT2 : Hid (RT Pw W2 X.t (.agg #[.int .i64 X.t.kind, .int .i64 X.t.n, .string X.t.name, .slice ad X.t.args.length cap])) := Lib.hid (hT.to (fun b hb _ => hPP b hb) fun b _ hl => HR2.out.bel.block b hl)
          have HA2 : Hid (RX intE Pw (fun _ => False) W2 X.at' (.slice a2 X.at'.length c2)) := Lib.hid (hA.to (fun b hb _ => hPP b hb) (fun _ h _ => h) fun b _ hl => HR2.out.bel.block b hl)
          have HPP := Lib.hid hPP; have HPL := Lib.hid hHP; have HNM := Lib.hid hnm; have HNL := Lib.hid hnl; have HBX := Lib.hid hbX
          go_upto_region 13 with fail
          rw [← hW2, ← hg12]
          have HW2 := Lib.hid hW2; have HG12 := Lib.hid hg12
          clear hW2 hg12 z0 z1 z2 z3 z4 z5 hT hA hPP hRQ hHR hHP hNR hnm hnl hbX
          have x0 := (HR2.out.bk _ (List.mem_cons_self ..)).1.cell 0 _ rfl
          have x5 := (HR2.out.bk _ (List.mem_cons_self ..)).1.cell 5 _ rfl
          go_wp2_with fail
          clear x0 x5
          have hlx : xs.length ≤ 4194304 := by have := HPL.out.lk.len; have := HNL.out; omega
          go_loopw [13, 70] (fun v13 i wi => ∃ (m : Nat) (sm : List Nat), m ≤ X.at'.length ∧ i = .int .i64 (m : Int) ∧ (∀ j ∈ sm, j < xs.length) ∧ sm.length ≤ m ∧ RQ Pw F w [(g12, [.int .i64 X.kind, .int .i64 X.t.kind, .int .i64 X.t.n, .string X.t.name, .slice ad X.t.args.length cap, .slice a2 X.at'.length c2])] wi (rI v13 (sm.map Int.ofNat) :: [rW (.slice a7 xs.length c7) xs, rT (.slice a8 ts.length c8) ts, rN (.slice a9 ns.length c9) ns]) ∧ SameA Pw F W2 wi) (fun _ i _ => X.at'.length - (intOf i).toNat)
          case atStart => exact ⟨0, [], Nat.zero_le _, rfl, by simp, by simp, HR2.out.nil intFQ, SameA.refl _ _ _⟩
          case round =>
            obtain ⟨m, sm, hml, rfl, hsm, hsl, hRI, hSI⟩ := hrel
            have HRI := Lib.hid hRI; have HSI := Lib.hid hSI; have HSM := Lib.hid hsm
            clear hRI hSI hsm
            have hab : X.at'.length ≤ 2097152 := by have := HBX.out.2; omega
            by_cases hmt : m < X.at'.length
            · obtain ⟨b2, o2, rfl⟩ := HA2.out.addr (by decide) (by omega)
              have hA3 : RX intE Pw (fun _ => False) _ X.at' (.slice (some ⟨b2, o2, none⟩) X.at'.length c2) := HA2.out.ito fun b hb hl => HSI.out.2 b (.inl hb) hl
              have x0 := (hA3.int m hmt).2
              clear hA3
              obtain ⟨a13, c13, e13⟩ := HRI.out.formI
              rw [List.length_map] at e13
              subst e13
              by_cases hx0 : xs.length = 0
              · have qx : ¬ (0 : Int) < (xs.length : Int) := by omega
                clear hx0
                go_wp2_with fail
                go_roundw
                case rel => exact ⟨m + 1, sm, by omega, by go_num, HSM.out, by omega, HRI.out, HSI.out⟩
                case measure => simp [intOf]; omega
              · have qx : (0 : Int) < (xs.length : Int) := by omega
                clear hx0
                go_wp2_with fail
                refine (rest_c _ _ _ (by omega) (by omega)).mono ?_
                rintro e w5 ⟨rfl, rfl⟩
                obtain ⟨Wb, hWb⟩ : ∃ W : World, W = w5.alloc (.cells #[.int .i64 (X.at'[m] % (xs.length : Int))] 3) := ⟨_, rfl⟩
                obtain ⟨gz, hgz⟩ : ∃ g, g = w5.heap.size := ⟨_, rfl⟩
                have HRA : Hid (RQ Pw F w [(gz, [.int .i64 (X.at'[m] % (xs.length : Int))]), (g12, [.int .i64 X.kind, .int .i64 X.t.kind, .int .i64 X.t.n, .string X.t.name, .slice ad X.t.args.length cap, .slice (some ⟨b2, o2, none⟩) X.at'.length c2])] Wb (rI (.slice a13 sm.length c13) (sm.map Int.ofNat) :: [rW (.slice a7 xs.length c7) xs, rT (.slice a8 ts.length c8) ts, rN (.slice a9 ns.length c9) ns])) := Lib.hid (by rw [hWb]; exact HRI.out.alloc #[.int .i64 (X.at'[m] % (xs.length : Int))] _ hgz)
                have HSA : Hid (SameA Pw F W2 Wb) := Lib.hid (HSI.out.trans (by rw [hWb]; exact SameA.below (below_alloc _ _)))
                have HWB := Lib.hid hWb
                have HGZ := Lib.hid hgz
                clear hWb hgz
                go_wp2_with (rw [← HWB.out, ← HGZ.out]; refine append_growQ _ _ rfl intFQ rfl [] [rW (.slice a7 xs.length c7) xs, rT (.slice a8 ts.length c8) ts, rN (.slice a9 ns.length c9) ns] (v := .slice a13 sm.length c13) (xs := sm.map Int.ofNat) (y := X.at'[m] % (xs.length : Int)) (g0 := gz) (c := [.int .i64 (X.at'[m] % (xs.length : Int))]) (by rfl) (by rfl) HRA.out (List.mem_cons_self ..) rfl (n := sm.length) (List.length_map ..) (by omega) ?_; intro gn on cn wn hz hzg; have HZ := Lib.hid (hz.sub (bs' := [(g12, [.int .i64 X.kind, .int .i64 X.t.kind, .int .i64 X.t.n, .string X.t.name, .slice ad X.t.args.length cap, .slice (some ⟨b2, o2, none⟩) X.at'.length c2])]) (fun p hp => List.mem_cons_of_mem _ hp)); have HZS := Lib.hid (HSA.out.trans (SameA.grow (l1 := []) (l2 := [rW (.slice a7 xs.length c7) xs, rT (.slice a8 ts.length c8) ts, rN (.slice a9 ns.length c9) ns]) (r := rI (.slice a13 sm.length c13) (sm.map Int.ofNat)) HRA.out hzg)); clear hz hzg)
                go_roundw
                case rel =>
                  have e1 : (X.at'[m] % (xs.length : Int)) = Int.ofNat (X.at'[m] % (xs.length : Int)).toNat := (Int.toNat_of_nonneg (Int.emod_nonneg _ (by omega))).symm
                  have e2 := Int.emod_lt_of_pos X.at'[m] qx
                  have e3 := Int.emod_nonneg X.at'[m] (show (xs.length : Int) ≠ 0 by omega)
                  refine ⟨m + 1, sm ++ [(X.at'[m] % (xs.length : Int)).toNat], by omega, by go_num, fun j hj => ?_, by simp; omega, ?_, HZS.out⟩
                  · rcases List.mem_append.1 hj with hj | hj
                    · exact HSM.out j hj
                    · rw [List.mem_singleton.1 hj]; omega
                  · rw [List.map_append, List.map_singleton, ← e1]
                    exact HZ.out
                case measure => simp [intOf]; omega
            · have hm2 : m = X.at'.length := by omega
              have qm : ¬ (m : Int) < (X.at'.length : Int) := by omega
              obtain ⟨a13, c13, e13⟩ := HRI.out.formI
              rw [List.length_map] at e13
              subst e13
              have hsl2 : sm.length ≤ 2097152 := by omega
              clear hsl
              go_wp2_with fail
              clear hm2 qm
              go_loopw [16, 17, 18, 87] (fun v16 v17 v18 i wr => ∃ (j : Nat) (us : List T) (ws : List Wrd) (ms : List (Option Nat)) (P2 : Nat → Prop), j ≤ sm.length ∧ i = .int .i64 (j : Int) ∧ Pick H P us ws ms ∧ ws.length = j ∧ (∀ b, Pw b → P2 b) ∧ RQ P2 F w [(g12, [.int .i64 X.kind, .int .i64 X.t.kind, .int .i64 X.t.n, .string X.t.name, .slice ad X.t.args.length cap, .slice a2 X.at'.length c2])] wr (rW v16 ws :: rT v17 us :: rN v18 ms :: [rI (.slice a13 sm.length c13) (sm.map Int.ofNat), rW (.slice a7 xs.length c7) xs, rT (.slice a8 ts.length c8) ts, rN (.slice a9 ns.length c9) ns]) ∧ SameA Pw F W2 wr) (fun _ _ _ i _ => sm.length - (intOf i).toNat)
              case atStart => exact ⟨0, [], [], [], Pw, Nat.zero_le _, rfl, Pick.start _ _, rfl, fun _ h => h, ((HRI.out.nil ptrF).nil termF).nil wrdF, HSI.out⟩
              case round =>
                obtain ⟨j, us, ws, ms, P2, hjl, rfl, hpk, hwl, hP2, hR2, hS2⟩ := hrel
                have HWL : Hid (ws.length = j ∧ us.length = j ∧ ms.length = j) := Lib.hid (by have := hpk.lens; omega)
                have hwl2 : ws.length ≤ 2097152 ∧ us.length ≤ 2097152 ∧ ms.length ≤ 2097152 := by have := hpk.lens; omega
                clear hwl
                have HPK := Lib.hid hpk; have HP2 := Lib.hid hP2; have HR3 := Lib.hid hR2; have HS3 := Lib.hid hS2
                clear hpk hP2 hR2 hS2 HRI HSI
                obtain ⟨⟨a16, c16, rfl⟩, ⟨a17, c17, rfl⟩, a18, c18, rfl⟩ := HR3.out.form3
                by_cases hjt : j < sm.length
                · obtain ⟨q, hq⟩ : ∃ q, q = sm[j] := ⟨_, rfl⟩
                  have hqx : q < xs.length := by rw [hq]; exact HSM.out _ (List.getElem_mem hjt)
                  have hqt : q < ts.length := by have := HPL.out.rep.length; omega
                  have hqn : q < ns.length := by have := HPL.out.lk.len; omega
                  obtain ⟨b3, o3, rfl⟩ := HR3.out.addr (r := rI (.slice a13 sm.length c13) (sm.map Int.ofNat)) (a := a13) (by simp) rfl (by rw [show (rI (.slice a13 sm.length c13) (sm.map Int.ofNat)).l.length = sm.length from List.length_map ..]; omega)
                  obtain ⟨b7, o7, rfl⟩ := HR3.out.addr (r := rW (.slice a7 xs.length c7) xs) (a := a7) (by simp) rfl (show 0 < xs.length by omega)
                  obtain ⟨b8, o8, rfl⟩ := HR3.out.addr (r := rT (.slice a8 ts.length c8) ts) (a := a8) (by simp) rfl (show 0 < ts.length by omega)
                  obtain ⟨b9, o9, rfl⟩ := HR3.out.addr (r := rN (.slice a9 ns.length c9) ns) (a := a9) (by simp) rfl (show 0 < ns.length by omega)
                  have x0 := HR3.out.atI (b := b3) (o := o3) (n := sm.length) (cap := c13) (l := sm.map Int.ofNat) (by simp) (j := j) (by rw [List.length_map]; exact hjt)
                  rw [List.getElem_map, ← hq] at x0
                  have x0 : wr.cell? ⟨b3, o3 + j, none⟩ = some (.int .i64 (q : Int)) := x0
                  obtain ⟨y0, y1⟩ := HR3.out.atW (b := b7) (o := o7) (n := xs.length) (cap := c7) (xs := xs) (by simp) hqx
                  obtain ⟨a4, c4, hT4, t0, t1, t2, t3⟩ := HR3.out.atT (b := b8) (o := o8) (n := ts.length) (cap := c8) (ts := ts) (by simp) hqt
                  have n0 := HR3.out.atN (b := b9) (o := o9) (n := ns.length) (cap := c9) (ns := ns) (by simp) hqn
                  have HPK2 := Lib.hid (Pick.step HPL.out HPK.out hqx hqt hqn)
                  obtain ⟨x, hx⟩ : ∃ x, x = xs[q] := ⟨_, rfl⟩
                  obtain ⟨t, ht⟩ : ∃ t, t = ts[q] := ⟨_, rfl⟩
                  obtain ⟨n, hn⟩ : ∃ n, n = ns[q] := ⟨_, rfl⟩
                  rw [← hx] at y0 y1 HPK2
                  rw [← ht] at hT4 t0 t1 t2 t3 HPK2
                  rw [← hn] at n0 HPK2
                  have HT4 := Lib.hid hT4
                  clear hx ht hn hq hT4
                  have hqx2 : (q : Int) < (xs.length : Int) := by omega
                  have hqt2 : (q : Int) < (ts.length : Int) := by omega
                  have hqn2 : (q : Int) < (ns.length : Int) := by omega
                  have HQ : Hid (∀ w' : World, SameA (ownS P2 [rI (.slice (some ⟨b3, o3, none⟩) sm.length c13) (sm.map Int.ofNat), rW (.slice (some ⟨b7, o7, none⟩) xs.length c7) xs, rT (.slice (some ⟨b8, o8, none⟩) ts.length c8) ts, rN (.slice (some ⟨b9, o9, none⟩) ns.length c9) ns]) F wr w' → w'.cell? ⟨b7, o7 + q * 2, none⟩ = some (.int .i64 x.kind) ∧ w'.cell? ⟨b7, o7 + q * 2 + 1, none⟩ = some (.int .i64 x.n) ∧ w'.cell? ⟨b8, o8 + q * 4, none⟩ = some (.int .i64 t.kind) ∧ w'.cell? ⟨b8, o8 + q * 4 + 1, none⟩ = some (.int .i64 t.n) ∧ w'.cell? ⟨b8, o8 + q * 4 + 2, none⟩ = some (.string t.name) ∧ w'.cell? ⟨b8, o8 + q * 4 + 3, none⟩ = some (.slice a4 t.args.length c4) ∧ w'.cell? ⟨b9, o9 + q, none⟩ = some (optr n)) := Lib.hid fun w' hs => by
                    have k7 : ownS P2 [rI (.slice (some ⟨b3, o3, none⟩) sm.length c13) (sm.map Int.ofNat), rW (.slice (some ⟨b7, o7, none⟩) xs.length c7) xs, rT (.slice (some ⟨b8, o8, none⟩) ts.length c8) ts, rN (.slice (some ⟨b9, o9, none⟩) ns.length c9) ns] b7 := .inr ⟨rW (.slice (some ⟨b7, o7, none⟩) xs.length c7) xs, by simp, rfl⟩
                    have k8 : ownS P2 [rI (.slice (some ⟨b3, o3, none⟩) sm.length c13) (sm.map Int.ofNat), rW (.slice (some ⟨b7, o7, none⟩) xs.length c7) xs, rT (.slice (some ⟨b8, o8, none⟩) ts.length c8) ts, rN (.slice (some ⟨b9, o9, none⟩) ns.length c9) ns] b8 := .inr ⟨rT (.slice (some ⟨b8, o8, none⟩) ts.length c8) ts, by simp, rfl⟩
                    have k9 : ownS P2 [rI (.slice (some ⟨b3, o3, none⟩) sm.length c13) (sm.map Int.ofNat), rW (.slice (some ⟨b7, o7, none⟩) xs.length c7) xs, rT (.slice (some ⟨b8, o8, none⟩) ts.length c8) ts, rN (.slice (some ⟨b9, o9, none⟩) ns.length c9) ns] b9 := .inr ⟨rN (.slice (some ⟨b9, o9, none⟩) ns.length c9) ns, by simp, rfl⟩
                    exact ⟨hs.cellB k7 y0, hs.cellB k7 y1, hs.cellB k8 t0, hs.cellB k8 t1, hs.cellB k8 t2, hs.cellB k8 t3, hs.cellB k9 n0⟩
                  clear y0 y1 t0 t1 t2 t3 n0
                  go_upto_region 26 with fail
                  clear x0
                  refine rg_start (fun w' => w'.cell? ⟨b7, o7 + q * 2, none⟩ = some (.int .i64 x.kind) ∧ w'.cell? ⟨b7, o7 + q * 2 + 1, none⟩ = some (.int .i64 x.n) ∧ w'.cell? ⟨b8, o8 + q * 4, none⟩ = some (.int .i64 t.kind) ∧ w'.cell? ⟨b8, o8 + q * 4 + 1, none⟩ = some (.int .i64 t.n) ∧ w'.cell? ⟨b8, o8 + q * 4 + 2, none⟩ = some (.string t.name) ∧ w'.cell? ⟨b8, o8 + q * 4 + 3, none⟩ = some (.slice a4 t.args.length c4) ∧ w'.cell? ⟨b9, o9 + q, none⟩ = some (optr n)) (by as_aux_lemma => kernel_rfl) (fun Wd h => HQ.out _ (SameA.below h)) ?_
                  intro Wd hB hWd hWd' hHeld
                  have HRd := Lib.hid (HR3.out.below hB)
                  have HSd : Hid (SameA (ownS P2 [rI (.slice (some ⟨b3, o3, none⟩) sm.length c13) (sm.map Int.ofNat), rW (.slice (some ⟨b7, o7, none⟩) xs.length c7) xs, rT (.slice (some ⟨b8, o8, none⟩) ts.length c8) ts, rN (.slice (some ⟨b9, o9, none⟩) ns.length c9) ns]) F wr Wd) := Lib.hid (SameA.below hB)
                  have hT5 : termE.C P2 Wd t [.int .i64 t.kind, .int .i64 t.n, .string t.name, .slice a4 t.args.length c4] := termE.to HT4.out (fun b hb _ => hb) fun b hb hl => HSd.out.2 b (.inl (.inl hb)) hl
                  clear hB
                  refine rg_take (i := 0) (v := ?_) rfl (by as_aux_lemma => kernel_rfl) (by as_aux_lemma => kernel_rfl) (by as_aux_lemma => kernel_rfl) (by rfl) ?_ hHeld ?_
                  rotate_left 1
                  · intro w hSw; (try dsimp only at hSw); go_simp; try (with_reducible rfl)
                  (try simp only [Act.put, List.setIfInBounds_toArray, List.set_cons_zero, List.set_cons_succ])
                  refine rg_take (i := 1) (v := ?_) rfl (by as_aux_lemma => kernel_rfl) (by as_aux_lemma => kernel_rfl) (by as_aux_lemma => kernel_rfl) (by rfl) ?_ hHeld ?_
                  rotate_left 1
                  · intro w hSw; (try dsimp only at hSw); go_simp; try (with_reducible rfl)
                  (try simp only [Act.put, List.setIfInBounds_toArray, List.set_cons_zero, List.set_cons_succ])
                  refine rg_take (i := 2) (v := ?_) rfl (by as_aux_lemma => kernel_rfl) (by as_aux_lemma => kernel_rfl) (by as_aux_lemma => kernel_rfl) (by rfl) ?_ hHeld ?_
                  rotate_left 1
                  · intro w hSw; (try dsimp only at hSw); go_simp; try (with_reducible rfl)
                  (try simp only [Act.put, List.setIfInBounds_toArray, List.set_cons_zero, List.set_cons_succ])
                  refine rg_take (i := 3) (v := ?_) rfl (by as_aux_lemma => kernel_rfl) (by as_aux_lemma => kernel_rfl) (by as_aux_lemma => kernel_rfl) (by rfl) ?_ hHeld ?_
                  rotate_left 1
                  · intro w hSw; (try dsimp only at hSw); go_simp; try (with_reducible rfl)
                  (try simp only [Act.put, List.setIfInBounds_toArray, List.set_cons_zero, List.set_cons_succ])
                  refine rg_take (i := 4) (v := ?_) rfl (by as_aux_lemma => kernel_rfl) (by as_aux_lemma => kernel_rfl) (by as_aux_lemma => kernel_rfl) (by rfl) ?_ hHeld ?_
                  rotate_left 1
                  · intro w hSw; (try dsimp only at hSw); go_simp; try (with_reducible rfl)
                  (try simp only [Act.put, List.setIfInBounds_toArray, List.set_cons_zero, List.set_cons_succ])
                  refine rg_take (i := 7) (v := ?_) rfl (by as_aux_lemma => kernel_rfl) (by as_aux_lemma => kernel_rfl) (by as_aux_lemma => kernel_rfl) (by rfl) ?_ hHeld ?_
                  rotate_left 1
                  · intro w hSw; (try dsimp only at hSw); go_simp; try (with_reducible rfl)
                  (try simp only [Act.put, List.setIfInBounds_toArray, List.set_cons_zero, List.set_cons_succ])
                  refine rg_take (i := 8) (v := ?_) rfl (by as_aux_lemma => kernel_rfl) (by as_aux_lemma => kernel_rfl) (by as_aux_lemma => kernel_rfl) (by rfl) ?_ hHeld ?_
                  rotate_left 1
                  · intro w hSw; (try dsimp only at hSw); go_simp; try (with_reducible rfl)
                  (try simp only [Act.put, List.setIfInBounds_toArray, List.set_cons_zero, List.set_cons_succ])
                  refine rg_take (i := 9) (v := ?_) rfl (by as_aux_lemma => kernel_rfl) (by as_aux_lemma => kernel_rfl) (by as_aux_lemma => kernel_rfl) (by rfl) ?_ hHeld ?_
                  rotate_left 1
                  · intro w hSw; (try dsimp only at hSw); go_simp; try (with_reducible rfl)
                  (try simp only [Act.put, List.setIfInBounds_toArray, List.set_cons_zero, List.set_cons_succ])
                  refine rg_take (i := 10) (v := ?_) rfl (by as_aux_lemma => kernel_rfl) (by as_aux_lemma => kernel_rfl) (by as_aux_lemma => kernel_rfl) (by rfl) ?_ hHeld ?_
                  rotate_left 1
                  · intro w hSw; (try dsimp only at hSw); go_simp; try (with_reducible rfl)
                  (try simp only [Act.put, List.setIfInBounds_toArray, List.set_cons_zero, List.set_cons_succ])
                  refine rg_take (i := 11) (v := ?_) rfl (by as_aux_lemma => kernel_rfl) (by as_aux_lemma => kernel_rfl) (by as_aux_lemma => kernel_rfl) (by rfl) ?_ hHeld ?_
                  rotate_left 1
                  · intro w hSw; (try dsimp only at hSw); go_simp; try (with_reducible rfl)
                  (try simp only [Act.put, List.setIfInBounds_toArray, List.set_cons_zero, List.set_cons_succ])
                  refine rg_take (i := 14) (v := ?_) rfl (by as_aux_lemma => kernel_rfl) (by as_aux_lemma => kernel_rfl) (by as_aux_lemma => kernel_rfl) (by rfl) ?_ hHeld ?_
                  rotate_left 1
                  · intro w hSw; (try dsimp only at hSw); go_simp; try (with_reducible rfl)
                  (try simp only [Act.put, List.setIfInBounds_toArray, List.set_cons_zero, List.set_cons_succ])
                  refine rg_take (i := 15) (v := ?_) rfl (by as_aux_lemma => kernel_rfl) (by as_aux_lemma => kernel_rfl) (by as_aux_lemma => kernel_rfl) (by rfl) ?_ hHeld ?_
                  rotate_left 1
                  · intro w hSw; (try dsimp only at hSw); go_simp; try (with_reducible rfl)
                  (try simp only [Act.put, List.setIfInBounds_toArray, List.set_cons_zero, List.set_cons_succ])
                  refine rg_take (i := 16) (v := ?_) rfl (by as_aux_lemma => kernel_rfl) (by as_aux_lemma => kernel_rfl) (by as_aux_lemma => kernel_rfl) (by rfl) ?_ hHeld ?_
                  rotate_left 1
                  · intro w hSw; (try dsimp only at hSw); go_simp; try (with_reducible rfl)
                  (try simp only [Act.put, List.setIfInBounds_toArray, List.set_cons_zero, List.set_cons_succ])
                  refine rg_take (i := 17) (v := ?_) rfl (by as_aux_lemma => kernel_rfl) (by as_aux_lemma => kernel_rfl) (by as_aux_lemma => kernel_rfl) (by rfl) ?_ hHeld ?_
                  rotate_left 1
                  · intro w hSw; (try dsimp only at hSw); go_simp; try (with_reducible rfl)
                  (try simp only [Act.put, List.setIfInBounds_toArray, List.set_cons_zero, List.set_cons_succ])
                  refine rg_take (i := 18) (v := ?_) rfl (by as_aux_lemma => kernel_rfl) (by as_aux_lemma => kernel_rfl) (by as_aux_lemma => kernel_rfl) (by rfl) ?_ hHeld ?_
                  rotate_left 1
                  · intro w hSw; (try dsimp only at hSw); go_simp; try (with_reducible rfl)
                  (try simp only [Act.put, List.setIfInBounds_toArray, List.set_cons_zero, List.set_cons_succ])
                  refine rg_rows false (i0 := 5) (i1 := 6) (j0 := 12) (j1 := 13) (n0 := 0) (n1 := 19) (n2 := 20) (k0 := 1) (fuel := 3) (sbW := 96) (saW := 97) (sbT := 103) (saT := 104) (spN := 109) (sbN := 110) (saN := 111) (seW := 95) (srW := 91) (seT := 102) (srT := 98) (srN := 105)  (fun o _ _ => o = n) rfl
                    (by as_aux_lemma => kernel_rfl) (by as_aux_lemma => kernel_rfl) (by rfl) ⟨rfl, rfl, rfl⟩ (by rfl) ⟨rfl, rfl, rfl⟩ (by rfl) ⟨rfl, rfl, rfl⟩ (by rfl) ⟨rfl, rfl, rfl⟩ (by rfl) ⟨rfl, rfl, rfl⟩ (by rfl) ⟨rfl, rfl, rfl⟩
                    (by decide) (fun s hs => Nat.lt_of_lt_of_le ((by decide : ∀ s ∈ [96, 97, 103, 104, 109, 110, 111], s < 290) s hs) (Nat.le_of_eq (by as_aux_lemma => kernel_rfl))) (by decide)
                    (by rfl) (by rfl) (by rfl) (by rfl) (by rfl) HRd.out hT5 (by omega) (by omega) (by omega) (fun _ _ _ _ h _ _ => h) (by as_aux_lemma => kernel_rfl) (.inr ⟨rfl, n, by rfl, rfl⟩) (fun h => absurd h (by decide)) (fun P' bs1 r1 r2 r3 w' hP hR hS => HQ.out _ (HSd.out.trans hS)) ?_
                  intro u1 u2 u3 o P3 bs1 wf gW fW cW gT fT cT gN fN cN hP3 hR4 hS4 hψ hHeld
                  subst hψ
                  have HR4 := Lib.hid hR4; have HS4 := Lib.hid hS4; have HP3 := Lib.hid hP3
                  clear hR4 hS4 hP3 hT5
                  (try simp only [Act.put, List.setIfInBounds_toArray, List.set_cons_zero, List.set_cons_succ])
                  refine rg_take (i := 21) (v := ?_) rfl (by as_aux_lemma => kernel_rfl) (by as_aux_lemma => kernel_rfl) (by as_aux_lemma => kernel_rfl) (by rfl) ?_ hHeld ?_
                  rotate_left 1
                  · intro w hSw; (try dsimp only at hSw); go_simp; try (with_reducible rfl)
                  (try simp only [Act.put, List.setIfInBounds_toArray, List.set_cons_zero, List.set_cons_succ])
                  refine rg_take (i := 22) (v := ?_) rfl (by as_aux_lemma => kernel_rfl) (by as_aux_lemma => kernel_rfl) (by as_aux_lemma => kernel_rfl) (by rfl) ?_ hHeld ?_
                  rotate_left 1
                  · intro w hSw; (try dsimp only at hSw); go_simp; try (with_reducible rfl)
                  (try simp only [Act.put, List.setIfInBounds_toArray, List.set_cons_zero, List.set_cons_succ])
                  refine rg_take (i := 23) (v := ?_) rfl (by as_aux_lemma => kernel_rfl) (by as_aux_lemma => kernel_rfl) (by as_aux_lemma => kernel_rfl) (by rfl) ?_ hHeld ?_
                  rotate_left 1
                  · intro w hSw; (try dsimp only at hSw); go_simp; try (with_reducible rfl)
                  (try simp only [Act.put, List.setIfInBounds_toArray, List.set_cons_zero, List.set_cons_succ])
                  refine rg_done (by as_aux_lemma => kernel_rfl) ?_
                  clear hHeld
                  go_wp2_with fail
                  go_roundw
                  case rel => exact ⟨j + 1, us ++ [t], ws ++ [x], ms ++ [o], P3, by omega, by go_num, HPK2.out, by have := HWL.out; simp; omega, fun b hb => HP3.out b (HP2.out b hb), HR4.out.sub (bs' := [(g12, [.int .i64 X.kind, .int .i64 X.t.kind, .int .i64 X.t.n, .string X.t.name, .slice ad X.t.args.length cap, .slice a2 X.at'.length c2])]) (by simp), HS3.out.trans ((HSd.out.trans HS4.out).mono fun b hb => .inl (HP2.out b hb))⟩
                  case measure => simp [intOf]; omega
                · have qj : ¬ (j : Int) < (sm.length : Int) := by omega
                  have HS5 : Hid (HPS P2 F w [(g12, [.int .i64 X.kind, .int .i64 X.t.kind, .int .i64 X.t.n, .string X.t.name, .slice ad X.t.args.length cap, .slice a2 X.at'.length c2])] [rW (.slice a16 ws.length c16) ws, rT (.slice a17 us.length c17) us, rN (.slice a18 ms.length c18) ms, rW (.slice a7 xs.length c7) xs, rT (.slice a8 ts.length c8) ts, rN (.slice a9 ns.length c9) ns] B room H N (P.map (·.1)) X.t (.agg #[.int .i64 X.t.kind, .int .i64 X.t.n, .string X.t.name, .slice ad X.t.args.length cap]) wr) := Lib.hid ⟨HR3.out.rows (.cons_cons _ (.cons_cons _ (.cons_cons _ (.cons _ (List.Sublist.refl _))))), HS3.out.heapR HH2.out, (HS3.out.nodes HN2.out).to (fun b h _ => HP2.out b h) fun _ _ _ => rfl, (HS3.out.rt HT2.out).to (fun b h _ => HP2.out b h) fun _ _ _ => rfl⟩
                  have x0 := HS5.out.cell (g := g12) (List.mem_cons_self ..) 0 _ rfl
                  have hbX1 := HBX.out.1
                  have hm0 := HPL.out.rm
                  have hn0 := HNM.out
                  have hlt8 : ts.length ≤ 4194304 ∧ ns.length ≤ 4194304 := by have h1 := HPL.out.lk.len; have h2 := HPL.out.rep.length; omega
                  clear HR3 HS3 HR2 HB2 HH2 HN2 HT2 HA2 HSM HWL
                  go_upto_block 6 with fail
                  clear x0 qj
                  go_cut [7, 8, 9, 10] (fun v7 v8 v9 v10 wx => HPI P0 w B room 2097152 (c + 1) v7 v8 v9 v10 wx)
                  case first =>
                    by_cases hk0 : X.kind = 0
                    · have k0 : (X.kind == 0) = true := by simp [hk0]
                      have HK0 := Lib.hid hk0
                      clear hk0
                      as_aux_lemma =>
                        have x1 := HS5.out.cell (g := g12) (List.mem_cons_self ..) 1 _ rfl
                        have x2 := HS5.out.cell (g := g12) (List.mem_cons_self ..) 2 _ rfl
                        have x3 := HS5.out.cell (g := g12) (List.mem_cons_self ..) 3 _ rfl
                        have x4 := HS5.out.cell (g := g12) (List.mem_cons_self ..) 4 _ rfl
                        go_wp2_with fail
                        refine (rputable_c X.t P2 wr _ HS5.out.t HS5.out.lt (by omega)).mono ?_
                        rintro e W6 ⟨rfl, hB6⟩
                        have HS6 := Lib.hid (HS5.out.below hB6)
                        clear hB6 x1 x2 x3 x4
                        have x1 := HS6.out.cell (g := g12) (List.mem_cons_self ..) 1 _ rfl
                        have x2 := HS6.out.cell (g := g12) (List.mem_cons_self ..) 2 _ rfl
                        have x3 := HS6.out.cell (g := g12) (List.mem_cons_self ..) 3 _ rfl
                        have x4 := HS6.out.cell (g := g12) (List.mem_cons_self ..) 4 _ rfl
                        by_cases hpe : putE X.t = 0
                        · have qpe : (putE X.t == 0) = true := by simp [hpe]
                          have HC0 : Hid (checkE X.t = 0 ∧ closedL [X.t] = true) := Lib.hid (putE_ok hpe)
                          have hsz := (check_ok HC0.out.1 HC0.out.2).2.2
                          clear hpe
                          go_wp2_with fail
                          refine (rsize_c X.t P2 W6 _ HS6.out.t (by omega)).mono ?_
                          rintro e W6b ⟨rfl, hB6b⟩
                          have HSb := Lib.hid (HS6.out.below hB6b)
                          clear hB6b x1 x2 x3 x4 HS6
                          have x1 := HSb.out.cell (g := g12) (List.mem_cons_self ..) 1 _ rfl
                          have x2 := HSb.out.cell (g := g12) (List.mem_cons_self ..) 2 _ rfl
                          have x3 := HSb.out.cell (g := g12) (List.mem_cons_self ..) 3 _ rfl
                          have x4 := HSb.out.cell (g := g12) (List.mem_cons_self ..) 4 _ rfl
                          by_cases hfull : room < (H.ws.length : Int) + szL [X.t]
                          · have HE := Lib.hid (putHO_full (H := H) HC0.out.1 HC0.out.2 hfull)
                            go_wp2_with fail
                            refine (hPut_c X.t F P2 W6b B room H _ HSb.out.h HSb.out.t HSb.out.ap (by omega) (by omega) (by omega)).mono ?_
                            rintro e W7 ⟨rfl, hK7, hH7⟩
                            rw [HE.out] at hH7
                            rw [HE.out]
                            have HS7 := Lib.hid (HSb.out.keep hK7 hH7)
                            clear hK7 hH7 x1 x2 x3 x4
                            go_wp2_with fail
                            go_meet
                            exact HPI.of (((HS7.out.below (below_alloc _ _)))) (.cons _ (.cons _ (.cons _ (List.Sublist.refl _)))) (fun b hb => HP2.out b (HPP.out b hb)) HPL.out HNM.out (Nat.le_add_right _ _) HNL.out
                          · have HE := Lib.hid (putHO_ok (H := H) HC0.out.1 HC0.out.2 hfull)
                            have HFU := Lib.hid hfull
                            go_wp2_with fail
                            refine (hPut_c X.t F P2 W6b B room H _ HSb.out.h HSb.out.t HSb.out.ap (by omega) (by omega) (by omega)).mono ?_
                            rintro e W7 ⟨rfl, hK7, hH7⟩
                            rw [HE.out] at hH7
                            rw [HE.out]
                            have HS7 := Lib.hid (HSb.out.keep hK7 hH7)
                            obtain ⟨x, hx⟩ : ∃ x, x = (putW H X.t).1 := ⟨_, rfl⟩
                            obtain ⟨F8, hF8⟩ : ∃ F8 : Nat → Prop, F8 = fun b => (F b ∨ W6b.heap.size ≤ b) ∧ b < W7.heap.size := ⟨_, rfl⟩
                            rw [← hF8] at HS7
                            have HX := Lib.hid hx
                            clear hK7 hH7 x1 x2 x3 x4 HSb hF8 hfull hx
                            go_upto_region 35 with fail
                            rw [← HX.out]
                            obtain ⟨W8, hW8⟩ : ∃ W : World, W = W7.alloc (.cells #[.int .i64 x.kind, .int .i64 x.n] 69) := ⟨_, rfl⟩
                            obtain ⟨g22, hg22⟩ : ∃ g, g = W7.heap.size := ⟨_, rfl⟩
                            have HS8 : Hid (HPS P2 F8 w [(g22, [.int .i64 x.kind, .int .i64 x.n]), (g12, [.int .i64 X.kind, .int .i64 X.t.kind, .int .i64 X.t.n, .string X.t.name, .slice ad X.t.args.length cap, .slice a2 X.at'.length c2])] [rW (.slice a16 ws.length c16) ws, rT (.slice a17 us.length c17) us, rN (.slice a18 ms.length c18) ms, rW (.slice a7 xs.length c7) xs, rT (.slice a8 ts.length c8) ts, rN (.slice a9 ns.length c9) ns] B room (putW H X.t).2 N (P.map (·.1)) X.t (.agg #[.int .i64 X.t.kind, .int .i64 X.t.n, .string X.t.name, .slice ad X.t.args.length cap]) W8) := Lib.hid (by rw [hW8]; exact HS7.out.alloc #[.int .i64 x.kind, .int .i64 x.n] _ hg22)
                            rw [← hW8, ← hg22]
                            clear hW8 hg22 HS7
                            have x1 := HS8.out.cell (g := g12) (List.mem_cons_of_mem _ (List.mem_cons_self ..)) 1 _ rfl
                            have x2 := HS8.out.cell (g := g12) (List.mem_cons_of_mem _ (List.mem_cons_self ..)) 2 _ rfl
                            have x3 := HS8.out.cell (g := g12) (List.mem_cons_of_mem _ (List.mem_cons_self ..)) 3 _ rfl
                            have x4 := HS8.out.cell (g := g12) (List.mem_cons_of_mem _ (List.mem_cons_self ..)) 4 _ rfl
                            go_wp2_with fail
                            refine (rsize_c X.t P2 W8 _ HS8.out.t (by omega)).mono ?_
                            rintro e W9 ⟨rfl, hB9⟩
                            have HS9 := Lib.hid (HS8.out.below hB9)
                            clear hB9 x1 x2 x3 x4 HS8
                            have x0 := HS9.out.cell (g := g12) (List.mem_cons_of_mem _ (List.mem_cons_self ..)) 0 _ rfl
                            go_upto_region 40 with fail
                            clear x0
                            have HSA : Hid (HPS P2 F8 w [(g22, [.int .i64 x.kind, .int .i64 x.n]), (g12, [.int .i64 X.kind, .int .i64 X.t.kind, .int .i64 X.t.n, .string X.t.name, .slice ad X.t.args.length cap, .slice a2 X.at'.length c2])] [rW (.slice a7 xs.length c7) xs, rT (.slice a8 ts.length c8) ts, rN (.slice a9 ns.length c9) ns] B room (putW H X.t).2 N (P.map (·.1)) X.t (.agg #[.int .i64 X.t.kind, .int .i64 X.t.n, .string X.t.name, .slice ad X.t.args.length cap]) W9) := Lib.hid (HS9.out.rows (.cons _ (.cons _ (.cons _ (List.Sublist.refl _)))))
                            have HQ : Hid (∀ (P' : Nat → Prop) (bs1 : List (Nat × List Value)) (rs : List Rw) (w' : World), RQ P' F8 w (bs1 ++ [(g22, [.int .i64 x.kind, .int .i64 x.n]), (g12, [.int .i64 X.kind, .int .i64 X.t.kind, .int .i64 X.t.n, .string X.t.name, .slice ad X.t.args.length cap, .slice a2 X.at'.length c2])]) w' rs → w'.cell? ⟨g22, 0, none⟩ = some (.int .i64 x.kind) ∧ w'.cell? ⟨g22, 1, none⟩ = some (.int .i64 x.n) ∧ w'.cell? ⟨g12, 1, none⟩ = some (.int .i64 X.t.kind) ∧ w'.cell? ⟨g12, 2, none⟩ = some (.int .i64 X.t.n) ∧ w'.cell? ⟨g12, 3, none⟩ = some (.string X.t.name) ∧ w'.cell? ⟨g12, 4, none⟩ = some (.slice ad X.t.args.length cap)) := Lib.hid fun P' bs1 rs w' h => ⟨h.cell (g := g22) (c := [.int .i64 x.kind, .int .i64 x.n]) (by simp) 0 _ rfl, h.cell (g := g22) (c := [.int .i64 x.kind, .int .i64 x.n]) (by simp) 1 _ rfl, h.cell (g := g12) (c := [.int .i64 X.kind, .int .i64 X.t.kind, .int .i64 X.t.n, .string X.t.name, .slice ad X.t.args.length cap, .slice a2 X.at'.length c2]) (by simp) 1 _ rfl, h.cell (g := g12) (c := [.int .i64 X.kind, .int .i64 X.t.kind, .int .i64 X.t.n, .string X.t.name, .slice ad X.t.args.length cap, .slice a2 X.at'.length c2]) (by simp) 2 _ rfl, h.cell (g := g12) (c := [.int .i64 X.kind, .int .i64 X.t.kind, .int .i64 X.t.n, .string X.t.name, .slice ad X.t.args.length cap, .slice a2 X.at'.length c2]) (by simp) 3 _ rfl, h.cell (g := g12) (c := [.int .i64 X.kind, .int .i64 X.t.kind, .int .i64 X.t.n, .string X.t.name, .slice ad X.t.args.length cap, .slice a2 X.at'.length c2]) (by simp) 4 _ rfl⟩
                            clear HS9
                            refine rg_start (fun w' => w'.cell? ⟨g22, 0, none⟩ = some (.int .i64 x.kind) ∧ w'.cell? ⟨g22, 1, none⟩ = some (.int .i64 x.n) ∧ w'.cell? ⟨g12, 1, none⟩ = some (.int .i64 X.t.kind) ∧ w'.cell? ⟨g12, 2, none⟩ = some (.int .i64 X.t.n) ∧ w'.cell? ⟨g12, 3, none⟩ = some (.string X.t.name) ∧ w'.cell? ⟨g12, 4, none⟩ = some (.slice ad X.t.args.length cap)) (by as_aux_lemma => kernel_rfl) (fun Wd h => HQ.out P2 [] _ _ (HSA.out.q.below h)) ?_
                            intro Wd hB hWd hWd' hHeld
                            have HSd := Lib.hid (HSA.out.below hB)
                            clear hB
                            refine rg_take (i := 0) (v := ?_) rfl (by as_aux_lemma => kernel_rfl) (by as_aux_lemma => kernel_rfl) (by as_aux_lemma => kernel_rfl) (by rfl) ?_ hHeld ?_
                            rotate_left 1
                            · intro w hSw; (try dsimp only at hSw); go_simp; try (with_reducible rfl)
                            (try simp only [Act.put, List.setIfInBounds_toArray, List.set_cons_zero, List.set_cons_succ])
                            refine rg_take (i := 1) (v := ?_) rfl (by as_aux_lemma => kernel_rfl) (by as_aux_lemma => kernel_rfl) (by as_aux_lemma => kernel_rfl) (by rfl) ?_ hHeld ?_
                            rotate_left 1
                            · intro w hSw; (try dsimp only at hSw); go_simp; try (with_reducible rfl)
                            (try simp only [Act.put, List.setIfInBounds_toArray, List.set_cons_zero, List.set_cons_succ])
                            refine rg_take (i := 4) (v := ?_) rfl (by as_aux_lemma => kernel_rfl) (by as_aux_lemma => kernel_rfl) (by as_aux_lemma => kernel_rfl) (by rfl) ?_ hHeld ?_
                            rotate_left 1
                            · intro w hSw; (try dsimp only at hSw); go_simp; try (with_reducible rfl)
                            (try simp only [Act.put, List.setIfInBounds_toArray, List.set_cons_zero, List.set_cons_succ])
                            refine rg_take (i := 5) (v := ?_) rfl (by as_aux_lemma => kernel_rfl) (by as_aux_lemma => kernel_rfl) (by as_aux_lemma => kernel_rfl) (by rfl) ?_ hHeld ?_
                            rotate_left 1
                            · intro w hSw; (try dsimp only at hSw); go_simp; try (with_reducible rfl)
                            (try simp only [Act.put, List.setIfInBounds_toArray, List.set_cons_zero, List.set_cons_succ])
                            refine rg_take (i := 6) (v := ?_) rfl (by as_aux_lemma => kernel_rfl) (by as_aux_lemma => kernel_rfl) (by as_aux_lemma => kernel_rfl) (by rfl) ?_ hHeld ?_
                            rotate_left 1
                            · intro w hSw; (try dsimp only at hSw); go_simp; try (with_reducible rfl)
                            (try simp only [Act.put, List.setIfInBounds_toArray, List.set_cons_zero, List.set_cons_succ])
                            refine rg_take (i := 9) (v := ?_) rfl (by as_aux_lemma => kernel_rfl) (by as_aux_lemma => kernel_rfl) (by as_aux_lemma => kernel_rfl) (by rfl) ?_ hHeld ?_
                            rotate_left 1
                            · intro w hSw; (try dsimp only at hSw); go_simp; try (with_reducible rfl)
                            (try simp only [Act.put, List.setIfInBounds_toArray, List.set_cons_zero, List.set_cons_succ])
                            refine rg_take (i := 10) (v := ?_) rfl (by as_aux_lemma => kernel_rfl) (by as_aux_lemma => kernel_rfl) (by as_aux_lemma => kernel_rfl) (by rfl) ?_ hHeld ?_
                            rotate_left 1
                            · intro w hSw; (try dsimp only at hSw); go_simp; try (with_reducible rfl)
                            (try simp only [Act.put, List.setIfInBounds_toArray, List.set_cons_zero, List.set_cons_succ])
                            refine rg_take (i := 11) (v := ?_) rfl (by as_aux_lemma => kernel_rfl) (by as_aux_lemma => kernel_rfl) (by as_aux_lemma => kernel_rfl) (by rfl) ?_ hHeld ?_
                            rotate_left 1
                            · intro w hSw; (try dsimp only at hSw); go_simp; try (with_reducible rfl)
                            (try simp only [Act.put, List.setIfInBounds_toArray, List.set_cons_zero, List.set_cons_succ])
                            refine rg_rows true (i0 := 2) (i1 := 3) (j0 := 7) (j1 := 8) (n0 := 12) (n1 := 13) (n2 := 14) (k0 := 0) (fuel := 3) (sbW := 154) (saW := 155) (sbT := 159) (saT := 160) (spN := 164) (sbN := 165) (saN := 166) (seW := 153) (srW := 152) (seT := 158) (srT := 156) (srN := 161) (x := x) (GrP N P X.t) rfl
                              (by as_aux_lemma => kernel_rfl) (by as_aux_lemma => kernel_rfl) (by rfl) ⟨rfl, rfl, rfl⟩ (by rfl) ⟨rfl, rfl, rfl⟩ (by rfl) ⟨rfl, rfl, rfl⟩ (by rfl) ⟨rfl, rfl, rfl⟩ (by rfl) ⟨rfl, rfl, rfl⟩ (by rfl) ⟨rfl, rfl, rfl⟩
                              (by decide) (fun s hs => Nat.lt_of_lt_of_le ((by decide : ∀ s ∈ [154, 155, 159, 160, 164, 165, 166], s < 290) s hs) (Nat.le_of_eq (by as_aux_lemma => kernel_rfl))) (by decide)
                              (by rfl) (by rfl) (by rfl) (by rfl) (by rfl) HSd.out.q (termE_of HSd.out.t) (by omega) (by omega) (by omega) (fun _ _ _ _ h _ hc => GrP.to h hc) (by as_aux_lemma => kernel_rfl) (.inl rfl) (fun _ => ⟨_, by rfl, rfl, fun a w1 P1 bs1 r1 r2 hA hP1 hRQ1 hS1 hSw1 K hK => by
                                refine wp_callG 163 29 rfl (v := .agg #[.int .i64 X.t.kind, .int .i64 X.t.n, .string X.t.name, .slice ad X.t.args.length cap]) ((hA.2.2 163 (by decide)).trans rfl) ?_
                                have hn1 : NodesR P1 w1 N (P.map (·.1)) := HSd.out.n.to (fun b h _ => hP1 b h) fun b hb hl => hS1.2 b (.inl (.inl hb)) hl
                                refine (grown_c X.t P2 w1 _ N (HSd.out.t.to (fun _ h _ => h) fun b hb hl => hS1.2 b (.inl (.inl hb)) hl) (by omega)).mono ?_
                                rintro e w2 hG
                                obtain ⟨hB, o, rfl, hg⟩ := GrP.of hn1 (fun b hb => (hRQ1.pb b hb).1) hG
                                exact ⟨_, rfl, hK _ w2 o (fun b hb => .inl hb) (hRQ1.belowP hB) (SameA.below hB) hg⟩⟩) (fun P' bs1 r1 r2 r3 w' hP hR hS => HQ.out _ _ _ _ hR) ?_
                            intro u1 u2 u3 o P3 bs1 wf gW fW cW gT fT cT gN fN cN hP3 hR4 hS4 hψ hHeld
                            have HR4 := Lib.hid hR4; have HS4 := Lib.hid hS4; have HP3 := Lib.hid hP3; have HG4 := Lib.hid hψ
                            clear hR4 hS4 hP3 hψ
                            (try simp only [Act.put, List.setIfInBounds_toArray, List.set_cons_zero, List.set_cons_succ])
                            refine rg_take (i := 15) (v := ?_) rfl (by as_aux_lemma => kernel_rfl) (by as_aux_lemma => kernel_rfl) (by as_aux_lemma => kernel_rfl) (by rfl) ?_ hHeld ?_
                            rotate_left 1
                            · intro w hSw; (try dsimp only at hSw); go_simp; try (with_reducible rfl)
                            (try simp only [Act.put, List.setIfInBounds_toArray, List.set_cons_zero, List.set_cons_succ])
                            refine rg_take (i := 16) (v := ?_) rfl (by as_aux_lemma => kernel_rfl) (by as_aux_lemma => kernel_rfl) (by as_aux_lemma => kernel_rfl) (by rfl) ?_ hHeld ?_
                            rotate_left 1
                            · intro w hSw; (try dsimp only at hSw); go_simp; try (with_reducible rfl)
                            (try simp only [Act.put, List.setIfInBounds_toArray, List.set_cons_zero, List.set_cons_succ])
                            refine rg_take (i := 17) (v := ?_) rfl (by as_aux_lemma => kernel_rfl) (by as_aux_lemma => kernel_rfl) (by as_aux_lemma => kernel_rfl) (by rfl) ?_ hHeld ?_
                            rotate_left 1
                            · intro w hSw; (try dsimp only at hSw); go_simp; try (with_reducible rfl)
                            (try simp only [Act.put, List.setIfInBounds_toArray, List.set_cons_zero, List.set_cons_succ])
                            refine rg_done (by as_aux_lemma => kernel_rfl) ?_
                            clear hHeld
                            go_wp2_with fail
                            go_meet
                            exact HPI.put HR4.out (HS4.out.heapR HSd.out.h) (fun b hb => HP3.out b (HP2.out b (HPP.out b hb))) HPL.out HX.out HG4.out hr.2 HC0.out.1 HC0.out.2 (Int.not_lt.2 HFU.out) HNM.out (by omega) HNL.out
                        · have qpe : (putE X.t == 0) = false := by simpa using hpe
                          have hE := putHO_putE (H := H) (room := room) hpe
                          have HE := Lib.hid hE
                          clear hE
                          go_wp2_with fail
                          refine (hPut_c X.t F P2 W6 B room H _ HS6.out.h HS6.out.t HS6.out.ap (by omega) (by omega) (by omega)).mono ?_
                          rintro e W7 ⟨rfl, hK7, hH7⟩
                          rw [HE.out] at hH7
                          rw [HE.out]
                          have HS7 := Lib.hid (HS6.out.keep hK7 hH7)
                          clear hK7 hH7 x1 x2 x3 x4
                          go_wp2_with fail
                          go_meet
                          exact HPI.of (((HS7.out.below (below_alloc _ _)))) (.cons _ (.cons _ (.cons _ (List.Sublist.refl _)))) (fun b hb => HP2.out b (HPP.out b hb)) HPL.out HNM.out (Nat.le_add_right _ _) HNL.out
                    have k0 : (X.kind == 0) = false := by simpa using hk0
                    by_cases hk3 : X.kind = 3
                    · have k3 : (X.kind == 3) = true := by simp [hk3]
                      have HK3 := Lib.hid hk3
                      clear hk3 hk0
                      as_aux_lemma =>
                        have x1 := HS5.out.cell (g := g12) (List.mem_cons_self ..) 1 _ rfl
                        have x2 := HS5.out.cell (g := g12) (List.mem_cons_self ..) 2 _ rfl
                        have x3 := HS5.out.cell (g := g12) (List.mem_cons_self ..) 3 _ rfl
                        have x4 := HS5.out.cell (g := g12) (List.mem_cons_self ..) 4 _ rfl
                        go_wp2_with fail
                        refine (rputable_c X.t P2 wr _ HS5.out.t HS5.out.lt (by omega)).mono ?_
                        rintro e W6 ⟨rfl, hB6⟩
                        have HS6 := Lib.hid (HS5.out.below hB6)
                        clear hB6 x1 x2 x3 x4
                        have x1 := HS6.out.cell (g := g12) (List.mem_cons_self ..) 1 _ rfl
                        have x2 := HS6.out.cell (g := g12) (List.mem_cons_self ..) 2 _ rfl
                        have x3 := HS6.out.cell (g := g12) (List.mem_cons_self ..) 3 _ rfl
                        have x4 := HS6.out.cell (g := g12) (List.mem_cons_self ..) 4 _ rfl
                        by_cases hpe : putE X.t = 0
                        · have qpe : (putE X.t == 0) = true := by simp [hpe]
                          have HC0 : Hid (checkE X.t = 0 ∧ closedL [X.t] = true) := Lib.hid (putE_ok hpe)
                          have hsz := (check_ok HC0.out.1 HC0.out.2).2.2
                          clear hpe
                          go_wp2_with fail
                          refine (rsize_c X.t P2 W6 _ HS6.out.t (by omega)).mono ?_
                          rintro e W6b ⟨rfl, hB6b⟩
                          have HSb := Lib.hid (HS6.out.below hB6b)
                          clear hB6b x1 x2 x3 x4 HS6
                          have x1 := HSb.out.cell (g := g12) (List.mem_cons_self ..) 1 _ rfl
                          have x2 := HSb.out.cell (g := g12) (List.mem_cons_self ..) 2 _ rfl
                          have x3 := HSb.out.cell (g := g12) (List.mem_cons_self ..) 3 _ rfl
                          have x4 := HSb.out.cell (g := g12) (List.mem_cons_self ..) 4 _ rfl
                          by_cases hfull : room < (H.ws.length : Int) + szL [X.t]
                          · have HE := Lib.hid (putHO_full (H := H) HC0.out.1 HC0.out.2 hfull)
                            go_wp2_with fail
                            refine (hPut_c X.t F P2 W6b B room H _ HSb.out.h HSb.out.t HSb.out.ap (by omega) (by omega) (by omega)).mono ?_
                            rintro e W7 ⟨rfl, hK7, hH7⟩
                            rw [HE.out] at hH7
                            rw [HE.out]
                            have HS7 := Lib.hid (HSb.out.keep hK7 hH7)
                            clear hK7 hH7 x1 x2 x3 x4
                            go_wp2_with fail
                            go_meet
                            exact HPI.of (((HS7.out.below (below_alloc _ _)))) (.cons _ (.cons _ (.cons _ (List.Sublist.refl _)))) (fun b hb => HP2.out b (HPP.out b hb)) HPL.out HNM.out (Nat.le_add_right _ _) HNL.out
                          · have HE := Lib.hid (putHO_ok (H := H) HC0.out.1 HC0.out.2 hfull)
                            have HFU := Lib.hid hfull
                            go_wp2_with fail
                            refine (hPut_c X.t F P2 W6b B room H _ HSb.out.h HSb.out.t HSb.out.ap (by omega) (by omega) (by omega)).mono ?_
                            rintro e W7 ⟨rfl, hK7, hH7⟩
                            rw [HE.out] at hH7
                            rw [HE.out]
                            have HS7 := Lib.hid (HSb.out.keep hK7 hH7)
                            obtain ⟨x, hx⟩ : ∃ x, x = (putW H X.t).1 := ⟨_, rfl⟩
                            obtain ⟨F8, hF8⟩ : ∃ F8 : Nat → Prop, F8 = fun b => (F b ∨ W6b.heap.size ≤ b) ∧ b < W7.heap.size := ⟨_, rfl⟩
                            rw [← hF8] at HS7
                            have HX := Lib.hid hx
                            clear hK7 hH7 x1 x2 x3 x4 HSb hF8 hfull hx
                            go_upto_region 35 with fail
                            rw [← HX.out]
                            obtain ⟨W8, hW8⟩ : ∃ W : World, W = W7.alloc (.cells #[.int .i64 x.kind, .int .i64 x.n] 69) := ⟨_, rfl⟩
                            obtain ⟨g22, hg22⟩ : ∃ g, g = W7.heap.size := ⟨_, rfl⟩
                            have HS8 : Hid (HPS P2 F8 w [(g22, [.int .i64 x.kind, .int .i64 x.n]), (g12, [.int .i64 X.kind, .int .i64 X.t.kind, .int .i64 X.t.n, .string X.t.name, .slice ad X.t.args.length cap, .slice a2 X.at'.length c2])] [rW (.slice a16 ws.length c16) ws, rT (.slice a17 us.length c17) us, rN (.slice a18 ms.length c18) ms, rW (.slice a7 xs.length c7) xs, rT (.slice a8 ts.length c8) ts, rN (.slice a9 ns.length c9) ns] B room (putW H X.t).2 N (P.map (·.1)) X.t (.agg #[.int .i64 X.t.kind, .int .i64 X.t.n, .string X.t.name, .slice ad X.t.args.length cap]) W8) := Lib.hid (by rw [hW8]; exact HS7.out.alloc #[.int .i64 x.kind, .int .i64 x.n] _ hg22)
                            rw [← hW8, ← hg22]
                            clear hW8 hg22 HS7
                            have x1 := HS8.out.cell (g := g12) (List.mem_cons_of_mem _ (List.mem_cons_self ..)) 1 _ rfl
                            have x2 := HS8.out.cell (g := g12) (List.mem_cons_of_mem _ (List.mem_cons_self ..)) 2 _ rfl
                            have x3 := HS8.out.cell (g := g12) (List.mem_cons_of_mem _ (List.mem_cons_self ..)) 3 _ rfl
                            have x4 := HS8.out.cell (g := g12) (List.mem_cons_of_mem _ (List.mem_cons_self ..)) 4 _ rfl
                            go_wp2_with fail
                            refine (rsize_c X.t P2 W8 _ HS8.out.t (by omega)).mono ?_
                            rintro e W9 ⟨rfl, hB9⟩
                            have HS9 := Lib.hid (HS8.out.below hB9)
                            clear hB9 x1 x2 x3 x4 HS8
                            have x0 := HS9.out.cell (g := g12) (List.mem_cons_of_mem _ (List.mem_cons_self ..)) 0 _ rfl
                            go_wp2_with fail
                            go_meet
                            have e := (putW_len H X.t).1
                            have e' : (((putW H X.t).2.ws.length : Nat) : Int) = (H.ws.length : Int) + szL [X.t] := by rw [e]; simp
                            rw [← e']
                            exact HPI.of HS9.out (.cons _ (.cons _ (.cons _ (List.Sublist.refl _)))) (fun b hb => HP2.out b (HPP.out b hb)) (HPL.out.put3 HC0.out.1 HC0.out.2 (Int.not_lt.2 HFU.out)) HNM.out (Nat.le_trans (putW_len H X.t).2 (Nat.add_le_add_left (by omega) _)) HNL.out
                        · have qpe : (putE X.t == 0) = false := by simpa using hpe
                          have hE := putHO_putE (H := H) (room := room) hpe
                          have HE := Lib.hid hE
                          clear hE
                          go_wp2_with fail
                          refine (hPut_c X.t F P2 W6 B room H _ HS6.out.h HS6.out.t HS6.out.ap (by omega) (by omega) (by omega)).mono ?_
                          rintro e W7 ⟨rfl, hK7, hH7⟩
                          rw [HE.out] at hH7
                          rw [HE.out]
                          have HS7 := Lib.hid (HS6.out.keep hK7 hH7)
                          clear hK7 hH7 x1 x2 x3 x4
                          go_wp2_with fail
                          go_meet
                          exact HPI.of (((HS7.out.below (below_alloc _ _)))) (.cons _ (.cons _ (.cons _ (List.Sublist.refl _)))) (fun b hb => HP2.out b (HPP.out b hb)) HPL.out HNM.out (Nat.le_add_right _ _) HNL.out
                    have k3 : (X.kind == 3) = false := by simpa using hk3
                    by_cases hk1 : X.kind = 1
                    · have k1 : (X.kind == 1) = true := by simp [hk1]
                      clear hk1 hk0 hk3
                      as_aux_lemma =>
                        have hbu : bulkL us ≤ 1809 * 2097152 := HPK.out.bulk (by omega)
                        have hbt : bulkL [tupT us] ≤ 1809 * 2097152 + 1 := by rw [bulk_tupT]; omega
                        clear hbu
                        go_upto_region 44 with fail
                        obtain ⟨Wj, hWj⟩ : ∃ W : World, W = wr.alloc (.cells #[.int .i64 4, .int .i64 0, .string ⟨#[]⟩, .slice a17 us.length c17] 29) := ⟨_, rfl⟩
                        obtain ⟨g25, hg25⟩ : ∃ g, g = wr.heap.size := ⟨_, rfl⟩
                        have HSj : Hid (HPS P2 F w [(g25, [.int .i64 4, .int .i64 0, .string ⟨#[]⟩, .slice a17 us.length c17]), (g12, [.int .i64 X.kind, .int .i64 X.t.kind, .int .i64 X.t.n, .string X.t.name, .slice ad X.t.args.length cap, .slice a2 X.at'.length c2])] [rW (.slice a16 ws.length c16) ws, rT (.slice a17 us.length c17) us, rN (.slice a18 ms.length c18) ms, rW (.slice a7 xs.length c7) xs, rT (.slice a8 ts.length c8) ts, rN (.slice a9 ns.length c9) ns] B room H N (P.map (·.1)) X.t (.agg #[.int .i64 X.t.kind, .int .i64 X.t.n, .string X.t.name, .slice ad X.t.args.length cap]) Wj) := Lib.hid (by rw [hWj]; exact HS5.out.alloc #[.int .i64 4, .int .i64 0, .string ⟨#[]⟩, .slice a17 us.length c17] _ hg25)
                        rw [← hWj, ← hg25]
                        clear hWj hg25 HS5
                        by_cases h8 : 8 < ws.length
                        · have q8 : (8 : Int) < (ws.length : Int) := by omega
                          go_wp2_with fail
                          refine (hJoin_long _ P2 Wj B ws _ (HSj.out.q.rx (List.mem_cons_self ..)) h8 (by omega)).mono ?_
                          rintro e W7 ⟨rfl, hB7⟩
                          have HS7 := Lib.hid (HSj.out.below hB7)
                          clear hB7
                          go_wp2_with fail
                          go_meet
                          exact HPI.of (HS7.out.below (below_alloc _ _)) (.cons _ (.cons _ (.cons _ (List.Sublist.refl _)))) (fun b hb => HP2.out b (HPP.out b hb)) HPL.out HNM.out (Nat.le_add_right _ _) HNL.out
                        · have q8 : ¬ (8 : Int) < (ws.length : Int) := by omega
                          by_cases hfull : room < (H.ws.length : Int) + 1 + (ws.length : Int)
                          · skip
                            have HE := Lib.hid (joinHO_full (H := H) (ts := us) (xs := ws) hfull)
                            go_wp2_with fail
                            refine (hJoin_c F _ P2 Wj B room H us ws _ HSj.out.h (HSj.out.q.rx (List.mem_cons_self ..)) (fun b hb hf => (HSj.out.q.fh b hf).2.2 _ (List.mem_cons_self ..) hb) HPL.out.wf HPK.out.rep HPK.out.stands (by omega) (by omega) (by omega) (by omega)).mono ?_
                            rintro e W7 ⟨rfl, hK7, hH7⟩
                            rw [HE.out] at hH7
                            rw [HE.out]
                            have HS7 := Lib.hid (HSj.out.keep hK7 hH7)
                            clear hK7 hH7
                            go_wp2_with fail
                            go_meet
                            exact HPI.of (HS7.out.below (below_alloc _ _)) (.cons _ (.cons _ (.cons _ (List.Sublist.refl _)))) (fun b hb => HP2.out b (HPP.out b hb)) HPL.out HNM.out (Nat.le_add_right _ _) HNL.out
                          · have HFU := Lib.hid hfull
                            have x0 := HSj.out.cell (g := g25) (List.mem_cons_self ..) 0 _ rfl
                            have x1 := HSj.out.cell (g := g25) (List.mem_cons_self ..) 1 _ rfl
                            have x2 := HSj.out.cell (g := g25) (List.mem_cons_self ..) 2 _ rfl
                            have x3 := HSj.out.cell (g := g25) (List.mem_cons_self ..) 3 _ rfl
                            go_wp2_with fail
                            refine (rcheck_c (tupT us) (fun b => b < Wj.heap.size) Wj _ (tupT_rt ((RX.rslX (HSj.out.q.rx (List.mem_cons_of_mem _ (List.mem_cons_self ..)))).to (fun b _ hl => hl) fun _ _ _ => rfl)) (fun _ h => h) (by omega)).mono ?_
                            rintro e Wk ⟨rfl, hBk⟩
                            have HSk := Lib.hid (HSj.out.below hBk)
                            clear hBk x0 x1 x2 x3 HSj
                            by_cases hck : checkE (tupT us) = 0
                            · have qck : (checkE (tupT us) != 0) = false := by simp [hck]
                              have HCK := Lib.hid hck
                              have hfl := Int.not_lt.2 HFU.out
                              clear hck
                              have HE := Lib.hid (joinHO_ok (H := H) (ts := us) (xs := ws) hfl HCK.out)
                              go_wp2_with fail
                              refine (hJoin_c F _ P2 Wk B room H us ws _ HSk.out.h (HSk.out.q.rx (List.mem_cons_self ..)) (fun b hb hf => (HSk.out.q.fh b hf).2.2 _ (List.mem_cons_self ..) hb) HPL.out.wf HPK.out.rep HPK.out.stands (by omega) (by omega) (by omega) (by omega)).mono ?_
                              rintro e W7 ⟨rfl, hK7, hH7⟩
                              rw [HE.out] at hH7
                              rw [HE.out]
                              have HS7 := Lib.hid (HSk.out.keep hK7 hH7)
                              clear hK7 hH7
                              clear hfl
                              obtain ⟨F8, hF8⟩ : ∃ F8 : Nat → Prop, F8 = fun b => (F b ∨ Wk.heap.size ≤ b) ∧ b < W7.heap.size := ⟨_, rfl⟩
                              rw [← hF8] at HS7
                              clear hF8
                              go_upto_region 51 with fail
                              obtain ⟨W8, hW8⟩ : ∃ W : World, W = W7.alloc (.cells #[.int .i64 4, .int .i64 (H.ws.length : Int)] 69) := ⟨_, rfl⟩
                              obtain ⟨g26, hg26⟩ : ∃ g, g = W7.heap.size := ⟨_, rfl⟩
                              have HS8 : Hid (HPS P2 F8 w [(g26, [.int .i64 4, .int .i64 (H.ws.length : Int)]), (g25, [.int .i64 4, .int .i64 0, .string ⟨#[]⟩, .slice a17 us.length c17]), (g12, [.int .i64 X.kind, .int .i64 X.t.kind, .int .i64 X.t.n, .string X.t.name, .slice ad X.t.args.length cap, .slice a2 X.at'.length c2])] [rW (.slice a16 ws.length c16) ws, rT (.slice a17 us.length c17) us, rN (.slice a18 ms.length c18) ms, rW (.slice a7 xs.length c7) xs, rT (.slice a8 ts.length c8) ts, rN (.slice a9 ns.length c9) ns] B room (joinH H ws) N (P.map (·.1)) X.t (.agg #[.int .i64 X.t.kind, .int .i64 X.t.n, .string X.t.name, .slice ad X.t.args.length cap]) W8) := Lib.hid (by rw [hW8]; exact HS7.out.alloc #[.int .i64 4, .int .i64 (H.ws.length : Int)] _ hg26)
                              rw [← hW8, ← hg26]
                              clear hW8 hg26 HS7
                              go_upto_region 55 with fail
                              have HRG : Hid (RQ (fun b => (P2 b ∨ (rT (.slice a17 us.length c17) us).v.ownBlock = some b) ∨ (rN (.slice a18 ms.length c18) ms).v.ownBlock = some b) F8 w [(g26, [.int .i64 4, .int .i64 (H.ws.length : Int)]), (g25, [.int .i64 4, .int .i64 0, .string ⟨#[]⟩, .slice a17 us.length c17]), (g12, [.int .i64 X.kind, .int .i64 X.t.kind, .int .i64 X.t.n, .string X.t.name, .slice ad X.t.args.length cap, .slice a2 X.at'.length c2])] W8 [rW (.slice a7 xs.length c7) xs, rT (.slice a8 ts.length c8) ts, rN (.slice a9 ns.length c9) ns]) := Lib.hid ((HS8.out.q.rows (.cons _ (List.Sublist.refl _))).give.give)
                              have HTG : Hid (termE.C (fun b => (P2 b ∨ (rT (.slice a17 us.length c17) us).v.ownBlock = some b) ∨ (rN (.slice a18 ms.length c18) ms).v.ownBlock = some b) W8 (tupT us) [.int .i64 4, .int .i64 0, .string ⟨#[]⟩, .slice a17 us.length c17]) := Lib.hid (termE_of (c := #[.int .i64 4, .int .i64 0, .string ⟨#[]⟩, .slice a17 us.length c17]) (tupT_rt ((RX.rslX (HS8.out.q.rx (List.mem_cons_of_mem _ (List.mem_cons_self ..)))).to (fun b hb _ => .inl hb.symm) fun _ _ _ => rfl)))
                              have HNG : Hid (RX ptrE (fun b => (P2 b ∨ (rT (.slice a17 us.length c17) us).v.ownBlock = some b) ∨ (rN (.slice a18 ms.length c18) ms).v.ownBlock = some b) (fun _ => False) W8 ms (.slice a18 ms.length c18)) := Lib.hid (RX.ptr ((HS8.out.q.rx (List.mem_cons_of_mem _ (List.mem_cons_of_mem _ (List.mem_cons_self ..)))).mono (fun b hb => .inr hb) fun _ h => h))
                              obtain ⟨P5, hP5⟩ : ∃ P5 : Nat → Prop, P5 = fun b => (P2 b ∨ (rT (.slice a17 us.length c17) us).v.ownBlock = some b) ∨ (rN (.slice a18 ms.length c18) ms).v.ownBlock = some b := ⟨_, rfl⟩
                              have HP5 : Hid (∀ b, P2 b → P5 b) := Lib.hid (by rw [hP5]; exact fun b h => .inl (.inl h))
                              rw [← hP5] at HRG HTG HNG
                              clear hP5
                              have HQ : Hid (∀ (P' : Nat → Prop) (bs1 : List (Nat × List Value)) (rs : List Rw) (w' : World), RQ P' F8 w (bs1 ++ [(g26, [.int .i64 4, .int .i64 (H.ws.length : Int)]), (g25, [.int .i64 4, .int .i64 0, .string ⟨#[]⟩, .slice a17 us.length c17]), (g12, [.int .i64 X.kind, .int .i64 X.t.kind, .int .i64 X.t.n, .string X.t.name, .slice ad X.t.args.length cap, .slice a2 X.at'.length c2])]) w' rs → w'.cell? ⟨g26, 0, none⟩ = some (.int .i64 4) ∧ w'.cell? ⟨g26, 1, none⟩ = some (.int .i64 (H.ws.length : Int)) ∧ w'.cell? ⟨g25, 0, none⟩ = some (.int .i64 4) ∧ w'.cell? ⟨g25, 1, none⟩ = some (.int .i64 0) ∧ w'.cell? ⟨g25, 2, none⟩ = some (.string ⟨#[]⟩) ∧ w'.cell? ⟨g25, 3, none⟩ = some (.slice a17 us.length c17)) := Lib.hid fun P' bs1 rs w' h => ⟨h.cell (g := g26) (c := [.int .i64 4, .int .i64 (H.ws.length : Int)]) (by simp) 0 _ rfl, h.cell (g := g26) (c := [.int .i64 4, .int .i64 (H.ws.length : Int)]) (by simp) 1 _ rfl, h.cell (g := g25) (c := [.int .i64 4, .int .i64 0, .string ⟨#[]⟩, .slice a17 us.length c17]) (by simp) 0 _ rfl, h.cell (g := g25) (c := [.int .i64 4, .int .i64 0, .string ⟨#[]⟩, .slice a17 us.length c17]) (by simp) 1 _ rfl, h.cell (g := g25) (c := [.int .i64 4, .int .i64 0, .string ⟨#[]⟩, .slice a17 us.length c17]) (by simp) 2 _ rfl, h.cell (g := g25) (c := [.int .i64 4, .int .i64 0, .string ⟨#[]⟩, .slice a17 us.length c17]) (by simp) 3 _ rfl⟩
                              have hadd : IntKind.i64.wrap (1 + (ws.length : Int)) = 1 + (ws.length : Int) := by rw [IntKind.wrap_i64]; omega
                              have HN8 : Hid (NodesR P5 W8 N (P.map (·.1))) := Lib.hid (HS8.out.n.to (fun b h _ => HP5.out b h) fun _ _ _ => rfl)
                              have HH8 : Hid (HeapR F8 W8 B room (joinH H ws)) := Lib.hid HS8.out.h
                              clear HS8
                              refine rg_start (fun w' => w'.cell? ⟨g26, 0, none⟩ = some (.int .i64 4) ∧ w'.cell? ⟨g26, 1, none⟩ = some (.int .i64 (H.ws.length : Int)) ∧ w'.cell? ⟨g25, 0, none⟩ = some (.int .i64 4) ∧ w'.cell? ⟨g25, 1, none⟩ = some (.int .i64 0) ∧ w'.cell? ⟨g25, 2, none⟩ = some (.string ⟨#[]⟩) ∧ w'.cell? ⟨g25, 3, none⟩ = some (.slice a17 us.length c17)) (by as_aux_lemma => kernel_rfl) (fun Wd h => HQ.out P5 [] _ _ (HRG.out.below h)) ?_
                              intro Wd hB hWd hWd' hHeld
                              have HRd := Lib.hid (HRG.out.below hB)
                              have HTd : Hid (termE.C P5 Wd (tupT us) [.int .i64 4, .int .i64 0, .string ⟨#[]⟩, .slice a17 us.length c17]) := Lib.hid (termE.to HTG.out (fun b h _ => h) fun b _ hl => hB.block b hl)
                              have HNGd : Hid (RX ptrE P5 (fun _ => False) Wd ms (.slice a18 ms.length c18)) := Lib.hid (HNG.out.to (fun _ h _ => h) (fun _ h _ => h) fun b _ hl => hB.block b hl)
                              have HNd : Hid (NodesR P5 Wd N (P.map (·.1))) := Lib.hid (HN8.out.to (fun _ h _ => h) fun b _ hl => hB.block b hl)
                              have HHd : Hid (HeapR F8 Wd B room (joinH H ws)) := Lib.hid (HH8.out.below hB)
                              clear hB HRG HTG HNG HN8 HH8
                              refine rg_take (i := 0) (v := ?_) rfl (by as_aux_lemma => kernel_rfl) (by as_aux_lemma => kernel_rfl) (by as_aux_lemma => kernel_rfl) (by rfl) ?_ hHeld ?_
                              rotate_left 1
                              · intro w hSw; (try dsimp only at hSw); go_simp; try (with_reducible rfl)
                              (try simp only [Act.put, List.setIfInBounds_toArray, List.set_cons_zero, List.set_cons_succ])
                              refine rg_take (i := 1) (v := ?_) rfl (by as_aux_lemma => kernel_rfl) (by as_aux_lemma => kernel_rfl) (by as_aux_lemma => kernel_rfl) (by rfl) ?_ hHeld ?_
                              rotate_left 1
                              · intro w hSw; (try dsimp only at hSw); go_simp; try (with_reducible rfl)
                              (try simp only [Act.put, List.setIfInBounds_toArray, List.set_cons_zero, List.set_cons_succ])
                              refine rg_take (i := 4) (v := ?_) rfl (by as_aux_lemma => kernel_rfl) (by as_aux_lemma => kernel_rfl) (by as_aux_lemma => kernel_rfl) (by rfl) ?_ hHeld ?_
                              rotate_left 1
                              · intro w hSw; (try dsimp only at hSw); go_simp; try (with_reducible rfl)
                              (try simp only [Act.put, List.setIfInBounds_toArray, List.set_cons_zero, List.set_cons_succ])
                              refine rg_take (i := 5) (v := ?_) rfl (by as_aux_lemma => kernel_rfl) (by as_aux_lemma => kernel_rfl) (by as_aux_lemma => kernel_rfl) (by rfl) ?_ hHeld ?_
                              rotate_left 1
                              · intro w hSw; (try dsimp only at hSw); go_simp; try (with_reducible rfl)
                              (try simp only [Act.put, List.setIfInBounds_toArray, List.set_cons_zero, List.set_cons_succ])
                              refine rg_take (i := 8) (v := ?_) rfl (by as_aux_lemma => kernel_rfl) (by as_aux_lemma => kernel_rfl) (by as_aux_lemma => kernel_rfl) (by rfl) ?_ hHeld ?_
                              rotate_left 1
                              · intro w hSw; (try dsimp only at hSw); go_simp; try (with_reducible rfl)
                              (try simp only [Act.put, List.setIfInBounds_toArray, List.set_cons_zero, List.set_cons_succ])
                              refine rg_take (i := 9) (v := ?_) rfl (by as_aux_lemma => kernel_rfl) (by as_aux_lemma => kernel_rfl) (by as_aux_lemma => kernel_rfl) (by rfl) ?_ hHeld ?_
                              rotate_left 1
                              · intro w hSw; (try dsimp only at hSw); go_simp; try (with_reducible rfl)
                              (try simp only [Act.put, List.setIfInBounds_toArray, List.set_cons_zero, List.set_cons_succ])
                              refine rg_take (i := 10) (v := ?_) rfl (by as_aux_lemma => kernel_rfl) (by as_aux_lemma => kernel_rfl) (by as_aux_lemma => kernel_rfl) (by rfl) ?_ hHeld ?_
                              rotate_left 1
                              · intro w hSw; (try dsimp only at hSw); go_simp; try (with_reducible rfl)
                              (try simp only [Act.put, List.setIfInBounds_toArray, List.set_cons_zero, List.set_cons_succ])
                              refine rg_take (i := 11) (v := ?_) rfl (by as_aux_lemma => kernel_rfl) (by as_aux_lemma => kernel_rfl) (by as_aux_lemma => kernel_rfl) (by rfl) ?_ hHeld ?_
                              rotate_left 1
                              · intro w hSw; (try dsimp only at hSw); go_simp; try (with_reducible rfl)
                              (try simp only [Act.put, List.setIfInBounds_toArray, List.set_cons_zero, List.set_cons_succ])
                              refine rg_take (i := 12) (v := ?_) rfl (by as_aux_lemma => kernel_rfl) (by as_aux_lemma => kernel_rfl) (by as_aux_lemma => kernel_rfl) (by rfl) ?_ hHeld ?_
                              rotate_left 1
                              · intro w hSw; (try dsimp only at hSw); go_simp; try (with_reducible rfl)
                              (try simp only [Act.put, List.setIfInBounds_toArray, List.set_cons_zero, List.set_cons_succ])
                              refine rg_take (i := 13) (v := ?_) rfl (by as_aux_lemma => kernel_rfl) (by as_aux_lemma => kernel_rfl) (by as_aux_lemma => kernel_rfl) (by rfl) ?_ hHeld ?_
                              rotate_left 1
                              · intro w hSw; (try dsimp only at hSw); go_simp; try (with_reducible rfl)
                              (try simp only [Act.put, List.setIfInBounds_toArray, List.set_cons_zero, List.set_cons_succ])
                              refine rg_rows false (i0 := 2) (i1 := 3) (j0 := 6) (j1 := 7) (n0 := 14) (n1 := 15) (n2 := 16) (k0 := 0) (fuel := 3) (sbW := 205) (saW := 206) (sbT := 209) (saT := 210) (spN := 217) (sbN := 218) (saN := 219) (seW := 204) (srW := 203) (seT := 208) (srT := 207) (srN := 211) (x := ⟨4, (H.ws.length : Int)⟩) (t := tupT us) (JnP N P (1 + ws.length, ms)) rfl
                                (by as_aux_lemma => kernel_rfl) (by as_aux_lemma => kernel_rfl) (by rfl) ⟨rfl, rfl, rfl⟩ (by rfl) ⟨rfl, rfl, rfl⟩ (by rfl) ⟨rfl, rfl, rfl⟩ (by rfl) ⟨rfl, rfl, rfl⟩ (by rfl) ⟨rfl, rfl, rfl⟩ (by rfl) ⟨rfl, rfl, rfl⟩
                                (by decide) (fun s hs => Nat.lt_of_lt_of_le ((by decide : ∀ s ∈ [205, 206, 209, 210, 217, 218, 219], s < 290) s hs) (Nat.le_of_eq (by as_aux_lemma => kernel_rfl))) (by decide)
                                (by rfl) (by rfl) (by rfl) (by rfl) (by rfl) HRd.out HTd.out (by omega) (by omega) (by omega) (fun _ _ _ _ h _ hc => JnP.to h hc) (by as_aux_lemma => kernel_rfl) (.inl rfl) (fun _ => ⟨_, by rfl, rfl, fun a w1 P1 bs1 r1 r2 hA hP1 hRQ1 hS1 hSw1 K hK => by
                                  refine wp_box2 216 rfl (c0 := .int .i64 (1 + (ws.length : Int))) (c1 := .slice a18 ms.length c18) ((hA.2.2 216 (by decide)).trans rfl) ?_
                                  have hn1 : NodesR P1 w1 N (P.map (·.1)) := HNd.out.to (fun b h _ => hP1 b h) fun b hb hl => hS1.2 b (.inl (.inl hb)) hl
                                  have hx1 : RX ptrE P1 (fun _ => False) w1 ms (.slice a18 ms.length c18) := HNGd.out.to (fun b h _ => hP1 b h) (fun _ h _ => h) fun b hb hl => hS1.2 b (.inl (.inl (hb.elim (fun h => h.elim) id))) hl
                                  exact hK _ _ (some w1.heap.size) (fun b hb => .inl hb) (hRQ1.belowP (below_alloc _ _)) (SameA.below (below_alloc _ _)) (JnP.box hx1 hn1 fun b hb => (hRQ1.pb b hb).1)⟩) (fun P' bs1 r1 r2 r3 w' hP hR hS => HQ.out _ _ _ _ hR) ?_
                              intro u1 u2 u3 o P3 bs1 wf gW fW cW gT fT cT gN fN cN hP3 hR4 hS4 hψ hHeld
                              have HR4 := Lib.hid hR4; have HS4 := Lib.hid hS4; have HP3 := Lib.hid hP3; have HG4 := Lib.hid hψ
                              clear hR4 hS4 hP3 hψ
                              (try simp only [Act.put, List.setIfInBounds_toArray, List.set_cons_zero, List.set_cons_succ])
                              refine rg_take (i := 17) (v := ?_) rfl (by as_aux_lemma => kernel_rfl) (by as_aux_lemma => kernel_rfl) (by as_aux_lemma => kernel_rfl) (by rfl) ?_ hHeld ?_
                              rotate_left 1
                              · intro w hSw; (try dsimp only at hSw); go_simp; try (with_reducible rfl)
                              (try simp only [Act.put, List.setIfInBounds_toArray, List.set_cons_zero, List.set_cons_succ])
                              refine rg_take (i := 18) (v := ?_) rfl (by as_aux_lemma => kernel_rfl) (by as_aux_lemma => kernel_rfl) (by as_aux_lemma => kernel_rfl) (by rfl) ?_ hHeld ?_
                              rotate_left 1
                              · intro w hSw; (try dsimp only at hSw); go_simp; try (with_reducible rfl)
                              (try simp only [Act.put, List.setIfInBounds_toArray, List.set_cons_zero, List.set_cons_succ])
                              refine rg_take (i := 19) (v := ?_) rfl (by as_aux_lemma => kernel_rfl) (by as_aux_lemma => kernel_rfl) (by as_aux_lemma => kernel_rfl) (by rfl) ?_ hHeld ?_
                              rotate_left 1
                              · intro w hSw; (try dsimp only at hSw); go_simp; try (with_reducible rfl)
                              (try simp only [Act.put, List.setIfInBounds_toArray, List.set_cons_zero, List.set_cons_succ])
                              refine rg_done (by as_aux_lemma => kernel_rfl) ?_
                              clear hHeld
                              go_wp2_with fail
                              go_meet
                              exact HPI.join HR4.out (HS4.out.heapR HHd.out) (fun b hb => HP3.out b (HP5.out b (HP2.out b (HPP.out b hb)))) HPL.out HPK.out rfl HG4.out hr.2 HCK.out (Int.not_lt.2 HFU.out) HNM.out HNL.out
                            · have qck : (checkE (tupT us) != 0) = true := by simpa using hck
                              have hfl := Int.not_lt.2 HFU.out
                              have HE := Lib.hid (joinHO_large (H := H) (ts := us) (xs := ws) hfl hck)
                              go_wp2_with fail
                              refine (hJoin_c F _ P2 Wk B room H us ws _ HSk.out.h (HSk.out.q.rx (List.mem_cons_self ..)) (fun b hb hf => (HSk.out.q.fh b hf).2.2 _ (List.mem_cons_self ..) hb) HPL.out.wf HPK.out.rep HPK.out.stands (by omega) (by omega) (by omega) (by omega)).mono ?_
                              rintro e W7 ⟨rfl, hK7, hH7⟩
                              rw [HE.out] at hH7
                              rw [HE.out]
                              have HS7 := Lib.hid (HSk.out.keep hK7 hH7)
                              clear hK7 hH7
                              go_wp2_with fail
                              go_meet
                              exact HPI.of (HS7.out.below (below_alloc _ _)) (.cons _ (.cons _ (.cons _ (List.Sublist.refl _)))) (fun b hb => HP2.out b (HPP.out b hb)) HPL.out HNM.out (Nat.le_add_right _ _) HNL.out
                    have k1 : (X.kind == 1) = false := by simpa using hk1
                    by_cases hk2 : X.kind = 2
                    · have k2 : (X.kind == 2) = true := by simp [hk2]
                      clear hk2 hk1 hk0 hk3
                      as_aux_lemma =>
                        go_wp2_with fail
                        refine (hcollect_c F _ P2 wr B room H ws _ (HS5.out.q.rx (List.mem_cons_self ..)) (by omega) HS5.out.h HPL.out.wf (by omega) HPK.out.stands).mono ?_
                        rintro e W7 ⟨v2, tw, out, ks, rfl, hK7, hC7, hH7, hO7, -⟩
                        have HOL : Hid (out.length = ws.length) := Lib.hid (by rw [hC7.out, List.length_map])
                        obtain ⟨a28, c28, e28⟩ := hO7.form
                        rw [HOL.out] at e28
                        subst e28
                        have HK7 := Lib.hid hK7; have HC7 := Lib.hid hC7; have HH7 := Lib.hid hH7; have HO7 := Lib.hid hO7
                        clear hK7 hC7 hH7 hO7
                        go_wp2_with fail
                        refine (cloneW_c _ _ out W7 _ HO7.out.rx (by have := HOL.out; omega)).mono ?_
                        rintro e W8 ⟨v7, rfl, hO8, hB8⟩
                        have HO8 := Lib.hid hO8; have HB8 := Lib.hid hB8
                        have HQ8 : Hid (RQ P2 (FC F wr W7 (.slice a28 ws.length c28)) w [(g12, [.int .i64 X.kind, .int .i64 X.t.kind, .int .i64 X.t.n, .string X.t.name, .slice ad X.t.args.length cap, .slice a2 X.at'.length c2])] W8 [rW (.slice a16 ws.length c16) ws, rT (.slice a17 us.length c17) us, rN (.slice a18 ms.length c18) ms, rW (.slice a7 xs.length c7) xs, rT (.slice a8 ts.length c8) ts, rN (.slice a9 ns.length c9) ns]) := Lib.hid ((HS5.out.q.keep HK7.out fun b hb => ⟨hb.1.imp id (·.1), hb.2⟩).below hB8)
                        have HN8 : Hid (NodesR P2 W8 N (P.map (·.1))) := Lib.hid ((HS5.out.n.to (fun _ h _ => h) fun b hb hl => HK7.out.block b hl (HS5.out.q.pb b hb).2.1).to (fun _ h _ => h) fun b _ hl => hB8.block b hl)
                        clear hO8 hB8
                        go_wp2_with fail
                        refine (live_c N (P.map (·.1)) P2 ms _ W8 _ _ (HQ8.out.rx (List.mem_cons_of_mem _ (List.mem_cons_of_mem _ (List.mem_cons_self ..)))) HN8.out (fun b hb => ?_) (by have := HPL.out.ng.few.1; simp; omega) (by omega)).mono ?_
                        · obtain ⟨i, -, hi⟩ := HPK.out.lk.to b hb
                          exact List.mem_map.2 ⟨(b, i), hi, rfl⟩
                        rintro e W9 ⟨hB9, L, hLn, hL, rfl⟩
                        have hcount := HPL.out.ng.count HPK.out.lk HC7.out hLn hL
                        rw [← hcount]
                        have HB9 := Lib.hid hB9
                        clear hcount hLn hL hB9
                        go_wp2_with fail
                        go_meet
                        exact HPI.coll HS5.out (.cons _ (.cons_cons _ (.cons_cons _ (List.nil_sublist _)))) (fun b hb => HP2.out b (HPP.out b hb)) HPL.out HPK.out HC7.out HK7.out HH7.out HB8.out HO8.out HB9.out hr.2 HNM.out (by omega)
                    have k2 : (X.kind == 2) = false := by simpa using hk2
                    clear hk2 hk1 hk0 hk3
                    go_wp2_with fail
                    go_meet
                    exact HPI.of HS5.out (.cons _ (.cons _ (.cons _ (List.Sublist.refl _)))) (fun b hb => HP2.out b (HPP.out b hb)) HPL.out HNM.out (Nat.le_add_right _ _) HNL.out
                  case rest =>
                    as_aux_lemma =>
                      have HI := Lib.hid hcut
                      clear hcut HS5 HPK HPP HP2 HPL HNM HNL HBX HW2 HG12 hc7 hc8 hc9 hlx
                      obtain ⟨Pz, F9, H9, xs9, ts9, ns9, N9, P9, hPP9, hRQ9, hHR9, hHP9, hNR9, rfl, hnm9, hnl9⟩ := HI.out
                      obtain ⟨⟨a9, c9, rfl⟩, ⟨d9, p9, rfl⟩, f9, q9, rfl⟩ := hRQ9.form3
                      have hl9 : xs9.length ≤ 4194304 ∧ ts9.length ≤ 4194304 ∧ ns9.length ≤ 4194304 := by have h1 := hHP9.lk.len; have h2 := hHP9.rep.length; omega
                      have hw9 : H9.ws.length ≤ 1000 := by have := hHP9.rm; omega
                      have hn9 : H9.names.length ≤ 137438953472 := by have : (c + 1) * 2097152 ≤ 61 * 2097152 := Nat.mul_le_mul_right _ (by omega); omega
                      have HRQ := Lib.hid hRQ9; have HHR := Lib.hid hHR9; have HHP := Lib.hid hHP9; have HNR := Lib.hid hNR9
                      clear hRQ9 hHR9 hHP9 hNR9 hnm9 hnl9 hPP9
                      go_wp2_with fail
                      refine (hlive_c F9 _ Pz wc B room H9 xs9 _ (HRQ.out.rx (List.mem_cons_self ..)) (by omega) HHR.out HHP.out.wf (by omega) HHP.out.all.stands).mono ?_
                      rintro e W1 ⟨tw, out, ks, rfl, hB1, hC⟩
                      have HB1c := Lib.hid hB1; have HC := Lib.hid hC
                      clear hB1 hC
                      go_wp2_with fail
                      refine (hused_c F9 W1 B room H9 (HHR.out.below HB1c.out)).mono ?_
                      rintro e W2 ⟨rfl, rfl⟩
                      go_wp2_with fail
                      refine (live_c N9 (P9.map (·.1)) Pz ns9 _ W1 _ _ ((HRQ.out.below HB1c.out).rx (List.mem_cons_of_mem _ (List.mem_cons_of_mem _ (List.mem_cons_self ..)))) (HNR.out.to (fun _ h _ => h) fun b _ hl => HB1c.out.block b hl) (fun b hb => ?_) (by have := HHP.out.ng.few.1; simp; omega) (by omega)).mono ?_
                      · obtain ⟨i, -, hi⟩ := HHP.out.lk.to b hb
                        exact List.mem_map.2 ⟨(b, i), hi, rfl⟩
                      rintro e W3 ⟨hB3, L, hLn, hL, rfl⟩
                      have hcount := HHP.out.ng.count HHP.out.lk HC.out hLn hL
                      rw [← hcount]
                      have HB3 : Hid (Below wc.heap.size wc W3) := Lib.hid (HB1c.out.trans (hB3.mono HB1c.out.size))
                      clear hB3 hLn hL hcount HC HB1c
                      go_wp2_with fail
                      go_loopw [265] (fun i wr => ∃ j : Nat, j ≤ xs9.length ∧ i = .int .i64 (j : Int) ∧ Below wc.heap.size wc wr) (fun i _ => xs9.length - (intOf i).toNat)
                      case atStart => exact ⟨0, Nat.zero_le _, rfl, HB3.out⟩
                      case round =>
                        obtain ⟨i, hil, rfl, hB4⟩ := hrel
                        have HB4 := Lib.hid hB4
                        clear hB4
                        by_cases hit : i < xs9.length
                        · have hit2 : i < ts9.length := by have := HHP.out.rep.length; omega
                          have hRQ4 := HRQ.out.below HB4.out
                          obtain ⟨g7, o7, rfl⟩ := hRQ4.addr (r := rW (.slice a9 xs9.length c9) xs9) (a := a9) (by simp) rfl (show 0 < xs9.length by omega)
                          obtain ⟨g8, o8, rfl⟩ := hRQ4.addr (r := rT (.slice d9 ts9.length p9) ts9) (a := d9) (by simp) rfl (show 0 < ts9.length by omega)
                          obtain ⟨y0, y1⟩ := hRQ4.atW (b := g7) (o := o7) (n := xs9.length) (cap := c9) (xs := xs9) (by simp) hit
                          obtain ⟨a3, c3, hT3, hC3⟩ := hRQ4.atT (b := g8) (o := o8) (n := ts9.length) (cap := p9) (ts := ts9) (by simp) hit2
                          have hr3 := HHP.out.rep.at i hit2 hit
                          have hok3 := HHP.out.ok _ (List.getElem_mem hit2)
                          obtain ⟨x9, hx9⟩ : ∃ x, x = xs9[i] := ⟨_, rfl⟩
                          obtain ⟨t9, ht9⟩ : ∃ t, t = ts9[i] := ⟨_, rfl⟩
                          rw [← hx9] at y0 y1 hr3
                          rw [← ht9] at hT3 hC3 hr3 hok3
                          have hbk := check_bulk hok3.1
                          have HT3 := Lib.hid hT3; have HC3 := Lib.hid hC3; have HR3 := Lib.hid hr3; have HOK := Lib.hid hok3
                          have hsz4 := HB4.out.size
                          have hii : (i : Int) < (xs9.length : Int) := by omega
                          have hii2 : (i : Int) < (ts9.length : Int) := by omega
                          clear hRQ4 hx9 ht9 hT3 hC3 hr3 hok3
                          go_wp2_with fail
                          refine (hGet_c t9 F9 wr B room H9 x9 (HHR.out.below HB4.out) HR3.out (check_ok HOK.out.1 HOK.out.2).2.1 HHP.out.wf.heads (by omega) hn9).mono ?_
                          rintro e W4 ⟨b3, p3, rfl, hBg, hTg⟩
                          have HBg := Lib.hid hBg; have HTG := Lib.hid hTg
                          clear y0 y1 hBg hTg
                          go_upto_region 69 with fail
                          have hBg := HBg.out; have hTg := HTG.out
                          obtain ⟨g33, hg33⟩ : ∃ g, g = W4.heap.size := ⟨_, rfl⟩
                          obtain ⟨W5, hW5⟩ : ∃ W : World, W = W4.alloc (.cells #[.int .i64 t9.kind, .int .i64 t9.n, .string t9.name, .slice b3 t9.args.length p3] 29) := ⟨_, rfl⟩
                          have HB5 : Hid (Below wr.heap.size wr W5) := Lib.hid (by rw [hW5]; exact hBg.trans ((below_alloc _ _).mono hBg.size))
                          have HG5 : Hid (Blk W5 g33 [.int .i64 t9.kind, .int .i64 t9.n, .string t9.name, .slice b3 t9.args.length p3]) := Lib.hid (by rw [hW5]; exact Blk.new _ _ _ _ hg33)
                          have HTg : Hid (RT (fun _ => True) W5 t9 (.agg #[.int .i64 t9.kind, .int .i64 t9.n, .string t9.name, .slice b3 t9.args.length p3])) := Lib.hid (by rw [hW5]; exact hTg.to (fun _ _ _ => trivial) fun b _ hl => (below_alloc _ _).block b hl)
                          have HTw : Hid (RT (fun _ => True) W5 t9 (.agg #[.int .i64 t9.kind, .int .i64 t9.n, .string t9.name, .slice a3 t9.args.length c3])) := Lib.hid (by
                            obtain ⟨a', cap', e, h1, h2⟩ := HT3.out
                            have h3 : RT Pz wr t9 (.agg #[.int .i64 t9.kind, .int .i64 t9.n, .string t9.name, .slice a3 t9.args.length c3]) := ⟨a', cap', by simp only [List.cons.injEq, Value.slice.injEq, true_and, and_true] at e; rw [e.1, e.2], h1, h2⟩
                            exact h3.to (fun _ _ _ => trivial) fun b _ hl => HB5.out.block b hl)
                          have HC5 : Hid (W5.cell? ⟨g8, o8 + i * 4, none⟩ = some (.int .i64 t9.kind) ∧ W5.cell? ⟨g8, o8 + i * 4 + 1, none⟩ = some (.int .i64 t9.n) ∧ W5.cell? ⟨g8, o8 + i * 4 + 2, none⟩ = some (.string t9.name) ∧ W5.cell? ⟨g8, o8 + i * 4 + 3, none⟩ = some (.slice a3 t9.args.length c3)) := Lib.hid (by
                            obtain ⟨h0, h1, h2, h3⟩ := HC3.out
                            exact ⟨(HB5.out.cell (World.block_lt_of_cell? _ _ h0)).trans h0, (HB5.out.cell (World.block_lt_of_cell? _ _ h1)).trans h1, (HB5.out.cell (World.block_lt_of_cell? _ _ h2)).trans h2, (HB5.out.cell (World.block_lt_of_cell? _ _ h3)).trans h3⟩)
                          rw [← hW5, ← hg33]
                          clear hW5 hg33 hBg hTg
                          have HQ69 : Hid (∀ w' : World, Below W5.heap.size W5 w' → w'.cell? ⟨g33, 0, none⟩ = some (.int .i64 t9.kind) ∧ w'.cell? ⟨g33, 1, none⟩ = some (.int .i64 t9.n) ∧ w'.cell? ⟨g33, 2, none⟩ = some (.string t9.name) ∧ w'.cell? ⟨g33, 3, none⟩ = some (.slice b3 t9.args.length p3) ∧ w'.cell? ⟨g8, o8 + i * 4, none⟩ = some (.int .i64 t9.kind) ∧ w'.cell? ⟨g8, o8 + i * 4 + 1, none⟩ = some (.int .i64 t9.n) ∧ w'.cell? ⟨g8, o8 + i * 4 + 2, none⟩ = some (.string t9.name) ∧ w'.cell? ⟨g8, o8 + i * 4 + 3, none⟩ = some (.slice a3 t9.args.length c3)) := Lib.hid fun w' h => ⟨(HG5.out.heap (h.block _ HG5.out.lt)).cell 0 _ rfl, (HG5.out.heap (h.block _ HG5.out.lt)).cell 1 _ rfl, (HG5.out.heap (h.block _ HG5.out.lt)).cell 2 _ rfl, (HG5.out.heap (h.block _ HG5.out.lt)).cell 3 _ rfl, (h.cell (World.block_lt_of_cell? _ _ HC5.out.1)).trans HC5.out.1, (h.cell (World.block_lt_of_cell? _ _ HC5.out.2.1)).trans HC5.out.2.1, (h.cell (World.block_lt_of_cell? _ _ HC5.out.2.2.1)).trans HC5.out.2.2.1, (h.cell (World.block_lt_of_cell? _ _ HC5.out.2.2.2)).trans HC5.out.2.2.2⟩
                          refine rg_start (fun w' => w'.cell? ⟨g33, 0, none⟩ = some (.int .i64 t9.kind) ∧ w'.cell? ⟨g33, 1, none⟩ = some (.int .i64 t9.n) ∧ w'.cell? ⟨g33, 2, none⟩ = some (.string t9.name) ∧ w'.cell? ⟨g33, 3, none⟩ = some (.slice b3 t9.args.length p3) ∧ w'.cell? ⟨g8, o8 + i * 4, none⟩ = some (.int .i64 t9.kind) ∧ w'.cell? ⟨g8, o8 + i * 4 + 1, none⟩ = some (.int .i64 t9.n) ∧ w'.cell? ⟨g8, o8 + i * 4 + 2, none⟩ = some (.string t9.name) ∧ w'.cell? ⟨g8, o8 + i * 4 + 3, none⟩ = some (.slice a3 t9.args.length c3)) (by as_aux_lemma => kernel_rfl) (fun Wd h => HQ69.out _ h) ?_
                          intro Wd hB hWd hWd' hHeld
                          have HBd := Lib.hid hB
                          clear hB
                          refine rg_take (i := 0) (v := ?_) rfl (by as_aux_lemma => kernel_rfl) (by as_aux_lemma => kernel_rfl) (by as_aux_lemma => kernel_rfl) (by rfl) ?_ hHeld ?_
                          rotate_left 1
                          · intro w hSw; (try dsimp only at hSw); go_simp; try (with_reducible rfl)
                          (try simp only [Act.put, List.setIfInBounds_toArray, List.set_cons_zero, List.set_cons_succ])
                          refine rg_take (i := 1) (v := ?_) rfl (by as_aux_lemma => kernel_rfl) (by as_aux_lemma => kernel_rfl) (by as_aux_lemma => kernel_rfl) (by rfl) ?_ hHeld ?_
                          rotate_left 1
                          · intro w hSw; (try dsimp only at hSw); go_simp; try (with_reducible rfl)
                          (try simp only [Act.put, List.setIfInBounds_toArray, List.set_cons_zero, List.set_cons_succ])
                          refine rg_take (i := 2) (v := ?_) rfl (by as_aux_lemma => kernel_rfl) (by as_aux_lemma => kernel_rfl) (by as_aux_lemma => kernel_rfl) (by rfl) ?_ hHeld ?_
                          rotate_left 1
                          · intro w hSw; (try dsimp only at hSw); go_simp; try (with_reducible rfl)
                          (try simp only [Act.put, List.setIfInBounds_toArray, List.set_cons_zero, List.set_cons_succ])
                          refine rg_take (i := 3) (v := ?_) rfl (by as_aux_lemma => kernel_rfl) (by as_aux_lemma => kernel_rfl) (by as_aux_lemma => kernel_rfl) (by rfl) ?_ hHeld ?_
                          rotate_left 1
                          · intro w hSw; (try dsimp only at hSw); go_simp; try (with_reducible rfl)
                          (try simp only [Act.put, List.setIfInBounds_toArray, List.set_cons_zero, List.set_cons_succ])
                          refine rg_take (i := 4) (v := ?_) rfl (by as_aux_lemma => kernel_rfl) (by as_aux_lemma => kernel_rfl) (by as_aux_lemma => kernel_rfl) (by rfl) ?_ hHeld ?_
                          rotate_left 1
                          · intro w hSw; (try dsimp only at hSw); go_simp; try (with_reducible rfl)
                          (try simp only [Act.put, List.setIfInBounds_toArray, List.set_cons_zero, List.set_cons_succ])
                          refine rg_take (i := 5) (v := ?_) rfl (by as_aux_lemma => kernel_rfl) (by as_aux_lemma => kernel_rfl) (by as_aux_lemma => kernel_rfl) (by rfl) ?_ hHeld ?_
                          rotate_left 1
                          · intro w hSw; (try dsimp only at hSw); go_simp; try (with_reducible rfl)
                          (try simp only [Act.put, List.setIfInBounds_toArray, List.set_cons_zero, List.set_cons_succ])
                          refine rg_take (i := 6) (v := ?_) rfl (by as_aux_lemma => kernel_rfl) (by as_aux_lemma => kernel_rfl) (by as_aux_lemma => kernel_rfl) (by rfl) ?_ hHeld ?_
                          rotate_left 1
                          · intro w hSw; (try dsimp only at hSw); go_simp; try (with_reducible rfl)
                          (try simp only [Act.put, List.setIfInBounds_toArray, List.set_cons_zero, List.set_cons_succ])
                          refine rg_take (i := 7) (v := ?_) rfl (by as_aux_lemma => kernel_rfl) (by as_aux_lemma => kernel_rfl) (by as_aux_lemma => kernel_rfl) (by rfl) ?_ hHeld ?_
                          rotate_left 1
                          · intro w hSw; (try dsimp only at hSw); go_simp; try (with_reducible rfl)
                          (try simp only [Act.put, List.setIfInBounds_toArray, List.set_cons_zero, List.set_cons_succ])
                          refine rg_only (i := 8) rfl (by as_aux_lemma => kernel_rfl) (by rfl) (fun K hK => ?_)
                          go_simp
                          go_at_call 19
                          refine (same_c t9 t9 (fun _ => True) Wd _ _ (HTg.out.below HBd.out) (HTw.out.below HBd.out) (by omega) (by omega)).mono ?_
                          rintro e wd ⟨rfl, hB⟩
                          have HBe : Hid (Below W5.heap.size W5 wd) := Lib.hid (HBd.out.trans (hB.mono HBd.out.size))
                          rw [(sameT_iff t9 t9).2 rfl]
                          clear hB
                          refine hK.out _ _ (HQ69.out _ HBe.out) (fun hHeld1 => ?_)
                          clear hK K hHeld
                          have hHeld := hHeld1
                          clear hHeld1
                          (try simp only [Act.put, List.setIfInBounds_toArray, List.set_cons_zero, List.set_cons_succ])
                          refine rg_take (i := 9) (v := ?_) rfl (by as_aux_lemma => kernel_rfl) (by as_aux_lemma => kernel_rfl) (by as_aux_lemma => kernel_rfl) (by rfl) ?_ hHeld ?_
                          rotate_left 1
                          · intro w hSw; (try dsimp only at hSw); go_simp; try (with_reducible rfl)
                          (try simp only [Act.put, List.setIfInBounds_toArray, List.set_cons_zero, List.set_cons_succ])
                          refine rg_take (i := 10) (v := ?_) rfl (by as_aux_lemma => kernel_rfl) (by as_aux_lemma => kernel_rfl) (by as_aux_lemma => kernel_rfl) (by rfl) ?_ hHeld ?_
                          rotate_left 1
                          · intro w hSw; (try dsimp only at hSw); go_simp; try (with_reducible rfl)
                          (try simp only [Act.put, List.setIfInBounds_toArray, List.set_cons_zero, List.set_cons_succ])
                          refine rg_done (by as_aux_lemma => kernel_rfl) ?_
                          clear hHeld
                          go_wp2_with fail
                          go_roundw
                          case rel => exact ⟨i + 1, by omega, by go_num, HB4.out.trans ((HB5.out.trans (HBe.out.mono HB5.out.size)).mono HB4.out.size)⟩
                          case measure => simp [intOf]; omega
                        · have hii : ¬ (i : Int) < (xs9.length : Int) := by omega
                          go_wp2_with fail
                          go_roundw
                          case rel => exact ⟨c + 1, by omega, by go_num, HI.out.below HB4.out⟩
                          case measure => simp [intOf]; omega
        · have hcc : c = l.length := by omega
          subst hcc
          go_wp2_with fail
          go_ret
          obtain ⟨Pw, F, H, xs, ts, ns, N, P, -, hRQ, -⟩ := HI.out
          exact ⟨rfl, hRQ.bel⟩
  · have hin : inB room 0 1000 = false := by simp [inB]; omega
    go_wp2_with fail
    refine (hnew_bad room w (by omega)).mono ?_
    rintro e w1 ⟨rfl, rfl⟩
    go_wp2_with fail
    refine (in_c room 0 1000 _).mono ?_
    rintro e w2 ⟨rfl, rfl⟩
    rw [hin]
    go_wp2_with fail
    refine (in_c room 0 1000 _).mono ?_
    rintro e w2 ⟨rfl, rfl⟩
    rw [hin]
    go_wp2_with fail
    go_ret
    exact ⟨rfl, Below.refl _ _⟩
end Go.Proofs.Ytedfepnekjjmnaa
