/-
  code.act, one case of it. No condition but a bound.
-/
import Derived.Test.YtedfepnekjjmnaaAct
import Derived.Test.YtedfepnekjjmnaaJc
namespace Go.Proofs.Ytedfepnekjjmnaa
open Go.RowKit
set_option linter.unusedSimpArgs false
set_option linter.unusedVariables false
set_option maxRecDepth 100000

set_option maxHeartbeats 4000000 in
theorem cact_send (t : T) (S : Nat → Prop) (w : World) (v : Value) (hv : RT S w t v) (hb : bulkL [t] ≤ 1099511627776) (l : List T) (h1 : restL sSend t = some l) (h2 : restL sSpawn t = none) (h3 : restL sLink t = none) (h4 : restL sStop t = none) : Calls Try.prog 119 #[v] w (ActP w t) := by
  obtain ⟨a, cap, rfl, hc, hr⟩ := hv
  have HV : Hid (RT S w t _) := Lib.hid ⟨a, cap, rfl, hc, hr⟩
  clear hr hc
  have HsSend := Lib.hid h1
  have HsSpawn := Lib.hid h2
  have HsLink := Lib.hid h3
  have HsStop := Lib.hid h4
  clear h1 h2 h3 h4
  go_enter Try.func119, Try.ntmps119
  go_wp2_with fail
  obtain ⟨W0, hW0⟩ : ∃ W : World, W = (w.alloc (.cells #[.int .i64 t.kind, .int .i64 t.n, .string t.name, .slice a t.args.length cap] 29)).alloc (.cells #[.int .i64 0, .int .i64 0, .int .i64 0, .string ⟨#[]⟩, .slice none 0 0, .int .i64 0, .int .i64 0, .string ⟨#[]⟩, .slice none 0 0, .string ⟨#[]⟩, .int .i64 0] 124) := ⟨_, rfl⟩
  have HV0 : Hid (RT (fun b => b < w.heap.size) W0 t (.agg #[.int .i64 t.kind, .int .i64 t.n, .string t.name, .slice a t.args.length cap])) := Lib.hid (by rw [hW0]; exact ((HV.out.to (S' := fun b => b < w.heap.size) (fun _ _ h => h) fun _ _ _ => rfl).alloc _).alloc _)
  have HX : Hid (Blk W0 w.heap.size [.int .i64 t.kind, .int .i64 t.n, .string t.name, .slice a t.args.length cap]) := Lib.hid (by rw [hW0]; exact (Blk.new _ _ _ _ rfl).alloc _)
  have HZ : Hid (Blk W0 (w.heap.size + 1) [.int .i64 0, .int .i64 0, .int .i64 0, .string ⟨#[]⟩, .slice none 0 0, .int .i64 0, .int .i64 0, .string ⟨#[]⟩, .slice none 0 0, .string ⟨#[]⟩, .int .i64 0]) := Lib.hid (by rw [hW0]; exact Blk.new _ _ _ _ (by simp))
  have HB0 : Hid (Below w.heap.size w W0) := Lib.hid (by rw [hW0]; exact (below_alloc _ _).trans ((below_alloc _ _).mono (by simp)))
  have hs0 : w.heap.size + 2 ≤ W0.heap.size := by rw [hW0]; simp
  rw [← hW0]
  clear hW0 HV
  by_cases hl : l.length = 2
  · skip
    obtain ⟨x, y, rfl⟩ : ∃ x y, l = [x, y] := (by match l, hl with | [x, y], _ => exact ⟨x, y, rfl⟩)
    clear hl
    have hbl := (restL_some HsSend.out).1
    have hbx : bulkL [x, y] = bulkL [x] + bulkL [y] := bulkL_append [x] [y]
    refine (crest_c t sSend _ _ _ HV0.out hb).mono ?_
    intro e W1 h
    obtain ⟨r0, rc0, rfl, hB, hr⟩ := h.yes HsSend.out
    have HL := Lib.hid hr
    clear hr
    have hs1 := hB.size
    have HB1 := Lib.hid hB
    clear hB h
    obtain ⟨x0, x1, x2, x3⟩ : Box W1 w.heap.size _ _ _ _ := ⟨(HX.out.step HB1.out).cell 0 _ rfl, (HX.out.step HB1.out).cell 1 _ rfl, (HX.out.step HB1.out).cell 2 _ rfl, (HX.out.step HB1.out).cell 3 _ rfl⟩
    obtain ⟨bq, oq, rfl⟩ := HL.out.rts.addr (by simp)
    clear x0 x1 x2 x3
    obtain ⟨ax, px, hsx, x0, x1, x2, x3, hrx⟩ := HL.out.rts.elem 0 (by simp)
    simp only [Nat.zero_mul, Nat.one_mul, Nat.add_zero, Nat.reduceMul, Nat.add_assoc, Nat.reduceAdd, List.getElem_cons_zero, List.getElem_cons_succ] at x0 x1 x2 x3 hrx
    have HRx := Lib.hid hrx
    clear hrx
    obtain ⟨ay, py, hsy, y0, y1, y2, y3, hry⟩ := HL.out.rts.elem 1 (by simp)
    simp only [Nat.zero_mul, Nat.one_mul, Nat.add_zero, Nat.reduceMul, Nat.add_assoc, Nat.reduceAdd, List.getElem_cons_zero, List.getElem_cons_succ] at y0 y1 y2 y3 hry
    have HRy := Lib.hid hry
    clear hry
    have hbq : bq < W1.heap.size := World.block_lt_of_cell? _ _ x0
    have HO := Lib.hid (show deedO t = some ⟨1, x, y, ⟨#[]⟩, 0⟩ by unfold deedO; rw [HsSend.out, HsSpawn.out, HsLink.out, HsStop.out])
    have HQ : Hid (∀ w', Below W1.heap.size W1 w' → w'.cell? ⟨bq, oq, none⟩ = some (.int .i64 x.kind) ∧ w'.cell? ⟨bq, oq + 1, none⟩ = some (.int .i64 x.n) ∧ w'.cell? ⟨bq, oq + 2, none⟩ = some (.string x.name) ∧ w'.cell? ⟨bq, oq + 3, none⟩ = some (.slice ax x.args.length px) ∧ w'.cell? ⟨bq, oq + 4, none⟩ = some (.int .i64 y.kind) ∧ w'.cell? ⟨bq, oq + 5, none⟩ = some (.int .i64 y.n) ∧ w'.cell? ⟨bq, oq + 6, none⟩ = some (.string y.name) ∧ w'.cell? ⟨bq, oq + 7, none⟩ = some (.slice ay y.args.length py)) := Lib.hid fun w' h => ⟨(h.cell (p := ⟨bq, oq, none⟩) hbq).trans x0, (h.cell (p := ⟨bq, oq + 1, none⟩) hbq).trans x1, (h.cell (p := ⟨bq, oq + 2, none⟩) hbq).trans x2, (h.cell (p := ⟨bq, oq + 3, none⟩) hbq).trans x3, (h.cell (p := ⟨bq, oq + 4, none⟩) hbq).trans y0, (h.cell (p := ⟨bq, oq + 5, none⟩) hbq).trans y1, (h.cell (p := ⟨bq, oq + 6, none⟩) hbq).trans y2, (h.cell (p := ⟨bq, oq + 7, none⟩) hbq).trans y3⟩
    clear x0 x1 x2 x3 y0 y1 y2 y3
    go_wp2_with fail
    refine rg_begin (fun w' => w'.cell? ⟨bq, oq, none⟩ = some (.int .i64 x.kind) ∧ w'.cell? ⟨bq, oq + 1, none⟩ = some (.int .i64 x.n) ∧ w'.cell? ⟨bq, oq + 2, none⟩ = some (.string x.name) ∧ w'.cell? ⟨bq, oq + 3, none⟩ = some (.slice ax x.args.length px) ∧ w'.cell? ⟨bq, oq + 4, none⟩ = some (.int .i64 y.kind) ∧ w'.cell? ⟨bq, oq + 5, none⟩ = some (.int .i64 y.n) ∧ w'.cell? ⟨bq, oq + 6, none⟩ = some (.string y.name) ∧ w'.cell? ⟨bq, oq + 7, none⟩ = some (.slice ay y.args.length py)) (by kernel_rfl) (HQ.out _ (Below.refl _ _).drew) (fun hHeld => ?_)
    refine rg_take (i := 0) (v := ?_) rfl (by kernel_rfl) (by kernel_rfl) (by kernel_rfl) (by rfl) ?_ hHeld ?_
    rotate_left 1
    · intro w hSw; (try dsimp only at hSw); go_simp; try (with_reducible rfl)
    (try simp only [Act.put, List.setIfInBounds_toArray, List.set_cons_zero, List.set_cons_succ])
    refine rg_take (i := 1) (v := ?_) rfl (by kernel_rfl) (by kernel_rfl) (by kernel_rfl) (by rfl) ?_ hHeld ?_
    rotate_left 1
    · intro w hSw; (try dsimp only at hSw); go_simp; try (with_reducible rfl)
    (try simp only [Act.put, List.setIfInBounds_toArray, List.set_cons_zero, List.set_cons_succ])
    refine rg_take (i := 2) (v := ?_) rfl (by kernel_rfl) (by kernel_rfl) (by kernel_rfl) (by rfl) ?_ hHeld ?_
    rotate_left 1
    · intro w hSw; (try dsimp only at hSw); go_simp; try (with_reducible rfl)
    (try simp only [Act.put, List.setIfInBounds_toArray, List.set_cons_zero, List.set_cons_succ])
    refine rg_take (i := 4) (v := ?_) rfl (by kernel_rfl) (by kernel_rfl) (by kernel_rfl) (by rfl) ?_ hHeld ?_
    rotate_left 1
    · intro w hSw; (try dsimp only at hSw); go_simp; try (with_reducible rfl)
    (try simp only [Act.put, List.setIfInBounds_toArray, List.set_cons_zero, List.set_cons_succ])
    refine rg_take (i := 5) (v := ?_) rfl (by kernel_rfl) (by kernel_rfl) (by kernel_rfl) (by rfl) ?_ hHeld ?_
    rotate_left 1
    · intro w hSw; (try dsimp only at hSw); go_simp; try (with_reducible rfl)
    (try simp only [Act.put, List.setIfInBounds_toArray, List.set_cons_zero, List.set_cons_succ])
    refine rg_take (i := 6) (v := ?_) rfl (by kernel_rfl) (by kernel_rfl) (by kernel_rfl) (by rfl) ?_ hHeld ?_
    rotate_left 1
    · intro w hSw; (try dsimp only at hSw); go_simp; try (with_reducible rfl)
    (try simp only [Act.put, List.setIfInBounds_toArray, List.set_cons_zero, List.set_cons_succ])
    refine rg_only (i := 3) rfl (by kernel_rfl) (by rfl) (fun K hK => ?_)
    go_simp
    go_at_call 70
    refine (copied_c x _ _ _ (HRx.out.below (Below.refl W1.heap.size W1).drew) (by omega)).mono ?_
    rintro e wx ⟨vx, rfl, hB, bbx, qx, rfl, hc, hr⟩
    have hzwx := hB.size
    have HSx : Hid (RT (fun b => W1.heap.size ≤ b) wx x (.agg #[.int .i64 x.kind, .int .i64 x.n, .string x.name, .slice bbx x.args.length qx])) := Lib.hid (RT.to (S := _) ⟨bbx, qx, rfl, hc, hr⟩ (fun b hb _ => by (have hp := ((Below.refl W1.heap.size W1).drew).size; (try simp only [World.size_drew] at hb hp); omega)) fun _ _ _ => rfl)
    have HCwx : Hid (Below W1.heap.size W1 wx) := Lib.hid (below_step (Below.refl W1.heap.size W1).drew ((Below.refl W1.heap.size W1).drew).size hB)
    have HDwx := Lib.hid hB
    clear hB hc hr
    refine hK.out _ _ (HQ.out _ HCwx.out) (fun hHeld1 => ?_)
    clear hK K hHeld
    have hHeld := hHeld1
    clear hHeld1
    (try simp only [Act.put, List.setIfInBounds_toArray, List.set_cons_zero, List.set_cons_succ])
    refine rg_only (i := 7) rfl (by kernel_rfl) (by rfl) (fun K hK => ?_)
    go_simp
    go_at_call 70
    refine (copied_c y _ _ _ (HRy.out.below HCwx.out) (by omega)).mono ?_
    rintro e wy ⟨vy, rfl, hB, bby, qy, rfl, hc, hr⟩
    have hzwy := hB.size
    have HSy : Hid (RT (fun b => W1.heap.size ≤ b) wy y (.agg #[.int .i64 y.kind, .int .i64 y.n, .string y.name, .slice bby y.args.length qy])) := Lib.hid (RT.to (S := _) ⟨bby, qy, rfl, hc, hr⟩ (fun b hb _ => by (have hp := (HCwx.out).size; (try simp only [World.size_drew] at hb hp); omega)) fun _ _ _ => rfl)
    have HCwy : Hid (Below W1.heap.size W1 wy) := Lib.hid (below_step HCwx.out (HCwx.out).size hB)
    have HDwy := Lib.hid hB
    clear hB hc hr
    refine hK.out _ _ (HQ.out _ HCwy.out) (fun hHeld1 => ?_)
    clear hK K hHeld
    have hHeld := hHeld1
    clear hHeld1
    (try simp only [Act.put, List.setIfInBounds_toArray, List.set_cons_zero, List.set_cons_succ])
    refine rg_take (i := 8) (v := ?_) rfl (by kernel_rfl) (by kernel_rfl) (by kernel_rfl) (by rfl) ?_ hHeld ?_
    rotate_left 1
    · intro w hSw; (try dsimp only at hSw); go_simp; try (with_reducible rfl)
    (try simp only [Act.put, List.setIfInBounds_toArray, List.set_cons_zero, List.set_cons_succ])
    refine rg_only (i := 9) rfl (by kernel_rfl) (by rfl) (fun K hK => ?_)
    refine wp_store_blk 124 11 szDeed _ _ rfl rfl rfl rfl ((HZ.out.step HB1.out).step HCwy.out) rfl rfl rfl ?_
    intro W' hF hs' hBW hoth
    have HF := Lib.hid hF
    have HFB := Lib.hid (hBW _ _ (by omega) (HB0.out.trans ((HB1.out.trans (HCwy.out.mono (by omega))).mono (by omega))))
    have HOTH := Lib.hid hoth
    clear hF hBW hoth
    have HS1 := HQ.out _ HCwy.out
    refine hK.out _ _ (by simp only [World.cell?_of_block (w := wy) (a := ⟨bq, _, none⟩) (HOTH.out bq (by omega))]; exact HS1) (fun hHeld1 => ?_)
    clear hK K hHeld
    have hHeld := hHeld1
    clear hHeld1
    (try simp only [Act.put, List.setIfInBounds_toArray, List.set_cons_zero, List.set_cons_succ])
    refine rg_take (i := 10) (v := ?_) rfl (by kernel_rfl) (by kernel_rfl) (by kernel_rfl) (by rfl) ?_ hHeld ?_
    rotate_left 1
    · intro w hSw; (try dsimp only at hSw); go_simp; try (with_reducible rfl)
    (try simp only [Act.put, List.setIfInBounds_toArray, List.set_cons_zero, List.set_cons_succ])
    refine rg_done (by kernel_rfl) ?_
    clear hHeld
    go_wp2_with fail
    refine bodyPost_ret (results_blk Try.results119 szDeed _ Try.underlying124 rfl rfl HF.out rfl) rfl ⟨⟨1, x, y, ⟨#[]⟩, 0⟩, bbx, qx, bby, qy, by rw [HO.out]; rfl, HFB.out, ?_, ?_, fun d' h => by rw [HO.out] at h; exact (Option.some.inj h).symm⟩
    · exact (HSx.out.below HDwy.out).to (fun b hb _ => by omega) fun b hb _ => HOTH.out b (by omega)
    · exact HSy.out.to (fun b hb _ => by omega) fun b hb _ => HOTH.out b (by omega)
  · skip
    have e1 : ((l.length : Int) == 2) = false := by rw [beq_eq_false_iff_ne]; omega
    have HN := Lib.hid hl
    clear hl
    refine (crest_c t sSend _ _ _ HV0.out hb).mono ?_
    intro e W1 h
    obtain ⟨r0, rc0, rfl, hB, hr⟩ := h.yes HsSend.out
    have HL := Lib.hid hr
    clear hr
    have hs1 := hB.size
    have HB1 := Lib.hid hB
    clear hB h
    obtain ⟨x0, x1, x2, x3⟩ : Box W1 w.heap.size _ _ _ _ := ⟨(HX.out.step HB1.out).cell 0 _ rfl, (HX.out.step HB1.out).cell 1 _ rfl, (HX.out.step HB1.out).cell 2 _ rfl, (HX.out.step HB1.out).cell 3 _ rfl⟩
    go_wp2_with fail
    refine (crest_c t sSpawn _ _ _ (HV0.out.below HB1.out) hb).mono ?_
    intro e W2 h
    obtain ⟨r1, rc1, rfl, hB⟩ := h.none HsSpawn.out
    have hs2 := hB.size
    have HB2 := Lib.hid (HB1.out.trans (hB.mono HB1.out.size))
    clear hB h
    obtain ⟨x0, x1, x2, x3⟩ : Box W2 w.heap.size _ _ _ _ := ⟨(HX.out.step HB2.out).cell 0 _ rfl, (HX.out.step HB2.out).cell 1 _ rfl, (HX.out.step HB2.out).cell 2 _ rfl, (HX.out.step HB2.out).cell 3 _ rfl⟩
    go_wp2_with fail
    refine (crest_c t sLink _ _ _ (HV0.out.below HB2.out) hb).mono ?_
    intro e W3 h
    obtain ⟨r2, rc2, rfl, hB⟩ := h.none HsLink.out
    have hs3 := hB.size
    have HB3 := Lib.hid (HB2.out.trans (hB.mono HB2.out.size))
    clear hB h
    obtain ⟨x0, x1, x2, x3⟩ : Box W3 w.heap.size _ _ _ _ := ⟨(HX.out.step HB3.out).cell 0 _ rfl, (HX.out.step HB3.out).cell 1 _ rfl, (HX.out.step HB3.out).cell 2 _ rfl, (HX.out.step HB3.out).cell 3 _ rfl⟩
    go_wp2_with fail
    refine (crest_c t sStop _ _ _ (HV0.out.below HB3.out) hb).mono ?_
    intro e W4 h
    obtain ⟨r3, rc3, rfl, hB⟩ := h.none HsStop.out
    have hs4 := hB.size
    have HB4 := Lib.hid (HB3.out.trans (hB.mono HB3.out.size))
    clear hB h
    obtain ⟨x0, x1, x2, x3⟩ : Box W4 w.heap.size _ _ _ _ := ⟨(HX.out.step HB4.out).cell 0 _ rfl, (HX.out.step HB4.out).cell 1 _ rfl, (HX.out.step HB4.out).cell 2 _ rfl, (HX.out.step HB4.out).cell 3 _ rfl⟩
    have HO := Lib.hid (show deedO t = none by unfold deedO; rw [HsSend.out, HsSpawn.out, HsLink.out, HsStop.out]; match l, HN.out with | [], _ => rfl | [y], _ => rfl | [y, z], h => exact absurd rfl h | y :: y2 :: y3 :: r, _ => rfl)
    go_wp2_with (first | (refine store_blk 124 11 szDeed _ _ rfl rfl rfl rfl rfl (HZ.out.step HB4.out) rfl rfl rfl ?_; intro W' hF hs' hBW hoth; have HF := Lib.hid hF; have HFB := Lib.hid (hBW _ _ (by omega) (HB0.out.trans (HB4.out.mono (by omega)))); have HOTH := Lib.hid hoth; clear hF hBW hoth))
    refine bodyPost_ret (results_blk Try.results119 szDeed _ Try.underlying124 rfl rfl HF.out rfl) rfl ⟨⟨4, zeroT, zeroT, ⟨#[]⟩, 0⟩, none, 0, none, 0, by rw [HO.out]; rfl, HFB.out, zeroT_rt _ _, zeroT_rt _ _, fun d' h => by rw [HO.out] at h; cases h⟩

end Go.Proofs.Ytedfepnekjjmnaa
