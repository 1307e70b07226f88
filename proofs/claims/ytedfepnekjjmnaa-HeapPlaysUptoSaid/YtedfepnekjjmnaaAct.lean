/-
  code.act: the act that a term tells. No condition but a bound.
-/
import Derived.Deep.RegionHeld3
import Derived.Test.YtedfepnekjjmnaaJc
import Derived.Test.YtedfepnekjjmnaaRval
import Derived.Test.YtedfepnekjjmnaaJb
import Derived.Test.YtedfepnekjjmnaaJe
namespace Go.Proofs.Ytedfepnekjjmnaa
open Go.RowKit
set_option linter.unusedSimpArgs false
set_option linter.unusedVariables false
set_option maxRecDepth 100000

def ActP (w : World) (t : T) (e : Ending) (w' : World) : Prop :=
  ∃ (d : Deed) (a1 : Option Addr) (p1 : Nat) (a2 : Option Addr) (p2 : Nat), e = .returned (.tuple #[.agg #[.int .i64 d.kind, .int .i64 d.to.kind, .int .i64 d.to.n, .string d.to.name, .slice a1 d.to.args.length p1, .int .i64 d.what.kind, .int .i64 d.what.n, .string d.what.name, .slice a2 d.what.args.length p2, .string d.name, .int .i64 d.var], .bool (deedO t).isSome]) ∧ Below w.heap.size w w' ∧
    RT (fun b => w.heap.size ≤ b) w' d.to (.agg #[.int .i64 d.to.kind, .int .i64 d.to.n, .string d.to.name, .slice a1 d.to.args.length p1]) ∧ RT (fun b => w.heap.size ≤ b) w' d.what (.agg #[.int .i64 d.what.kind, .int .i64 d.what.n, .string d.what.name, .slice a2 d.what.args.length p2]) ∧ ∀ d', deedO t = some d' → d' = d
theorem RestP.none {S : Nat → Prop} {w w' : World} {s : ByteArray} {t : T} {e : Ending} (h : RestP S w s t e w') (hr : restL s t = none) : ∃ a cap, e = .returned (.tuple #[.slice a 0 cap, .bool false]) ∧ Below w.heap.size w w' := by
  obtain ⟨a, cap, he, hB, -⟩ := h
  rw [hr] at he
  exact ⟨a, cap, he, hB⟩
theorem RestP.yes {S : Nat → Prop} {w w' : World} {s : ByteArray} {t : T} {e : Ending} {l : List T} (h : RestP S w s t e w') (hr : restL s t = some l) : ∃ a cap, e = .returned (.tuple #[.slice a l.length cap, .bool true]) ∧ Below w.heap.size w w' ∧ RSl S w' l (.slice a l.length cap) := by
  obtain ⟨a, cap, he, hB, hR⟩ := h
  rw [hr] at he hR
  exact ⟨a, cap, he, hB, hR⟩
theorem RSl.rts {S : Nat → Prop} {w : World} {l : List T} {a : Option Addr} {n cap : Nat} (h : RSl S w l (.slice a n cap)) : RTs S w l a 0 := by
  obtain ⟨a', cap', e, -, hr⟩ := h
  simp only [Value.slice.injEq] at e
  obtain ⟨rfl, -, -⟩ := e
  exact hr

set_option maxHeartbeats 4000000 in
theorem cact_link (t : T) (S : Nat → Prop) (w : World) (v : Value) (hv : RT S w t v) (hb : bulkL [t] ≤ 1099511627776) (l : List T) (h1 : restL sSend t = none) (h2 : restL sSpawn t = none) (h3 : restL sLink t = some l) (h4 : restL sStop t = none) : Calls Try.prog 119 #[v] w (ActP w t) := by
  obtain ⟨a, cap, rfl, hc, hr⟩ := hv
  have HV : Hid (RT S w t _) := Lib.hid ⟨a, cap, rfl, hc, hr⟩
  clear hr hc
  have HsSend := Lib.hid h1
  have HsSpawn := Lib.hid h2
  have HsLink := Lib.hid h3
  have HsStop := Lib.hid h4
  clear h1 h2 h3 h4
  go_enter Try.func119, Try.ntmps119
  go_wp2_with fail
  obtain ⟨W0, hW0⟩ : ∃ W : World, W = (w.alloc (.cells #[.int .i64 t.kind, .int .i64 t.n, .string t.name, .slice a t.args.length cap] 29)).alloc (.cells #[.int .i64 0, .int .i64 0, .int .i64 0, .string ⟨#[]⟩, .slice none 0 0, .int .i64 0, .int .i64 0, .string ⟨#[]⟩, .slice none 0 0, .string ⟨#[]⟩, .int .i64 0] 124) := ⟨_, rfl⟩
  have HV0 : Hid (RT (fun b => b < w.heap.size) W0 t (.agg #[.int .i64 t.kind, .int .i64 t.n, .string t.name, .slice a t.args.length cap])) := Lib.hid (by rw [hW0]; exact ((HV.out.to (S' := fun b => b < w.heap.size) (fun _ _ h => h) fun _ _ _ => rfl).alloc _).alloc _)
  have HX : Hid (Blk W0 w.heap.size [.int .i64 t.kind, .int .i64 t.n, .string t.name, .slice a t.args.length cap]) := Lib.hid (by rw [hW0]; exact (Blk.new _ _ _ _ rfl).alloc _)
  have HZ : Hid (Blk W0 (w.heap.size + 1) [.int .i64 0, .int .i64 0, .int .i64 0, .string ⟨#[]⟩, .slice none 0 0, .int .i64 0, .int .i64 0, .string ⟨#[]⟩, .slice none 0 0, .string ⟨#[]⟩, .int .i64 0]) := Lib.hid (by rw [hW0]; exact Blk.new _ _ _ _ (by simp))
  have HB0 : Hid (Below w.heap.size w W0) := Lib.hid (by rw [hW0]; exact (below_alloc _ _).trans ((below_alloc _ _).mono (by simp)))
  have hs0 : w.heap.size + 2 ≤ W0.heap.size := by rw [hW0]; simp
  rw [← hW0]
  clear hW0 HV
  by_cases hl : l.length = 1
  · skip
    obtain ⟨x, rfl⟩ := List.length_eq_one_iff.1 hl
    clear hl
    have hbl := (restL_some HsLink.out).1
    refine (crest_c t sSend _ _ _ HV0.out hb).mono ?_
    intro e W1 h
    obtain ⟨r0, rc0, rfl, hB⟩ := h.none HsSend.out
    have hs1 := hB.size
    have HB1 := Lib.hid hB
    clear hB h
    obtain ⟨x0, x1, x2, x3⟩ : Box W1 w.heap.size _ _ _ _ := ⟨(HX.out.step HB1.out).cell 0 _ rfl, (HX.out.step HB1.out).cell 1 _ rfl, (HX.out.step HB1.out).cell 2 _ rfl, (HX.out.step HB1.out).cell 3 _ rfl⟩
    go_wp2_with fail
    refine (crest_c t sSpawn _ _ _ (HV0.out.below HB1.out) hb).mono ?_
    intro e W2 h
    obtain ⟨r1, rc1, rfl, hB⟩ := h.none HsSpawn.out
    have hs2 := hB.size
    have HB2 := Lib.hid (HB1.out.trans (hB.mono HB1.out.size))
    clear hB h
    obtain ⟨x0, x1, x2, x3⟩ : Box W2 w.heap.size _ _ _ _ := ⟨(HX.out.step HB2.out).cell 0 _ rfl, (HX.out.step HB2.out).cell 1 _ rfl, (HX.out.step HB2.out).cell 2 _ rfl, (HX.out.step HB2.out).cell 3 _ rfl⟩
    go_wp2_with fail
    refine (crest_c t sLink _ _ _ (HV0.out.below HB2.out) hb).mono ?_
    intro e W3 h
    obtain ⟨r2, rc2, rfl, hB, hr⟩ := h.yes HsLink.out
    have HL := Lib.hid hr
    clear hr
    have hs3 := hB.size
    have HB3 := Lib.hid (HB2.out.trans (hB.mono HB2.out.size))
    clear hB h
    obtain ⟨x0, x1, x2, x3⟩ : Box W3 w.heap.size _ _ _ _ := ⟨(HX.out.step HB3.out).cell 0 _ rfl, (HX.out.step HB3.out).cell 1 _ rfl, (HX.out.step HB3.out).cell 2 _ rfl, (HX.out.step HB3.out).cell 3 _ rfl⟩
    obtain ⟨bq, oq, rfl⟩ := HL.out.rts.addr (by simp)
    obtain ⟨ax, px, hsx, d0, d1, d2, d3, hrx⟩ := HL.out.rts.elem 0 (by simp)
    simp only [Nat.zero_mul, Nat.add_zero, List.getElem_cons_zero] at d0 d1 d2 d3 hrx
    have HRX := Lib.hid hrx
    clear hrx
    go_wp2_with fail
    refine (copied_c x _ _ _ HRX.out (by omega)).mono ?_
    rintro e W4 ⟨vx, rfl, hB, ay, py, rfl, hcy, hry⟩
    have hs4 := hB.size
    have HRY : Hid (RT (fun b => W3.heap.size ≤ b) W4 x (.agg #[.int .i64 x.kind, .int .i64 x.n, .string x.name, .slice ay x.args.length py])) := Lib.hid ⟨ay, py, rfl, hcy, hry⟩
    have HB4 := Lib.hid (HB3.out.trans (hB.mono HB3.out.size))
    clear hB hry hcy
    have HO := Lib.hid (show deedO t = some ⟨3, x, zeroT, ⟨#[]⟩, 0⟩ by unfold deedO; rw [HsSend.out, HsSpawn.out, HsLink.out, HsStop.out])
    go_wp2_with (first | (refine store_blk 124 11 szDeed _ _ rfl rfl rfl rfl rfl (HZ.out.step HB4.out) rfl rfl rfl ?_; intro W' hF hs' hBW hoth; have HF := Lib.hid hF; have HFB := Lib.hid (hBW _ _ (by omega) (HB0.out.trans (HB4.out.mono (by omega)))); have HOTH := Lib.hid hoth; clear hF hBW hoth))
    refine bodyPost_ret (results_blk Try.results119 szDeed _ Try.underlying124 rfl rfl HF.out rfl) rfl ⟨⟨3, x, zeroT, ⟨#[]⟩, 0⟩, ay, py, none, 0, by rw [HO.out]; rfl, HFB.out, ?_, zeroT_rt _ _, fun d' h => by rw [HO.out] at h; exact (Option.some.inj h).symm⟩
    exact HRY.out.to (fun b hb _ => by omega) fun b hb _ => HOTH.out b (by omega)
  · skip
    have e1 : ((l.length : Int) == 1) = false := by rw [beq_eq_false_iff_ne]; omega
    have HN := Lib.hid hl
    clear hl
    refine (crest_c t sSend _ _ _ HV0.out hb).mono ?_
    intro e W1 h
    obtain ⟨r0, rc0, rfl, hB⟩ := h.none HsSend.out
    have hs1 := hB.size
    have HB1 := Lib.hid hB
    clear hB h
    obtain ⟨x0, x1, x2, x3⟩ : Box W1 w.heap.size _ _ _ _ := ⟨(HX.out.step HB1.out).cell 0 _ rfl, (HX.out.step HB1.out).cell 1 _ rfl, (HX.out.step HB1.out).cell 2 _ rfl, (HX.out.step HB1.out).cell 3 _ rfl⟩
    go_wp2_with fail
    refine (crest_c t sSpawn _ _ _ (HV0.out.below HB1.out) hb).mono ?_
    intro e W2 h
    obtain ⟨r1, rc1, rfl, hB⟩ := h.none HsSpawn.out
    have hs2 := hB.size
    have HB2 := Lib.hid (HB1.out.trans (hB.mono HB1.out.size))
    clear hB h
    obtain ⟨x0, x1, x2, x3⟩ : Box W2 w.heap.size _ _ _ _ := ⟨(HX.out.step HB2.out).cell 0 _ rfl, (HX.out.step HB2.out).cell 1 _ rfl, (HX.out.step HB2.out).cell 2 _ rfl, (HX.out.step HB2.out).cell 3 _ rfl⟩
    go_wp2_with fail
    refine (crest_c t sLink _ _ _ (HV0.out.below HB2.out) hb).mono ?_
    intro e W3 h
    obtain ⟨r2, rc2, rfl, hB, hr⟩ := h.yes HsLink.out
    have HL := Lib.hid hr
    clear hr
    have hs3 := hB.size
    have HB3 := Lib.hid (HB2.out.trans (hB.mono HB2.out.size))
    clear hB h
    obtain ⟨x0, x1, x2, x3⟩ : Box W3 w.heap.size _ _ _ _ := ⟨(HX.out.step HB3.out).cell 0 _ rfl, (HX.out.step HB3.out).cell 1 _ rfl, (HX.out.step HB3.out).cell 2 _ rfl, (HX.out.step HB3.out).cell 3 _ rfl⟩
    go_wp2_with fail
    refine (crest_c t sStop _ _ _ (HV0.out.below HB3.out) hb).mono ?_
    intro e W4 h
    obtain ⟨r3, rc3, rfl, hB⟩ := h.none HsStop.out
    have hs4 := hB.size
    have HB4 := Lib.hid (HB3.out.trans (hB.mono HB3.out.size))
    clear hB h
    obtain ⟨x0, x1, x2, x3⟩ : Box W4 w.heap.size _ _ _ _ := ⟨(HX.out.step HB4.out).cell 0 _ rfl, (HX.out.step HB4.out).cell 1 _ rfl, (HX.out.step HB4.out).cell 2 _ rfl, (HX.out.step HB4.out).cell 3 _ rfl⟩
    have HO := Lib.hid (show deedO t = none by unfold deedO; rw [HsSend.out, HsSpawn.out, HsLink.out, HsStop.out]; match l, HN.out with | [], _ => rfl | [y], h => exact absurd rfl h | y :: y2 :: r, _ => rfl)
    go_wp2_with (first | (refine store_blk 124 11 szDeed _ _ rfl rfl rfl rfl rfl (HZ.out.step HB4.out) rfl rfl rfl ?_; intro W' hF hs' hBW hoth; have HF := Lib.hid hF; have HFB := Lib.hid (hBW _ _ (by omega) (HB0.out.trans (HB4.out.mono (by omega)))); have HOTH := Lib.hid hoth; clear hF hBW hoth))
    refine bodyPost_ret (results_blk Try.results119 szDeed _ Try.underlying124 rfl rfl HF.out rfl) rfl ⟨⟨4, zeroT, zeroT, ⟨#[]⟩, 0⟩, none, 0, none, 0, by rw [HO.out]; rfl, HFB.out, zeroT_rt _ _, zeroT_rt _ _, fun d' h => by rw [HO.out] at h; cases h⟩

set_option maxHeartbeats 4000000 in
theorem cact_stop (t : T) (S : Nat → Prop) (w : World) (v : Value) (hv : RT S w t v) (hb : bulkL [t] ≤ 1099511627776) (l : List T) (h1 : restL sSend t = none) (h2 : restL sSpawn t = none) (h3 : restL sLink t = none) (h4 : restL sStop t = some l) : Calls Try.prog 119 #[v] w (ActP w t) := by
  obtain ⟨a, cap, rfl, hc, hr⟩ := hv
  have HV : Hid (RT S w t _) := Lib.hid ⟨a, cap, rfl, hc, hr⟩
  clear hr hc
  have HsSend := Lib.hid h1
  have HsSpawn := Lib.hid h2
  have HsLink := Lib.hid h3
  have HsStop := Lib.hid h4
  clear h1 h2 h3 h4
  go_enter Try.func119, Try.ntmps119
  go_wp2_with fail
  obtain ⟨W0, hW0⟩ : ∃ W : World, W = (w.alloc (.cells #[.int .i64 t.kind, .int .i64 t.n, .string t.name, .slice a t.args.length cap] 29)).alloc (.cells #[.int .i64 0, .int .i64 0, .int .i64 0, .string ⟨#[]⟩, .slice none 0 0, .int .i64 0, .int .i64 0, .string ⟨#[]⟩, .slice none 0 0, .string ⟨#[]⟩, .int .i64 0] 124) := ⟨_, rfl⟩
  have HV0 : Hid (RT (fun b => b < w.heap.size) W0 t (.agg #[.int .i64 t.kind, .int .i64 t.n, .string t.name, .slice a t.args.length cap])) := Lib.hid (by rw [hW0]; exact ((HV.out.to (S' := fun b => b < w.heap.size) (fun _ _ h => h) fun _ _ _ => rfl).alloc _).alloc _)
  have HX : Hid (Blk W0 w.heap.size [.int .i64 t.kind, .int .i64 t.n, .string t.name, .slice a t.args.length cap]) := Lib.hid (by rw [hW0]; exact (Blk.new _ _ _ _ rfl).alloc _)
  have HZ : Hid (Blk W0 (w.heap.size + 1) [.int .i64 0, .int .i64 0, .int .i64 0, .string ⟨#[]⟩, .slice none 0 0, .int .i64 0, .int .i64 0, .string ⟨#[]⟩, .slice none 0 0, .string ⟨#[]⟩, .int .i64 0]) := Lib.hid (by rw [hW0]; exact Blk.new _ _ _ _ (by simp))
  have HB0 : Hid (Below w.heap.size w W0) := Lib.hid (by rw [hW0]; exact (below_alloc _ _).trans ((below_alloc _ _).mono (by simp)))
  have hs0 : w.heap.size + 2 ≤ W0.heap.size := by rw [hW0]; simp
  rw [← hW0]
  clear hW0 HV
  by_cases hl : l.length = 0
  · skip
    obtain rfl : l = [] := List.eq_nil_of_length_eq_zero hl
    clear hl
    refine (crest_c t sSend _ _ _ HV0.out hb).mono ?_
    intro e W1 h
    obtain ⟨r0, rc0, rfl, hB⟩ := h.none HsSend.out
    have hs1 := hB.size
    have HB1 := Lib.hid hB
    clear hB h
    obtain ⟨x0, x1, x2, x3⟩ : Box W1 w.heap.size _ _ _ _ := ⟨(HX.out.step HB1.out).cell 0 _ rfl, (HX.out.step HB1.out).cell 1 _ rfl, (HX.out.step HB1.out).cell 2 _ rfl, (HX.out.step HB1.out).cell 3 _ rfl⟩
    go_wp2_with fail
    refine (crest_c t sSpawn _ _ _ (HV0.out.below HB1.out) hb).mono ?_
    intro e W2 h
    obtain ⟨r1, rc1, rfl, hB⟩ := h.none HsSpawn.out
    have hs2 := hB.size
    have HB2 := Lib.hid (HB1.out.trans (hB.mono HB1.out.size))
    clear hB h
    obtain ⟨x0, x1, x2, x3⟩ : Box W2 w.heap.size _ _ _ _ := ⟨(HX.out.step HB2.out).cell 0 _ rfl, (HX.out.step HB2.out).cell 1 _ rfl, (HX.out.step HB2.out).cell 2 _ rfl, (HX.out.step HB2.out).cell 3 _ rfl⟩
    go_wp2_with fail
    refine (crest_c t sLink _ _ _ (HV0.out.below HB2.out) hb).mono ?_
    intro e W3 h
    obtain ⟨r2, rc2, rfl, hB⟩ := h.none HsLink.out
    have hs3 := hB.size
    have HB3 := Lib.hid (HB2.out.trans (hB.mono HB2.out.size))
    clear hB h
    obtain ⟨x0, x1, x2, x3⟩ : Box W3 w.heap.size _ _ _ _ := ⟨(HX.out.step HB3.out).cell 0 _ rfl, (HX.out.step HB3.out).cell 1 _ rfl, (HX.out.step HB3.out).cell 2 _ rfl, (HX.out.step HB3.out).cell 3 _ rfl⟩
    go_wp2_with fail
    refine (crest_c t sStop _ _ _ (HV0.out.below HB3.out) hb).mono ?_
    intro e W4 h
    obtain ⟨r3, rc3, rfl, hB, hr⟩ := h.yes HsStop.out
    have HL := Lib.hid hr
    clear hr
    have hs4 := hB.size
    have HB4 := Lib.hid (HB3.out.trans (hB.mono HB3.out.size))
    clear hB h
    obtain ⟨x0, x1, x2, x3⟩ : Box W4 w.heap.size _ _ _ _ := ⟨(HX.out.step HB4.out).cell 0 _ rfl, (HX.out.step HB4.out).cell 1 _ rfl, (HX.out.step HB4.out).cell 2 _ rfl, (HX.out.step HB4.out).cell 3 _ rfl⟩
    have HO := Lib.hid (show deedO t = some ⟨4, zeroT, zeroT, ⟨#[]⟩, 0⟩ by unfold deedO; rw [HsSend.out, HsSpawn.out, HsLink.out, HsStop.out])
    go_wp2_with (first | (refine store_blk 124 11 szDeed _ _ rfl rfl rfl rfl rfl (HZ.out.step HB4.out) rfl rfl rfl ?_; intro W' hF hs' hBW hoth; have HF := Lib.hid hF; have HFB := Lib.hid (hBW _ _ (by omega) (HB0.out.trans (HB4.out.mono (by omega)))); have HOTH := Lib.hid hoth; clear hF hBW hoth))
    refine bodyPost_ret (results_blk Try.results119 szDeed _ Try.underlying124 rfl rfl HF.out rfl) rfl ⟨⟨4, zeroT, zeroT, ⟨#[]⟩, 0⟩, none, 0, none, 0, by rw [HO.out]; rfl, HFB.out, zeroT_rt _ _, zeroT_rt _ _, fun d' h => by rw [HO.out] at h; exact (Option.some.inj h).symm⟩
  · skip
    have e1 : ((l.length : Int) == 0) = false := by rw [beq_eq_false_iff_ne]; omega
    have HN := Lib.hid hl
    clear hl
    refine (crest_c t sSend _ _ _ HV0.out hb).mono ?_
    intro e W1 h
    obtain ⟨r0, rc0, rfl, hB⟩ := h.none HsSend.out
    have hs1 := hB.size
    have HB1 := Lib.hid hB
    clear hB h
    obtain ⟨x0, x1, x2, x3⟩ : Box W1 w.heap.size _ _ _ _ := ⟨(HX.out.step HB1.out).cell 0 _ rfl, (HX.out.step HB1.out).cell 1 _ rfl, (HX.out.step HB1.out).cell 2 _ rfl, (HX.out.step HB1.out).cell 3 _ rfl⟩
    go_wp2_with fail
    refine (crest_c t sSpawn _ _ _ (HV0.out.below HB1.out) hb).mono ?_
    intro e W2 h
    obtain ⟨r1, rc1, rfl, hB⟩ := h.none HsSpawn.out
    have hs2 := hB.size
    have HB2 := Lib.hid (HB1.out.trans (hB.mono HB1.out.size))
    clear hB h
    obtain ⟨x0, x1, x2, x3⟩ : Box W2 w.heap.size _ _ _ _ := ⟨(HX.out.step HB2.out).cell 0 _ rfl, (HX.out.step HB2.out).cell 1 _ rfl, (HX.out.step HB2.out).cell 2 _ rfl, (HX.out.step HB2.out).cell 3 _ rfl⟩
    go_wp2_with fail
    refine (crest_c t sLink _ _ _ (HV0.out.below HB2.out) hb).mono ?_
    intro e W3 h
    obtain ⟨r2, rc2, rfl, hB⟩ := h.none HsLink.out
    have hs3 := hB.size
    have HB3 := Lib.hid (HB2.out.trans (hB.mono HB2.out.size))
    clear hB h
    obtain ⟨x0, x1, x2, x3⟩ : Box W3 w.heap.size _ _ _ _ := ⟨(HX.out.step HB3.out).cell 0 _ rfl, (HX.out.step HB3.out).cell 1 _ rfl, (HX.out.step HB3.out).cell 2 _ rfl, (HX.out.step HB3.out).cell 3 _ rfl⟩
    go_wp2_with fail
    refine (crest_c t sStop _ _ _ (HV0.out.below HB3.out) hb).mono ?_
    intro e W4 h
    obtain ⟨r3, rc3, rfl, hB, hr⟩ := h.yes HsStop.out
    have HL := Lib.hid hr
    clear hr
    have hs4 := hB.size
    have HB4 := Lib.hid (HB3.out.trans (hB.mono HB3.out.size))
    clear hB h
    obtain ⟨x0, x1, x2, x3⟩ : Box W4 w.heap.size _ _ _ _ := ⟨(HX.out.step HB4.out).cell 0 _ rfl, (HX.out.step HB4.out).cell 1 _ rfl, (HX.out.step HB4.out).cell 2 _ rfl, (HX.out.step HB4.out).cell 3 _ rfl⟩
    have HO := Lib.hid (show deedO t = none by unfold deedO; rw [HsSend.out, HsSpawn.out, HsLink.out, HsStop.out]; cases l with | nil => exact absurd rfl HN.out | cons y r => rfl)
    go_wp2_with (first | (refine store_blk 124 11 szDeed _ _ rfl rfl rfl rfl rfl (HZ.out.step HB4.out) rfl rfl rfl ?_; intro W' hF hs' hBW hoth; have HF := Lib.hid hF; have HFB := Lib.hid (hBW _ _ (by omega) (HB0.out.trans (HB4.out.mono (by omega)))); have HOTH := Lib.hid hoth; clear hF hBW hoth))
    refine bodyPost_ret (results_blk Try.results119 szDeed _ Try.underlying124 rfl rfl HF.out rfl) rfl ⟨⟨4, zeroT, zeroT, ⟨#[]⟩, 0⟩, none, 0, none, 0, by rw [HO.out]; rfl, HFB.out, zeroT_rt _ _, zeroT_rt _ _, fun d' h => by rw [HO.out] at h; cases h⟩

set_option maxHeartbeats 4000000 in
theorem cact_none (t : T) (S : Nat → Prop) (w : World) (v : Value) (hv : RT S w t v) (hb : bulkL [t] ≤ 1099511627776) (h1 : restL sSend t = none) (h2 : restL sSpawn t = none) (h3 : restL sLink t = none) (h4 : restL sStop t = none) : Calls Try.prog 119 #[v] w (ActP w t) := by
  obtain ⟨a, cap, rfl, hc, hr⟩ := hv
  have HV : Hid (RT S w t _) := Lib.hid ⟨a, cap, rfl, hc, hr⟩
  clear hr hc
  have HsSend := Lib.hid h1
  have HsSpawn := Lib.hid h2
  have HsLink := Lib.hid h3
  have HsStop := Lib.hid h4
  clear h1 h2 h3 h4
  go_enter Try.func119, Try.ntmps119
  go_wp2_with fail
  obtain ⟨W0, hW0⟩ : ∃ W : World, W = (w.alloc (.cells #[.int .i64 t.kind, .int .i64 t.n, .string t.name, .slice a t.args.length cap] 29)).alloc (.cells #[.int .i64 0, .int .i64 0, .int .i64 0, .string ⟨#[]⟩, .slice none 0 0, .int .i64 0, .int .i64 0, .string ⟨#[]⟩, .slice none 0 0, .string ⟨#[]⟩, .int .i64 0] 124) := ⟨_, rfl⟩
  have HV0 : Hid (RT (fun b => b < w.heap.size) W0 t (.agg #[.int .i64 t.kind, .int .i64 t.n, .string t.name, .slice a t.args.length cap])) := Lib.hid (by rw [hW0]; exact ((HV.out.to (S' := fun b => b < w.heap.size) (fun _ _ h => h) fun _ _ _ => rfl).alloc _).alloc _)
  have HX : Hid (Blk W0 w.heap.size [.int .i64 t.kind, .int .i64 t.n, .string t.name, .slice a t.args.length cap]) := Lib.hid (by rw [hW0]; exact (Blk.new _ _ _ _ rfl).alloc _)
  have HZ : Hid (Blk W0 (w.heap.size + 1) [.int .i64 0, .int .i64 0, .int .i64 0, .string ⟨#[]⟩, .slice none 0 0, .int .i64 0, .int .i64 0, .string ⟨#[]⟩, .slice none 0 0, .string ⟨#[]⟩, .int .i64 0]) := Lib.hid (by rw [hW0]; exact Blk.new _ _ _ _ (by simp))
  have HB0 : Hid (Below w.heap.size w W0) := Lib.hid (by rw [hW0]; exact (below_alloc _ _).trans ((below_alloc _ _).mono (by simp)))
  have hs0 : w.heap.size + 2 ≤ W0.heap.size := by rw [hW0]; simp
  rw [← hW0]
  clear hW0 HV
  refine (crest_c t sSend _ _ _ HV0.out hb).mono ?_
  intro e W1 h
  obtain ⟨r0, rc0, rfl, hB⟩ := h.none HsSend.out
  have hs1 := hB.size
  have HB1 := Lib.hid hB
  clear hB h
  obtain ⟨x0, x1, x2, x3⟩ : Box W1 w.heap.size _ _ _ _ := ⟨(HX.out.step HB1.out).cell 0 _ rfl, (HX.out.step HB1.out).cell 1 _ rfl, (HX.out.step HB1.out).cell 2 _ rfl, (HX.out.step HB1.out).cell 3 _ rfl⟩
  go_wp2_with fail
  refine (crest_c t sSpawn _ _ _ (HV0.out.below HB1.out) hb).mono ?_
  intro e W2 h
  obtain ⟨r1, rc1, rfl, hB⟩ := h.none HsSpawn.out
  have hs2 := hB.size
  have HB2 := Lib.hid (HB1.out.trans (hB.mono HB1.out.size))
  clear hB h
  obtain ⟨x0, x1, x2, x3⟩ : Box W2 w.heap.size _ _ _ _ := ⟨(HX.out.step HB2.out).cell 0 _ rfl, (HX.out.step HB2.out).cell 1 _ rfl, (HX.out.step HB2.out).cell 2 _ rfl, (HX.out.step HB2.out).cell 3 _ rfl⟩
  go_wp2_with fail
  refine (crest_c t sLink _ _ _ (HV0.out.below HB2.out) hb).mono ?_
  intro e W3 h
  obtain ⟨r2, rc2, rfl, hB⟩ := h.none HsLink.out
  have hs3 := hB.size
  have HB3 := Lib.hid (HB2.out.trans (hB.mono HB2.out.size))
  clear hB h
  obtain ⟨x0, x1, x2, x3⟩ : Box W3 w.heap.size _ _ _ _ := ⟨(HX.out.step HB3.out).cell 0 _ rfl, (HX.out.step HB3.out).cell 1 _ rfl, (HX.out.step HB3.out).cell 2 _ rfl, (HX.out.step HB3.out).cell 3 _ rfl⟩
  go_wp2_with fail
  refine (crest_c t sStop _ _ _ (HV0.out.below HB3.out) hb).mono ?_
  intro e W4 h
  obtain ⟨r3, rc3, rfl, hB⟩ := h.none HsStop.out
  have hs4 := hB.size
  have HB4 := Lib.hid (HB3.out.trans (hB.mono HB3.out.size))
  clear hB h
  obtain ⟨x0, x1, x2, x3⟩ : Box W4 w.heap.size _ _ _ _ := ⟨(HX.out.step HB4.out).cell 0 _ rfl, (HX.out.step HB4.out).cell 1 _ rfl, (HX.out.step HB4.out).cell 2 _ rfl, (HX.out.step HB4.out).cell 3 _ rfl⟩
  have HO := Lib.hid (show deedO t = none by unfold deedO; rw [HsSend.out, HsSpawn.out, HsLink.out, HsStop.out])
  go_wp2_with (first | (refine store_blk 124 11 szDeed _ _ rfl rfl rfl rfl rfl (HZ.out.step HB4.out) rfl rfl rfl ?_; intro W' hF hs' hBW hoth; have HF := Lib.hid hF; have HFB := Lib.hid (hBW _ _ (by omega) (HB0.out.trans (HB4.out.mono (by omega)))); have HOTH := Lib.hid hoth; clear hF hBW hoth))
  refine bodyPost_ret (results_blk Try.results119 szDeed _ Try.underlying124 rfl rfl HF.out rfl) rfl ⟨⟨4, zeroT, zeroT, ⟨#[]⟩, 0⟩, none, 0, none, 0, by rw [HO.out]; rfl, HFB.out, zeroT_rt _ _, zeroT_rt _ _, fun d' h => by rw [HO.out] at h; cases h⟩

end Go.Proofs.Ytedfepnekjjmnaa
