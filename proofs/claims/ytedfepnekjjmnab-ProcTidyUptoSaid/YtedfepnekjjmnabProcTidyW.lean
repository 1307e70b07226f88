/-
 clerkkeep.ProcTidy, walked: it returns true. Conditions: bounds on what is handed in.
-/
import Derived.Test.YtedfepnekjjmnabJj
import Derived.Test.YtedfepnekjjmnabJi
import Derived.Test.YtedfepnekjjmnabJc
namespace Go.Proofs.Ytedfepnekjjmnab
open Go.RowKit
set_option linter.unusedSimpArgs false
set_option linter.unusedVariables false
set_option maxRecDepth 100000

set_option maxHeartbeats 16000000 in
theorem proctidy_walk (l : List Behv) (name : ByteArray) (st : T) (room : Int) (cl : List PC) (ats : List Int) (S : Nat → Prop) (w : World) (vl vst vcl vat : Value) (hv : RX behvE S S w l vl) (hst : RT S w st vst) (hcl : RX pcE S S w cl vcl) (hat : RX intE S S w ats vat) (hS : ∀ b, S b → b < w.heap.size)
  (hb : behvsB l + name.size + bulkL [st] + pcsB cl + ats.length ≤ 1048577) :
  Calls Try.prog 6 #[vl, .string name, vst, .int .i64 room, vcl, vat] w fun e w' => e = .returned (.bool true) ∧ Below w.heap.size w w' := by
 have hp1 : 1 ≤ pcsB cl := pcsB_pos cl
 obtain ⟨al, capl, rfl, -⟩ := hv.form
 obtain ⟨ac, capc, rfl, -⟩ := hcl.form
 obtain ⟨aa, capa, rfl, -⟩ := hat.form
 obtain ⟨sa, sc, rfl, hcap, hrt⟩ := hst
 have HST0 : Hid (RT S w st (.agg #[.int .i64 st.kind, .int .i64 st.n, .string st.name, .slice sa st.args.length sc])) := Lib.hid ⟨sa, sc, rfl, hcap, hrt⟩
 obtain ⟨W0, hW0⟩ : ∃ W : World, W = w.alloc (.cells #[.int .i64 st.kind, .int .i64 st.n, .string st.name, .slice sa st.args.length sc] 24) := ⟨_, rfl⟩
 obtain ⟨g8, hg8⟩ : ∃ g, g = w.heap.size := ⟨_, rfl⟩
 have HB0 : Hid (Below w.heap.size w W0) := Lib.hid (by rw [hW0]; exact below_alloc _ _)
 have HX8 : Hid (Blk W0 g8 [.int .i64 st.kind, .int .i64 st.n, .string st.name, .slice sa st.args.length sc]) := Lib.hid (by rw [hW0]; exact Blk.new _ _ _ _ hg8)
 have HV := Lib.hid hv; have HCL := Lib.hid hcl; have HAT := Lib.hid hat; have HSS := Lib.hid hS; have HBB := Lib.hid hb
 clear hv hcl hat hS hcap hrt
 go_enter Try.func6, Try.ntmps6
 go_upto_region 1 with fail
 rw [← hW0, ← hg8]
 clear hW0 hg8
 go_wp2_with fail
 refine (pnew_c sRelay 100 (pidTm 2) (fun b => b < W0.heap.size) W0 _ (pidTm_rt _ _ _) (fun _ h => h) (by have := sm_bulks; omega) (by decide)).mono ?_
 rintro e w1 ⟨hB1, hcase⟩
 rcases hcase with ⟨hne, -⟩ | ⟨-, p0, y0, rfl, hP1⟩
 ·exact absurd sm_new hne
 have HB1 : Hid (Below w.heap.size w w1) := Lib.hid (HB0.out.trans (hB1.mono (by exact HB0.out.size)))
 have HX81 := Lib.hid (HX8.out.step hB1)
 have HP1 := Lib.hid hP1.low
 clear hB1 hP1
 go_wp2_with fail
 refine (word_c sN w1).mono ?_
 rintro e w2 ⟨rfl, hB⟩
 have HB2 : Hid (Below w1.heap.size w1 w2) := Lib.hid hB
 clear hB
 go_wp2_with fail
 refine (num_c 4 w2).mono ?_
 rintro e w3 ⟨rfl, hB⟩
 have HB3 : Hid (Below w1.heap.size w1 w3) := Lib.hid (below_step HB2.out HB2.out.size hB)
 clear hB
 go_wp2_with fail
 obtain ⟨W3, hW3⟩ : ∃ W : World, W = w3.alloc (.cells #[.int .i64 2, .int .i64 0, .string sN, .slice none 0 0, .int .i64 1, .int .i64 4, .string ⟨#[]⟩, .slice none 0 0] 24) := ⟨_, rfl⟩
 obtain ⟨gt, hgt⟩ : ∃ g, g = w3.heap.size := ⟨_, rfl⟩
 have HT3 : Hid (RT (fun b => w1.heap.size ≤ b) W3 smMail (.agg #[.int .i64 4, .int .i64 0, .string ⟨#[]⟩, .slice (some ⟨gt, 0, none⟩) 2 2])) := Lib.hid (by rw [hW3]; exact sm_tup (CellsT.one (wordT_rt _ _ sN) (CellsT.one (numT_rt _ _ 4) (show CellsT _ _ [] [] from rfl))) rfl HB3.out.size hgt)
 have HB3' : Hid (Below w1.heap.size w1 W3) := Lib.hid (by rw [hW3]; exact below_step HB3.out HB3.out.size (below_alloc _ _))
 rw [← hW3, ← hgt]
 clear hW3 hgt
 refine (tuple_c _ _ _ W3).mono ?_
 rintro e w4 ⟨rfl, hB⟩
 have HB4 : Hid (Below w1.heap.size w1 w4) := Lib.hid (below_step HB3'.out HB3'.out.size hB)
 have HT4 : Hid (RT (fun b => w1.heap.size ≤ b ∧ b < w4.heap.size) w4 smMail (.agg #[.int .i64 4, .int .i64 0, .string ⟨#[]⟩, .slice (some ⟨gt, 0, none⟩) 2 2])) := Lib.hid ((HT3.out.below hB).to (fun b hb hl => ⟨hb, hl⟩) fun _ _ _ => rfl)
 clear hB
 go_wp2_with fail
 refine (pdel_c (fun b => W0.heap.size ≤ b ∧ b < w1.heap.size) w4 p0 sRelay 100 _ _ [(pidTm 2, y0)] smMail _ _ (HP1.out.below HB4.out) HT4.out (fun b hb => ⟨hb.2, fun hg => by have h1 := hg.2; have h2 := hb.1; omega⟩) (by have := sm_bulks; omega) (by simp) (by omega) (by have := sm_bulks; omega)).mono ?_
 rintro e w5 ⟨he, hK5, L5, u5, hL5, hP5⟩
 have hd0 : delE 100 (tmsL [(pidTm 2, y0)]) smMail = 0 := sm_del
 rw [hd0] at he
 subst he
 have hL5 : tmsL L5 = [pidTm 2, smMail] := by rw [hL5, if_pos hd0]; rfl
 obtain ⟨x5, L6, rfl, hL6⟩ := tmsL_cons hL5
 have HB5 : Hid (Below w.heap.size w w5) := Lib.hid (by
  have h1 := HB1.out.size; have h2 := HB4.out.size; have h0 := HB0.out.size
  exact (HB1.out.trans (HB4.out.mono h1)).trans (hK5.below (by omega) fun b hb => by have := hb.1; omega))
 have HX85 : Hid (Blk w5 g8 [.int .i64 st.kind, .int .i64 st.n, .string st.name, .slice sa st.args.length sc]) := Lib.hid ((HX81.out.step HB4.out).keep hK5 fun hg => by have h1 := hg.1; have h2 := HX8.out.lt; omega)
 have HP5 : Hid (PrR (fun b => ((W0.heap.size ≤ b ∧ b < w1.heap.size) ∨ w4.heap.size ≤ b) ∧ b < w5.heap.size) w5 p0 sRelay 100 _ _ ((pidTm 2, x5) :: L6) []) := Lib.hid hP5.low
 have HL6 := Lib.hid hL6
 have HL6n : Hid (L6.length = 1) := Lib.hid (by have h := congrArg List.length hL6; rw [tmsL_len] at h; simpa using h)
 clear hK5 hP5 hL5 hL6 hd0
 go_wp2_with fail
 refine (small_c w5).mono ?_
 rintro e w6 ⟨gp, rfl, hB6, hRX⟩
 have HB6 := Lib.hid hB6; have HRX := Lib.hid hRX
 clear hB6 hRX
 go_wp2_with fail
 refine (pstep_c _ w6 p0 sRelay 100 _ _ (pidTm 2) x5 L6 [smBehv] (some ⟨gp, 0, none⟩) 1 1 2 (fun b => w5.heap.size ≤ b ∧ b < w6.heap.size) (HP5.out.below HB6.out) (fun b hb => by have := hb.2; have := HB6.out.size; omega) (HRX.out.to (fun b hb hl => ⟨hb, hl⟩) (fun b hb hl => ⟨hb, hl⟩) fun _ _ _ => rfl) (fun b hb => ⟨hb.2, fun hg => by have h1 := hg.2; have h2 := hb.1; omega⟩) (by have := small_bulk'; omega) (by have := HL6n.out; omega) (by omega) (by have := sm_bulks; omega)).mono ?_
 rw [HL6.out, sm_step]
 rintro e w7 ⟨cs7, he, hT7, hK7, -⟩
 subst he
 obtain ⟨am, pm, vs, vp, vl, rfl, -, hrs, hrp, hrl⟩ := hT7
 obtain ⟨ap, cp, ep, -⟩ := hrp.form
 obtain ⟨ak, ck, ek, -⟩ := hrl.form
 have ep : vp = .slice ap 0 cp := ep
 have ek : vl = .slice ak 0 ck := ek
 subst ep ek
 clear hrp hrl
 obtain ⟨as5, cs5, rfl, -⟩ := hrs.form
 obtain ⟨gs, os, rfl⟩ := hrs.addr (by decide) (by decide)
 obtain ⟨ce, ⟨ao, po, rfl, hro⟩, hce⟩ := hrs.elem 0 (by decide)
 have HB7 : Hid (Below w.heap.size w w7) := Lib.hid (by
  have h1 := HB0.out.size; have h2 := HB5.out.size; have h3 := HB6.out.size
  refine (HB5.out.trans (HB6.out.mono h2)).trans (hK7.below (by omega) fun b hb => ?_)
  rcases hb.1 with h | h
  ·have := h.1; omega
  ·have := HB1.out.size; have := HB4.out.size; omega)
 have HX87 : Hid (Blk w7 g8 [.int .i64 st.kind, .int .i64 st.n, .string st.name, .slice sa st.args.length sc]) := Lib.hid ((HX85.out.step HB6.out).keep hK7 fun hg => by
  have h2 := HX8.out.lt; have h3 := HB4.out.size; have h4 := HX81.out.lt
  rcases hg.1 with h | h
  ·have := h.1; omega
  ·omega)
 have HE0 : Hid (w7.cell? ⟨gs, os, none⟩ = some (.int .i64 2)) := Lib.hid (hce 0 _ rfl).2
 have HE1 : Hid (w7.cell? ⟨gs, os + 1, none⟩ = some (.int .i64 smOut.kind) ∧ w7.cell? ⟨gs, os + 1 + 1, none⟩ = some (.int .i64 smOut.n) ∧ w7.cell? ⟨gs, os + 1 + 2, none⟩ = some (.string smOut.name) ∧ w7.cell? ⟨gs, os + 1 + 3, none⟩ = some (.slice ao smOut.args.length po)) := Lib.hid ⟨(hce 1 _ rfl).2, (hce 2 _ rfl).2, (hce 3 _ rfl).2, (hce 4 _ rfl).2⟩
 have HRO := Lib.hid hro
 clear hK7 hrs hce hro
 go_upto_region 5 with fail
 obtain ⟨W5, hW5⟩ : ∃ W : World, W = w7.alloc (.cells #[.int .i64 smMail.kind, .int .i64 smMail.n, .string smMail.name, .slice am smMail.args.length pm, .int .i64 0, .slice (some ⟨gs, os, none⟩) 1 cs5, .slice ap 0 cp, .slice ak 0 ck] 85) := ⟨_, rfl⟩
 obtain ⟨g15, hg15⟩ : ∃ g, g = w7.heap.size := ⟨_, rfl⟩
 have HX15 : Hid (Blk W5 g15 [.int .i64 smMail.kind, .int .i64 smMail.n, .string smMail.name, .slice am smMail.args.length pm, .int .i64 0, .slice (some ⟨gs, os, none⟩) 1 cs5, .slice ap 0 cp, .slice ak 0 ck]) := Lib.hid (by rw [hW5]; exact Blk.new _ _ _ _ hg15)
 have HB75 : Hid (Below w7.heap.size w7 W5) := Lib.hid (by rw [hW5]; exact below_alloc _ _)
 rw [← hW5, ← hg15]
 clear hW5 hg15
 have HBW5 : Hid (Below w.heap.size w W5) := Lib.hid (below_step HB7.out HB7.out.size HB75.out)
 have HX5 := Lib.hid (HX87.out.step HB75.out)
 have HTO : Hid (RT (fun b => w6.heap.size ≤ b) W5 smOut (.agg #[.int .i64 smOut.kind, .int .i64 smOut.n, .string smOut.name, .slice ao smOut.args.length po])) := Lib.hid (HRO.out.below HB75.out)
 have HQ5 : Hid (∀ w' : World, Below W5.heap.size W5 w' → w'.cell? ⟨g15, 5, none⟩ = some (.slice (some ⟨gs, os, none⟩) 1 cs5) ∧ w'.cell? ⟨gs, os, none⟩ = some (.int .i64 2) ∧ w'.cell? ⟨gs, os + 1, none⟩ = some (.int .i64 smOut.kind) ∧ w'.cell? ⟨gs, os + 1 + 1, none⟩ = some (.int .i64 smOut.n) ∧ w'.cell? ⟨gs, os + 1 + 2, none⟩ = some (.string smOut.name) ∧ w'.cell? ⟨gs, os + 1 + 3, none⟩ = some (.slice ao smOut.args.length po)) := Lib.hid fun w' h => by
  have hq : ∀ b o v, w7.cell? ⟨b, o, none⟩ = some v → w'.cell? ⟨b, o, none⟩ = some v := fun b o v hv => by
   have hl := World.block_lt_of_cell? w7 _ hv
   have h1 := (below_step HB75.out HB75.out.size h).cell (p := ⟨b, o, none⟩) hl
   rw [h1]; exact hv
  obtain ⟨e1, e2, e3, e4⟩ := HE1.out
  exact ⟨(HX15.out.step h).cell 5 _ rfl, hq _ _ _ HE0.out, hq _ _ _ e1, hq _ _ _ e2, hq _ _ _ e3, hq _ _ _ e4⟩
 refine rg_start (fun w' => w'.cell? ⟨g15, 5, none⟩ = some (.slice (some ⟨gs, os, none⟩) 1 cs5) ∧ w'.cell? ⟨gs, os, none⟩ = some (.int .i64 2) ∧ w'.cell? ⟨gs, os + 1, none⟩ = some (.int .i64 smOut.kind) ∧ w'.cell? ⟨gs, os + 1 + 1, none⟩ = some (.int .i64 smOut.n) ∧ w'.cell? ⟨gs, os + 1 + 2, none⟩ = some (.string smOut.name) ∧ w'.cell? ⟨gs, os + 1 + 3, none⟩ = some (.slice ao smOut.args.length po)) (by as_aux_lemma => kernel_rfl) (fun Wd h => HQ5.out _ h) ?_
 intro V0 hB hWd hWd' hHeld
 have HV0 := Lib.hid hB
 clear hB
 refine rg_tk 0 ?_ rfl (by as_aux_lemma => kernel_rfl) (by rfl) ?_ hHeld ?_
 rotate_left 1
 ·intro w hSw; (try dsimp only at hSw); go_simp; try (with_reducible rfl)
 (try simp only [Act.put, pA, pB, pC])
 refine rg_tk 1 ?_ rfl (by as_aux_lemma => kernel_rfl) (by rfl) ?_ hHeld ?_
 rotate_left 1
 ·intro w hSw; (try dsimp only at hSw); go_simp; try (with_reducible rfl)
 (try simp only [Act.put, pA, pB, pC])
 refine rg_tk 2 ?_ rfl (by as_aux_lemma => kernel_rfl) (by rfl) ?_ hHeld ?_
 rotate_left 1
 ·intro w hSw; (try dsimp only at hSw); go_simp; try (with_reducible rfl)
 (try simp only [Act.put, pA, pB, pC])
 refine rg_tk 3 ?_ rfl (by as_aux_lemma => kernel_rfl) (by rfl) ?_ hHeld ?_
 rotate_left 1
 ·intro w hSw; (try dsimp only at hSw); go_simp; try (with_reducible rfl)
 (try simp only [Act.put, pA, pB, pC])
 refine rg_tk 4 ?_ rfl (by as_aux_lemma => kernel_rfl) (by rfl) ?_ hHeld ?_
 rotate_left 1
 ·intro w hSw; (try dsimp only at hSw); go_simp; try (with_reducible rfl)
 (try simp only [Act.put, pA, pB, pC])
 refine rg_tk 5 ?_ rfl (by as_aux_lemma => kernel_rfl) (by rfl) ?_ hHeld ?_
 rotate_left 1
 ·intro w hSw; (try dsimp only at hSw); go_simp; try (with_reducible rfl)
 (try simp only [Act.put, pA, pB, pC])
 refine rg_tk 6 ?_ rfl (by as_aux_lemma => kernel_rfl) (by rfl) ?_ hHeld ?_
 rotate_left 1
 ·intro w hSw; (try dsimp only at hSw); go_simp; try (with_reducible rfl)
 (try simp only [Act.put, pA, pB, pC])
 refine rg_tk 7 ?_ rfl (by as_aux_lemma => kernel_rfl) (by rfl) ?_ hHeld ?_
 rotate_left 1
 ·intro w hSw; (try dsimp only at hSw); go_simp; try (with_reducible rfl)
 (try simp only [Act.put, pA, pB, pC])
 refine rg_tk 8 ?_ rfl (by as_aux_lemma => kernel_rfl) (by rfl) ?_ hHeld ?_
 rotate_left 1
 ·intro w hSw; (try dsimp only at hSw); go_simp; try (with_reducible rfl)
 (try simp only [Act.put, pA, pB, pC])
 refine rg_tk 9 ?_ rfl (by as_aux_lemma => kernel_rfl) (by rfl) ?_ hHeld ?_
 rotate_left 1
 ·intro w hSw; (try dsimp only at hSw); go_simp; try (with_reducible rfl)
 (try simp only [Act.put, pA, pB, pC])
 refine rg_tk 10 ?_ rfl (by as_aux_lemma => kernel_rfl) (by rfl) ?_ hHeld ?_
 rotate_left 1
 ·intro w hSw; (try dsimp only at hSw); go_simp; try (with_reducible rfl)
 (try simp only [Act.put, pA, pB, pC])
 refine rg_tk 11 ?_ rfl (by as_aux_lemma => kernel_rfl) (by rfl) ?_ hHeld ?_
 rotate_left 1
 ·intro w hSw; (try dsimp only at hSw); go_simp; try (with_reducible rfl)
 (try simp only [Act.put, pA, pB, pC])
 refine rg_tk 12 ?_ rfl (by as_aux_lemma => kernel_rfl) (by rfl) ?_ hHeld ?_
 rotate_left 1
 ·intro w hSw; (try dsimp only at hSw); go_simp; try (with_reducible rfl)
 (try simp only [Act.put, pA, pB, pC])
 refine rg_tk 13 ?_ rfl (by as_aux_lemma => kernel_rfl) (by rfl) ?_ hHeld ?_
 rotate_left 1
 ·intro w hSw; (try dsimp only at hSw); go_simp; try (with_reducible rfl)
 (try simp only [Act.put, pA, pB, pC])
 refine rg_tk 14 ?_ rfl (by as_aux_lemma => kernel_rfl) (by rfl) ?_ hHeld ?_
 rotate_left 1
 ·intro w hSw; (try dsimp only at hSw); go_simp; try (with_reducible rfl)
 (try simp only [Act.put, pA, pB, pC])
 refine rg_tk 15 ?_ rfl (by as_aux_lemma => kernel_rfl) (by rfl) ?_ hHeld ?_
 rotate_left 1
 ·intro w hSw; (try dsimp only at hSw); go_simp; try (with_reducible rfl)
 (try simp only [Act.put, pA, pB, pC])
 refine rg_tk 16 ?_ rfl (by as_aux_lemma => kernel_rfl) (by rfl) ?_ hHeld ?_
 rotate_left 1
 ·intro w hSw; (try dsimp only at hSw); go_simp; try (with_reducible rfl)
 (try simp only [Act.put, pA, pB, pC])
 refine rg_tk 17 ?_ rfl (by as_aux_lemma => kernel_rfl) (by rfl) ?_ hHeld ?_
 rotate_left 1
 ·intro w hSw; (try dsimp only at hSw); go_simp; try (with_reducible rfl)
 (try simp only [Act.put, pA, pB, pC])
 refine rg_tk 18 ?_ rfl (by as_aux_lemma => kernel_rfl) (by rfl) ?_ hHeld ?_
 rotate_left 1
 ·intro w hSw; (try dsimp only at hSw); go_simp; try (with_reducible rfl)
 (try simp only [Act.put, pA, pB, pC])
 refine rg_tk 19 ?_ rfl (by as_aux_lemma => kernel_rfl) (by rfl) ?_ hHeld ?_
 rotate_left 1
 ·intro w hSw; (try dsimp only at hSw); go_simp; try (with_reducible rfl)
 (try simp only [Act.put, pA, pB, pC])
 refine rg_tk 20 ?_ rfl (by as_aux_lemma => kernel_rfl) (by rfl) ?_ hHeld ?_
 rotate_left 1
 ·intro w hSw; (try dsimp only at hSw); go_simp; try (with_reducible rfl)
 (try simp only [Act.put, pA, pB, pC])
 refine rg_tk 21 ?_ rfl (by as_aux_lemma => kernel_rfl) (by rfl) ?_ hHeld ?_
 rotate_left 1
 ·intro w hSw; (try dsimp only at hSw); go_simp; try (with_reducible rfl)
 (try simp only [Act.put, pA, pB, pC])
 refine rg_only (i := 22) rfl (by as_aux_lemma => kernel_rfl) (by rfl) (fun K hK => ?_)
 go_simp
 go_at_call 35
 refine (word_c sN V0).mono ?_
 rintro e V1 ⟨rfl, hB⟩
 have HV1 := Lib.hid (below_step HV0.out HV0.out.size hB)
 clear hB
 refine hK.out _ _ (HQ5.out _ HV1.out) (fun _ => ?_)
 clear hK K hHeld
 rename_i hHeld
 (try simp only [Act.put, pA, pB, pC])
 refine rg_only (i := 23) rfl (by as_aux_lemma => kernel_rfl) (by rfl) (fun K hK => ?_)
 go_simp
 go_at_call 23
 refine (num_c 5 V1).mono ?_
 rintro e V2 ⟨rfl, hB⟩
 have HV2 := Lib.hid (below_step HV1.out HV1.out.size hB)
 clear hB
 refine hK.out _ _ (HQ5.out _ HV2.out) (fun _ => ?_)
 clear hK K hHeld
 rename_i hHeld
 (try simp only [Act.put, pA, pB, pC])
 refine rg_only (i := 24) rfl (by as_aux_lemma => kernel_rfl) (by rfl) (fun K hK => ?_)
 refine build2 _ _ rfl (by rfl) (by rfl) ?_
 obtain ⟨V3, hV3⟩ : ∃ W : World, W = V2.alloc (.cells #[.int .i64 2, .int .i64 0, .string sN, .slice none 0 0, .int .i64 1, .int .i64 5, .string ⟨#[]⟩, .slice none 0 0] 24) := ⟨_, rfl⟩
 obtain ⟨gz, hgz⟩ : ∃ g, g = V2.heap.size := ⟨_, rfl⟩
 have HV3 : Hid (Below W5.heap.size W5 V3) := Lib.hid (by rw [hV3]; exact below_step HV2.out HV2.out.size (below_alloc _ _))
 have HT3 : Hid (RT (fun b => V2.heap.size ≤ b) V3 smOut (.agg #[.int .i64 4, .int .i64 0, .string ⟨#[]⟩, .slice (some ⟨gz, 0, none⟩) 2 2])) := Lib.hid (by rw [hV3]; exact sm_tup (CellsT.one (wordT_rt _ _ sN) (CellsT.one (numT_rt _ _ 5) (show CellsT _ _ [] [] from rfl))) rfl (Nat.le_refl _) hgz)
 show K _ (V2.alloc (.cells #[.int .i64 2, .int .i64 0, .string sN, .slice none 0 0, .int .i64 1, .int .i64 5, .string ⟨#[]⟩, .slice none 0 0] 24))
 rw [← hV3, ← hgz]
 clear hV3 hgz
 refine hK.out _ _ (HQ5.out _ HV3.out) (fun _ => ?_)
 clear hK K hHeld
 rename_i hHeld
 (try simp only [Act.put, pA, pB, pC])
 refine rg_only (i := 25) rfl (by as_aux_lemma => kernel_rfl) (by rfl) (fun K hK => ?_)
 go_simp
 go_at_call 34
 refine (tuple_c _ _ _ V3).mono ?_
 rintro e V4 ⟨rfl, hB⟩
 have HV4 := Lib.hid (below_step HV3.out HV3.out.size hB)
 have HT4 := Lib.hid (HT3.out.below hB)
 clear hB
 refine hK.out _ _ (HQ5.out _ HV4.out) (fun _ => ?_)
 clear hK K hHeld
 rename_i hHeld
 (try simp only [Act.put, pA, pB, pC])
 refine rg_only (i := 26) rfl (by as_aux_lemma => kernel_rfl) (by rfl) (fun K hK => ?_)
 go_simp
 go_at_call 19
 refine (same_c smOut smOut (fun _ => True) V4 _ _ ((HTO.out.below HV4.out).mono fun _ _ => trivial) (HT4.out.mono fun _ _ => trivial) (by have := sm_bulks; omega) (by have := sm_bulks; omega)).mono ?_
 rw [same_self]
 rintro e V5 ⟨rfl, hB⟩
 have HV5 := Lib.hid (below_step HV4.out HV4.out.size hB)
 clear hB
 refine hK.out _ _ (HQ5.out _ HV5.out) (fun _ => ?_)
 clear hK K hHeld
 rename_i hHeld
 (try simp only [Act.put, pA, pB, pC])
 refine rg_tk 27 ?_ rfl (by as_aux_lemma => kernel_rfl) (by rfl) ?_ hHeld ?_
 rotate_left 1
 ·intro w hSw; (try dsimp only at hSw); go_simp; try (with_reducible rfl)
 (try simp only [Act.put, pA, pB, pC])
 refine rg_tk 28 ?_ rfl (by as_aux_lemma => kernel_rfl) (by rfl) ?_ hHeld ?_
 rotate_left 1
 ·intro w hSw; (try dsimp only at hSw); go_simp; try (with_reducible rfl)
 (try simp only [Act.put, pA, pB, pC])
 refine rg_done (by as_aux_lemma => kernel_rfl) ?_
 clear hHeld
 clear hL5
 go_upto_region 7 with fail
 clear HB1 HX81 HP1 HB2 HB3 HT3 HB3' HB4 HT4 HX85 HP5 HL6 HL6n HB6 HRX HB7 HX87 HE0 HE1 HRO HX15 HB75 HTO HQ5
 have HBV5 : Hid (Below w.heap.size w V5) := Lib.hid (below_step HBW5.out HBW5.out.size HV5.out)
 have HX8V := Lib.hid (HX5.out.step HV5.out)
 obtain ⟨ne, hne⟩ : ∃ n, n = newE name room st := ⟨_, rfl⟩
 have HNE := Lib.hid hne
 clear hne
 have z0 := HX8V.out.cell 0 _ rfl
 have z1 := HX8V.out.cell 1 _ rfl
 have z2 := HX8V.out.cell 2 _ rfl
 have z3 := HX8V.out.cell 3 _ rfl
 go_wp2_with fail
 refine (pnew_c name room st S V5 _ (HST0.out.below HBV5.out) (fun b hb => by have := HSS.out b hb; have := HBV5.out.size; omega) (by omega) (by omega)).mono ?_
 rintro e w8 ⟨hB8, hcase⟩
 rw [← HNE.out] at hcase
 have HB8 := Lib.hid hB8
 have HBw8 : Hid (Below w.heap.size w w8) := Lib.hid (below_step HBV5.out HBV5.out.size hB8)
 have HX88 := Lib.hid (HX8V.out.step hB8)
 clear hB8 z0 z1 z2 z3
 rcases hcase with ⟨hz, rfl⟩ | ⟨hz, pa, ya, rfl, hPa⟩
 ·have hzb : (ne != 0) = true := by simpa using hz
  have z0 := HX88.out.cell 0 _ rfl
  have z1 := HX88.out.cell 1 _ rfl
  have z2 := HX88.out.cell 2 _ rfl
  have z3 := HX88.out.cell 3 _ rfl
  go_wp2_with fail
  refine (pnew_c name room st S w8 _ (HST0.out.below HBw8.out) (fun b hb => by have := HSS.out b hb; have := HBw8.out.size; omega) (by omega) (by omega)).mono ?_
  rintro e w9 ⟨hB9, hcase⟩
  rw [← HNE.out] at hcase
  rcases hcase with ⟨-, rfl⟩ | ⟨h, -⟩
  ·have hBw9 := below_step HBw8.out HBw8.out.size hB9
   have HBw9 := Lib.hid hBw9
   clear hB9 hBw9 z0 z1 z2 z3
   have hee : (ne == ne) = true := by simp
   go_wp2_with fail
   go_ret
   exact ⟨by simp, HBw9.out⟩
  ·exact absurd h hz
 subst hz
 have HPa := Lib.hid hPa.low
 clear hPa
 have z0 := HX88.out.cell 0 _ rfl
 have z1 := HX88.out.cell 1 _ rfl
 have z2 := HX88.out.cell 2 _ rfl
 have z3 := HX88.out.cell 3 _ rfl
 go_wp2_with fail
 refine (pnew_c name room st S w8 _ (HST0.out.below HBw8.out) (fun b hb => by have := HSS.out b hb; have := HBw8.out.size; omega) (by omega) (by omega)).mono ?_
 rintro e w9 ⟨hB9, hcase⟩
 rw [← HNE.out] at hcase
 rcases hcase with ⟨h, -⟩ | ⟨-, pb, yb, rfl, hPb⟩
 ·exact absurd rfl h
 have HBw9 : Hid (Below w.heap.size w w9) := Lib.hid (below_step HBw8.out HBw8.out.size hB9)
 have HRM : Hid (0 ≤ room ∧ room ≤ 1000) := Lib.hid (newE_room HNE.out.symm)
 have HT9 : Hid (Two w pa pb name room (fun b => V5.heap.size ≤ b ∧ b < w8.heap.size) (fun b => w8.heap.size ≤ b ∧ b < w9.heap.size) (bulkL [st]) (bulkL [st]) (szL [st]) (szL [st]) [(st, ya)] [(st, yb)] w9) := Lib.hid (by
  have s1 := HBV5.out.size; have s2 := HB8.out.size; have s3 := hB9.size
  exact ⟨HBw9.out, HPa.out.below hB9, hPb.low, fun b hb => ⟨by omega, by omega, fun hg => by omega⟩, fun b hb => ⟨by omega, by omega⟩⟩)
 clear hB9 hPb z0 z1 z2 z3
 by_cases h60 : 60 < cl.length
 ·have h60i : (60 : Int) < (cl.length : Int) := by omega
  go_wp2_with fail
  go_ret
  exact ⟨rfl, HBw9.out⟩
 have h60i : (cl.length : Int) ≤ 60 := by omega
 go_wp2_with fail
 go_loopw [110] (fun v110 wr => ∃ k : Nat, k ≤ cl.length ∧ v110 = .int .i64 (k : Int) ∧ TwoP w pa pb name room (1048600 * (k + 1)) (k + 1) wr) (fun v110 _ => cl.length - (intOf v110).toNat)
 case atStart => exact ⟨0, Nat.zero_le _, rfl, TwoP.mono (n := bulkL [st]) (m := 1) ⟨_, _, _, _, _, _, HT9.out, rfl, Nat.le_refl 1, Nat.le_refl 1⟩ (by omega) (by omega)⟩
 case round =>
  obtain ⟨k, hk, rfl, hTP⟩ := hrel
  obtain ⟨Ga, Gb, ua, ub, La, Lb, hTW, hLab, hl1, hl2⟩ := hTP
  have HTR := Lib.hid hTW
  have HBr : Hid (Below w.heap.size w wr) := Lib.hid hTW.bel
  have HLR : Hid (tmsL La = tmsL Lb ∧ 1 ≤ La.length ∧ La.length ≤ k + 1) := Lib.hid ⟨hLab, hl1, hl2⟩
  clear hTW hLab hl1 hl2
  by_cases hlt : k < cl.length
  rotate_left 1
  ·have hii : ¬ (k : Int) < (cl.length : Int) := by omega
   go_wp2_with fail
   go_ret
   exact ⟨rfl, HBr.out⟩
  obtain ⟨b4, o4, rfl⟩ := HCL.out.addr (by decide) (by omega)
  have HCW : Hid (RX pcE S S wr cl (.slice (some ⟨b4, o4, none⟩) cl.length capc)) := Lib.hid (HCL.out.below HBr.out)
  obtain ⟨cells, hc1, hc2⟩ := HCW.out.elem k hlt
  obtain ⟨X, hX⟩ : ∃ X, X = cl[k] := ⟨_, rfl⟩
  rw [← hX] at hc1
  obtain ⟨ax, cx, rfl, hxt⟩ := hc1
  have HXB : Hid (bulkL [X.t] ≤ 1048600) := Lib.hid (by have := pcsB_mem (show X ∈ cl by rw [hX]; exact List.getElem_mem hlt); omega)
  have hcell : ∀ i u, ([.int .i64 X.kind, .int .i64 X.self, .int .i64 X.t.kind, .int .i64 X.t.n, .string X.t.name, .slice ax X.t.args.length cx] : List Value)[i]? = some u → wr.cell? ⟨b4, o4 + k * 6 + i, none⟩ = some u := fun i u h => (hc2 i u h).2
  have z0 : wr.cell? ⟨b4, o4 + k * 6, none⟩ = some (.int .i64 X.kind) := hcell 0 _ rfl
  have z1 : wr.cell? ⟨b4, o4 + k * 6 + 1, none⟩ = some (.int .i64 X.self) := hcell 1 _ rfl
  have z2 : wr.cell? ⟨b4, o4 + k * 6 + 2, none⟩ = some (.int .i64 X.t.kind) := hcell 2 _ rfl
  have z3 : wr.cell? ⟨b4, o4 + k * 6 + 3, none⟩ = some (.int .i64 X.t.n) := hcell 3 _ rfl
  have z4 : wr.cell? ⟨b4, o4 + k * 6 + 4, none⟩ = some (.string X.t.name) := hcell 4 _ rfl
  have z5 : wr.cell? ⟨b4, o4 + k * 6 + 5, none⟩ = some (.slice ax X.t.args.length cx) := hcell 5 _ rfl
  have HXT : Hid (RT S wr X.t (.agg #[.int .i64 X.t.kind, .int .i64 X.t.n, .string X.t.name, .slice ax X.t.args.length cx])) := Lib.hid hxt
  have qk : (k : Int) < (cl.length : Int) := by omega
  clear hc2 hcell hX hxt
  go_upto_region 14 with fail
  obtain ⟨W1, hW1⟩ : ∃ W : World, W = wr.alloc (.cells #[.int .i64 X.kind, .int .i64 X.self, .int .i64 X.t.kind, .int .i64 X.t.n, .string X.t.name, .slice ax X.t.args.length cx] 92) := ⟨_, rfl⟩
  obtain ⟨g21, hg21⟩ : ∃ g, g = wr.heap.size := ⟨_, rfl⟩
  have HX21 : Hid (Blk W1 g21 [.int .i64 X.kind, .int .i64 X.self, .int .i64 X.t.kind, .int .i64 X.t.n, .string X.t.name, .slice ax X.t.args.length cx]) := Lib.hid (by rw [hW1]; exact Blk.new _ _ _ _ hg21)
  have HT1 : Hid (Two w pa pb name room Ga Gb (1048600 * (k + 1)) (1048600 * (k + 1)) ua ub La Lb W1) := Lib.hid (by rw [hW1]; exact HTR.out.below (below_alloc _ _))
  have HBr1 : Hid (Below w.heap.size w W1) := Lib.hid (by rw [hW1]; exact below_step HBr.out HBr.out.size (below_alloc _ _))
  have HNG0 : Hid (¬ Ga g21 ∧ ¬ Gb g21 ∧ g21 < W1.heap.size) := Lib.hid ⟨fun h => by have := (HTR.out.ga _ h).2.1; omega, fun h => by have := (HTR.out.gb _ h).2; omega, HX21.out.lt⟩
  rw [← hW1, ← hg21]
  clear hW1 hg21 z0 z1 z2 z3 z4 z5
  go_wp2_with fail
  refine (containsI_c ats (k : Int) S aa capa W1 (HAT.out.below HBr1.out) (by omega)).mono ?_
  rintro e w2 ⟨⟨q, rfl⟩, hB⟩
  have HT2 := Lib.hid (HT1.out.below hB)
  have HS2 := Lib.hid hB.size
  have HX22 := Lib.hid (HX21.out.step hB)
  clear hB
  go_upto_if 117 with fail
  go_cut [] (fun wx => ∃ (Ga Gb : Nat → Prop) (ua ub : Nat) (La Lb : TW), Two w pa pb name room Ga Gb (1048600 * (k + 1)) (1048600 * (k + 1)) ua ub La Lb wx ∧ tmsL La = tmsL Lb ∧ 1 ≤ La.length ∧ La.length ≤ k + 1 ∧ Blk wx g21 [.int .i64 X.kind, .int .i64 X.self, .int .i64 X.t.kind, .int .i64 X.t.n, .string X.t.name, .slice ax X.t.args.length cx] ∧ ¬ Ga g21 ∧ ¬ Gb g21)
  case first =>
   cases q
   ·go_wp2_with fail
    go_meet
    exact ⟨Ga, Gb, ua, ub, La, Lb, HT2.out, HLR.out.1, HLR.out.2.1, HLR.out.2.2, HX22.out, HNG0.out.1, HNG0.out.2.1⟩
   ·skip
    obtain ⟨s0, m0, hs0⟩ : ∃ s m, tmsL Lb = s :: m := by
     cases Lb with
     | nil => have h := HLR.out; rw [show tmsL ([] : TW) = [] from rfl] at h; have h2 := congrArg List.length h.1; rw [tmsL_len] at h2; have h3 := h.2.1; rw [h2] at h3; exact absurd h3 (by decide)
     | cons p L => exact ⟨p.1, tmsL L, rfl⟩
    obtain ⟨xb, Lb2, rfl, hLb2⟩ := tmsL_cons hs0
    have HLb2 := Lib.hid hLb2
    have HLn2 : Hid (Lb2.length ≤ 70 ∧ m0.length = Lb2.length) := Lib.hid (by
     have h1 := congrArg List.length HLR.out.1; have h2 := congrArg List.length hLb2
     rw [tmsL_len, tmsL_len] at h1
     rw [tmsL_len] at h2
     have := HLR.out.2
     simp only [List.length_cons] at h1
     omega)
    have HSMB : Hid (bulkL [s0] ≤ 2000 ∧ ∀ t ∈ m0, bulkL [t] ≤ 2000) := Lib.hid ⟨HT2.out.rb.small s0 (List.mem_cons_self ..), fun t ht => HT2.out.rb.small t (List.mem_cons_of_mem _ (by show t ∈ tmsL Lb2; rw [hLb2]; exact ht))⟩
    have HSZL : Hid ((szL (s0 :: m0) : Int) ≤ 1000) := Lib.hid (by
     have h1 := HT2.out.rb.le
     have e : tmsL ((s0, xb) :: Lb2) = s0 :: m0 := hs0
     rw [e] at h1
     have := HRM.out
     omega)
    clear hs0 hLb2
    go_wp2_with fail
    refine (pstate_c Gb w2 pb name room _ ub s0 xb Lb2 [] HT2.out.rb (by have := HLn2.out; omega) HRM.out.2 (by omega)).mono ?_
    rintro e w3 ⟨ar, cr, rfl, hB3, hT3⟩
    have HB3 := Lib.hid hB3; have HS3 := Lib.hid hT3
    clear hB3 hT3
    go_wp2_with fail
    refine (rsize_c s0 (fun b => w2.heap.size ≤ b) w3 _ HS3.out (by have := HSMB.out.1; omega)).mono ?_
    rintro e w4 ⟨rfl, hB4⟩
    have HB4 : Hid (Below w2.heap.size w2 w4) := Lib.hid (below_step HB3.out HB3.out.size hB4)
    clear hB4
    go_upto_region 16 with fail
    go_wp2_with fail
    refine (pmail_c Gb w4 pb name room _ ub ((s0, xb) :: Lb2) (HT2.out.rb.below HB4.out) ⟨by simp, by have := HLn2.out; simp; omega⟩ HRM.out.2 (by omega)).mono ?_
    rintro e w5 ⟨vm, rfl, hB5, hM⟩
    have hM : RSl (fun b => w4.heap.size ≤ b) w5 (tmsL Lb2) vm := hM
    rw [HLb2.out] at hM
    obtain ⟨am, cm, rfl, -, hrm⟩ := hM
    have HB5 : Hid (Below w2.heap.size w2 w5) := Lib.hid (below_step HB4.out HB4.out.size hB5)
    have HRMM := Lib.hid hrm
    clear hB5 hrm
    go_wp2_with fail
    go_loopw [22, 124] (fun v22 v124 wr => ∃ j : Nat, j ≤ m0.length ∧ v124 = .int .i64 (j : Int) ∧ v22 = .int .i64 (szL (s0 :: m0.take j) : Nat) ∧ Below w5.heap.size w5 wr) (fun _ v124 _ => m0.length - (intOf v124).toNat)
    case atStart => exact ⟨0, Nat.zero_le _, rfl, rfl, Below.refl _ _⟩
    case round =>
     obtain ⟨j, hj, rfl, rfl, hB6⟩ := hrel
     have HB6 := Lib.hid hB6
     clear hB6
     by_cases hjl : j < m0.length
     ·obtain ⟨b6, o6, rfl⟩ := HRMM.out.addr (by omega)
      obtain ⟨a6, c6, -, d0, d1, d2, d3, hE⟩ := (HRMM.out.below HB6.out).elem j hjl
      obtain ⟨mm, hmm⟩ : ∃ t, t = m0[j] := ⟨_, rfl⟩
      have hadd : IntKind.i64.wrap ((szL (s0 :: m0.take j) : Int) + (szL [m0[j]] : Int)) = ((szL (s0 :: m0.take (j + 1)) : Nat) : Int) := by
       have h1 := szL_snocs s0 m0 hjl
       have h2 := szL_take_le s0 m0 (j + 1)
       have h3 := HSZL.out
       rw [IntKind.wrap_i64]; omega
      rw [← hmm] at d0 d1 d2 d3 hE hadd
      have HE := Lib.hid hE; have HMB : Hid (bulkL [mm] ≤ 2000) := Lib.hid (HSMB.out.2 mm (by rw [hmm]; exact List.getElem_mem hjl))
      have qj : (j : Int) < (m0.length : Int) := by omega
      have hwj : IntKind.i64.wrap ((j : Int) + 1) = (j : Int) + 1 := by (have := HLn2.out); rw [IntKind.wrap_i64]; omega
      clear hE hmm
      go_wp2_with fail
      refine (rsize_c mm (fun b => w4.heap.size ≤ b) _ _ (HE.out.alloc _) (by have := HMB.out; omega)).mono ?_
      rintro e w7 ⟨rfl, hB7⟩
      have HB7 : Hid (Below w5.heap.size w5 w7) := Lib.hid (below_step HB6.out HB6.out.size (below_step (below_alloc _ _) (by simp) hB7))
      clear hB7 d0 d1 d2 d3
      go_wp2_with fail
      go_roundw
      case rel => exact ⟨j + 1, by omega, by first | rfl | (congr 1) | go_num, by first | rfl | rw [hadd], HB7.out⟩
      case measure => simp [intOf]; omega
     ·have hjm : j = m0.length := by omega
      have qj : ¬ (j : Int) < (m0.length : Int) := by omega
      have HJM := Lib.hid hjm
      clear hjm
      have HBj : Hid (Below w2.heap.size w2 wr) := Lib.hid (below_step HB5.out HB5.out.size HB6.out)
      have HTj := Lib.hid (HT2.out.below HBj.out)
      go_wp2_with fail
      refine (ptidy_c Gb wr pb name room _ ub ((s0, xb) :: Lb2) HTj.out.rb HRM.out.2 (by have := HLn2.out; simp; omega)).mono ?_
      rintro e w7 ⟨rfl, hK, L7, hL7, hP7⟩
      have HT7 := Lib.hid (HTj.out.stepB hK hP7)
      have HX7 := Lib.hid ((HX22.out.step HBj.out).keep hK HNG0.out.2.1)
      have HL7 := Lib.hid hL7
      have HSZ7 : Hid (szL (tmsL ((s0, xb) :: Lb2)) = szL (s0 :: m0.take j)) := Lib.hid (by
       have e : tmsL ((s0, xb) :: Lb2) = s0 :: m0 := by show s0 :: tmsL Lb2 = _; rw [HLb2.out]
       rw [e, HJM.out, List.take_of_length_le (Nat.le_refl _)])
      have HNB7 : Hid (¬ ((Gb g21 ∨ wr.heap.size ≤ g21) ∧ g21 < w7.heap.size)) := Lib.hid fun h => by
       rcases h.1 with h1 | h1
       ·exact HNG0.out.2.1 h1
       ·have h2 := HNG0.out.2.2; have h3 := HS2.out; have h4 := HBj.out.size; omega
      have HP7 := Lib.hid hP7
      clear hK hP7 hL7
      go_wp2_with fail
      refine (pused_c _ w7 pb name room _ _ L7 [] HP7.out).mono ?_
      rintro e w8 ⟨rfl, rfl⟩
      rw [HSZ7.out]
      have hnn : (((szL (s0 :: m0.take j) : Nat) : Int) != ((szL (s0 :: m0.take j) : Nat) : Int)) = false := by simp
      go_wp2_with fail
      go_meet
      exact ⟨Ga, _, ua, _, La, L7, HT7.out, by rw [HL7.out]; exact HLR.out.1, HLR.out.2.1, HLR.out.2.2, HX7.out, HNG0.out.1, HNB7.out⟩
  case rest =>
   clear HT1 HT2 HX21 HX22 HTR HLR HNG0 HS2 Ga Gb ua ub La Lb
   obtain ⟨Ga, Gb, ua, ub, La, Lb, hT, hLab, h1, h2, hG, hn1, hn2⟩ := hcut
   have HTC := Lib.hid hT; have HLAB := Lib.hid hLab; have HGC := Lib.hid hG; have HNG := Lib.hid (And.intro hn1 hn2)
   have HTW : Hid (Two w pa pb name room Ga Gb (1048600 * (k + 1)) (1048600 * (k + 1)) ua ub La Lb wc) := HTC
   have HLN : Hid (1 ≤ La.length ∧ La.length ≤ k + 1 ∧ Lb.length = La.length ∧ k ≤ 60) := Lib.hid ⟨h1, h2, by have h := congrArg List.length hLab; rw [tmsL_len, tmsL_len] at h; exact h.symm, by omega⟩
   have HXT := Lib.hid (HXT.out.to (fun _ h _ => h) fun b hb _ => (HTC.out.bel.block b (HSS.out b hb)).trans (HBr.out.block b (HSS.out b hb)).symm)
   clear hT hLab h1 h2 hG hn1 hn2
   have x0 := HGC.out.cell 0 _ rfl
   go_upto_block 4 with fail
   clear x0
   go_cut [] (fun wx => TwoP w pa pb name room (1048600 * (k + 1 + 1)) (k + 1 + 1) wx)
   case first =>
    by_cases hk0 : X.kind = 0
    ·have k0 : (X.kind == 0) = true := by simp [hk0]
     clear hk0
     go_upto_region 26 with fail
     refine rg_start (fun w' => w'.cell? ⟨g21, 2, none⟩ = some (.int .i64 X.t.kind) ∧ w'.cell? ⟨g21, 3, none⟩ = some (.int .i64 X.t.n) ∧ w'.cell? ⟨g21, 4, none⟩ = some (.string X.t.name) ∧ w'.cell? ⟨g21, 5, none⟩ = some (.slice ax X.t.args.length cx)) (by as_aux_lemma => kernel_rfl) (fun Wd h => ⟨(Lib.hid (HGC.out.step h)).out.cell 2 _ rfl, (Lib.hid (HGC.out.step h)).out.cell 3 _ rfl, (Lib.hid (HGC.out.step h)).out.cell 4 _ rfl, (Lib.hid (HGC.out.step h)).out.cell 5 _ rfl⟩) ?_
     intro V0 hB hWd hWd' hHeld
     have HT0 := Lib.hid (HTC.out.below hB)
     have HG0 := Lib.hid (HGC.out.step hB)
     clear hB
     refine rg_tk 0 ?_ rfl (by as_aux_lemma => kernel_rfl) (by rfl) ?_ hHeld ?_
     rotate_left 1
     ·intro w hSw; (try dsimp only at hSw); go_simp; try (with_reducible rfl)
     (try simp only [Act.put, pA, pB, pC])
     refine rg_tk 1 ?_ rfl (by as_aux_lemma => kernel_rfl) (by rfl) ?_ hHeld ?_
     rotate_left 1
     ·intro w hSw; (try dsimp only at hSw); go_simp; try (with_reducible rfl)
     (try simp only [Act.put, pA, pB, pC])
     refine rg_tk 2 ?_ rfl (by as_aux_lemma => kernel_rfl) (by rfl) ?_ hHeld ?_
     rotate_left 1
     ·intro w hSw; (try dsimp only at hSw); go_simp; try (with_reducible rfl)
     (try simp only [Act.put, pA, pB, pC])
     refine rg_tk 4 ?_ rfl (by as_aux_lemma => kernel_rfl) (by rfl) ?_ hHeld ?_
     rotate_left 1
     ·intro w hSw; (try dsimp only at hSw); go_simp; try (with_reducible rfl)
     (try simp only [Act.put, pA, pB, pC])
     refine rg_tk 5 ?_ rfl (by as_aux_lemma => kernel_rfl) (by rfl) ?_ hHeld ?_
     rotate_left 1
     ·intro w hSw; (try dsimp only at hSw); go_simp; try (with_reducible rfl)
     (try simp only [Act.put, pA, pB, pC])
     refine rg_tk 6 ?_ rfl (by as_aux_lemma => kernel_rfl) (by rfl) ?_ hHeld ?_
     rotate_left 1
     ·intro w hSw; (try dsimp only at hSw); go_simp; try (with_reducible rfl)
     (try simp only [Act.put, pA, pB, pC])
     refine rg_only (i := 3) rfl (by as_aux_lemma => kernel_rfl) (by rfl) (fun K hK => ?_)
     go_simp
     go_at_call 33
     refine (pdel_c Ga V0 pa name room _ ua La X.t S _ HT0.out.ra (HXT.out.to (fun _ h _ => h) fun b hb _ => (HT0.out.bel.block b (HSS.out b hb)).trans (HTW.out.bel.block b (HSS.out b hb)).symm) (fun b hb => ⟨by have := HSS.out b hb; have := HT0.out.bel.size; omega, fun hg => by have := (HT0.out.ga b hg).1; have := HSS.out b hb; omega⟩) (by have := HXB.out; omega) (by have := HLN.out; omega) HRM.out.2 (by have := HLN.out; omega)).mono ?_
     rintro e V1 ⟨rfl, hK, L1, u1, hL1, hP1⟩
     have HT1 := Lib.hid (HT0.out.stepA hK hP1)
     have HL1 := Lib.hid hL1
     have HG1 : Hid (Blk V1 g21 [.int .i64 X.kind, .int .i64 X.self, .int .i64 X.t.kind, .int .i64 X.t.n, .string X.t.name, .slice ax X.t.args.length cx]) := Lib.hid (HG0.out.keep hK fun hg => HNG.out.1 hg)
     clear hK hP1 hL1
     refine hK.out _ _ (⟨HG1.out.cell 2 _ rfl, HG1.out.cell 3 _ rfl, HG1.out.cell 4 _ rfl, HG1.out.cell 5 _ rfl⟩) (fun _ => ?_)
     clear hK K hHeld
     rename_i hHeld
     (try simp only [Act.put, pA, pB, pC])
     refine rg_only (i := 7) rfl (by as_aux_lemma => kernel_rfl) (by rfl) (fun K hK => ?_)
     go_simp
     go_at_call 33
     refine (pdel_c Gb V1 pb name room _ ub Lb X.t S _ HT1.out.rb (HXT.out.to (fun _ h _ => h) fun b hb _ => (HT1.out.bel.block b (HSS.out b hb)).trans (HTW.out.bel.block b (HSS.out b hb)).symm) (fun b hb => ⟨by have := HSS.out b hb; have := HT1.out.bel.size; omega, fun hg => by have := (HT1.out.gb b hg).1; have := HSS.out b hb; omega⟩) (by have := HXB.out; omega) (by have := HLN.out; omega) HRM.out.2 (by have := HLN.out; omega)).mono ?_
     rintro e V2 ⟨rfl, hK, L2, u2, hL2, hP2⟩
     rw [← HLAB.out] at hL2
     rw [← HLAB.out]
     have HT2 := Lib.hid (HT1.out.stepB hK hP2)
     have HL2 := Lib.hid hL2
     have HG2 : Hid (Blk V2 g21 [.int .i64 X.kind, .int .i64 X.self, .int .i64 X.t.kind, .int .i64 X.t.n, .string X.t.name, .slice ax X.t.args.length cx]) := Lib.hid (HG1.out.keep hK fun hg => HNG.out.2 hg)
     clear hK hP2 hL2
     refine hK.out _ _ (⟨HG2.out.cell 2 _ rfl, HG2.out.cell 3 _ rfl, HG2.out.cell 4 _ rfl, HG2.out.cell 5 _ rfl⟩) (fun _ => ?_)
     clear hK K hHeld
     rename_i hHeld
     (try simp only [Act.put, pA, pB, pC])
     refine rg_tk 8 ?_ rfl (by as_aux_lemma => kernel_rfl) (by rfl) ?_ hHeld ?_
     rotate_left 1
     ·intro w hSw; (try dsimp only at hSw); go_simp; try (with_reducible rfl)
     (try simp only [Act.put, pA, pB, pC])
     refine rg_done (by as_aux_lemma => kernel_rfl) ?_
     clear hHeld
     have hde : (delE room (tmsL La) X.t != delE room (tmsL La) X.t) = false := by simp
     go_wp2_with fail
     go_meet
     refine TwoP.mono ⟨_, _, _, _, L1, L2, HT2.out, by rw [HL1.out, HL2.out], ?_, ?_⟩ (by have := HXB.out; omega) (Nat.le_refl _)
     ·have h := congrArg List.length HL1.out
      rw [tmsL_len] at h
      rw [h]
      have := HLN.out
      split
      ·simp
      ·rw [tmsL_len]; omega
     ·have h := congrArg List.length HL1.out
      rw [tmsL_len] at h
      rw [h]
      have := HLN.out
      split
      ·simp [tmsL_len]; omega
      ·rw [tmsL_len]; omega
    have k0 : (X.kind == 0) = false := by simpa using hk0
    by_cases hk1 : X.kind = 1
    ·have k1 : (X.kind == 1) = true := by simp [hk1]
     clear hk1 hk0
     have x1 := HGC.out.cell 1 _ rfl
     obtain ⟨nx, hnx⟩ : ∃ n, n = IntKind.i64.wrap (X.self + 1) := ⟨_, rfl⟩
     have hnx' : IntKind.i64.wrap (X.self + 1) = nx := hnx.symm
     clear hnx
     obtain ⟨s0, m0, hs0⟩ : ∃ s m, tmsL La = s :: m := by
      cases La with
      | nil => have := HLN.out; simp at this
      | cons p L => exact ⟨p.1, tmsL L, rfl⟩
     obtain ⟨xa, La2, rfl, hLa2⟩ := tmsL_cons hs0
     obtain ⟨xb, Lb2, rfl, hLb2⟩ := tmsL_cons (HLAB.out.symm.trans hs0)
     have HLa2 := Lib.hid hLa2; have HLb2 := Lib.hid hLb2
     have HLn2 : Hid (La2.length ≤ 70 ∧ Lb2.length ≤ 70) := Lib.hid (by
      have h1 := congrArg List.length hLa2; have h2 := congrArg List.length hLb2
      rw [tmsL_len] at h1 h2
      have := HLN.out
      simp only [List.length_cons] at this
      omega)
     obtain ⟨⟨⟨tk, te⟩, us⟩, hrr⟩ : ∃ r, r = stepE l name room X.self nx (s0 :: m0) := ⟨_, rfl⟩
     have HRR := Lib.hid hrr
     clear hrr hs0 hLa2 hLb2
     go_wp2_with fail
     refine (pstep_c Ga wc pa name room _ ua s0 xa La2 l al capl X.self nx S HTC.out.ra (fun b hb => (HTC.out.ga b hb).2.1) (HV.out.to (fun _ h _ => h) (fun _ h _ => h) fun b _ hl => HTC.out.bel.block b hl) (fun b hb => ⟨by have := HSS.out b hb; have := HTC.out.bel.size; omega, fun hg => by have := (HTC.out.ga b hg).1; have := HSS.out b hb; omega⟩) (by omega) (by have := HLn2.out; omega) HRM.out.2 (by have := HLN.out; omega)).mono ?_
     rw [HLa2.out, ← HRR.out]
     rintro e V1 ⟨cs1, he, hTA, hK, L1, u1, hL1, hP1⟩
     subst he
     have HT1 := Lib.hid (HTC.out.stepA hK hP1)
     have HK1 := Lib.hid hK.size
     have HG1 : Hid (Blk V1 g21 [.int .i64 X.kind, .int .i64 X.self, .int .i64 X.t.kind, .int .i64 X.t.n, .string X.t.name, .slice ax X.t.args.length cx]) := Lib.hid (HGC.out.keep hK fun hg => HNG.out.1 hg)
     have HL1 := Lib.hid hL1
     have hTA : takC (fun b => wc.heap.size ≤ b) V1 tk cs1 := hTA
     clear hK hP1 hL1 x1
     obtain ⟨aA, pA, vs, vp, vl, rfl, hrm, hrs, hrp, hrl⟩ := hTA
     obtain ⟨sA, cA, es, -⟩ := hrs.form
     obtain ⟨rA, dA, ep, -⟩ := hrp.form
     obtain ⟨kA, eA, ek, -⟩ := hrl.form
     subst es ep ek
     clear hrs hrp hrl
     have HMA := Lib.hid hrm
     clear hrm
     go_upto_region 30 with fail
     obtain ⟨W1, hW1⟩ : ∃ W : World, W = V1.alloc (.cells #[.int .i64 tk.message.kind, .int .i64 tk.message.n, .string tk.message.name, .slice aA tk.message.args.length pA, .int .i64 tk.fate, .slice sA tk.sends.length cA, .slice rA tk.spawns.length dA, .slice kA tk.links.length eA] 85) := ⟨_, rfl⟩
     obtain ⟨g25, hg25⟩ : ∃ g, g = V1.heap.size := ⟨_, rfl⟩
     have HXA : Hid (Blk W1 g25 [.int .i64 tk.message.kind, .int .i64 tk.message.n, .string tk.message.name, .slice aA tk.message.args.length pA, .int .i64 tk.fate, .slice sA tk.sends.length cA, .slice rA tk.spawns.length dA, .slice kA tk.links.length eA]) := Lib.hid (by rw [hW1]; exact Blk.new _ _ _ _ hg25)
     have HG25 : Hid (g25 = V1.heap.size) := Lib.hid hg25
     have HBWA : Hid (Below V1.heap.size V1 W1) := Lib.hid (by rw [hW1]; exact below_alloc _ _)
     rw [← hW1, ← hg25]
     clear hW1 hg25
     have HT1w := Lib.hid (HT1.out.below HBWA.out)
     have HG1w := Lib.hid (HG1.out.step HBWA.out)
     have HMAw := Lib.hid (HMA.out.below HBWA.out)
     have x1 := HG1w.out.cell 1 _ rfl
     go_wp2_with fail
     refine (pstep_c Gb W1 pb name room _ ub s0 xb Lb2 l al capl X.self nx S HT1w.out.rb (fun b hb => (HT1w.out.gb b hb).2) (HV.out.to (fun _ h _ => h) (fun _ h _ => h) fun b _ hl => HT1w.out.bel.block b hl) (fun b hb => ⟨by have := HSS.out b hb; have := HT1w.out.bel.size; omega, fun hg => by have := (HT1w.out.gb b hg).1; have := HSS.out b hb; omega⟩) (by omega) (by have := HLn2.out; omega) HRM.out.2 (by have := HLN.out; omega)).mono ?_
     rw [HLb2.out, ← HRR.out]
     rintro e V2 ⟨cs2, he, hTB, hK, L2, u2, hL2, hP2⟩
     subst he
     have HT2 := Lib.hid (HT1w.out.stepB hK hP2)
     have HXA2 := Lib.hid (HXA.out.keep hK fun hg => by have h1 := (HTC.out.gb _ hg).2; have h2 := HXA.out.lt; have h3 := HK1.out; have h4 := HBWA.out.size; have h5 := HG25.out; omega)
     have HMA2 : Hid (RT (fun _ => True) V2 tk.message (.agg #[.int .i64 tk.message.kind, .int .i64 tk.message.n, .string tk.message.name, .slice aA tk.message.args.length pA])) := Lib.hid ((HMAw.out.keep hK fun b hb hg => by have h1 := (HTC.out.gb _ hg).2; have hb' : wc.heap.size ≤ b := hb; omega).mono fun _ _ => trivial)
     have HL2 := Lib.hid hL2
     have hTB : takC (fun b => W1.heap.size ≤ b) V2 tk cs2 := hTB
     clear hK hP2 hL2 x1
     obtain ⟨aB, pB, vs, vp, vl, rfl, hrm, hrs, hrp, hrl⟩ := hTB
     obtain ⟨sB, cB, es, -⟩ := hrs.form
     obtain ⟨rB, dB, ep, -⟩ := hrp.form
     obtain ⟨kB, eB, ek, -⟩ := hrl.form
     subst es ep ek
     clear hrs hrp hrl
     have HMB := Lib.hid hrm
     clear hrm
     go_upto_region 31 with fail
     obtain ⟨W2, hW2⟩ : ∃ W : World, W = V2.alloc (.cells #[.int .i64 tk.message.kind, .int .i64 tk.message.n, .string tk.message.name, .slice aB tk.message.args.length pB, .int .i64 tk.fate, .slice sB tk.sends.length cB, .slice rB tk.spawns.length dB, .slice kB tk.links.length eB] 85) := ⟨_, rfl⟩
     obtain ⟨g27, hg27⟩ : ∃ g, g = V2.heap.size := ⟨_, rfl⟩
     have HXB : Hid (Blk W2 g27 [.int .i64 tk.message.kind, .int .i64 tk.message.n, .string tk.message.name, .slice aB tk.message.args.length pB, .int .i64 tk.fate, .slice sB tk.sends.length cB, .slice rB tk.spawns.length dB, .slice kB tk.links.length eB]) := Lib.hid (by rw [hW2]; exact Blk.new _ _ _ _ hg27)
     have HG27 : Hid (g27 = V2.heap.size) := Lib.hid hg27
     have HBWB : Hid (Below V2.heap.size V2 W2) := Lib.hid (by rw [hW2]; exact below_alloc _ _)
     rw [← hW2, ← hg27]
     clear hW2 hg27
     have HT2w := Lib.hid (HT2.out.below HBWB.out)
     have HXA3 := Lib.hid (HXA2.out.step HBWB.out)
     have HMA3 := Lib.hid (HMA2.out.below HBWB.out)
     have HMB3 : Hid (RT (fun _ => True) W2 tk.message (.agg #[.int .i64 tk.message.kind, .int .i64 tk.message.n, .string tk.message.name, .slice aB tk.message.args.length pB])) := Lib.hid ((HMB.out.below HBWB.out).mono fun _ _ => trivial)
     have HTKB : Hid (bulkL [tk.message] ≤ 2000) := Lib.hid (by
      have h1 := stepE_msg l name room X.self nx s0 m0 (fun t ht => by
       have h2 := HTC.out.ra.small t (List.mem_cons_of_mem _ (by show t ∈ tmsL La2; rw [HLa2.out]; exact ht))
       exact h2)
      rw [← HRR.out] at h1
      exact h1)
     have HUS : Hid (1 ≤ us.length ∧ us.length ≤ m0.length + 1 ∧ m0.length + 1 = La2.length + 1) := Lib.hid (by
      have h1 := stepE_len l name room X.self nx s0 m0
      rw [← HRR.out] at h1
      have h2 := congrArg List.length HLa2.out
      rw [tmsL_len] at h2
      exact ⟨h1.1, h1.2, by omega⟩)
     have f0 : (te != te) = false := by simp
     have f1 : (tk.fate != tk.fate) = false := by simp
     have f2 : ((tk.sends.length : Int) != (tk.sends.length : Int)) = false := by simp
     have x0 := HXA3.out.cell 0 _ rfl
     have y0 := HXB.out.cell 0 _ rfl
     have x1 := HXA3.out.cell 1 _ rfl
     have y1 := HXB.out.cell 1 _ rfl
     have x2 := HXA3.out.cell 2 _ rfl
     have y2 := HXB.out.cell 2 _ rfl
     have x3 := HXA3.out.cell 3 _ rfl
     have y3 := HXB.out.cell 3 _ rfl
     have x4 := HXA3.out.cell 4 _ rfl
     have y4 := HXB.out.cell 4 _ rfl
     have x5 := HXA3.out.cell 5 _ rfl
     have y5 := HXB.out.cell 5 _ rfl
     go_wp2_with fail
     refine (same_c tk.message tk.message (fun _ => True) W2 _ _ HMA3.out HMB3.out (by have := HTKB.out; omega) (by have := HTKB.out; omega)).mono ?_
     rw [same_self]
     rintro e V3 ⟨rfl, hB⟩
     have HT3 := Lib.hid (HT2w.out.below hB)
     clear hB x0 y0 x1 y1 x2 y2 x3 y3 x4 y4 x5 y5
     go_wp2_with fail
     go_meet
     refine TwoP.mono (m := k + 1) ⟨_, _, _, _, L1, L2, ⟨HT3.out.bel, HT3.out.ra.names (by omega), HT3.out.rb.names (by omega), HT3.out.ga, HT3.out.gb⟩, by rw [HL1.out, HL2.out], ?_, ?_⟩ (Nat.le_refl _) (by omega)
     ·have h := congrArg List.length HL1.out
      rw [tmsL_len] at h
      have := HUS.out; omega
     ·have h := congrArg List.length HL1.out
      rw [tmsL_len] at h
      have := HUS.out
      have := HLN.out
      simp only [List.length_cons] at this
      omega
    have k1 : (X.kind == 1) = false := by simpa using hk1
    clear hk1 hk0
    go_wp2_with fail
    go_meet
    exact TwoP.mono ⟨Ga, Gb, ua, ub, La, Lb, HTC.out, HLAB.out, HLN.out.1, HLN.out.2.1⟩ (by omega) (by omega)
   case rest =>
    obtain ⟨Ga, Gb, ua, ub, La, Lb, hT, hLab, h1, h2⟩ := hcut
    clear HTC HTW HGC HXT HNG HLAB
    obtain ⟨s0, m0, hs0⟩ : ∃ s m, tmsL La = s :: m := by
     cases La with
     | nil => simp at h1
     | cons p L => exact ⟨p.1, tmsL L, rfl⟩
    obtain ⟨xa, La2, rfl, hLa2⟩ := tmsL_cons hs0
    obtain ⟨xb, Lb2, rfl, hLb2⟩ := tmsL_cons (hLab.symm.trans hs0)
    have HTC := Lib.hid hT
    have HLa2 := Lib.hid hLa2; have HLb2 := Lib.hid hLb2
    have HLAB := Lib.hid hLab
    have HLn2 : Hid (La2.length ≤ 70 ∧ Lb2.length ≤ 70 ∧ m0.length ≤ 70) := Lib.hid (by
     have h3 := congrArg List.length hLa2; have h4 := congrArg List.length hLb2
     rw [tmsL_len] at h3 h4
     have := HLN.out
     simp only [List.length_cons] at h1 h2
     omega)
    have HLN9 : Hid (1 ≤ ((s0, xa) :: La2 : TW).length ∧ ((s0, xa) :: La2 : TW).length ≤ k + 1 + 1 ∧ k ≤ 60) := Lib.hid ⟨h1, h2, by have := HLN.out; omega⟩
    have HSMB : Hid (bulkL [s0] ≤ 2000 ∧ bulkL m0 ≤ 140000) := Lib.hid ⟨hT.ra.small s0 (List.mem_cons_self ..), by
     have h3 := bulk_eachP 2000 m0 (fun t ht => hT.ra.small t (List.mem_cons_of_mem _ (by show t ∈ tmsL La2; rw [hLa2]; exact ht)))
     have := HLn2.out
     omega⟩
    clear hT hLab h1 h2 hs0 hLa2 hLb2
    go_wp2_with fail
    refine (pstate_c Ga wc pa name room _ ua s0 xa La2 [] HTC.out.ra (by have := HLn2.out; omega) HRM.out.2 (by have := HLN9.out; omega)).mono ?_
    rintro e v1 ⟨a1, c1, rfl, hB, hT1⟩
    have HBv1 := Lib.hid hB; have HS1 := Lib.hid hT1
    clear hB hT1
    go_wp2_with fail
    refine (pstate_c Gb v1 pb name room _ ub s0 xb Lb2 [] (HTC.out.rb.below HBv1.out) (by have := HLn2.out; omega) HRM.out.2 (by have := HLN9.out; omega)).mono ?_
    rintro e v2 ⟨a2, c2, rfl, hB, hT2⟩
    have HBv2 : Hid (Below wc.heap.size wc v2) := Lib.hid (below_step HBv1.out HBv1.out.size hB)
    have HS12 := Lib.hid ((HS1.out.below hB).mono (S' := fun _ => True) fun _ _ => trivial); have HS2' := Lib.hid (hT2.mono (S' := fun _ => True) fun _ _ => trivial)
    clear hB hT2
    go_wp2_with fail
    refine (same_c s0 s0 (fun _ => True) v2 _ _ HS12.out HS2'.out (by have := HSMB.out; omega) (by have := HSMB.out; omega)).mono ?_
    rw [same_self]
    rintro e v3 ⟨rfl, hB⟩
    have HBv3 : Hid (Below wc.heap.size wc v3) := Lib.hid (below_step HBv2.out HBv2.out.size hB)
    clear hB
    go_wp2_with fail
    refine (pmail_c Ga v3 pa name room _ ua ((s0, xa) :: La2) (HTC.out.ra.below HBv3.out) ⟨by simp, by have := HLn2.out; simp; omega⟩ HRM.out.2 (by have := HLN9.out; omega)).mono ?_
    rintro e v4 ⟨va, rfl, hB, hM⟩
    have hM : RSl (fun b => v3.heap.size ≤ b) v4 (tmsL La2) va := hM
    rw [HLa2.out] at hM
    have HBv4 : Hid (Below wc.heap.size wc v4) := Lib.hid (below_step HBv3.out HBv3.out.size hB)
    have HMA := Lib.hid hM
    clear hB hM
    go_wp2_with fail
    refine (pmail_c Gb v4 pb name room _ ub ((s0, xb) :: Lb2) (HTC.out.rb.below HBv4.out) ⟨by simp, by have := HLn2.out; simp; omega⟩ HRM.out.2 (by have := HLN9.out; omega)).mono ?_
    rintro e v5 ⟨vb, rfl, hB, hM⟩
    have hM : RSl (fun b => v4.heap.size ≤ b) v5 (tmsL Lb2) vb := hM
    rw [HLb2.out] at hM
    have HBv5 : Hid (Below wc.heap.size wc v5) := Lib.hid (below_step HBv4.out HBv4.out.size hB)
    have HMA5 := Lib.hid ((HMA.out.to (S' := fun _ => True) (fun _ _ _ => trivial) fun b _ hl => hB.block b hl)); have HMB := Lib.hid (hM.mono (S' := fun _ => True) fun _ _ => trivial)
    clear hB hM
    go_wp2_with fail
    refine (sameTerms_c (fun _ => True) m0 m0 v5 _ _ HMA5.out HMB.out (by have := HSMB.out; omega) (by have := HSMB.out; omega)).mono ?_
    rw [sameL_self]
    rintro e v6 ⟨rfl, hB⟩
    have HBv6 : Hid (Below wc.heap.size wc v6) := Lib.hid (below_step HBv5.out HBv5.out.size hB)
    clear hB
    go_wp2_with fail
    go_roundw
    case rel => exact ⟨k + 1, by omega, by go_num, ⟨Ga, Gb, ua, ub, _, _, HTC.out.below HBv6.out, HLAB.out, HLN9.out.1, HLN9.out.2.1⟩⟩
    case measure => simp [intOf]; omega
end Go.Proofs.Ytedfepnekjjmnab
