/-
  HeapShares: the walk. No condition but the bound.
-/
import Derived.Test.YtedfepnekjjmnabJf
import Derived.Test.YtedfepnekjjmnabJc
namespace Go.Proofs.Ytedfepnekjjmnab
open Go.RowKit
set_option linter.unusedSimpArgs false
set_option linter.unusedVariables false
set_option maxRecDepth 100000

set_option maxHeartbeats 8000000 in
theorem shares_walk (t : T) (n : Int) (S : Nat → Prop) (w : World) (v : Value) (hv : RT S w t v) (hb : bulkL [t] ≤ 1048576) :
    Calls Try.prog 3 #[v, .int .i64 n] w fun e w' => e = .returned (.bool true) ∧ Below w.heap.size w w' := by
  obtain ⟨a, cap, rfl, hcap, hr⟩ := hv
  obtain ⟨P, hP⟩ : ∃ P : Nat → Prop, P = fun b => S b ∧ b < w.heap.size := ⟨_, rfl⟩
  have hPb : ∀ b, P b → b < w.heap.size := fun b hb => by rw [hP] at hb; exact hb.2
  have HPB := Lib.hid hPb
  have HT : Hid (RT P w t (.agg #[.int .i64 t.kind, .int .i64 t.n, .string t.name, .slice a t.args.length cap])) := Lib.hid (RT.to (S := S) ⟨a, cap, rfl, hcap, hr⟩ (fun b h hl => by rw [hP]; exact ⟨h, hl⟩) fun _ _ _ => rfl)
  have HCAP := Lib.hid hcap
  have HRTS : Hid (RTs P w t.args a 0) := Lib.hid (RTs.to hr (fun b h hl => by rw [hP]; exact ⟨h, hl⟩) fun _ _ _ => rfl)
  obtain ⟨W0, hW0⟩ : ∃ W : World, W = w.alloc (.cells #[.int .i64 t.kind, .int .i64 t.n, .string t.name, .slice a t.args.length cap] 24) := ⟨_, rfl⟩
  obtain ⟨g2, hg2⟩ : ∃ g, g = w.heap.size := ⟨_, rfl⟩
  have HS0 : Hid (RS P (fun _ => False) w [(g2, [.int .i64 t.kind, .int .i64 t.n, .string t.name, .slice a t.args.length cap])] W0 []) := Lib.hid (by rw [hW0]; exact (RS.start P w hPb).alloc #[.int .i64 t.kind, .int .i64 t.n, .string t.name, .slice a t.args.length cap] _ hg2)
  have HW0 := Lib.hid hW0
  have HG2 := Lib.hid hg2
  clear hr hcap hW0 hP hPb hg2
  go_enter Try.func3, Try.ntmps3
  go_upto_region 1 with fail
  rw [← HW0.out, ← HG2.out]
  go_wp2_with fail
  refine (kept_c W0).mono ?_
  rintro e w1 ⟨rfl, hB1⟩
  have HS1 := Lib.hid (HS0.out.below hB1)
  clear hB1
  go_wp2_with fail
  refine (hnew_ok 1000 w1 (by omega) (by omega)).mono ?_
  rintro e w2 ⟨rfl, hB2, hR2, hs2⟩
  obtain ⟨B, hBe⟩ : ∃ B, B = w1.heap.size := ⟨_, rfl⟩
  rw [← hBe] at hR2
  obtain ⟨F2, hF2⟩ : ∃ F2 : Nat → Prop, F2 = fun b => b = B := ⟨_, rfl⟩
  have HS2 : Hid (RS P F2 w [(g2, [.int .i64 t.kind, .int .i64 t.n, .string t.name, .slice a t.args.length cap])] w2 []) := Lib.hid (HS1.out.keep (Keep.of hB2) fun b hb => by rw [hF2] at hb; subst hb; exact ⟨.inr (by omega), by omega⟩)
  have HR2 : Hid (HeapR F2 w2 B 1000 ⟨[], []⟩) := Lib.hid (by rw [hF2]; exact hR2)
  rw [← hBe]
  clear hB2 hR2 hs2 hBe hF2
  have y0 := HS2.out.cell (g := g2) (List.mem_cons_self ..) 0 _ rfl
  have y1 := HS2.out.cell (g := g2) (List.mem_cons_self ..) 1 _ rfl
  have y2 := HS2.out.cell (g := g2) (List.mem_cons_self ..) 2 _ rfl
  have y3 := HS2.out.cell (g := g2) (List.mem_cons_self ..) 3 _ rfl
  go_wp2_with fail
  refine (hPut_c t F2 P w2 B 1000 ⟨[], []⟩ _ HR2.out (HT.out.to (fun _ h _ => h) fun b hb _ => HS2.out.bel.block b (by have := (HS2.out.pb b hb).1; exact HPB.out b hb)) (fun b hb => ⟨(HS2.out.pb b hb).1, (HS2.out.pb b hb).2.1⟩) (by omega) (by simp) (by simp)).mono ?_
  rintro e w3 ⟨rfl, hK3, hR3⟩
  obtain ⟨K, hKe⟩ : ∃ K, K = putHO 1000 ⟨[], []⟩ t := ⟨_, rfl⟩
  have hnew := putHO_new t
  rw [← hKe] at hR3 hnew
  rw [← hKe]
  obtain ⟨F3, hF3⟩ : ∃ F3 : Nat → Prop, F3 = fun b => (F2 b ∨ w2.heap.size ≤ b) ∧ b < w3.heap.size := ⟨_, rfl⟩
  have HS3 : Hid (RS P F3 w [(g2, [.int .i64 t.kind, .int .i64 t.n, .string t.name, .slice a t.args.length cap])] w3 []) := Lib.hid (HS2.out.keep hK3 fun b hb => by rw [hF3] at hb; exact hb)
  have HR3 : Hid (HeapR F3 w3 B 1000 K.2.2) := Lib.hid (by rw [hF3]; exact hR3.low)
  clear hK3 hR3 hKe hF3 y0 y1 y2 y3
  go_upto_region 7 with fail
  obtain ⟨⟨x, er, H⟩, rfl⟩ : ∃ q, q = K := ⟨_, rfl⟩
  simp only at hnew
  have HR3 := Lib.hid (show HeapR F3 w3 B 1000 H from HR3.out)
  obtain ⟨W4, hW4⟩ : ∃ W : World, W = w3.alloc (.cells #[.int .i64 x.kind, .int .i64 x.n] 31) := ⟨_, rfl⟩
  obtain ⟨g7, hg7⟩ : ∃ g, g = w3.heap.size := ⟨_, rfl⟩
  have HS4 : Hid (RS P F3 w [(g7, [.int .i64 x.kind, .int .i64 x.n]), (g2, [.int .i64 t.kind, .int .i64 t.n, .string t.name, .slice a t.args.length cap])] W4 []) := Lib.hid (by rw [hW4]; exact HS3.out.alloc #[.int .i64 x.kind, .int .i64 x.n] _ hg7)
  have HR4 : Hid (HeapR F3 W4 B 1000 H) := Lib.hid (HR3.out.below (by rw [hW4]; exact below_alloc _ _))
  rw [← hW4, ← hg7]
  clear hW4 hg7
  rcases hnew with ⟨he, hl, hput, hwl, hnl⟩ | ⟨he, hput⟩
  · subst he
    have HL := Lib.hid hl
    have HPU := Lib.hid hput
    clear hl hput
    obtain ⟨k, hk⟩ : ∃ k : Nat, 1 + n % 8 = (k : Int) := ⟨(1 + n % 8).toNat, by omega⟩
    have hk1 : 1 ≤ k := by omega
    have hk8 : k ≤ 8 := by omega
    have u1 : IntKind.i64.wrap (1 + n % 8) = (k : Int) := by rw [IntKind.wrap_i64]; omega
    clear hk
    go_wp2_with fail
    refine (rest_c n 8 W4 (by omega) (by omega)).mono ?_
    rintro e w5 ⟨rfl, rfl⟩
    have y0 := HS4.out.cell (g := g7) (List.mem_cons_self ..) 0 _ rfl
    have y1 := HS4.out.cell (g := g7) (List.mem_cons_self ..) 1 _ rfl
    go_wp2_with fail
    obtain ⟨W5, hW5⟩ : ∃ W : World, W = w5.alloc (.cells #[.int .i64 x.kind, .int .i64 x.n] 31) := ⟨_, rfl⟩
    obtain ⟨g42, hg42⟩ : ∃ g, g = w5.heap.size := ⟨_, rfl⟩
    have HS5 : Hid (RS P F3 w [(g42, [.int .i64 x.kind, .int .i64 x.n]), (g7, [.int .i64 x.kind, .int .i64 x.n]), (g2, [.int .i64 t.kind, .int .i64 t.n, .string t.name, .slice a t.args.length cap])] W5 []) := Lib.hid (by rw [hW5]; exact HS4.out.alloc #[.int .i64 x.kind, .int .i64 x.n] _ hg42)
    have HR5 : Hid (HeapR F3 W5 B 1000 H) := Lib.hid (HR4.out.below (by rw [hW5]; exact below_alloc _ _))
    rw [← hW5, ← hg42]
    clear hW5 hg42 y0 y1
    refine (repW_c k hk1 hk8 W5 g42 [.int .i64 x.kind, .int .i64 x.n] rfl (by simp [Value.oneCell']) ((HS5.out.bk _ (List.mem_cons_self ..)).1.lt) (fun j u hu => HS5.out.cell (List.mem_cons_self ..) j u hu)).mono ?_
    rintro e w6 ⟨rfl, hB6, hg6⟩
    obtain ⟨g6, hg6e⟩ : ∃ g, g = W5.heap.size := ⟨_, rfl⟩
    rw [← hg6e] at hg6
    rw [← hg6e]
    have HRX : Hid (RX wrdE (fun b => b = g6) (fun _ => False) w6 (List.replicate k x) (.slice (some ⟨g6, 0, none⟩) k k)) := Lib.hid (rx_rep (E := wrdE) rfl hg6)
    have HS6 := Lib.hid (HS5.out.below hB6)
    have HR6 := Lib.hid (HR5.out.below hB6)
    have HNF : Hid (∀ b, b = g6 → ¬ F3 b) := Lib.hid (fun b e hf => by have := (HS5.out.fh b hf).2.1; omega)
    clear hB6 hg6 hg6e
    go_wp2_with fail
    refine (hJoin_c F3 (fun b => b = g6) (fun _ => False) w6 B 1000 H (List.replicate k t) (List.replicate k x) _ HR6.out HRX.out HNF.out HPU.out.wf (RepL.rep HPU.out.rep k) (fun y hy => by rw [List.eq_of_mem_replicate hy]; exact HPU.out.rep.stands HL.out) (by rw [List.length_replicate]; exact hk8) (by omega) (by omega) (bulk_join hk8 hb)).mono ?_
    rintro e w7 ⟨rfl, hK7, hR7⟩
    have hj := share_join (x := x) (t := t) (H := H) (by omega) hk8
    obtain ⟨J, hJe⟩ : ∃ J, J = joinHO 1000 H (List.replicate k t) (List.replicate k x) := ⟨_, rfl⟩
    rw [← hJe] at hR7 hj
    rw [← hJe]
    obtain ⟨F7, hF7⟩ : ∃ F7 : Nat → Prop, F7 = fun b => (F3 b ∨ w6.heap.size ≤ b) ∧ b < w7.heap.size := ⟨_, rfl⟩
    have HS7 : Hid (RS P F7 w [(g42, [.int .i64 x.kind, .int .i64 x.n]), (g7, [.int .i64 x.kind, .int .i64 x.n]), (g2, [.int .i64 t.kind, .int .i64 t.n, .string t.name, .slice a t.args.length cap])] w7 []) := Lib.hid (HS6.out.keep hK7 fun b hb => by rw [hF7] at hb; exact hb)
    have HR7 : Hid (HeapR F7 w7 B 1000 J.2.2) := Lib.hid (by rw [hF7]; exact hR7.low)
    clear hK7 hR7 hJe hF7
    go_upto_region 11 with fail
    obtain ⟨W8, hW8⟩ : ∃ W : World, W = w7.alloc (.cells #[.int .i64 J.1.kind, .int .i64 J.1.n] 31) := ⟨_, rfl⟩
    obtain ⟨g9, hg9⟩ : ∃ g, g = w7.heap.size := ⟨_, rfl⟩
    have HS8 : Hid (RS P F7 w [(g9, [.int .i64 J.1.kind, .int .i64 J.1.n]), (g42, [.int .i64 x.kind, .int .i64 x.n]), (g7, [.int .i64 x.kind, .int .i64 x.n]), (g2, [.int .i64 t.kind, .int .i64 t.n, .string t.name, .slice a t.args.length cap])] W8 []) := Lib.hid (by rw [hW8]; exact HS7.out.alloc #[.int .i64 J.1.kind, .int .i64 J.1.n] _ hg9)
    have HR8 : Hid (HeapR F7 W8 B 1000 J.2.2) := Lib.hid (HR7.out.below (by rw [hW8]; exact below_alloc _ _))
    rw [← hW8, ← hg9]
    clear hW8 hg9
    rcases hj with rfl | rfl
    · have HJ := Lib.hid (join_R HPU.out.wf (RepL.rep HPU.out.rep k))
      have HR8 : Hid (HeapR F7 W8 B 1000 (joinH H (List.replicate k x))) := HR8
      have HS8 : Hid (RS P F7 w [(g9, [.int .i64 4, .int .i64 H.ws.length]), (g42, [.int .i64 x.kind, .int .i64 x.n]), (g7, [.int .i64 x.kind, .int .i64 x.n]), (g2, [.int .i64 t.kind, .int .i64 t.n, .string t.name, .slice a t.args.length cap])] W8 []) := HS8
      have HST := Lib.hid (share_stand HPU.out.wf HPU.out.rep HL.out k).stands
      have hjl : (joinH H (List.replicate k x)).ws.length ≤ 209 := by rw [joinH_len, List.length_replicate]; omega
      have hjn : (joinH H (List.replicate k x)).names.length ≤ 1048576 := by show H.names.length ≤ _; omega
      have y0 := HS8.out.cell (g := g9) (List.mem_cons_self ..) 0 _ rfl
      have y1 := HS8.out.cell (g := g9) (List.mem_cons_self ..) 1 _ rfl
      have z0 := HS8.out.cell (g := g7) (List.mem_cons_of_mem _ (List.mem_cons_of_mem _ (List.mem_cons_self ..))) 0 _ rfl
      have z1 := HS8.out.cell (g := g7) (List.mem_cons_of_mem _ (List.mem_cons_of_mem _ (List.mem_cons_self ..))) 1 _ rfl
      go_wp2_with fail
      obtain ⟨W9, hW9⟩ : ∃ W : World, W = W8.alloc (.cells #[.int .i64 4, .int .i64 H.ws.length, .int .i64 x.kind, .int .i64 x.n, .int .i64 4, .int .i64 H.ws.length] 31) := ⟨_, rfl⟩
      obtain ⟨g57, hg57⟩ : ∃ g, g = W8.heap.size := ⟨_, rfl⟩
      have HS9 : Hid (RS P F7 w [(g57, [.int .i64 4, .int .i64 H.ws.length, .int .i64 x.kind, .int .i64 x.n, .int .i64 4, .int .i64 H.ws.length]), (g9, [.int .i64 4, .int .i64 H.ws.length]), (g42, [.int .i64 x.kind, .int .i64 x.n]), (g7, [.int .i64 x.kind, .int .i64 x.n]), (g2, [.int .i64 t.kind, .int .i64 t.n, .string t.name, .slice a t.args.length cap])] W9 []) := Lib.hid (by rw [hW9]; exact HS8.out.alloc #[.int .i64 4, .int .i64 H.ws.length, .int .i64 x.kind, .int .i64 x.n, .int .i64 4, .int .i64 H.ws.length] _ hg57)
      have HR9 : Hid (HeapR F7 W9 B 1000 (joinH H (List.replicate k x))) := Lib.hid (HR8.out.below (by rw [hW9]; exact below_alloc _ _))
      rw [← hW9, ← hg57]
      clear hW9 hg57 y0 y1 z0 z1
      refine (hlive_c F7 (fun b => b = g57) (fun _ => False) W9 B 1000 (joinH H (List.replicate k x)) [⟨4, (H.ws.length : Int)⟩, x, ⟨4, (H.ws.length : Int)⟩] _ (rx_three fun j u hu => HS9.out.cell (List.mem_cons_self ..) j u hu) (by simp) HR9.out HJ.out.wf (by omega) (fun y hy => by rcases mem3 y hy with rfl | rfl; exact HST.out _ (List.mem_cons_self ..); exact HST.out _ (List.mem_cons_of_mem _ (List.mem_cons_self ..)))).mono ?_
      rintro e w10 ⟨tw, out, ks, rfl, hB10, hC⟩
      have hm := share_live HPU.out.wf HPU.out.rep HPU.out.nd hC
      have HS10 := Lib.hid (HS9.out.below hB10)
      have HR10 := Lib.hid (HR9.out.below hB10)
      clear hB10 hC
      obtain ⟨m, hme⟩ : ∃ m : Nat, m = tw.length := ⟨_, rfl⟩
      rw [← hme] at hm
      rw [← hme]
      clear hme
      have y0 := HS10.out.cell (g := g9) (List.mem_cons_of_mem _ (List.mem_cons_self ..)) 0 _ rfl
      have y1 := HS10.out.cell (g := g9) (List.mem_cons_of_mem _ (List.mem_cons_self ..)) 1 _ rfl
      have z0 := HS10.out.cell (g := g7) (List.mem_cons_of_mem _ (List.mem_cons_of_mem _ (List.mem_cons_of_mem _ (List.mem_cons_self ..)))) 0 _ rfl
      have z1 := HS10.out.cell (g := g7) (List.mem_cons_of_mem _ (List.mem_cons_of_mem _ (List.mem_cons_of_mem _ (List.mem_cons_self ..)))) 1 _ rfl
      go_wp2_with fail
      obtain ⟨W11, hW11⟩ : ∃ W : World, W = w10.alloc (.cells #[.int .i64 4, .int .i64 H.ws.length, .int .i64 x.kind, .int .i64 x.n] 31) := ⟨_, rfl⟩
      obtain ⟨g65, hg65⟩ : ∃ g, g = w10.heap.size := ⟨_, rfl⟩
      have HS11 : Hid (RS P F7 w [(g65, [.int .i64 4, .int .i64 H.ws.length, .int .i64 x.kind, .int .i64 x.n]), (g57, [.int .i64 4, .int .i64 H.ws.length, .int .i64 x.kind, .int .i64 x.n, .int .i64 4, .int .i64 H.ws.length]), (g9, [.int .i64 4, .int .i64 H.ws.length]), (g42, [.int .i64 x.kind, .int .i64 x.n]), (g7, [.int .i64 x.kind, .int .i64 x.n]), (g2, [.int .i64 t.kind, .int .i64 t.n, .string t.name, .slice a t.args.length cap])] W11 []) := Lib.hid (by rw [hW11]; exact HS10.out.alloc #[.int .i64 4, .int .i64 H.ws.length, .int .i64 x.kind, .int .i64 x.n] _ hg65)
      have HR11 : Hid (HeapR F7 W11 B 1000 (joinH H (List.replicate k x))) := Lib.hid (HR10.out.below (by rw [hW11]; exact below_alloc _ _))
      rw [← hW11, ← hg65]
      clear hW11 hg65 y0 y1 z0 z1
      refine (hcollect_c F7 (fun b => b = g65) (fun _ => False) W11 B 1000 (joinH H (List.replicate k x)) [⟨4, (H.ws.length : Int)⟩, x] _ (rx_two fun j u hu => HS11.out.cell (List.mem_cons_self ..) j u hu) (by simp) HR11.out HJ.out.wf (by omega) (fun y hy => by rcases mem2 y hy with rfl | rfl; exact HST.out _ (List.mem_cons_self ..); exact HST.out _ (List.mem_cons_of_mem _ (List.mem_cons_self ..)))).mono ?_
      rintro e w12 ⟨v2, tw2, out2, ks2, rfl, hK12, hC2, hR12, hO12, hv12⟩
      obtain ⟨hm2, yw, zw, rfl, hry, hrz⟩ := share_col HPU.out.wf HPU.out.rep HL.out HPU.out.nd hC2
      have hle2 := hC2.le HJ.out.wf
      have hwf2 := hC2.wf HJ.out.wf H.names
      obtain ⟨gv, cv, rfl⟩ := hO12.form0 (by simp)
      obtain ⟨F12, hF12⟩ : ∃ F12 : Nat → Prop, F12 = fun b => (F7 b ∨ (W11.heap.size ≤ b ∧ (Value.slice (some ⟨gv, 0, none⟩) [yw, zw].length cv).ownBlock ≠ some b)) ∧ b < w12.heap.size := ⟨_, rfl⟩
      have HS12 : Hid (RS P F12 w [(g65, [.int .i64 4, .int .i64 H.ws.length, .int .i64 x.kind, .int .i64 x.n]), (g57, [.int .i64 4, .int .i64 H.ws.length, .int .i64 x.kind, .int .i64 x.n, .int .i64 4, .int .i64 H.ws.length]), (g9, [.int .i64 4, .int .i64 H.ws.length]), (g42, [.int .i64 x.kind, .int .i64 x.n]), (g7, [.int .i64 x.kind, .int .i64 x.n]), (g2, [.int .i64 t.kind, .int .i64 t.n, .string t.name, .slice a t.args.length cap])] w12 []) := Lib.hid (HS11.out.keep hK12 fun b hb => by rw [hF12] at hb; exact ⟨hb.1.imp id (·.1), hb.2⟩)
      have HR12 : Hid (HeapR F12 w12 B 1000 ⟨tw2, H.names⟩) := Lib.hid (by rw [hF12]; exact hR12.low)
      have HO12 := Lib.hid hO12
      have HRY := Lib.hid hry
      have HRZ := Lib.hid hrz
      have HWF2 := Lib.hid hwf2
      clear hK12 hC2 hR12 hO12 hv12 hry hrz hwf2 hF12
      have b1 : ((m : Int) != (szL [t] : Int) + 1 + k) = false := by rw [hm]; simp
      have b2 : ((tw2.length : Int) != (m : Int)) = false := by rw [hm, hm2]; simp
      have u2 : IntKind.i64.wrap ((szL [t] : Int) + 1) = (szL [t] : Int) + 1 := by rw [IntKind.wrap_i64]; omega
      have u3 : IntKind.i64.wrap ((szL [t] : Int) + 1 + k) = (szL [t] : Int) + 1 + k := by rw [IntKind.wrap_i64]; omega
      have y0 := HS12.out.cell (g := g2) (List.mem_cons_of_mem _ (List.mem_cons_of_mem _ (List.mem_cons_of_mem _ (List.mem_cons_of_mem _ (List.mem_cons_of_mem _ (List.mem_cons_self ..)))))) 0 _ rfl
      have y1 := HS12.out.cell (g := g2) (List.mem_cons_of_mem _ (List.mem_cons_of_mem _ (List.mem_cons_of_mem _ (List.mem_cons_of_mem _ (List.mem_cons_of_mem _ (List.mem_cons_self ..)))))) 1 _ rfl
      have y2 := HS12.out.cell (g := g2) (List.mem_cons_of_mem _ (List.mem_cons_of_mem _ (List.mem_cons_of_mem _ (List.mem_cons_of_mem _ (List.mem_cons_of_mem _ (List.mem_cons_self ..)))))) 2 _ rfl
      have y3 := HS12.out.cell (g := g2) (List.mem_cons_of_mem _ (List.mem_cons_of_mem _ (List.mem_cons_of_mem _ (List.mem_cons_of_mem _ (List.mem_cons_of_mem _ (List.mem_cons_self ..)))))) 3 _ rfl
      go_wp2_with fail
      refine (rsize_c t P w12 _ (HT.out.to (fun _ h _ => h) fun b hb _ => HS12.out.bel.block b (HPB.out b hb)) (by omega)).mono ?_
      rintro e w13 ⟨rfl, hB13⟩
      have HS13 := Lib.hid (HS12.out.below hB13)
      have HR13 := Lib.hid (HR12.out.below hB13)
      have HO13 := Lib.hid (HO12.out.to hB13.size fun b hb => hB13.block b (HO12.out.block b hb).2)
      clear hB13 y0 y1 y2 y3
      go_wp2_with fail
      refine (hused_c F12 w13 B 1000 _ HR13.out).mono ?_
      rintro e w14 ⟨rfl, rfl⟩
      have hx := Lib.hid HO13.out.rx
      obtain ⟨-, c0, c1⟩ := hx.out.wrd 0 (by simp)
      obtain ⟨-, c2, c3⟩ := hx.out.wrd 1 (by simp)
      simp only [List.getElem_cons_zero, List.getElem_cons_succ] at c0 c1 c2 c3
      go_wp2_with fail
      have hHD : HeadsOk (⟨tw2, H.names⟩ : HS) := HWF2.out.heads
      refine (hGet_c (tupT (List.replicate k t)) F12 w13 B 1000 ⟨tw2, H.names⟩ yw HR13.out HRY.out join_leaf hHD (by show tw2.length ≤ _; omega) (by show H.names.length ≤ _; omega)).mono ?_
      rintro e w15 ⟨aj, cj, rfl, hB15, hT15⟩
      obtain ⟨hJl⟩ : Nonempty ((tupT (List.replicate k t)).args.length = k) := ⟨by show (List.replicate k t).length = k; simp⟩
      have hT15 : RT (fun b => w13.heap.size ≤ b) w15 (tupT (List.replicate k t)) (.agg #[.int .i64 4, .int .i64 0, .string ⟨#[]⟩, .slice aj k cj]) := by rw [hJl] at hT15; exact hT15
      have HJ15 := Lib.hid hT15
      have HS15 := Lib.hid (HS13.out.below hB15)
      have HR15 := Lib.hid (HR13.out.below hB15)
      have HO15 := Lib.hid (HO13.out.to hB15.size fun b hb => hB15.block b (HO13.out.block b hb).2)
      clear hB15 hT15 hx c0 c1 c2 c3
      go_upto_region 18 with fail
      obtain ⟨W16, hW16⟩ : ∃ W : World, W = w15.alloc (.cells #[.int .i64 (tupT (List.replicate k t)).kind, .int .i64 (tupT (List.replicate k t)).n, .string (tupT (List.replicate k t)).name, .slice aj k cj] 24) := ⟨_, rfl⟩
      obtain ⟨g14, hg14⟩ : ∃ g, g = w15.heap.size := ⟨_, rfl⟩
      have HS16 : Hid (RS P F12 w [(g14, [.int .i64 4, .int .i64 0, .string ⟨#[]⟩, .slice aj k cj]), (g65, [.int .i64 4, .int .i64 H.ws.length, .int .i64 x.kind, .int .i64 x.n]), (g57, [.int .i64 4, .int .i64 H.ws.length, .int .i64 x.kind, .int .i64 x.n, .int .i64 4, .int .i64 H.ws.length]), (g9, [.int .i64 4, .int .i64 H.ws.length]), (g42, [.int .i64 x.kind, .int .i64 x.n]), (g7, [.int .i64 x.kind, .int .i64 x.n]), (g2, [.int .i64 t.kind, .int .i64 t.n, .string t.name, .slice a t.args.length cap])] W16 []) := Lib.hid (by rw [hW16]; exact HS15.out.alloc #[.int .i64 4, .int .i64 0, .string ⟨#[]⟩, .slice aj k cj] _ hg14)
      have hB16 : Below w15.heap.size w15 W16 := by rw [hW16]; exact below_alloc _ _
      have HR16 := Lib.hid (HR15.out.below hB16)
      have HJ16 := Lib.hid (HJ15.out.below hB16)
      have HO16 := Lib.hid (HO15.out.to hB16.size fun b hb => hB16.block b (HO15.out.block b hb).2)
      rw [← hW16, ← hg14]
      clear hW16 hg14 hB16
      have hx := Lib.hid HO16.out.rx
      obtain ⟨-, c2, c3⟩ := hx.out.wrd 1 (by simp)
      simp only [List.getElem_cons_zero, List.getElem_cons_succ] at c2 c3
      go_wp2_with fail
      refine (hGet_c t F12 W16 B 1000 ⟨tw2, H.names⟩ zw HR16.out HRZ.out HL.out hHD (by show tw2.length ≤ _; omega) (by show H.names.length ≤ _; omega)).mono ?_
      rintro e w17 ⟨az, cz, rfl, hB17, hT17⟩
      have HZ17 := Lib.hid hT17
      have HS17 := Lib.hid (HS16.out.below hB17)
      have HJ17 := Lib.hid (HJ16.out.below hB17)
      clear hB17 hT17 hx c2 c3
      go_upto_region 19 with fail
      obtain ⟨W18, hW18⟩ : ∃ W : World, W = w17.alloc (.cells #[.int .i64 t.kind, .int .i64 t.n, .string t.name, .slice az t.args.length cz] 24) := ⟨_, rfl⟩
      obtain ⟨g15, hg15⟩ : ∃ g, g = w17.heap.size := ⟨_, rfl⟩
      have HS18 : Hid (RS P F12 w [(g15, [.int .i64 t.kind, .int .i64 t.n, .string t.name, .slice az t.args.length cz]), (g14, [.int .i64 4, .int .i64 0, .string ⟨#[]⟩, .slice aj k cj]), (g2, [.int .i64 t.kind, .int .i64 t.n, .string t.name, .slice a t.args.length cap])] W18 []) := Lib.hid (by rw [hW18]; exact (HS17.out.alloc #[.int .i64 t.kind, .int .i64 t.n, .string t.name, .slice az t.args.length cz] _ hg15).sub (by intro p hp; simp only [List.mem_cons] at hp ⊢; rcases hp with h | h | h | h <;> simp_all))
      have hB18 : Below w17.heap.size w17 W18 := by rw [hW18]; exact below_alloc _ _
      have HJ18 := Lib.hid (HJ17.out.below hB18)
      have HZ18 := Lib.hid (HZ17.out.below hB18)
      rw [← hW18, ← hg15]
      clear hW18 hg15 hB18
      have HQ19 : Hid (∀ w' : World, RS P F12 w [(g15, [.int .i64 t.kind, .int .i64 t.n, .string t.name, .slice az t.args.length cz]), (g14, [.int .i64 4, .int .i64 0, .string ⟨#[]⟩, .slice aj k cj]), (g2, [.int .i64 t.kind, .int .i64 t.n, .string t.name, .slice a t.args.length cap])] w' [] → w'.cell? ⟨g14, 0, none⟩ = some (.int .i64 4) ∧ w'.cell? ⟨g14, 1, none⟩ = some (.int .i64 0) ∧ w'.cell? ⟨g14, 2, none⟩ = some (.string ⟨#[]⟩) ∧ w'.cell? ⟨g14, 3, none⟩ = some (.slice aj k cj) ∧ w'.cell? ⟨g15, 0, none⟩ = some (.int .i64 t.kind) ∧ w'.cell? ⟨g15, 1, none⟩ = some (.int .i64 t.n) ∧ w'.cell? ⟨g15, 2, none⟩ = some (.string t.name) ∧ w'.cell? ⟨g15, 3, none⟩ = some (.slice az t.args.length cz) ∧ w'.cell? ⟨g2, 0, none⟩ = some (.int .i64 t.kind) ∧ w'.cell? ⟨g2, 1, none⟩ = some (.int .i64 t.n) ∧ w'.cell? ⟨g2, 2, none⟩ = some (.string t.name) ∧ w'.cell? ⟨g2, 3, none⟩ = some (.slice a t.args.length cap)) := Lib.hid fun w' h => ⟨h.cell (List.mem_cons_of_mem _ (List.mem_cons_self ..)) 0 _ rfl, h.cell (List.mem_cons_of_mem _ (List.mem_cons_self ..)) 1 _ rfl, h.cell (List.mem_cons_of_mem _ (List.mem_cons_self ..)) 2 _ rfl, h.cell (List.mem_cons_of_mem _ (List.mem_cons_self ..)) 3 _ rfl, h.cell (List.mem_cons_self ..) 0 _ rfl, h.cell (List.mem_cons_self ..) 1 _ rfl, h.cell (List.mem_cons_self ..) 2 _ rfl, h.cell (List.mem_cons_self ..) 3 _ rfl, h.cell (List.mem_cons_of_mem _ (List.mem_cons_of_mem _ (List.mem_cons_self ..))) 0 _ rfl, h.cell (List.mem_cons_of_mem _ (List.mem_cons_of_mem _ (List.mem_cons_self ..))) 1 _ rfl, h.cell (List.mem_cons_of_mem _ (List.mem_cons_of_mem _ (List.mem_cons_self ..))) 2 _ rfl, h.cell (List.mem_cons_of_mem _ (List.mem_cons_of_mem _ (List.mem_cons_self ..))) 3 _ rfl⟩
      refine rg_start (fun w' => w'.cell? ⟨g14, 0, none⟩ = some (.int .i64 4) ∧ w'.cell? ⟨g14, 1, none⟩ = some (.int .i64 0) ∧ w'.cell? ⟨g14, 2, none⟩ = some (.string ⟨#[]⟩) ∧ w'.cell? ⟨g14, 3, none⟩ = some (.slice aj k cj) ∧ w'.cell? ⟨g15, 0, none⟩ = some (.int .i64 t.kind) ∧ w'.cell? ⟨g15, 1, none⟩ = some (.int .i64 t.n) ∧ w'.cell? ⟨g15, 2, none⟩ = some (.string t.name) ∧ w'.cell? ⟨g15, 3, none⟩ = some (.slice az t.args.length cz) ∧ w'.cell? ⟨g2, 0, none⟩ = some (.int .i64 t.kind) ∧ w'.cell? ⟨g2, 1, none⟩ = some (.int .i64 t.n) ∧ w'.cell? ⟨g2, 2, none⟩ = some (.string t.name) ∧ w'.cell? ⟨g2, 3, none⟩ = some (.slice a t.args.length cap)) (by as_aux_lemma => kernel_rfl) (fun Wd h => HQ19.out _ (HS18.out.below h)) ?_
      intro wz0 hB hWd hWd' hHeld
      have HZ0 := Lib.hid (HS18.out.below hB)
      have HBZ := Lib.hid hB
      clear hB
      refine rg_take (i := 0) (v := ?_) rfl (by as_aux_lemma => kernel_rfl) (by as_aux_lemma => kernel_rfl) (by as_aux_lemma => kernel_rfl) (by rfl) ?_ hHeld ?_
      rotate_left 1
      · intro w hSw; (try dsimp only at hSw); go_simp; try (with_reducible rfl)
      (try simp only [Act.put, List.setIfInBounds_toArray, List.set_cons_zero, List.set_cons_succ])
      refine rg_take (i := 1) (v := ?_) rfl (by as_aux_lemma => kernel_rfl) (by as_aux_lemma => kernel_rfl) (by as_aux_lemma => kernel_rfl) (by rfl) ?_ hHeld ?_
      rotate_left 1
      · intro w hSw; (try dsimp only at hSw); go_simp; try (with_reducible rfl)
      (try simp only [Act.put, List.setIfInBounds_toArray, List.set_cons_zero, List.set_cons_succ])
      refine rg_take (i := 2) (v := ?_) rfl (by as_aux_lemma => kernel_rfl) (by as_aux_lemma => kernel_rfl) (by as_aux_lemma => kernel_rfl) (by rfl) ?_ hHeld ?_
      rotate_left 1
      · intro w hSw; (try dsimp only at hSw); go_simp; try (with_reducible rfl)
      (try simp only [Act.put, List.setIfInBounds_toArray, List.set_cons_zero, List.set_cons_succ])
      refine rg_take (i := 3) (v := ?_) rfl (by as_aux_lemma => kernel_rfl) (by as_aux_lemma => kernel_rfl) (by as_aux_lemma => kernel_rfl) (by rfl) ?_ hHeld ?_
      rotate_left 1
      · intro w hSw; (try dsimp only at hSw); go_simp; try (with_reducible rfl)
      (try simp only [Act.put, List.setIfInBounds_toArray, List.set_cons_zero, List.set_cons_succ])
      refine rg_take (i := 4) (v := ?_) rfl (by as_aux_lemma => kernel_rfl) (by as_aux_lemma => kernel_rfl) (by as_aux_lemma => kernel_rfl) (by rfl) ?_ hHeld ?_
      rotate_left 1
      · intro w hSw; (try dsimp only at hSw); go_simp; try (with_reducible rfl)
      (try simp only [Act.put, List.setIfInBounds_toArray, List.set_cons_zero, List.set_cons_succ])
      refine rg_take (i := 5) (v := ?_) rfl (by as_aux_lemma => kernel_rfl) (by as_aux_lemma => kernel_rfl) (by as_aux_lemma => kernel_rfl) (by rfl) ?_ hHeld ?_
      rotate_left 1
      · intro w hSw; (try dsimp only at hSw); go_simp; try (with_reducible rfl)
      (try simp only [Act.put, List.setIfInBounds_toArray, List.set_cons_zero, List.set_cons_succ])
      refine rg_take (i := 6) (v := ?_) rfl (by as_aux_lemma => kernel_rfl) (by as_aux_lemma => kernel_rfl) (by as_aux_lemma => kernel_rfl) (by rfl) ?_ hHeld ?_
      rotate_left 1
      · intro w hSw; (try dsimp only at hSw); go_simp; try (with_reducible rfl)
      (try simp only [Act.put, List.setIfInBounds_toArray, List.set_cons_zero, List.set_cons_succ])
      refine rg_take (i := 7) (v := ?_) rfl (by as_aux_lemma => kernel_rfl) (by as_aux_lemma => kernel_rfl) (by as_aux_lemma => kernel_rfl) (by rfl) ?_ hHeld ?_
      rotate_left 1
      · intro w hSw; (try dsimp only at hSw); go_simp; try (with_reducible rfl)
      (try simp only [Act.put, List.setIfInBounds_toArray, List.set_cons_zero, List.set_cons_succ])
      refine rg_take (i := 8) (v := ?_) rfl (by as_aux_lemma => kernel_rfl) (by as_aux_lemma => kernel_rfl) (by as_aux_lemma => kernel_rfl) (by rfl) ?_ hHeld ?_
      rotate_left 1
      · intro w hSw; (try dsimp only at hSw); go_simp; try (with_reducible rfl)
      (try simp only [Act.put, List.setIfInBounds_toArray, List.set_cons_zero, List.set_cons_succ])
      refine rg_take (i := 10) (v := ?_) rfl (by as_aux_lemma => kernel_rfl) (by as_aux_lemma => kernel_rfl) (by as_aux_lemma => kernel_rfl) (by rfl) ?_ hHeld ?_
      rotate_left 1
      · intro w hSw; (try dsimp only at hSw); go_simp; try (with_reducible rfl)
      (try simp only [Act.put, List.setIfInBounds_toArray, List.set_cons_zero, List.set_cons_succ])
      refine rg_only (i := 9) rfl (by as_aux_lemma => kernel_rfl) (by rfl) (fun K hK => ?_)
      refine build1 _ rfl (by rfl) ?_
      obtain ⟨wz1, hwz⟩ : ∃ W : World, W = wz0.alloc (.cells #[.int .i64 t.kind, .int .i64 t.n, .string t.name, .slice a t.args.length cap] 24) := ⟨_, rfl⟩
      obtain ⟨gz, hgz⟩ : ∃ g, g = wz0.heap.size := ⟨_, rfl⟩
      have HZ1 : Hid (RS P F12 w [(gz, [.int .i64 t.kind, .int .i64 t.n, .string t.name, .slice a t.args.length cap]), (g15, [.int .i64 t.kind, .int .i64 t.n, .string t.name, .slice az t.args.length cz]), (g14, [.int .i64 4, .int .i64 0, .string ⟨#[]⟩, .slice aj k cj]), (g2, [.int .i64 t.kind, .int .i64 t.n, .string t.name, .slice a t.args.length cap])] wz1 []) := Lib.hid (by rw [hwz]; exact HZ0.out.alloc #[.int .i64 t.kind, .int .i64 t.n, .string t.name, .slice a t.args.length cap] _ hgz)
      have hBz1 : Below wz0.heap.size wz0 wz1 := by rw [hwz]; exact below_alloc _ _
      have HJZ1 := Lib.hid ((HJ18.out.below HBZ.out).below hBz1)
      have HZZ1 := Lib.hid ((HZ18.out.below HBZ.out).below hBz1)
      clear hBz1
      show K _ (wz0.alloc (.cells #[.int .i64 t.kind, .int .i64 t.n, .string t.name, .slice a t.args.length cap] 24))
      rw [← hwz, ← hgz]
      clear hwz hgz
      refine hK.out _ _ (HQ19.out _ (HZ1.out.sub (by intro p hp; exact List.mem_cons_of_mem _ hp))) (fun hHeld1 => ?_)
      clear hK K hHeld
      have hHeld := hHeld1
      clear hHeld1
      (try simp only [Act.put, List.setIfInBounds_toArray, List.set_cons_zero, List.set_cons_succ])
      refine rg_only (i := 11) rfl (by as_aux_lemma => kernel_rfl) (by rfl) (fun K hK => ?_)
      go_simp
      go_at_call 20
      refine (repT_c k hk1 hk8 wz1 gz [.int .i64 t.kind, .int .i64 t.n, .string t.name, .slice a t.args.length cap] rfl (by simp [Value.oneCell']) ((HZ1.out.bk _ (List.mem_cons_self ..)).1.lt) (fun j u hu => HZ1.out.cell (List.mem_cons_self ..) j u hu)).mono ?_
      rintro e wz2 ⟨rfl, hBz2, hgz2⟩
      obtain ⟨gr, hgr⟩ : ∃ g, g = wz1.heap.size := ⟨_, rfl⟩
      rw [← hgr] at hgz2
      rw [← hgr]
      have HZ2 := Lib.hid (HZ1.out.below hBz2)
      have HJZ2 := Lib.hid (HJZ1.out.below hBz2)
      have HZZ2 := Lib.hid (HZZ1.out.below hBz2)
      have HU2 : Hid (RT (fun _ => True) wz2 (tupT (List.replicate k t)) (.agg #[.int .i64 4, .int .i64 0, .string ⟨#[]⟩, .slice (some ⟨gr, 0, none⟩) k k])) := Lib.hid (tupT_rt (rsl_rep hgz2 HCAP.out ((HRTS.out).to (fun _ _ _ => trivial) fun b hb _ => HZ2.out.bel.block b (HPB.out b hb)) trivial))
      clear hBz2 hgz2 hgr
      refine hK.out _ _ (HQ19.out _ (HZ2.out.sub (by intro p hp; exact List.mem_cons_of_mem _ hp))) (fun hHeld1 => ?_)
      clear hK K hHeld
      have hHeld := hHeld1
      clear hHeld1
      (try simp only [Act.put, List.setIfInBounds_toArray, List.set_cons_zero, List.set_cons_succ])
      refine rg_take (i := 12) (v := ?_) rfl (by as_aux_lemma => kernel_rfl) (by as_aux_lemma => kernel_rfl) (by as_aux_lemma => kernel_rfl) (by rfl) ?_ hHeld ?_
      rotate_left 1
      · intro w hSw; (try dsimp only at hSw); go_simp; try (with_reducible rfl)
      (try simp only [Act.put, List.setIfInBounds_toArray, List.set_cons_zero, List.set_cons_succ])
      refine rg_only (i := 13) rfl (by as_aux_lemma => kernel_rfl) (by rfl) (fun K hK => ?_)
      go_simp
      go_at_call 19
      refine (same_c (tupT (List.replicate k t)) (tupT (List.replicate k t)) (fun _ => True) wz2 _ _ (HJZ2.out.to (fun _ _ _ => trivial) fun _ _ _ => rfl) HU2.out (bulk_join hk8 hb) (bulk_join hk8 hb)).mono ?_
      rintro e wz3 ⟨rfl, hBz3⟩
      rw [sameT_ok]
      have HZ3 := Lib.hid (HZ2.out.below hBz3)
      have HZZ3 := Lib.hid (HZZ2.out.below hBz3)
      clear hBz3
      refine hK.out _ _ (HQ19.out _ (HZ3.out.sub (by intro p hp; exact List.mem_cons_of_mem _ hp))) (fun hHeld1 => ?_)
      clear hK K hHeld
      have hHeld := hHeld1
      clear hHeld1
      (try simp only [Act.put, List.setIfInBounds_toArray, List.set_cons_zero, List.set_cons_succ])
      refine rg_take (i := 14) (v := ?_) rfl (by as_aux_lemma => kernel_rfl) (by as_aux_lemma => kernel_rfl) (by as_aux_lemma => kernel_rfl) (by rfl) ?_ hHeld ?_
      rotate_left 1
      · intro w hSw; (try dsimp only at hSw); go_simp; try (with_reducible rfl)
      (try simp only [Act.put, List.setIfInBounds_toArray, List.set_cons_zero, List.set_cons_succ])
      refine rg_take (i := 15) (v := ?_) rfl (by as_aux_lemma => kernel_rfl) (by as_aux_lemma => kernel_rfl) (by as_aux_lemma => kernel_rfl) (by rfl) ?_ hHeld ?_
      rotate_left 1
      · intro w hSw; (try dsimp only at hSw); go_simp; try (with_reducible rfl)
      (try simp only [Act.put, List.setIfInBounds_toArray, List.set_cons_zero, List.set_cons_succ])
      refine rg_take (i := 16) (v := ?_) rfl (by as_aux_lemma => kernel_rfl) (by as_aux_lemma => kernel_rfl) (by as_aux_lemma => kernel_rfl) (by rfl) ?_ hHeld ?_
      rotate_left 1
      · intro w hSw; (try dsimp only at hSw); go_simp; try (with_reducible rfl)
      (try simp only [Act.put, List.setIfInBounds_toArray, List.set_cons_zero, List.set_cons_succ])
      refine rg_take (i := 17) (v := ?_) rfl (by as_aux_lemma => kernel_rfl) (by as_aux_lemma => kernel_rfl) (by as_aux_lemma => kernel_rfl) (by rfl) ?_ hHeld ?_
      rotate_left 1
      · intro w hSw; (try dsimp only at hSw); go_simp; try (with_reducible rfl)
      (try simp only [Act.put, List.setIfInBounds_toArray, List.set_cons_zero, List.set_cons_succ])
      refine rg_only (i := 18) rfl (by as_aux_lemma => kernel_rfl) (by rfl) (fun K hK => ?_)
      go_simp
      go_at_call 19
      refine (same_c t t (fun _ => True) wz3 _ _ (HZZ3.out.to (fun _ _ _ => trivial) fun _ _ _ => rfl) (HT.out.to (fun _ _ _ => trivial) fun b hb _ => HZ3.out.bel.block b (HPB.out b hb)) (by omega) (by omega)).mono ?_
      rintro e wz4 ⟨rfl, hBz4⟩
      rw [sameT_ok]
      have HZ4 := Lib.hid (HZ3.out.below hBz4)
      clear hBz4
      refine hK.out _ _ (HQ19.out _ (HZ4.out.sub (by intro p hp; exact List.mem_cons_of_mem _ hp))) (fun hHeld1 => ?_)
      clear hK K hHeld
      have hHeld := hHeld1
      clear hHeld1
      (try simp only [Act.put, List.setIfInBounds_toArray, List.set_cons_zero, List.set_cons_succ])
      refine rg_take (i := 19) (v := ?_) rfl (by as_aux_lemma => kernel_rfl) (by as_aux_lemma => kernel_rfl) (by as_aux_lemma => kernel_rfl) (by rfl) ?_ hHeld ?_
      rotate_left 1
      · intro w hSw; (try dsimp only at hSw); go_simp; try (with_reducible rfl)
      (try simp only [Act.put, List.setIfInBounds_toArray, List.set_cons_zero, List.set_cons_succ])
      refine rg_take (i := 20) (v := ?_) rfl (by as_aux_lemma => kernel_rfl) (by as_aux_lemma => kernel_rfl) (by as_aux_lemma => kernel_rfl) (by rfl) ?_ hHeld ?_
      rotate_left 1
      · intro w hSw; (try dsimp only at hSw); go_simp; try (with_reducible rfl)
      (try simp only [Act.put, List.setIfInBounds_toArray, List.set_cons_zero, List.set_cons_succ])
      refine rg_done (by as_aux_lemma => kernel_rfl) ?_
      clear hHeld
      go_wp2_with fail
      go_ret
      exact ⟨rfl, HZ4.out.bel⟩
    · go_wp2_with fail
      go_ret
      exact ⟨rfl, HS8.out.bel⟩
  · have heb : (er != 0) = true := by simpa using he
    have HPU := Lib.hid hput
    clear hput
    have y0 := HS4.out.cell (g := g2) (List.mem_cons_of_mem _ (List.mem_cons_self ..)) 0 _ rfl
    have y1 := HS4.out.cell (g := g2) (List.mem_cons_of_mem _ (List.mem_cons_self ..)) 1 _ rfl
    have y2 := HS4.out.cell (g := g2) (List.mem_cons_of_mem _ (List.mem_cons_self ..)) 2 _ rfl
    have y3 := HS4.out.cell (g := g2) (List.mem_cons_of_mem _ (List.mem_cons_self ..)) 3 _ rfl
    go_wp2_with fail
    refine (rputable_c t P W4 _ (HT.out.to (fun _ h _ => h) fun b hb _ => HS4.out.bel.block b (HPB.out b hb)) (fun b hb => (HS4.out.pb b hb).1) (by omega)).mono ?_
    rintro e w5 ⟨rfl, hB5⟩
    have heq : (putE t == er) = true := by rw [HPU.out]; simp
    have HB5 := Lib.hid (HS4.out.below hB5).bel
    clear hB5
    go_wp2_with fail
    go_ret
    exact ⟨rfl, HB5.out⟩
end Go.Proofs.Ytedfepnekjjmnab
