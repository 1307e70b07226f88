/-
 keep.small: the small program, and how it lies. No condition.
-/
import Derived.Deep.DeepCutAuto
import Derived.Test.YtedfepnekjjmnabJc
import Derived.Test.YtedfepnekjjmnabJb
namespace Go.Proofs.Ytedfepnekjjmnab
open Go.RowKit
set_option linter.unusedSimpArgs false
set_option linter.unusedVariables false
set_option maxRecDepth 100000

theorem RX.lit1 {X : Type} {E : El X} {S : Nat → Prop} {w : World} {x : X} {c : Array Value} (h : E.C S w x c.toList) (ty : TypeId) {g : Nat} (hg : g = w.heap.size) : RX E (fun b => b = g) S (w.alloc (.cells c ty)) [x] (.slice (some ⟨g, 0, none⟩) 1 1) :=
 ⟨_, _, c.toList, rfl, ⟨Nat.le_refl _, by simp⟩, CellsX.single (E.to h (fun _ h _ => h) fun b _ hb => Below.heap_alloc _ _ _ hb), fun j u hu => ⟨g, 0, rfl, rfl, by rw [Nat.zero_add]; exact (Blk.new w c ty g hg).cell j u hu⟩⟩
/-- A struct handed back alone. -/
theorem result_blk1 {fn : Func} {t : Tmp} {ty k : Nat} (h : fn.results = #[.cell t ty]) (hi : (Try.prog.info? ty).map (·.size) = some k) (d : TypeDesc) (hu : Try.prog.underlying ty = some d) (hr : d.isRow = true)
  {tmps : Array Value} {w : World} {B : Nat} {cs : List Value} (hx : tmps.getD t undef = .pointer (some ⟨B, 0, none⟩)) (hB : Blk w B cs) (hl : cs.length = k) :
  (results fn tmps).run Try.prog w = .ok (.agg cs.toArray) w := by
 have h1 := run_loadVar_mid (P := Try.prog) w B 0 ty cs d hB.range hu hr (by rw [hi, hl])
 have h2 : (asAddr (tmps.getD t undef)).run Try.prog w = .ok ⟨B, 0, none⟩ w := by rw [hx]; rfl
 simp only [Array.getD_eq_getD_getElem?] at h2 ⊢
 simp [results, h, h1, h2]
set_option maxHeartbeats 1000000 in
theorem var_c (n : Int) (w : World) : Calls Try.prog 73 #[.int .i64 n] w fun e w' => e = .returned (.agg #[.int .i64 5, .int .i64 n, .string ⟨#[]⟩, .slice none 0 0]) ∧ Below w.heap.size w w' := by
 have HX := Lib.hid (Blk.new w #[.int .i64 0, .int .i64 0, .string ⟨#[]⟩, .slice none 0 0] 24 _ rfl)
 go_enter Try.func73, Try.ntmps73
 go_wp2_with (refine store_blk 24 4 szTerm _ _ rfl rfl rfl rfl rfl HX.out rfl rfl rfl ?_; intro W' hF hs' hBW hoth; have HF := Lib.hid hF; have HBW := Lib.hid hBW; clear hF hBW hoth hs')
 refine bodyPost_ret (result_blk1 Try.results73 szTerm _ Try.underlying24 rfl rfl HF.out rfl) rfl ⟨rfl, ?_⟩
 exact HBW.out _ _ (Nat.le_refl _) (below_alloc _ _)
def sN : ByteArray := ⟨#[110]⟩
def sAdd' : ByteArray := ⟨#[97, 100, 100]⟩
def sRelay : ByteArray := ⟨#[114, 101, 108, 97, 121]⟩
def smMsg : T := tupT [wordT sN, vT 1]
def smAdd : T := tupT [wordT sAdd', vT 1, numT 1]
def smWhat : T := tupT [wordT sN, smAdd]
def smDeed : Deed := ⟨1, vT 0, smWhat, ⟨#[]⟩, 0⟩
def smClau : Clau := ⟨vT 0, smMsg, [smDeed], vT 0⟩
def smBehv : Behv := ⟨sRelay, [smClau]⟩
theorem vT_rt (S : Nat → Prop) (w : World) (n : Int) : RT S w (vT n) (.agg #[.int .i64 5, .int .i64 n, .string ⟨#[]⟩, .slice none 0 0]) := ⟨none, 0, rfl, ⟨Nat.le_refl _, fun _ => rfl⟩, by simp [vT, RTs]⟩
/-- A tuple of terms written out. -/
theorem sm_tup {N : Nat} {w : World} {ts : List T} {cs : List Value} {n : Nat} (hC : CellsT (fun b => N ≤ b) w ts cs) (hn : ts.length = n) (hN : N ≤ w.heap.size) {g : Nat} (hg : g = w.heap.size) :
  RT (fun b => N ≤ b) (w.alloc (.cells cs.toArray 24)) (tupT ts) (.agg #[.int .i64 4, .int .i64 0, .string ⟨#[]⟩, .slice (some ⟨g, 0, none⟩) n n]) := by
 subst hn hg
 exact tupT_rt ((RSl2.lit hC 24).rsl.mono fun b hb => by
  rcases hb with hb | hb
  ·omega
  ·exact hb)
theorem CellsT.one {S : Nat → Prop} {w : World} {t : T} {ts : List T} {cs : List Value} {c0 c1 c2 c3 : Value} (ht : RT S w t (.agg #[c0, c1, c2, c3])) (h : CellsT S w ts cs) : CellsT S w (t :: ts) (c0 :: c1 :: c2 :: c3 :: cs) := by
 obtain ⟨a, cap, e, h1, h2⟩ := ht
 simp only [Value.agg.injEq, Array.mk.injEq, List.cons.injEq, and_true] at e
 obtain ⟨rfl, rfl, rfl, rfl⟩ := e
 exact ⟨a, cap, cs, rfl, h1, h2, h⟩
def SmallP (w : World) (e : Ending) (w' : World) : Prop := ∃ g, e = .returned (.slice (some ⟨g, 0, none⟩) 1 1) ∧ Below w.heap.size w w' ∧ RX behvE (fun b => w.heap.size ≤ b) (fun b => w.heap.size ≤ b) w' [smBehv] (.slice (some ⟨g, 0, none⟩) 1 1)
set_option maxHeartbeats 8000000 in
theorem small_c (w : World) : Calls Try.prog 37 #[] w (SmallP w) := by
 go_enter Try.func37, Try.ntmps37
 go_wp2_with fail
 refine (var_c 0 w).mono ?_
 rintro e w1 ⟨rfl, hB⟩
 have hs1 : w.heap.size ≤ w1.heap.size := by have := hB.size; omega
 have HB1 : Hid (Below w.heap.size w w1) := Lib.hid (hB)
 clear hB
 go_wp2_with fail
 refine (word_c sN w1).mono ?_
 rintro e w2 ⟨rfl, hB⟩
 have hs2 : w.heap.size ≤ w2.heap.size := by have := hB.size; omega
 have HB2 : Hid (Below w.heap.size w w2) := Lib.hid (below_step HB1.out hs1 hB)
 clear hB
 go_wp2_with fail
 refine (var_c 1 w2).mono ?_
 rintro e w3 ⟨rfl, hB⟩
 have hs3 : w.heap.size ≤ w3.heap.size := by have := hB.size; omega
 have HB3 : Hid (Below w.heap.size w w3) := Lib.hid (below_step HB2.out hs2 hB)
 clear hB
 go_wp2_with fail
 obtain ⟨w4, hw⟩ : ∃ W : World, W = w3.alloc (.cells #[.int .i64 2, .int .i64 0, .string sN, .slice none 0 0, .int .i64 5, .int .i64 1, .string ⟨#[]⟩, .slice none 0 0] 24) := ⟨_, rfl⟩
 obtain ⟨g7, hg⟩ : ∃ g, g = w3.heap.size := ⟨_, rfl⟩
 have HM_4 : Hid (RT (fun b => w.heap.size ≤ b) w4 smMsg (.agg #[.int .i64 4, .int .i64 0, .string ⟨#[]⟩, .slice (some ⟨g7, 0, none⟩) 2 2])) := Lib.hid (by rw [hw]; exact sm_tup (CellsT.one (wordT_rt _ _ sN) (CellsT.one (vT_rt _ _ 1) (show CellsT _ _ [] [] from rfl))) rfl hs3 hg)
 have hB : Below w3.heap.size w3 w4 := by rw [hw]; exact below_alloc _ _
 rw [← hw, ← hg]
 have hgl : w.heap.size ≤ g7 := by omega
 clear hw hg
 have hs4 : w.heap.size ≤ w4.heap.size := by have := hB.size; omega
 have HB4 : Hid (Below w.heap.size w w4) := Lib.hid (below_step HB3.out hs3 hB)
 clear hB
 refine (tuple_c _ _ _ _).mono ?_
 rintro e w5 ⟨rfl, hB⟩
 have hs5 : w.heap.size ≤ w5.heap.size := by have := hB.size; omega
 have HB5 : Hid (Below w.heap.size w w5) := Lib.hid (below_step HB4.out hs4 hB)
 have HM_5 := Lib.hid (HM_4.out.below hB)
 clear hB
 go_wp2_with fail
 refine (var_c 0 w5).mono ?_
 rintro e w6 ⟨rfl, hB⟩
 have hs6 : w.heap.size ≤ w6.heap.size := by have := hB.size; omega
 have HB6 : Hid (Below w.heap.size w w6) := Lib.hid (below_step HB5.out hs5 hB)
 have HM_6 := Lib.hid (HM_5.out.below hB)
 clear hB
 go_wp2_with fail
 refine (word_c sN w6).mono ?_
 rintro e w7 ⟨rfl, hB⟩
 have hs7 : w.heap.size ≤ w7.heap.size := by have := hB.size; omega
 have HB7 : Hid (Below w.heap.size w w7) := Lib.hid (below_step HB6.out hs6 hB)
 have HM_7 := Lib.hid (HM_6.out.below hB)
 clear hB
 go_wp2_with fail
 refine (word_c sAdd' w7).mono ?_
 rintro e w8 ⟨rfl, hB⟩
 have hs8 : w.heap.size ≤ w8.heap.size := by have := hB.size; omega
 have HB8 : Hid (Below w.heap.size w w8) := Lib.hid (below_step HB7.out hs7 hB)
 have HM_8 := Lib.hid (HM_7.out.below hB)
 clear hB
 go_wp2_with fail
 refine (var_c 1 w8).mono ?_
 rintro e w9 ⟨rfl, hB⟩
 have hs9 : w.heap.size ≤ w9.heap.size := by have := hB.size; omega
 have HB9 : Hid (Below w.heap.size w w9) := Lib.hid (below_step HB8.out hs8 hB)
 have HM_9 := Lib.hid (HM_8.out.below hB)
 clear hB
 go_wp2_with fail
 refine (num_c 1 w9).mono ?_
 rintro e w10 ⟨rfl, hB⟩
 have hs10 : w.heap.size ≤ w10.heap.size := by have := hB.size; omega
 have HB10 : Hid (Below w.heap.size w w10) := Lib.hid (below_step HB9.out hs9 hB)
 have HM_10 := Lib.hid (HM_9.out.below hB)
 clear hB
 go_wp2_with fail
 obtain ⟨w11, hw⟩ : ∃ W : World, W = w10.alloc (.cells #[.int .i64 2, .int .i64 0, .string sAdd', .slice none 0 0, .int .i64 5, .int .i64 1, .string ⟨#[]⟩, .slice none 0 0, .int .i64 1, .int .i64 1, .string ⟨#[]⟩, .slice none 0 0] 24) := ⟨_, rfl⟩
 obtain ⟨g16, hg⟩ : ∃ g, g = w10.heap.size := ⟨_, rfl⟩
 have HA_11 : Hid (RT (fun b => w.heap.size ≤ b) w11 smAdd (.agg #[.int .i64 4, .int .i64 0, .string ⟨#[]⟩, .slice (some ⟨g16, 0, none⟩) 3 3])) := Lib.hid (by rw [hw]; exact sm_tup (CellsT.one (wordT_rt _ _ sAdd') (CellsT.one (vT_rt _ _ 1) (CellsT.one (numT_rt _ _ 1) (show CellsT _ _ [] [] from rfl)))) rfl hs10 hg)
 have hB : Below w10.heap.size w10 w11 := by rw [hw]; exact below_alloc _ _
 rw [← hw, ← hg]
 have hgl : w.heap.size ≤ g16 := by omega
 clear hw hg
 have hs11 : w.heap.size ≤ w11.heap.size := by have := hB.size; omega
 have HB11 : Hid (Below w.heap.size w w11) := Lib.hid (below_step HB10.out hs10 hB)
 have HM_11 := Lib.hid (HM_10.out.below hB)
 clear hB
 refine (tuple_c _ _ _ _).mono ?_
 rintro e w12 ⟨rfl, hB⟩
 have hs12 : w.heap.size ≤ w12.heap.size := by have := hB.size; omega
 have HB12 : Hid (Below w.heap.size w w12) := Lib.hid (below_step HB11.out hs11 hB)
 have HM_12 := Lib.hid (HM_11.out.below hB)
 have HA_12 := Lib.hid (HA_11.out.below hB)
 clear hB
 go_wp2_with fail
 obtain ⟨w13, hw⟩ : ∃ W : World, W = w12.alloc (.cells #[.int .i64 2, .int .i64 0, .string sN, .slice none 0 0, .int .i64 4, .int .i64 0, .string ⟨#[]⟩, .slice (some ⟨g16, 0, none⟩) 3 3] 24) := ⟨_, rfl⟩
 obtain ⟨g18, hg⟩ : ∃ g, g = w12.heap.size := ⟨_, rfl⟩
 have HW_13 : Hid (RT (fun b => w.heap.size ≤ b) w13 smWhat (.agg #[.int .i64 4, .int .i64 0, .string ⟨#[]⟩, .slice (some ⟨g18, 0, none⟩) 2 2])) := Lib.hid (by rw [hw]; exact sm_tup (CellsT.one (wordT_rt _ _ sN) (CellsT.one HA_12.out (show CellsT _ _ [] [] from rfl))) rfl hs12 hg)
 have hB : Below w12.heap.size w12 w13 := by rw [hw]; exact below_alloc _ _
 rw [← hw, ← hg]
 have hgl : w.heap.size ≤ g18 := by omega
 clear hw hg
 have hs13 : w.heap.size ≤ w13.heap.size := by have := hB.size; omega
 have HB13 : Hid (Below w.heap.size w w13) := Lib.hid (below_step HB12.out hs12 hB)
 have HM_13 := Lib.hid (HM_12.out.below hB)
 have HA_13 := Lib.hid (HA_12.out.below hB)
 clear hB
 refine (tuple_c _ _ _ _).mono ?_
 rintro e w14 ⟨rfl, hB⟩
 have hs14 : w.heap.size ≤ w14.heap.size := by have := hB.size; omega
 have HB14 : Hid (Below w.heap.size w w14) := Lib.hid (below_step HB13.out hs13 hB)
 have HM_14 := Lib.hid (HM_13.out.below hB)
 have HA_14 := Lib.hid (HA_13.out.below hB)
 have HW_14 := Lib.hid (HW_13.out.below hB)
 clear hB
 go_wp2_with fail
 obtain ⟨w15, hw⟩ : ∃ W : World, W = w14.alloc (.cells #[.int .i64 1, .int .i64 5, .int .i64 0, .string ⟨#[]⟩, .slice none 0 0, .int .i64 4, .int .i64 0, .string ⟨#[]⟩, .slice (some ⟨g18, 0, none⟩) 2 2, .string ⟨#[]⟩, .int .i64 0] 140) := ⟨_, rfl⟩
 obtain ⟨g21, hg⟩ : ∃ g, g = w14.heap.size := ⟨_, rfl⟩
 have HD_15 : Hid (RX deedE (fun b => w.heap.size ≤ b) (fun b => w.heap.size ≤ b) w15 [smDeed] (.slice (some ⟨g21, 0, none⟩) 1 1)) := Lib.hid (by rw [hw]; exact (RX.lit1 (E := deedE) (x := smDeed) ⟨none, 0, _, _, rfl, vT_rt _ _ 0, HW_14.out⟩ _ hg).mono (fun b hb => by omega) fun _ h => h)
 have hB : Below w14.heap.size w14 w15 := by rw [hw]; exact below_alloc _ _
 rw [← hw, ← hg]
 have hgl : w.heap.size ≤ g21 := by omega
 clear hw hg
 have hs15 : w.heap.size ≤ w15.heap.size := by have := hB.size; omega
 have HB15 : Hid (Below w.heap.size w w15) := Lib.hid (below_step HB14.out hs14 hB)
 have HM_15 := Lib.hid (HM_14.out.below hB)
 have HA_15 := Lib.hid (HA_14.out.below hB)
 have HW_15 := Lib.hid (HW_14.out.below hB)
 clear hB
 refine (var_c 0 w15).mono ?_
 rintro e w16 ⟨rfl, hB⟩
 have hs16 : w.heap.size ≤ w16.heap.size := by have := hB.size; omega
 have HB16 : Hid (Below w.heap.size w w16) := Lib.hid (below_step HB15.out hs15 hB)
 have HM_16 := Lib.hid (HM_15.out.below hB)
 have HA_16 := Lib.hid (HA_15.out.below hB)
 have HW_16 := Lib.hid (HW_15.out.below hB)
 have HD_16 := Lib.hid (HD_15.out.below hB)
 clear hB
 go_wp2_with fail
 have hC : RX clauE (fun b => w.heap.size ≤ b) (fun b => w.heap.size ≤ b) (w16.alloc (.cells #[.int .i64 5, .int .i64 0, .string ⟨#[]⟩, .slice none 0 0, .int .i64 4, .int .i64 0, .string ⟨#[]⟩, .slice (some ⟨g7, 0, none⟩) 2 2, .slice (some ⟨g21, 0, none⟩) 1 1, .int .i64 5, .int .i64 0, .string ⟨#[]⟩, .slice none 0 0] 132)) [smClau] (.slice (some ⟨w16.heap.size, 0, none⟩) 1 1) :=
  (RX.lit1 (E := clauE) (x := smClau) ⟨none, 0, some ⟨g7, 0, none⟩, 2, some ⟨g21, 0, none⟩, 1, none, 0, rfl, vT_rt _ _ 0, HM_16.out, HD_16.out, vT_rt _ _ 0⟩ _ rfl).mono (fun b hb => by omega) fun _ h => h
 have hBe : RX behvE (fun b => w.heap.size ≤ b) (fun b => w.heap.size ≤ b) ((w16.alloc (.cells #[.int .i64 5, .int .i64 0, .string ⟨#[]⟩, .slice none 0 0, .int .i64 4, .int .i64 0, .string ⟨#[]⟩, .slice (some ⟨g7, 0, none⟩) 2 2, .slice (some ⟨g21, 0, none⟩) 1 1, .int .i64 5, .int .i64 0, .string ⟨#[]⟩, .slice none 0 0] 132)).alloc (.cells #[.string sRelay, .slice (some ⟨w16.heap.size, 0, none⟩) 1 1] 127)) [smBehv] (.slice (some ⟨w16.heap.size + 1, 0, none⟩) 1 1) :=
  (RX.lit1 (E := behvE) (x := smBehv) ⟨some ⟨w16.heap.size, 0, none⟩, 1, rfl, hC⟩ _ (by simp)).mono (fun b hb => by omega) fun _ h => h
 have hBB : Below w.heap.size w ((w16.alloc (.cells #[.int .i64 5, .int .i64 0, .string ⟨#[]⟩, .slice none 0 0, .int .i64 4, .int .i64 0, .string ⟨#[]⟩, .slice (some ⟨g7, 0, none⟩) 2 2, .slice (some ⟨g21, 0, none⟩) 1 1, .int .i64 5, .int .i64 0, .string ⟨#[]⟩, .slice none 0 0] 132)).alloc (.cells #[.string sRelay, .slice (some ⟨w16.heap.size, 0, none⟩) 1 1] 127)) := (HB16.out.alloc hs16 _).alloc (by simp; omega) _
 go_ret
 exact ⟨_, rfl, hBB, hBe⟩
end Go.Proofs.Ytedfepnekjjmnab
