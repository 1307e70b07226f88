/-
  clerkref.behaviour: the behaviour that a term tells. No condition but a bound.
-/
import Derived.Test.YtedfepnekjjmnaaJc
import Derived.Test.YtedfepnekjjmnaaClause
import Derived.Test.YtedfepnekjjmnaaJh
namespace Go.Proofs.Ytedfepnekjjmnaa
open Go.RowKit
set_option linter.unusedSimpArgs false
set_option linter.unusedVariables false
set_option maxRecDepth 100000

/-- What a term tells, some of it in old memory. -/
def TellS {X : Type} (S : Nat → Prop) (E : El X) (f : T → Option X) (w : World) (t : T) (e : Ending) (w' : World) : Prop :=
  ∃ (x : X) (cs : List Value), e = .returned (.tuple #[.agg cs.toArray, .bool (f t).isSome]) ∧ Below w.heap.size w w' ∧ E.C (fun b => S b ∨ w.heap.size ≤ b) w' x cs ∧ ∀ x', f t = some x' → x' = x
theorem TellS.none {X : Type} {S : Nat → Prop} {E : El X} {f : T → Option X} {w w' : World} {t : T} {e : Ending} (h : f t = Option.none) (x : X) (cs : List Value) (he : e = .returned (.tuple #[.agg cs.toArray, .bool false])) (hB : Below w.heap.size w w') (hC : E.C (fun b => S b ∨ w.heap.size ≤ b) w' x cs) : TellS S E f w t e w' :=
  ⟨x, cs, by rw [h]; exact he, hB, hC, fun d' h' => by rw [h] at h'; cases h'⟩
theorem El.mono {X : Type} (E : El X) {S S' : Nat → Prop} {w w' : World} {x : X} {cs : List Value} (h : E.C S w x cs) (hB : Below w.heap.size w w') (hs : ∀ b, S b → b < w.heap.size → S' b) : E.C S' w' x cs := E.to h hs fun b _ hb => hB.block b hb

set_option maxHeartbeats 8000000 in
theorem rbeh_short (t : T) (S : Nat → Prop) (w : World) (v : Value) (hv : RT S w t v) (hS : ∀ b, S b → b < w.heap.size) (hb : bulkL [t] ≤ 137438953472) (h3 : t.args.length < 3) : Calls Try.prog 77 #[v] w (TellS S behvE behvO w t) := by
  obtain ⟨a, cap, rfl, hc, hr⟩ := hv
  have HV : Hid (RT S w t _) := Lib.hid ⟨a, cap, rfl, hc, hr⟩
  have HS := Lib.hid hS
  have hba := bulk_args t
  have hla := length_le_bulk t.args
  clear hr hc hS
  have HO := Lib.hid (behv_short t h3)
  have h3' : (t.args.length : Int) < 3 := by omega
  clear h3
  go_enter Try.func77, Try.ntmps77
  go_upto_region 3 with fail
  obtain ⟨W0, hW0⟩ : ∃ W : World, W = ((w.alloc (.cells #[.int .i64 t.kind, .int .i64 t.n, .string t.name, .slice a t.args.length cap] 29)).alloc (.cells #[.string ⟨#[]⟩, .slice none 0 0] 115)).alloc (.cells #[.string ⟨#[]⟩, .slice none 0 0] 115) := ⟨_, rfl⟩
  have HV0 : Hid (RT S W0 t (.agg #[.int .i64 t.kind, .int .i64 t.n, .string t.name, .slice a t.args.length cap])) := Lib.hid (by rw [hW0]; exact ((HV.out.alloc _).alloc _).alloc _)
  have HX : Hid (Blk W0 w.heap.size [.int .i64 t.kind, .int .i64 t.n, .string t.name, .slice a t.args.length cap]) := Lib.hid (by rw [hW0]; exact ((Blk.new _ _ _ _ rfl).alloc _).alloc _)
  have HZ : Hid (Blk W0 (w.heap.size + 1) [.string ⟨#[]⟩, .slice none 0 0]) := Lib.hid (by rw [hW0]; exact (Blk.new _ _ _ _ (by simp)).alloc _)
  have H4 : Hid (Blk W0 (w.heap.size + 1 + 1) [.string ⟨#[]⟩, .slice none 0 0]) := Lib.hid (by rw [hW0]; exact Blk.new _ _ _ _ (by simp))
  have HB0 : Hid (Below w.heap.size w W0) := Lib.hid (by rw [hW0]; exact ((below_alloc _ _).trans ((below_alloc _ _).mono (by simp))).trans ((below_alloc _ _).mono (by simp <;> omega)))
  have hs0 : w.heap.size + 3 ≤ W0.heap.size := by rw [hW0]; simp
  rw [← hW0]
  clear hW0 HV
  obtain ⟨x0, x1, x2, x3⟩ : Box W0 w.heap.size _ _ _ _ := ⟨HX.out.cell 0 _ rfl, HX.out.cell 1 _ rfl, HX.out.cell 2 _ rfl, HX.out.cell 3 _ rfl⟩
  go_wp2_with (first | (refine load_blk 115 2 szBeh _ Try.underlying115 rfl _ rfl rfl rfl (H4.out) rfl ?_) | (refine store_blk 115 2 szBeh _ _ rfl rfl rfl rfl rfl (HZ.out) rfl rfl rfl ?_; intro W' hF hs' hBW hoth; have HF := Lib.hid hF; have HFB := Lib.hid (hBW _ _ (by omega) (HB0.out)); have HOTH := Lib.hid hoth; clear hF hBW hoth))
  refine bodyPost_ret (results_blk Try.results77 szBeh _ Try.underlying115 rfl rfl HF.out rfl) rfl (TellS.none HO.out zeroBehv [.string ⟨#[]⟩, .slice none 0 0] rfl HFB.out ⟨none, 0, rfl, RX.nil _ _ _⟩)

set_option maxHeartbeats 8000000 in
theorem rbeh_none (t : T) (S : Nat → Prop) (w : World) (v : Value) (hv : RT S w t v) (hS : ∀ b, S b → b < w.heap.size) (hb : bulkL [t] ≤ 137438953472) (h3 : 3 ≤ t.args.length) (hi : isT t sBeh ((t.args.length : Int) - 1) = false) (hn : behvO t = none) : Calls Try.prog 77 #[v] w (TellS S behvE behvO w t) := by
  obtain ⟨a, cap, rfl, hc, hr⟩ := hv
  have HV : Hid (RT S w t _) := Lib.hid ⟨a, cap, rfl, hc, hr⟩
  have HS := Lib.hid hS
  have hba := bulk_args t
  have hla := length_le_bulk t.args
  clear hr hc hS
  have HO := Lib.hid hn
  clear hn
  have HIS := Lib.hid hi
  have h3' : ¬ (t.args.length : Int) < 3 := by omega
  clear hi
  go_enter Try.func77, Try.ntmps77
  go_wp2_with fail
  obtain ⟨W0, hW0⟩ : ∃ W : World, W = ((w.alloc (.cells #[.int .i64 t.kind, .int .i64 t.n, .string t.name, .slice a t.args.length cap] 29)).alloc (.cells #[.string ⟨#[]⟩, .slice none 0 0] 115)).alloc (.cells #[.string ⟨#[]⟩, .slice none 0 0] 115) := ⟨_, rfl⟩
  have HV0 : Hid (RT S W0 t (.agg #[.int .i64 t.kind, .int .i64 t.n, .string t.name, .slice a t.args.length cap])) := Lib.hid (by rw [hW0]; exact ((HV.out.alloc _).alloc _).alloc _)
  have HX : Hid (Blk W0 w.heap.size [.int .i64 t.kind, .int .i64 t.n, .string t.name, .slice a t.args.length cap]) := Lib.hid (by rw [hW0]; exact ((Blk.new _ _ _ _ rfl).alloc _).alloc _)
  have HZ : Hid (Blk W0 (w.heap.size + 1) [.string ⟨#[]⟩, .slice none 0 0]) := Lib.hid (by rw [hW0]; exact (Blk.new _ _ _ _ (by simp)).alloc _)
  have H4 : Hid (Blk W0 (w.heap.size + 1 + 1) [.string ⟨#[]⟩, .slice none 0 0]) := Lib.hid (by rw [hW0]; exact Blk.new _ _ _ _ (by simp))
  have HB0 : Hid (Below w.heap.size w W0) := Lib.hid (by rw [hW0]; exact ((below_alloc _ _).trans ((below_alloc _ _).mono (by simp))).trans ((below_alloc _ _).mono (by simp <;> omega)))
  have hs0 : w.heap.size + 3 ≤ W0.heap.size := by rw [hW0]; simp
  rw [← hW0]
  clear hW0 HV
  refine (is_Is t sBeh _ _ _ _ HV0.out (by omega) (by omega) (by omega)).mono ?_
  rintro e W1 ⟨he, hB⟩
  rw [HIS.out] at he
  subst he
  have hs1 := hB.size
  have HB1 := Lib.hid hB
  obtain ⟨x0, x1, x2, x3⟩ : Box W1 w.heap.size _ _ _ _ := ⟨(HX.out.step hB).cell 0 _ rfl, (HX.out.step hB).cell 1 _ rfl, (HX.out.step hB).cell 2 _ rfl, (HX.out.step hB).cell 3 _ rfl⟩
  clear hB
  go_wp2_with (first | (refine load_blk 115 2 szBeh _ Try.underlying115 rfl _ rfl rfl rfl (H4.out.step HB1.out) rfl ?_) | (refine store_blk 115 2 szBeh _ _ rfl rfl rfl rfl rfl (HZ.out.step HB1.out) rfl rfl rfl ?_; intro W' hF hs' hBW hoth; have HF := Lib.hid hF; have HFB := Lib.hid (hBW _ _ (by omega) (HB0.out.trans (HB1.out.mono (by omega)))); have HOTH := Lib.hid hoth; clear hF hBW hoth))
  refine bodyPost_ret (results_blk Try.results77 szBeh _ Try.underlying115 rfl rfl HF.out rfl) rfl (TellS.none HO.out zeroBehv [.string ⟨#[]⟩, .slice none 0 0] rfl HFB.out ⟨none, 0, rfl, RX.nil _ _ _⟩)

set_option maxHeartbeats 8000000 in
theorem rbeh_kind (t : T) (S : Nat → Prop) (w : World) (v : Value) (hv : RT S w t v) (hS : ∀ b, S b → b < w.heap.size) (hb : bulkL [t] ≤ 137438953472) (hd x y : T) (r : List T) (h3 : 3 ≤ t.args.length) (ha : t.args = hd :: x :: y :: r) (hi : isT t sBeh ((t.args.length : Int) - 1) = true) (hk : (x.kind != 2) = true) (hn : behvO t = none) : Calls Try.prog 77 #[v] w (TellS S behvE behvO w t) := by
  obtain ⟨a, cap, rfl, hc, hr⟩ := hv
  have HV : Hid (RT S w t _) := Lib.hid ⟨a, cap, rfl, hc, hr⟩
  have HS := Lib.hid hS
  have hba := bulk_args t
  have hla := length_le_bulk t.args
  clear hr hc hS
  have HO := Lib.hid hn
  have HAR := Lib.hid ha
  clear hn ha
  have HIS := Lib.hid hi
  have h3' : ¬ (t.args.length : Int) < 3 := by omega
  clear hi
  go_enter Try.func77, Try.ntmps77
  go_wp2_with fail
  obtain ⟨W0, hW0⟩ : ∃ W : World, W = ((w.alloc (.cells #[.int .i64 t.kind, .int .i64 t.n, .string t.name, .slice a t.args.length cap] 29)).alloc (.cells #[.string ⟨#[]⟩, .slice none 0 0] 115)).alloc (.cells #[.string ⟨#[]⟩, .slice none 0 0] 115) := ⟨_, rfl⟩
  have HV0 : Hid (RT S W0 t (.agg #[.int .i64 t.kind, .int .i64 t.n, .string t.name, .slice a t.args.length cap])) := Lib.hid (by rw [hW0]; exact ((HV.out.alloc _).alloc _).alloc _)
  have HX : Hid (Blk W0 w.heap.size [.int .i64 t.kind, .int .i64 t.n, .string t.name, .slice a t.args.length cap]) := Lib.hid (by rw [hW0]; exact ((Blk.new _ _ _ _ rfl).alloc _).alloc _)
  have HZ : Hid (Blk W0 (w.heap.size + 1) [.string ⟨#[]⟩, .slice none 0 0]) := Lib.hid (by rw [hW0]; exact (Blk.new _ _ _ _ (by simp)).alloc _)
  have H4 : Hid (Blk W0 (w.heap.size + 1 + 1) [.string ⟨#[]⟩, .slice none 0 0]) := Lib.hid (by rw [hW0]; exact Blk.new _ _ _ _ (by simp))
  have HB0 : Hid (Below w.heap.size w W0) := Lib.hid (by rw [hW0]; exact ((below_alloc _ _).trans ((below_alloc _ _).mono (by simp))).trans ((below_alloc _ _).mono (by simp <;> omega)))
  have hs0 : w.heap.size + 3 ≤ W0.heap.size := by rw [hW0]; simp
  rw [← hW0]
  clear hW0 HV
  refine (is_Is t sBeh _ _ _ _ HV0.out (by omega) (by omega) (by omega)).mono ?_
  rintro e W1 ⟨he, hB⟩
  rw [HIS.out] at he
  subst he
  have hs1 := hB.size
  have HB1 := Lib.hid hB
  obtain ⟨x0, x1, x2, x3⟩ : Box W1 w.heap.size _ _ _ _ := ⟨(HX.out.step hB).cell 0 _ rfl, (HX.out.step hB).cell 1 _ rfl, (HX.out.step hB).cell 2 _ rfl, (HX.out.step hB).cell 3 _ rfl⟩
  clear hB
  have hl1 : (1 : Int) < t.args.length := by omega
  have hlen := Lib.hid (show t.args.length = r.length + 1 + 1 + 1 by rw [HAR.out]; rfl)
  obtain ⟨hca, hra⟩ := HV0.out.rts
  rw [HAR.out] at hra
  obtain ⟨ba, oa, rfl⟩ := hra.addr (by simp)
  obtain ⟨ax, px, hsx, y0, y1, y2, y3, hrx⟩ := (hra.below HB1.out).elem 1 (by simp)
  simp only [Nat.one_mul, List.getElem_cons_zero, List.getElem_cons_succ] at y0 y1 y2 y3 hrx
  have HRA := Lib.hid hra
  clear hra hrx hca
  go_wp2_with (first | (refine load_blk 115 2 szBeh _ Try.underlying115 rfl _ rfl rfl rfl (H4.out.step HB1.out) rfl ?_) | (refine store_blk 115 2 szBeh _ _ rfl rfl rfl rfl rfl (HZ.out.step HB1.out) rfl rfl rfl ?_; intro W' hF hs' hBW hoth; have HF := Lib.hid hF; have HFB := Lib.hid (hBW _ _ (by omega) (HB0.out.trans (HB1.out.mono (by omega)))); have HOTH := Lib.hid hoth; clear hF hBW hoth))
  refine bodyPost_ret (results_blk Try.results77 szBeh _ Try.underlying115 rfl rfl HF.out rfl) rfl (TellS.none HO.out zeroBehv [.string ⟨#[]⟩, .slice none 0 0] rfl HFB.out ⟨none, 0, rfl, RX.nil _ _ _⟩)

set_option maxHeartbeats 8000000 in
theorem rbeh_main (t : T) (S : Nat → Prop) (w : World) (v : Value) (hv : RT S w t v) (hS : ∀ b, S b → b < w.heap.size) (hb : bulkL [t] ≤ 137438953472) (hd x y : T) (r : List T) (h3 : 3 ≤ t.args.length) (ha : t.args = hd :: x :: y :: r) (hi : isT t sBeh ((t.args.length : Int) - 1) = true) (hk : (x.kind != 2) = false) (hn : behvO t = (mapO clauO (y :: r)).map fun l => ⟨x.name, l⟩) : Calls Try.prog 77 #[v] w (TellS S behvE behvO w t) := by
  obtain ⟨a, cap, rfl, hc, hr⟩ := hv
  have HV : Hid (RT S w t _) := Lib.hid ⟨a, cap, rfl, hc, hr⟩
  have HS := Lib.hid hS
  have hba := bulk_args t
  have hla := length_le_bulk t.args
  clear hr hc hS
  have HO0 := Lib.hid hn
  have HAR := Lib.hid ha
  clear hn ha
  have HIS := Lib.hid hi
  have h3' : ¬ (t.args.length : Int) < 3 := by omega
  clear hi
  go_enter Try.func77, Try.ntmps77
  go_wp2_with fail
  obtain ⟨W0, hW0⟩ : ∃ W : World, W = ((w.alloc (.cells #[.int .i64 t.kind, .int .i64 t.n, .string t.name, .slice a t.args.length cap] 29)).alloc (.cells #[.string ⟨#[]⟩, .slice none 0 0] 115)).alloc (.cells #[.string ⟨#[]⟩, .slice none 0 0] 115) := ⟨_, rfl⟩
  have HV0 : Hid (RT S W0 t (.agg #[.int .i64 t.kind, .int .i64 t.n, .string t.name, .slice a t.args.length cap])) := Lib.hid (by rw [hW0]; exact ((HV.out.alloc _).alloc _).alloc _)
  have HX : Hid (Blk W0 w.heap.size [.int .i64 t.kind, .int .i64 t.n, .string t.name, .slice a t.args.length cap]) := Lib.hid (by rw [hW0]; exact ((Blk.new _ _ _ _ rfl).alloc _).alloc _)
  have HZ : Hid (Blk W0 (w.heap.size + 1) [.string ⟨#[]⟩, .slice none 0 0]) := Lib.hid (by rw [hW0]; exact (Blk.new _ _ _ _ (by simp)).alloc _)
  have H4 : Hid (Blk W0 (w.heap.size + 1 + 1) [.string ⟨#[]⟩, .slice none 0 0]) := Lib.hid (by rw [hW0]; exact Blk.new _ _ _ _ (by simp))
  have HB0 : Hid (Below w.heap.size w W0) := Lib.hid (by rw [hW0]; exact ((below_alloc _ _).trans ((below_alloc _ _).mono (by simp))).trans ((below_alloc _ _).mono (by simp <;> omega)))
  have hs0 : w.heap.size + 3 ≤ W0.heap.size := by rw [hW0]; simp
  rw [← hW0]
  clear hW0 HV
  refine (is_Is t sBeh _ _ _ _ HV0.out (by omega) (by omega) (by omega)).mono ?_
  rintro e W1 ⟨he, hB⟩
  rw [HIS.out] at he
  subst he
  have hs1 := hB.size
  have HB1 := Lib.hid hB
  obtain ⟨x0, x1, x2, x3⟩ : Box W1 w.heap.size _ _ _ _ := ⟨(HX.out.step hB).cell 0 _ rfl, (HX.out.step hB).cell 1 _ rfl, (HX.out.step hB).cell 2 _ rfl, (HX.out.step hB).cell 3 _ rfl⟩
  clear hB
  have hl1 : (1 : Int) < t.args.length := by omega
  have hlen := Lib.hid (show t.args.length = r.length + 1 + 1 + 1 by rw [HAR.out]; rfl)
  obtain ⟨hca, hra⟩ := HV0.out.rts
  rw [HAR.out] at hra
  obtain ⟨ba, oa, rfl⟩ := hra.addr (by simp)
  obtain ⟨ax, px, hsx, y0, y1, y2, y3, hrx⟩ := (hra.below HB1.out).elem 1 (by simp)
  simp only [Nat.one_mul, List.getElem_cons_zero, List.getElem_cons_succ] at y0 y1 y2 y3 hrx
  have HRA := Lib.hid hra
  clear hra hrx hca
  obtain ⟨z0, z1⟩ : W1.cell? ⟨w.heap.size + 1 + 1, 0, none⟩ = some (.string ⟨#[]⟩) ∧ W1.cell? ⟨w.heap.size + 1 + 1, 1, none⟩ = some (.slice none 0 0) := ⟨(H4.out.step HB1.out).cell 0 _ rfl, (H4.out.step HB1.out).cell 1 _ rfl⟩
  have zf := (H4.out.step HB1.out).fr
  have zl := (H4.out.step HB1.out).lt
  have hly := length_le_bulk (y :: r)
  have hbl : bulkL (hd :: x :: y :: r) = bulkL [hd] + (bulkL [x] + bulkL (y :: r)) := by rw [show bulkL (hd :: x :: y :: r) = bulkL [hd] + bulkL (x :: y :: r) from bulkL_append [hd] (x :: y :: r), show bulkL (x :: y :: r) = bulkL [x] + bulkL (y :: r) from bulkL_append [x] (y :: r)]
  rw [← HAR.out] at hbl
  go_upto_region 6 with fail
  obtain ⟨W2, hW2⟩ : ∃ W : World, W = W1.setCell ⟨w.heap.size + 1 + 1, 0, none⟩ (.string x.name) := ⟨_, rfl⟩
  rw [← hW2]
  have HG4 : Hid (Blk W2 (w.heap.size + 1 + 1) [.string x.name, .slice none 0 0]) := Lib.hid (by rw [hW2]; exact (H4.out.step HB1.out).set 0 _ (by simp))
  have HK2 : Hid (Keep (fun b => b = w.heap.size + 1 + 1) W1 W2) := Lib.hid (by rw [hW2]; exact (Keep.refl _ _).setCell _ (.inl rfl))
  have hs2 := HK2.out.size
  clear hW2 z0 z1 zf zl x0 x1 x2 x3 y0 y1 y2 y3
  have HX2 := Lib.hid ((HX.out.step HB1.out).keep HK2.out (by omega))
  have HZ2 := Lib.hid ((HZ.out.step HB1.out).keep HK2.out (by omega))
  have HRA2 := Lib.hid ((HRA.out.below HB1.out).keep HK2.out (fun b hb => by have := HS.out b hb; omega))
  have HB2 : Hid (Below w.heap.size w W2) := Lib.hid ((HB0.out.trans (HB1.out.mono (by omega))).trans (HK2.out.below (by omega) (fun b hb => by omega)))
  clear HX HZ H4 HB0 HV0 HB1 HK2 HRA
  have hl4 : (w.heap.size + 1 + 1) < W2.heap.size := HG4.out.lt
  go_wp2_with fail
  go_loopw [6] (fun i wr => ∃ (k : Nat) (cs : List Clau) (row : Value), k ≤ (y :: r).length ∧ i = .int .i64 ((k : Int) + 2) ∧ mapO clauO ((y :: r).take k) = some cs ∧ OwnXG clauE clauF.e (fun b => S b ∨ W2.heap.size ≤ b) W2.heap.size wr row cs ∧ Keep (fun b => b = w.heap.size + 1 + 1) W2 wr ∧ Blk wr (w.heap.size + 1 + 1) [.string x.name, row]) (fun i _ => (y :: r).length + 2 - (intOf i).toNat)
  case atStart => exact ⟨0, [], _, Nat.zero_le _, by go_num, rfl, OwnXG.nil _ _ _ _, Keep.refl _ _, HG4.out⟩
  case round =>
    obtain ⟨k, cs, row, hkl, rfl, hm, hO, hK, hGr⟩ := hrel
    have hsz := hK.size
    have hml := mapO_length hm
    have hnl : cs.length ≤ k := by rw [hml]; simp; omega
    obtain ⟨ar, capr, rfl, hcr⟩ := hO.form
    obtain ⟨u, hu⟩ : ∃ u, u = (y :: r).getD k zeroT := ⟨_, rfl⟩
    obtain ⟨L, hL⟩ : ∃ L, L = y :: r := ⟨_, rfl⟩
    have hLl : L.length = r.length + 1 := by rw [hL]; rfl
    have hlL := length_le_bulk L
    rw [← hL] at hkl hm hu
    have HM := Lib.hid hm
    have HO := Lib.hid hO
    have HK := Lib.hid hK
    have HGR := Lib.hid hGr
    have HXr := Lib.hid (HX2.out.keep hK (by omega))
    have HZr := Lib.hid (HZ2.out.keep hK (by omega))
    have HBr : Hid (Below w.heap.size w wr) := Lib.hid (HB2.out.trans (hK.below (by omega) fun b e => by omega))
    have HBO : Hid (behvO t = (mapO clauO L).map fun l => ⟨x.name, l⟩) := Lib.hid (by rw [hL]; exact HO0.out)
    have HRAr := Lib.hid (HRA2.out.keep hK (fun b hb => by have := HS.out b hb; omega))
    have hmeas : (y :: r).length + 2 = L.length + 2 := by rw [hL]
    rw [← hL] at HRAr hbl
    obtain ⟨x0, x1, x2, x3⟩ : Box wr w.heap.size _ _ _ _ := ⟨HXr.out.cell 0 _ rfl, HXr.out.cell 1 _ rfl, HXr.out.cell 2 _ rfl, HXr.out.cell 3 _ rfl⟩
    have HLE := Lib.hid hL
    have HHM := Lib.hid hmeas
    clear hm hO hK hGr hml hL hcr hmeas
    by_cases hlt : k < L.length
    · have huk : L[k] = u := by rw [hu, List.getD_eq_getElem?_getD, List.getElem?_eq_getElem hlt]; rfl
      obtain ⟨au, pu, hsu, u0, u1, u2, u3, hE⟩ := HRAr.out.elem (k + 2) (by simp; omega)
      simp only [List.getElem_cons_succ, huk] at u0 u1 u2 u3 hE
      have hbk := bulk_at hlt
      rw [huk] at hbk
      have hbu := bulk_args u
      have HE := Lib.hid hE
      have HUK := Lib.hid huk
      clear huk hu hE
      have hik : (k : Int) + 2 < t.args.length := by have := hlen.out; omega
      have hik0 : (0 : Int) ≤ (k : Int) + 2 := by omega
      rcases clau_cases u with ⟨hi, hn⟩ | ⟨hd', p, q, m, n, hua, hi, hkm, hn⟩ | ⟨hd', p, q, m, n, hua, hi, hkm, hn⟩
      · skip
        have HIU := Lib.hid hi
        clear hi
        have hBx := below_alloc wr (.cells #[.int .i64 u.kind, .int .i64 u.n, .string u.name, .slice au u.args.length pu] 29)
        have HX7a := Lib.hid (Box.new wr (.int .i64 u.kind) (.int .i64 u.n) (.string u.name) (.slice au u.args.length pu) 29)
        have HBx := Lib.hid hBx
        clear hBx
        go_wp2_with fail
        refine (is_Is u sOn _ _ _ _ (HE.out.alloc _) (by omega) (by omega) (by omega)).mono ?_
        rintro e w5 ⟨he, hB⟩
        rw [HIU.out] at he
        subst he
        have hs5 := hB.size
        simp only [World.size_alloc] at hs5
        have HB5 : Hid (Below wr.heap.size wr w5) := Lib.hid (below_step HBx.out (by simp) hB)
        obtain ⟨x70, x71, x72, x73⟩ := HX7a.out.step hB
        clear hB x0 x1 x2 x3 u0 u1 u2 u3
        have HNN : Hid (behvO t = none) := Lib.hid (by rw [HBO.out, mapO_bad hlt (by rw [HUK.out]; exact hn)]; rfl)
        go_wp2_with (first | (refine load_blk 115 2 szBeh _ Try.underlying115 rfl _ rfl rfl rfl (HGR.out.step HB5.out) rfl ?_) | (refine store_blk 115 2 szBeh _ _ rfl rfl rfl rfl rfl (HZr.out.step HB5.out) rfl rfl rfl ?_; intro W' hF hs' hBW hoth; have HF := Lib.hid hF; have HFB := Lib.hid (hBW _ _ (by omega) (HBr.out.trans ((HB5.out).mono (by omega)))); have HOTH := Lib.hid hoth; clear hF hBW hoth))
        refine bodyPost_ret (results_blk Try.results77 szBeh _ Try.underlying115 rfl rfl HF.out rfl) rfl (TellS.none HNN.out ⟨x.name, cs⟩ [.string x.name, .slice ar cs.length capr] rfl HFB.out ⟨ar, capr, rfl, ?_⟩)
        exact ((HO.out.below HB5.out).rx (fun b hb => .inr hb)).to (fun b hb _ => by rcases hb with hb | hb; exact .inl hb; exact .inr (by omega)) (fun b hb _ => by rcases hb with hb | hb; exact .inl hb; exact .inr (by omega)) fun b hb hl => HOTH.out b (fun e => by rcases hb with (hb | hb) | (hb | hb) <;> first | omega | (have := HS.out b hb; omega))
      · skip
        have HUA := Lib.hid hua
        have hn5 : u.args.length = 5 := by rw [hua]; rfl
        have hu1 : (1 : Int) < u.args.length := by omega
        have hu2 : (2 : Int) < u.args.length := by omega
        have hu3 : (3 : Int) < u.args.length := by omega
        have hu4 : (4 : Int) < u.args.length := by omega
        have HN5 := Lib.hid hn5
        clear hua hn5
        obtain ⟨hcu, hru⟩ := HE.out.rts
        rw [HUA.out] at hru
        obtain ⟨bu, ou, rfl⟩ := hru.addr (by simp)
        obtain ⟨am, pm, hsm, m0, m1, m2, m3, hrm⟩ := hru.elem 3 (by simp)
        simp only [Nat.zero_mul, Nat.one_mul, Nat.add_zero, Nat.reduceMul, Nat.add_assoc, Nat.reduceAdd, List.getElem_cons_zero, List.getElem_cons_succ] at m0 m1 m2 m3 hrm
        have HRm := Lib.hid hrm
        clear hrm
        have HIU := Lib.hid hi
        clear hi
        have hBx := below_alloc wr (.cells #[.int .i64 u.kind, .int .i64 u.n, .string u.name, .slice (some ⟨bu, ou, none⟩) u.args.length pu] 29)
        have HX7a := Lib.hid (Box.new wr (.int .i64 u.kind) (.int .i64 u.n) (.string u.name) (.slice (some ⟨bu, ou, none⟩) u.args.length pu) 29)
        have HBx := Lib.hid hBx
        clear hBx
        go_wp2_with fail
        refine (is_Is u sOn _ _ _ _ (HE.out.alloc _) (by omega) (by omega) (by omega)).mono ?_
        rintro e w5 ⟨he, hB⟩
        rw [HIU.out] at he
        subst he
        have hs5 := hB.size
        simp only [World.size_alloc] at hs5
        have HB5 : Hid (Below wr.heap.size wr w5) := Lib.hid (below_step HBx.out (by simp) hB)
        obtain ⟨x70, x71, x72, x73⟩ := HX7a.out.step hB
        clear hB x0 x1 x2 x3 u0 u1 u2 u3
        have hbu' : bu < wr.heap.size := World.block_lt_of_cell? _ _ m0
        have m05 := (HB5.out.cell (p := ⟨bu, ou + 12, none⟩) hbu').trans m0
        clear m0 m1 m2 m3
        have HNN : Hid (behvO t = none) := Lib.hid (by rw [HBO.out, mapO_bad hlt (by rw [HUK.out]; exact hn)]; rfl)
        go_wp2_with (first | (refine load_blk 115 2 szBeh _ Try.underlying115 rfl _ rfl rfl rfl (HGR.out.step HB5.out) rfl ?_) | (refine store_blk 115 2 szBeh _ _ rfl rfl rfl rfl rfl (HZr.out.step HB5.out) rfl rfl rfl ?_; intro W' hF hs' hBW hoth; have HF := Lib.hid hF; have HFB := Lib.hid (hBW _ _ (by omega) (HBr.out.trans ((HB5.out).mono (by omega)))); have HOTH := Lib.hid hoth; clear hF hBW hoth))
        refine bodyPost_ret (results_blk Try.results77 szBeh _ Try.underlying115 rfl rfl HF.out rfl) rfl (TellS.none HNN.out ⟨x.name, cs⟩ [.string x.name, .slice ar cs.length capr] rfl HFB.out ⟨ar, capr, rfl, ?_⟩)
        exact ((HO.out.below HB5.out).rx (fun b hb => .inr hb)).to (fun b hb _ => by rcases hb with hb | hb; exact .inl hb; exact .inr (by omega)) (fun b hb _ => by rcases hb with hb | hb; exact .inl hb; exact .inr (by omega)) fun b hb hl => HOTH.out b (fun e => by rcases hb with (hb | hb) | (hb | hb) <;> first | omega | (have := HS.out b hb; omega))
      · skip
        have HUA := Lib.hid hua
        have hn5 : u.args.length = 5 := by rw [hua]; rfl
        have hu1 : (1 : Int) < u.args.length := by omega
        have hu2 : (2 : Int) < u.args.length := by omega
        have hu3 : (3 : Int) < u.args.length := by omega
        have hu4 : (4 : Int) < u.args.length := by omega
        have HN5 := Lib.hid hn5
        clear hua hn5
        obtain ⟨hcu, hru⟩ := HE.out.rts
        rw [HUA.out] at hru
        obtain ⟨bu, ou, rfl⟩ := hru.addr (by simp)
        obtain ⟨ap, pp, hsp, p0, p1, p2, p3, hrp⟩ := hru.elem 1 (by simp)
        simp only [Nat.zero_mul, Nat.one_mul, Nat.add_zero, Nat.reduceMul, Nat.add_assoc, Nat.reduceAdd, List.getElem_cons_zero, List.getElem_cons_succ] at p0 p1 p2 p3 hrp
        have HRp := Lib.hid hrp
        clear hrp
        obtain ⟨aq, pq, hsq, q0, q1, q2, q3, hrq⟩ := hru.elem 2 (by simp)
        simp only [Nat.zero_mul, Nat.one_mul, Nat.add_zero, Nat.reduceMul, Nat.add_assoc, Nat.reduceAdd, List.getElem_cons_zero, List.getElem_cons_succ] at q0 q1 q2 q3 hrq
        have HRq := Lib.hid hrq
        clear hrq
        obtain ⟨am, pm, hsm, m0, m1, m2, m3, hrm⟩ := hru.elem 3 (by simp)
        simp only [Nat.zero_mul, Nat.one_mul, Nat.add_zero, Nat.reduceMul, Nat.add_assoc, Nat.reduceAdd, List.getElem_cons_zero, List.getElem_cons_succ] at m0 m1 m2 m3 hrm
        have HRm := Lib.hid hrm
        clear hrm
        obtain ⟨an, pn, hsn, n0, n1, n2, n3, hrn⟩ := hru.elem 4 (by simp)
        simp only [Nat.zero_mul, Nat.one_mul, Nat.add_zero, Nat.reduceMul, Nat.add_assoc, Nat.reduceAdd, List.getElem_cons_zero, List.getElem_cons_succ] at n0 n1 n2 n3 hrn
        have HRn := Lib.hid hrn
        clear hrn
        have HIU := Lib.hid hi
        clear hi
        have hBx := below_alloc wr (.cells #[.int .i64 u.kind, .int .i64 u.n, .string u.name, .slice (some ⟨bu, ou, none⟩) u.args.length pu] 29)
        have HX7a := Lib.hid (Box.new wr (.int .i64 u.kind) (.int .i64 u.n) (.string u.name) (.slice (some ⟨bu, ou, none⟩) u.args.length pu) 29)
        have HBx := Lib.hid hBx
        clear hBx
        go_wp2_with fail
        refine (is_Is u sOn _ _ _ _ (HE.out.alloc _) (by omega) (by omega) (by omega)).mono ?_
        rintro e w5 ⟨he, hB⟩
        rw [HIU.out] at he
        subst he
        have hs5 := hB.size
        simp only [World.size_alloc] at hs5
        have HB5 : Hid (Below wr.heap.size wr w5) := Lib.hid (below_step HBx.out (by simp) hB)
        obtain ⟨x70, x71, x72, x73⟩ := HX7a.out.step hB
        clear hB x0 x1 x2 x3 u0 u1 u2 u3
        have hbu' : bu < wr.heap.size := World.block_lt_of_cell? _ _ m0
        have p05 := (HB5.out.cell (p := ⟨bu, ou + 4, none⟩) hbu').trans p0
        have p15 := (HB5.out.cell (p := ⟨bu, ou + 5, none⟩) hbu').trans p1
        have p25 := (HB5.out.cell (p := ⟨bu, ou + 6, none⟩) hbu').trans p2
        have p35 := (HB5.out.cell (p := ⟨bu, ou + 7, none⟩) hbu').trans p3
        have q05 := (HB5.out.cell (p := ⟨bu, ou + 8, none⟩) hbu').trans q0
        have q15 := (HB5.out.cell (p := ⟨bu, ou + 9, none⟩) hbu').trans q1
        have q25 := (HB5.out.cell (p := ⟨bu, ou + 10, none⟩) hbu').trans q2
        have q35 := (HB5.out.cell (p := ⟨bu, ou + 11, none⟩) hbu').trans q3
        have n05 := (HB5.out.cell (p := ⟨bu, ou + 16, none⟩) hbu').trans n0
        have n15 := (HB5.out.cell (p := ⟨bu, ou + 17, none⟩) hbu').trans n1
        have n25 := (HB5.out.cell (p := ⟨bu, ou + 18, none⟩) hbu').trans n2
        have n35 := (HB5.out.cell (p := ⟨bu, ou + 19, none⟩) hbu').trans n3
        have m05 := (HB5.out.cell (p := ⟨bu, ou + 12, none⟩) hbu').trans m0
        have m35 := (HB5.out.cell (p := ⟨bu, ou + 15, none⟩) hbu').trans m3
        clear p0 p1 p2 p3 q0 q1 q2 q3 m0 m1 m2 m3 n0 n1 n2 n3
        go_wp2_with fail
        have HQ12 : Hid (∀ w' : World, w'.heap[wr.heap.size]? = w5.heap[wr.heap.size]? → w'.heap[bu]? = w5.heap[bu]? → w'.cell? ⟨wr.heap.size, 3, none⟩ = some (.slice (some ⟨bu, ou, none⟩) u.args.length pu) ∧ w'.cell? ⟨bu, ou + 4, none⟩ = some (.int .i64 p.kind) ∧ w'.cell? ⟨bu, ou + 5, none⟩ = some (.int .i64 p.n) ∧ w'.cell? ⟨bu, ou + 6, none⟩ = some (.string p.name) ∧ w'.cell? ⟨bu, ou + 7, none⟩ = some (.slice ap p.args.length pp) ∧ w'.cell? ⟨bu, ou + 8, none⟩ = some (.int .i64 q.kind) ∧ w'.cell? ⟨bu, ou + 9, none⟩ = some (.int .i64 q.n) ∧ w'.cell? ⟨bu, ou + 10, none⟩ = some (.string q.name) ∧ w'.cell? ⟨bu, ou + 11, none⟩ = some (.slice aq q.args.length pq) ∧ w'.cell? ⟨bu, ou + 16, none⟩ = some (.int .i64 n.kind) ∧ w'.cell? ⟨bu, ou + 17, none⟩ = some (.int .i64 n.n) ∧ w'.cell? ⟨bu, ou + 18, none⟩ = some (.string n.name) ∧ w'.cell? ⟨bu, ou + 19, none⟩ = some (.slice an n.args.length pn)) := Lib.hid fun w' e1 e2 => ⟨(World.cell?_of_block (w := w5) e1).trans x73, (World.cell?_of_block (w := w5) e2).trans p05, (World.cell?_of_block (w := w5) e2).trans p15, (World.cell?_of_block (w := w5) e2).trans p25, (World.cell?_of_block (w := w5) e2).trans p35, (World.cell?_of_block (w := w5) e2).trans q05, (World.cell?_of_block (w := w5) e2).trans q15, (World.cell?_of_block (w := w5) e2).trans q25, (World.cell?_of_block (w := w5) e2).trans q35, (World.cell?_of_block (w := w5) e2).trans n05, (World.cell?_of_block (w := w5) e2).trans n15, (World.cell?_of_block (w := w5) e2).trans n25, (World.cell?_of_block (w := w5) e2).trans n35⟩
        have HX7 : Hid (w5.cell? ⟨wr.heap.size, 3, none⟩ = some (.slice (some ⟨bu, ou, none⟩) u.args.length pu)) := Lib.hid x73
        have HM5 : Hid (w5.cell? ⟨bu, ou + 15, none⟩ = some (.slice am m.args.length pm)) := Lib.hid m35
        clear x70 x71 x72 x73 p05 p15 p25 p35 q05 q15 q25 q35 m05 m35 n05 n15 n25 n35
        refine rg_start (fun w' => w'.cell? ⟨wr.heap.size, 3, none⟩ = some (.slice (some ⟨bu, ou, none⟩) u.args.length pu) ∧ w'.cell? ⟨bu, ou + 4, none⟩ = some (.int .i64 p.kind) ∧ w'.cell? ⟨bu, ou + 5, none⟩ = some (.int .i64 p.n) ∧ w'.cell? ⟨bu, ou + 6, none⟩ = some (.string p.name) ∧ w'.cell? ⟨bu, ou + 7, none⟩ = some (.slice ap p.args.length pp) ∧ w'.cell? ⟨bu, ou + 8, none⟩ = some (.int .i64 q.kind) ∧ w'.cell? ⟨bu, ou + 9, none⟩ = some (.int .i64 q.n) ∧ w'.cell? ⟨bu, ou + 10, none⟩ = some (.string q.name) ∧ w'.cell? ⟨bu, ou + 11, none⟩ = some (.slice aq q.args.length pq) ∧ w'.cell? ⟨bu, ou + 16, none⟩ = some (.int .i64 n.kind) ∧ w'.cell? ⟨bu, ou + 17, none⟩ = some (.int .i64 n.n) ∧ w'.cell? ⟨bu, ou + 18, none⟩ = some (.string n.name) ∧ w'.cell? ⟨bu, ou + 19, none⟩ = some (.slice an n.args.length pn)) (by kernel_rfl) (fun Wd hB => HQ12.out _ (hB.block _ (by omega)) (hB.block _ (by omega))) ?_
        intro Wd hB hWd hWd' hHeld
        have HD := Lib.hid hB
        clear hB
        refine rg_take (i := 0) (v := ?_) rfl (by kernel_rfl) (by kernel_rfl) (by kernel_rfl) (by rfl) ?_ hHeld ?_
        rotate_left 1
        · intro w hSw; (try dsimp only at hSw); go_simp; try (with_reducible rfl)
        (try simp only [Act.put, List.setIfInBounds_toArray, List.set_cons_zero, List.set_cons_succ])
        refine rg_take (i := 1) (v := ?_) rfl (by kernel_rfl) (by kernel_rfl) (by kernel_rfl) (by rfl) ?_ hHeld ?_
        rotate_left 1
        · intro w hSw; (try dsimp only at hSw); go_simp; try (with_reducible rfl)
        (try simp only [Act.put, List.setIfInBounds_toArray, List.set_cons_zero, List.set_cons_succ])
        refine rg_take (i := 2) (v := ?_) rfl (by kernel_rfl) (by kernel_rfl) (by kernel_rfl) (by rfl) ?_ hHeld ?_
        rotate_left 1
        · intro w hSw; (try dsimp only at hSw); go_simp; try (with_reducible rfl)
        (try simp only [Act.put, List.setIfInBounds_toArray, List.set_cons_zero, List.set_cons_succ])
        refine rg_take (i := 3) (v := ?_) rfl (by kernel_rfl) (by kernel_rfl) (by kernel_rfl) (by rfl) ?_ hHeld ?_
        rotate_left 1
        · intro w hSw; (try dsimp only at hSw); go_simp; try (with_reducible rfl)
        (try simp only [Act.put, List.setIfInBounds_toArray, List.set_cons_zero, List.set_cons_succ])
        refine rg_take (i := 4) (v := ?_) rfl (by kernel_rfl) (by kernel_rfl) (by kernel_rfl) (by rfl) ?_ hHeld ?_
        rotate_left 1
        · intro w hSw; (try dsimp only at hSw); go_simp; try (with_reducible rfl)
        (try simp only [Act.put, List.setIfInBounds_toArray, List.set_cons_zero, List.set_cons_succ])
        refine rg_take (i := 5) (v := ?_) rfl (by kernel_rfl) (by kernel_rfl) (by kernel_rfl) (by rfl) ?_ hHeld ?_
        rotate_left 1
        · intro w hSw; (try dsimp only at hSw); go_simp; try (with_reducible rfl)
        (try simp only [Act.put, List.setIfInBounds_toArray, List.set_cons_zero, List.set_cons_succ])
        refine rg_take (i := 6) (v := ?_) rfl (by kernel_rfl) (by kernel_rfl) (by kernel_rfl) (by rfl) ?_ hHeld ?_
        rotate_left 1
        · intro w hSw; (try dsimp only at hSw); go_simp; try (with_reducible rfl)
        (try simp only [Act.put, List.setIfInBounds_toArray, List.set_cons_zero, List.set_cons_succ])
        refine rg_take (i := 7) (v := ?_) rfl (by kernel_rfl) (by kernel_rfl) (by kernel_rfl) (by rfl) ?_ hHeld ?_
        rotate_left 1
        · intro w hSw; (try dsimp only at hSw); go_simp; try (with_reducible rfl)
        (try simp only [Act.put, List.setIfInBounds_toArray, List.set_cons_zero, List.set_cons_succ])
        refine rg_take (i := 8) (v := ?_) rfl (by kernel_rfl) (by kernel_rfl) (by kernel_rfl) (by rfl) ?_ hHeld ?_
        rotate_left 1
        · intro w hSw; (try dsimp only at hSw); go_simp; try (with_reducible rfl)
        (try simp only [Act.put, List.setIfInBounds_toArray, List.set_cons_zero, List.set_cons_succ])
        refine rg_take (i := 9) (v := ?_) rfl (by kernel_rfl) (by kernel_rfl) (by kernel_rfl) (by rfl) ?_ hHeld ?_
        rotate_left 1
        · intro w hSw; (try dsimp only at hSw); go_simp; try (with_reducible rfl)
        (try simp only [Act.put, List.setIfInBounds_toArray, List.set_cons_zero, List.set_cons_succ])
        refine rg_take (i := 10) (v := ?_) rfl (by kernel_rfl) (by kernel_rfl) (by kernel_rfl) (by rfl) ?_ hHeld ?_
        rotate_left 1
        · intro w hSw; (try dsimp only at hSw); go_simp; try (with_reducible rfl)
        (try simp only [Act.put, List.setIfInBounds_toArray, List.set_cons_zero, List.set_cons_succ])
        refine rg_take (i := 11) (v := ?_) rfl (by kernel_rfl) (by kernel_rfl) (by kernel_rfl) (by rfl) ?_ hHeld ?_
        rotate_left 1
        · intro w hSw; (try dsimp only at hSw); go_simp; try (with_reducible rfl)
        (try simp only [Act.put, List.setIfInBounds_toArray, List.set_cons_zero, List.set_cons_succ])
        refine rg_take (i := 12) (v := ?_) rfl (by kernel_rfl) (by kernel_rfl) (by kernel_rfl) (by rfl) ?_ hHeld ?_
        rotate_left 1
        · intro w hSw; (try dsimp only at hSw); go_simp; try (with_reducible rfl)
        (try simp only [Act.put, List.setIfInBounds_toArray, List.set_cons_zero, List.set_cons_succ])
        refine rg_only (i := 13) rfl (by kernel_rfl) (by rfl) (fun K hK => ?_)
        go_simp
        obtain ⟨wg, hwg⟩ : ∃ W : World, W = Wd.alloc (.cells #[.int .i64 0, .int .i64 0, .string ⟨#[]⟩, .slice none 0 0, .int .i64 0, .int .i64 0, .string ⟨#[]⟩, .slice none 0 0, .slice none 0 0, .int .i64 0, .int .i64 0, .string ⟨#[]⟩, .slice none 0 0] 122) := ⟨_, rfl⟩
        have HG : Hid (Blk wg Wd.heap.size [.int .i64 0, .int .i64 0, .string ⟨#[]⟩, .slice none 0 0, .int .i64 0, .int .i64 0, .string ⟨#[]⟩, .slice none 0 0, .slice none 0 0, .int .i64 0, .int .i64 0, .string ⟨#[]⟩, .slice none 0 0]) := Lib.hid (by rw [hwg]; exact Blk.new _ _ _ _ rfl)
        have hB : Below Wd.heap.size Wd wg := by rw [hwg]; exact below_alloc _ _
        have hzg : Wd.heap.size + 1 ≤ wg.heap.size := by rw [hwg]; simp
        rw [← hwg]
        clear hwg
        have HDg : Hid (Below w5.heap.size w5 wg) := Lib.hid (HD.out.trans (hB.mono (by omega)))
        clear hB
        refine hK.out _ _ (HQ12.out _ (HDg.out.block _ (by omega)) (HDg.out.block _ (by omega))) (fun hHeld1 => ?_)
        clear hK K hHeld
        have hHeld := hHeld1
        clear hHeld1
        (try simp only [Act.put, List.setIfInBounds_toArray, List.set_cons_zero, List.set_cons_succ])
        refine rg_only (i := 14) rfl (by kernel_rfl) (by rfl) (fun K hK => ?_)
        refine wp_store_blk 122 13 szClau _ _ rfl rfl rfl rfl HG.out rfl rfl rfl ?_
        intro W6 hF hs' hBW hoth
        have HG8 := Lib.hid hF
        have HB6 : Hid (Below wr.heap.size wr W6) := Lib.hid (hBW _ _ (by omega) (HB5.out.trans (HDg.out.mono (by omega))))
        have HC6 : Hid (Below w5.heap.size w5 W6) := Lib.hid (hBW _ _ (by omega) HDg.out)
        clear hF hBW hoth
        refine hK.out _ _ (HQ12.out _ (HC6.out.block _ (by omega)) (HC6.out.block _ (by omega))) (fun hHeld1 => ?_)
        clear hK K hHeld
        have hHeld := hHeld1
        clear hHeld1
        (try simp only [Act.put, List.setIfInBounds_toArray, List.set_cons_zero, List.set_cons_succ])
        refine rg_done (by kernel_rfl) ?_
        clear hHeld
        obtain ⟨g8, hg8⟩ : ∃ g, g = Wd.heap.size := ⟨_, rfl⟩
        rw [← hg8]
        rw [← hg8] at HG8
        have hg80 : w5.heap.size ≤ g8 := by omega
        clear hg8 HG HDg HD HQ12
        have hg81 := HG8.out.lt
        obtain ⟨hcm, hrm⟩ := HRm.out.rts
        have HRM := Lib.hid hrm
        have hlm := length_le_bulk m.args
        have hlm' := bulk_args m
        have hbm : bulkL [m] ≤ bulkL u.args := by rw [HUA.out]; exact bulk_mem (by simp)
        clear hrm hcm
        go_wp2_with fail
        obtain ⟨wo, rfl⟩ : ∃ wo : World, wo = wr := ⟨_, rfl⟩
        have HCU := Lib.hid hn
        clear hn
        go_loopw [9] (fun i wi => ∃ (j : Nat) (ds : List Deed) (row8 : Value), j ≤ m.args.length ∧ i = .int .i64 j ∧ mapO deedO (m.args.take j) = some ds ∧ OwnXG deedE deedF.e (fun b => S b ∨ W6.heap.size ≤ b) W6.heap.size wi row8 ds ∧ Keep (fun b => b = g8) W6 wi ∧ Blk wi g8 [.int .i64 p.kind, .int .i64 p.n, .string p.name, .slice ap p.args.length pp, .int .i64 q.kind, .int .i64 q.n, .string q.name, .slice aq q.args.length pq, row8, .int .i64 n.kind, .int .i64 n.n, .string n.name, .slice an n.args.length pn]) (fun i _ => m.args.length - (intOf i).toNat)
        case atStart => exact ⟨0, [], _, Nat.zero_le _, rfl, rfl, OwnXG.nil _ _ _ _, Keep.refl _ _, HG8.out⟩
        case round =>
          obtain ⟨j, ds, row8, hjl, rfl, hm8, hO8, hK8, hG8⟩ := hrel
          obtain ⟨a8, c8, rfl, hc8⟩ := hO8.form
          have hsi := hK8.size
          have hs6 := HC6.out.size
          have hdl : ds.length ≤ j := by rw [mapO_length hm8]; simp; omega
          have HM8 := Lib.hid hm8
          have HO8 := Lib.hid hO8
          have HK8 := Lib.hid hK8
          have HGI := Lib.hid hG8
          have HBi : Hid (Below wo.heap.size wo wr) := Lib.hid (HB6.out.trans (hK8.below (by omega) fun b e => by omega))
          have x73 : wr.cell? ⟨wo.heap.size, 3, none⟩ = some (.slice (some ⟨bu, ou, none⟩) u.args.length pu) := (hK8.cell _ 3 (by omega) (by omega)).trans ((HC6.out.cell (p := ⟨wo.heap.size, 3, none⟩) (by show wo.heap.size < _; omega)).trans HX7.out)
          have m3 : wr.cell? ⟨bu, ou + 15, none⟩ = some (.slice am m.args.length pm) := (hK8.cell _ _ (by omega) (by omega)).trans ((HC6.out.cell (p := ⟨bu, ou + 15, none⟩) (by show bu < _; omega)).trans HM5.out)
          clear hm8 hO8 hK8 hG8 hc8
          by_cases hlj : j < m.args.length
          · obtain ⟨bm, om, rfl⟩ := HRM.out.addr (by omega)
            obtain ⟨ac, hac⟩ : ∃ ac, ac = m.args.getD j zeroT := ⟨_, rfl⟩
            have hacj : m.args[j] = ac := by rw [hac, List.getD_eq_getElem?_getD, List.getElem?_eq_getElem hlj]; rfl
            obtain ⟨av, pv, hsv, v0, v1, v2, v3, hE⟩ := (HRM.out.below HBi.out).elem j hlj
            simp only [hacj] at v0 v1 v2 v3 hE
            have hbj := bulk_at hlj
            rw [hacj] at hbj
            have hbac := bulk_args ac
            have HAC := Lib.hid hE
            have HAJ := Lib.hid hacj
            have hji : (j : Int) < m.args.length := by omega
            clear hacj hac hE
            go_wp2_with fail
            obtain ⟨V0, hV0⟩ : ∃ W : World, W = wr.alloc (.cells #[.int .i64 ac.kind, .int .i64 ac.n, .string ac.name, .slice av ac.args.length pv] 29) := ⟨_, rfl⟩
            have HX10 : Hid (Box V0 wr.heap.size (.int .i64 ac.kind) (.int .i64 ac.n) (.string ac.name) (.slice av ac.args.length pv)) := Lib.hid (by rw [hV0]; exact Box.new _ _ _ _ _ _)
            have HBv0 : Hid (Below wr.heap.size wr V0) := Lib.hid (by rw [hV0]; exact below_alloc _ _)
            have HBw0 := Lib.hid (Below.refl V0.heap.size V0)
            have hv0 : wr.heap.size + 1 ≤ V0.heap.size := by rw [hV0]; simp
            rw [← hV0]
            clear hV0 v0 v1 v2 v3 x73 m3
            rcases act_cases ac with ⟨hd2, ca, cb, haa, hi1, hdo⟩ | ⟨hd2, ca, cb, cc, haa, hi1, hi2, k1, k2, hdo⟩ | ⟨hd2, ca, cb, cc, haa, hi1, hi2, k1, hi3, hi4, hdo⟩ | ⟨hd2, ca, cb, cc, haa, hi1, hi2, k1, k2, hi3, hi4, hdo⟩ | ⟨hd2, ca, haa, hi1, hi2, hi3, hdo⟩ | ⟨hi1, hi2, hi3, hi4, hdo⟩ | ⟨hi1, hi2, hi3, hi4, hdo⟩
            · skip
              have HI1 := Lib.hid hi1
              have HDO := Lib.hid hdo
              clear hi1 hdo
              have HAA := Lib.hid haa
              have hn5 : ac.args.length = 3 := by rw [haa]; rfl
              have ha1 : (1 : Int) < ac.args.length := by omega
              have ha2 : (2 : Int) < ac.args.length := by omega
              have HNA := Lib.hid hn5
              clear haa hn5
              have hrv := HAC.out.rts.2
              rw [HAA.out] at hrv
              obtain ⟨bv, ov, rfl⟩ := hrv.addr (by simp)
              obtain ⟨aca, pca, hsca, ca0, ca1, ca2, ca3, hrca⟩ := hrv.elem 1 (by simp)
              simp only [Nat.zero_mul, Nat.one_mul, Nat.add_zero, Nat.reduceMul, Nat.add_assoc, Nat.reduceAdd, List.getElem_cons_zero, List.getElem_cons_succ] at ca0 ca1 ca2 ca3 hrca
              have HRca := Lib.hid hrca
              clear hrca
              obtain ⟨acb, pcb, hscb, cb0, cb1, cb2, cb3, hrcb⟩ := hrv.elem 2 (by simp)
              simp only [Nat.zero_mul, Nat.one_mul, Nat.add_zero, Nat.reduceMul, Nat.add_assoc, Nat.reduceAdd, List.getElem_cons_zero, List.getElem_cons_succ] at cb0 cb1 cb2 cb3 hrcb
              have HRcb := Lib.hid hrcb
              clear hrcb
              have hbv : bv < wr.heap.size := World.block_lt_of_cell? _ _ ca0
              clear hrv
              refine (is_Is ac sSend _ _ _ _ (HAC.out.below HBv0.out) (by omega) (by omega) (by omega)).mono ?_
              rintro e V1 ⟨he, hB⟩
              rw [HI1.out] at he
              subst he
              have hv1 := hB.size
              have HBv1 : Hid (Below wr.heap.size wr V1) := Lib.hid (below_step HBv0.out (by omega) hB)
              have HBw1 : Hid (Below V0.heap.size V0 V1) := Lib.hid (below_step HBw0.out (by omega) hB)
              obtain ⟨x0, x1, x2, x3⟩ := HX10.out.step HBw1.out
              clear hB
              have ca0v1 := (HBv1.out.cell (p := ⟨bv, ov + 4, none⟩) hbv).trans ca0
              have ca1v1 := (HBv1.out.cell (p := ⟨bv, ov + 5, none⟩) hbv).trans ca1
              have ca2v1 := (HBv1.out.cell (p := ⟨bv, ov + 6, none⟩) hbv).trans ca2
              have ca3v1 := (HBv1.out.cell (p := ⟨bv, ov + 7, none⟩) hbv).trans ca3
              have cb0v1 := (HBv1.out.cell (p := ⟨bv, ov + 8, none⟩) hbv).trans cb0
              have cb1v1 := (HBv1.out.cell (p := ⟨bv, ov + 9, none⟩) hbv).trans cb1
              have cb2v1 := (HBv1.out.cell (p := ⟨bv, ov + 10, none⟩) hbv).trans cb2
              have cb3v1 := (HBv1.out.cell (p := ⟨bv, ov + 11, none⟩) hbv).trans cb3
              clear ca0 ca1 ca2 ca3 cb0 cb1 cb2 cb3
              have HQr : Hid (∀ w' : World, w'.heap[wr.heap.size]? = V1.heap[wr.heap.size]? → w'.heap[bv]? = V1.heap[bv]? → w'.cell? ⟨wr.heap.size, 3, none⟩ = some (.slice (some ⟨bv, ov, none⟩) ac.args.length pv) ∧ w'.cell? ⟨bv, ov + 4, none⟩ = some (.int .i64 ca.kind) ∧ w'.cell? ⟨bv, ov + 5, none⟩ = some (.int .i64 ca.n) ∧ w'.cell? ⟨bv, ov + 6, none⟩ = some (.string ca.name) ∧ w'.cell? ⟨bv, ov + 7, none⟩ = some (.slice aca ca.args.length pca) ∧ w'.cell? ⟨bv, ov + 8, none⟩ = some (.int .i64 cb.kind) ∧ w'.cell? ⟨bv, ov + 9, none⟩ = some (.int .i64 cb.n) ∧ w'.cell? ⟨bv, ov + 10, none⟩ = some (.string cb.name) ∧ w'.cell? ⟨bv, ov + 11, none⟩ = some (.slice acb cb.args.length pcb)) := Lib.hid fun w' e1 e2 => ⟨(World.cell?_of_block (w := V1) e1).trans x3, (World.cell?_of_block (w := V1) e2).trans ca0v1, (World.cell?_of_block (w := V1) e2).trans ca1v1, (World.cell?_of_block (w := V1) e2).trans ca2v1, (World.cell?_of_block (w := V1) e2).trans ca3v1, (World.cell?_of_block (w := V1) e2).trans cb0v1, (World.cell?_of_block (w := V1) e2).trans cb1v1, (World.cell?_of_block (w := V1) e2).trans cb2v1, (World.cell?_of_block (w := V1) e2).trans cb3v1⟩
              have HM2 : Hid (mapO deedO (m.args.take (j + 1)) = some (ds ++ [⟨1, ca, cb, ⟨#[]⟩, 0⟩])) := Lib.hid (by rw [mapO_snoc _ hlj, HM8.out, HAJ.out, HDO.out])
              go_wp2_with fail
              clear x0 x1 x2 x3 ca0v1 ca1v1 ca2v1 ca3v1 cb0v1 cb1v1 cb2v1 cb3v1
              refine rg_start (fun w' => w'.cell? ⟨wr.heap.size, 3, none⟩ = some (.slice (some ⟨bv, ov, none⟩) ac.args.length pv) ∧ w'.cell? ⟨bv, ov + 4, none⟩ = some (.int .i64 ca.kind) ∧ w'.cell? ⟨bv, ov + 5, none⟩ = some (.int .i64 ca.n) ∧ w'.cell? ⟨bv, ov + 6, none⟩ = some (.string ca.name) ∧ w'.cell? ⟨bv, ov + 7, none⟩ = some (.slice aca ca.args.length pca) ∧ w'.cell? ⟨bv, ov + 8, none⟩ = some (.int .i64 cb.kind) ∧ w'.cell? ⟨bv, ov + 9, none⟩ = some (.int .i64 cb.n) ∧ w'.cell? ⟨bv, ov + 10, none⟩ = some (.string cb.name) ∧ w'.cell? ⟨bv, ov + 11, none⟩ = some (.slice acb cb.args.length pcb)) (by kernel_rfl) (fun Wd hB => HQr.out _ (hB.block _ (by omega)) (hB.block _ (by omega))) ?_
              intro Wd hB hWd hWd' hHeld
              have HBd : Hid (Below wr.heap.size wr Wd) := Lib.hid (below_step HBv1.out (by omega) hB)
              have E10 : Hid (Wd.heap[wr.heap.size]? = V1.heap[wr.heap.size]?) := Lib.hid (hB.block _ (by omega))
              have Ebv : Hid (Wd.heap[bv]? = V1.heap[bv]?) := Lib.hid (hB.block _ (by omega))
              have HGd := Lib.hid ((HGI.out.step HBv1.out).step hB)
              have hg8d := HGd.out.lt
              have r8 : Wd.cell? ⟨g8, 8, none⟩ = some (.slice a8 ds.length c8) := HGd.out.cell 8 _ rfl
              have HOd := Lib.hid ((HO8.out.below HBv1.out).below hB)
              have HCd : Hid (deedC (fun b => S b) Wd ⟨1, ca, cb, ⟨#[]⟩, 0⟩ [.int .i64 1, .int .i64 ca.kind, .int .i64 ca.n, .string ca.name, .slice aca ca.args.length pca, .int .i64 cb.kind, .int .i64 cb.n, .string cb.name, .slice acb cb.args.length pcb, .string ⟨#[]⟩, .int .i64 0]) := Lib.hid ⟨aca, pca, acb, pcb, rfl, (HRca.out.below HBv1.out).below hB, (HRcb.out.below HBv1.out).below hB⟩
              have HOB := Lib.hid HO8.out.block
              have hlwd : wr.heap.size < Wd.heap.size := by omega
              have hbvw := HS.out _ hsca
              have hbvb : ¬ W6.heap.size ≤ bv := by omega
              have hbvg : bv ≠ g8 := by omega
              clear hB
              refine rg_take (i := 0) (v := ?_) rfl (by kernel_rfl) (by kernel_rfl) (by kernel_rfl) (by rfl) ?_ hHeld ?_
              rotate_left 1
              · intro w hSw; (try dsimp only at hSw); go_simp; try (with_reducible rfl)
              (try simp only [Act.put, List.setIfInBounds_toArray, List.set_cons_zero, List.set_cons_succ])
              refine rg_take (i := 2) (v := ?_) rfl (by kernel_rfl) (by kernel_rfl) (by kernel_rfl) (by rfl) ?_ hHeld ?_
              rotate_left 1
              · intro w hSw; (try dsimp only at hSw); go_simp; try (with_reducible rfl)
              (try simp only [Act.put, List.setIfInBounds_toArray, List.set_cons_zero, List.set_cons_succ])
              refine rg_take (i := 3) (v := ?_) rfl (by kernel_rfl) (by kernel_rfl) (by kernel_rfl) (by rfl) ?_ hHeld ?_
              rotate_left 1
              · intro w hSw; (try dsimp only at hSw); go_simp; try (with_reducible rfl)
              (try simp only [Act.put, List.setIfInBounds_toArray, List.set_cons_zero, List.set_cons_succ])
              refine rg_take (i := 4) (v := ?_) rfl (by kernel_rfl) (by kernel_rfl) (by kernel_rfl) (by rfl) ?_ hHeld ?_
              rotate_left 1
              · intro w hSw; (try dsimp only at hSw); go_simp; try (with_reducible rfl)
              (try simp only [Act.put, List.setIfInBounds_toArray, List.set_cons_zero, List.set_cons_succ])
              refine rg_take (i := 5) (v := ?_) rfl (by kernel_rfl) (by kernel_rfl) (by kernel_rfl) (by rfl) ?_ hHeld ?_
              rotate_left 1
              · intro w hSw; (try dsimp only at hSw); go_simp; try (with_reducible rfl)
              (try simp only [Act.put, List.setIfInBounds_toArray, List.set_cons_zero, List.set_cons_succ])
              refine rg_take (i := 6) (v := ?_) rfl (by kernel_rfl) (by kernel_rfl) (by kernel_rfl) (by rfl) ?_ hHeld ?_
              rotate_left 1
              · intro w hSw; (try dsimp only at hSw); go_simp; try (with_reducible rfl)
              (try simp only [Act.put, List.setIfInBounds_toArray, List.set_cons_zero, List.set_cons_succ])
              refine rg_take (i := 7) (v := ?_) rfl (by kernel_rfl) (by kernel_rfl) (by kernel_rfl) (by rfl) ?_ hHeld ?_
              rotate_left 1
              · intro w hSw; (try dsimp only at hSw); go_simp; try (with_reducible rfl)
              (try simp only [Act.put, List.setIfInBounds_toArray, List.set_cons_zero, List.set_cons_succ])
              refine rg_take (i := 8) (v := ?_) rfl (by kernel_rfl) (by kernel_rfl) (by kernel_rfl) (by rfl) ?_ hHeld ?_
              rotate_left 1
              · intro w hSw; (try dsimp only at hSw); go_simp; try (with_reducible rfl)
              (try simp only [Act.put, List.setIfInBounds_toArray, List.set_cons_zero, List.set_cons_succ])
              refine rg_take (i := 9) (v := ?_) rfl (by kernel_rfl) (by kernel_rfl) (by kernel_rfl) (by rfl) ?_ hHeld ?_
              rotate_left 1
              · intro w hSw; (try dsimp only at hSw); go_simp; try (with_reducible rfl)
              (try simp only [Act.put, List.setIfInBounds_toArray, List.set_cons_zero, List.set_cons_succ])
              refine rg_take (i := 10) (v := ?_) rfl (by kernel_rfl) (by kernel_rfl) (by kernel_rfl) (by rfl) ?_ hHeld ?_
              rotate_left 1
              · intro w hSw; (try dsimp only at hSw); go_simp; try (with_reducible rfl)
              (try simp only [Act.put, List.setIfInBounds_toArray, List.set_cons_zero, List.set_cons_succ])
              refine rg_two (i := 1) (j := 11) rfl rfl (by kernel_rfl) (by rfl) (by rfl) (fun K hK => ?_) (fun K hK => ?_)
              go_simp
              skip
              refine hK.out _ _ (hHeld) (fun hHeld1 => ?_)
              clear hK K hHeld
              have hHeld := hHeld1
              clear hHeld1
              (try simp only [Act.put, List.setIfInBounds_toArray, List.set_cons_zero, List.set_cons_succ])
              refine rg_only (i := 11) rfl (by kernel_rfl) (by rfl) (fun K hK => ?_)
              go_simp
              skip
              refine hK.out _ _ (HQr.out _ ((Below.heap_alloc Wd (.cells #[.int .i64 1, .int .i64 ca.kind, .int .i64 ca.n, .string ca.name, .slice aca ca.args.length pca, .int .i64 cb.kind, .int .i64 cb.n, .string cb.name, .slice acb cb.args.length pcb, .string ⟨#[]⟩, .int .i64 0] 124) wr.heap.size hlwd).trans E10.out) ((Below.heap_alloc Wd (.cells #[.int .i64 1, .int .i64 ca.kind, .int .i64 ca.n, .string ca.name, .slice aca ca.args.length pca, .int .i64 cb.kind, .int .i64 cb.n, .string cb.name, .slice acb cb.args.length pcb, .string ⟨#[]⟩, .int .i64 0] 124) bv (Nat.lt_trans hbv hlwd)).trans Ebv.out)) (fun hHeld1 => ?_)
              clear hK K hHeld
              have hHeld := hHeld1
              clear hHeld1
              (try simp only [Act.put, List.setIfInBounds_toArray, List.set_cons_zero, List.set_cons_succ])
              refine rg_only (i := 12) rfl (by kernel_rfl) (by rfl) (fun K hK => ?_)
              refine wp_growX (v := .slice a8 ds.length c8) (g0 := Wd.heap.size) deedF _ _ rfl rfl (by rfl) (by rfl) rfl HOd.out HCd.out (fun b hb hl => ⟨.inl hb, fun he => by have := HOB.out b he; have := HS.out b hb; omega⟩) rfl (by omega) (by omega) ?_
              intro gg cg w3 hO3 hB3 hG3 hD3
              have g83 := (hB3.cell (p := ⟨g8, 8, none⟩) hg81).trans r8
              have gf3 := fun o => (hB3.frozen (p := ⟨g8, o, none⟩) hg81).trans (HGd.out.fr o)
              have hl3 := hB3.size
              have hq0 : wr.heap.size < (Wd.alloc (.cells #[.int .i64 1, .int .i64 ca.kind, .int .i64 ca.n, .string ca.name, .slice aca ca.args.length pca, .int .i64 cb.kind, .int .i64 cb.n, .string cb.name, .slice acb cb.args.length pcb, .string ⟨#[]⟩, .int .i64 0] 124)).heap.size := by rw [World.size_alloc]; exact Nat.lt_succ_of_lt hlwd
              have hq1 : bv < (Wd.alloc (.cells #[.int .i64 1, .int .i64 ca.kind, .int .i64 ca.n, .string ca.name, .slice aca ca.args.length pca, .int .i64 cb.kind, .int .i64 cb.n, .string cb.name, .slice acb cb.args.length pcb, .string ⟨#[]⟩, .int .i64 0] 124)).heap.size := by rw [World.size_alloc]; exact Nat.lt_succ_of_lt (Nat.lt_trans hbv hlwd)
              have q1 := hG3.block wr.heap.size hq0 (fun he => Nat.lt_irrefl _ (HOB.out _ he.symm).2)
              have q3 := hG3.block bv hq1 (fun he => hbvb (HOB.out _ he.symm).1)
              have q2 : (Wd.alloc (.cells #[.int .i64 1, .int .i64 ca.kind, .int .i64 ca.n, .string ca.name, .slice aca ca.args.length pca, .int .i64 cb.kind, .int .i64 cb.n, .string cb.name, .slice acb cb.args.length pcb, .string ⟨#[]⟩, .int .i64 0] 124)).heap[wr.heap.size]? = Wd.heap[wr.heap.size]? := Below.heap_alloc _ _ _ hlwd
              have q4 : (Wd.alloc (.cells #[.int .i64 1, .int .i64 ca.kind, .int .i64 ca.n, .string ca.name, .slice aca ca.args.length pca, .int .i64 cb.kind, .int .i64 cb.n, .string cb.name, .slice acb cb.args.length pcb, .string ⟨#[]⟩, .int .i64 0] 124)).heap[bv]? = Wd.heap[bv]? := Below.heap_alloc _ _ _ (Nat.lt_trans hbv hlwd)
              have E103 : Hid (w3.heap[wr.heap.size]? = V1.heap[wr.heap.size]?) := Lib.hid (q1.trans (q2.trans E10.out))
              have Ebv3 : Hid (w3.heap[bv]? = V1.heap[bv]?) := Lib.hid (q3.trans (q4.trans Ebv.out))
              clear q1 q2 q3 q4 hq0 hq1
              have HO3 := Lib.hid hO3
              have HB3 := Lib.hid hB3
              clear hO3 hB3 hG3 hD3
              refine hK.out _ _ (HQr.out _ E103.out Ebv3.out) (fun hHeld1 => ?_)
              clear hK K hHeld
              have hHeld := hHeld1
              clear hHeld1
              (try simp only [Act.put, List.setIfInBounds_toArray, List.set_cons_zero, List.set_cons_succ])
              refine rg_take (i := 13) (v := ?_) rfl (by kernel_rfl) (by kernel_rfl) (by kernel_rfl) (by rfl) ?_ hHeld ?_
              rotate_left 1
              · intro w hSw; (try dsimp only at hSw); go_simp; try (with_reducible rfl)
              (try simp only [Act.put, List.setIfInBounds_toArray, List.set_cons_zero, List.set_cons_succ])
              refine rg_only (i := 14) rfl (by kernel_rfl) (by rfl) (fun K hK => ?_)
              go_simp
              skip
              refine hK.out _ _ (HQr.out _ ((setCell_other w3 g8 8 _ wr.heap.size (by omega)).trans E103.out) ((setCell_other w3 g8 8 _ bv hbvg).trans Ebv3.out)) (fun hHeld1 => ?_)
              clear hK K hHeld
              have hHeld := hHeld1
              clear hHeld1
              (try simp only [Act.put, List.setIfInBounds_toArray, List.set_cons_zero, List.set_cons_succ])
              refine rg_done (by kernel_rfl) ?_
              clear hHeld
              rotate_left 1
              go_simp
              skip
              refine hK.out _ _ (HQr.out _ ((Below.heap_alloc Wd (.cells #[.int .i64 1, .int .i64 ca.kind, .int .i64 ca.n, .string ca.name, .slice aca ca.args.length pca, .int .i64 cb.kind, .int .i64 cb.n, .string cb.name, .slice acb cb.args.length pcb, .string ⟨#[]⟩, .int .i64 0] 124) wr.heap.size hlwd).trans E10.out) ((Below.heap_alloc Wd (.cells #[.int .i64 1, .int .i64 ca.kind, .int .i64 ca.n, .string ca.name, .slice aca ca.args.length pca, .int .i64 cb.kind, .int .i64 cb.n, .string cb.name, .slice acb cb.args.length pcb, .string ⟨#[]⟩, .int .i64 0] 124) bv (Nat.lt_trans hbv hlwd)).trans Ebv.out)) (fun hHeld1 => ?_)
              clear hK K hHeld
              have hHeld := hHeld1
              clear hHeld1
              (try simp only [Act.put, List.setIfInBounds_toArray, List.set_cons_zero, List.set_cons_succ])
              refine rg_only (i := 1) rfl (by kernel_rfl) (by rfl) (fun K hK => ?_)
              go_simp
              skip
              refine hK.out _ _ (hHeld) (fun hHeld1 => ?_)
              clear hK K hHeld
              have hHeld := hHeld1
              clear hHeld1
              (try simp only [Act.put, List.setIfInBounds_toArray, List.set_cons_zero, List.set_cons_succ])
              refine rg_only (i := 12) rfl (by kernel_rfl) (by rfl) (fun K hK => ?_)
              refine wp_growX (v := .slice a8 ds.length c8) (g0 := Wd.heap.size) deedF _ _ rfl rfl (by rfl) (by rfl) rfl HOd.out HCd.out (fun b hb hl => ⟨.inl hb, fun he => by have := HOB.out b he; have := HS.out b hb; omega⟩) rfl (by omega) (by omega) ?_
              intro gg cg w3 hO3 hB3 hG3 hD3
              have g83 := (hB3.cell (p := ⟨g8, 8, none⟩) hg81).trans r8
              have gf3 := fun o => (hB3.frozen (p := ⟨g8, o, none⟩) hg81).trans (HGd.out.fr o)
              have hl3 := hB3.size
              have hq0 : wr.heap.size < (Wd.alloc (.cells #[.int .i64 1, .int .i64 ca.kind, .int .i64 ca.n, .string ca.name, .slice aca ca.args.length pca, .int .i64 cb.kind, .int .i64 cb.n, .string cb.name, .slice acb cb.args.length pcb, .string ⟨#[]⟩, .int .i64 0] 124)).heap.size := by rw [World.size_alloc]; exact Nat.lt_succ_of_lt hlwd
              have hq1 : bv < (Wd.alloc (.cells #[.int .i64 1, .int .i64 ca.kind, .int .i64 ca.n, .string ca.name, .slice aca ca.args.length pca, .int .i64 cb.kind, .int .i64 cb.n, .string cb.name, .slice acb cb.args.length pcb, .string ⟨#[]⟩, .int .i64 0] 124)).heap.size := by rw [World.size_alloc]; exact Nat.lt_succ_of_lt (Nat.lt_trans hbv hlwd)
              have q1 := hG3.block wr.heap.size hq0 (fun he => Nat.lt_irrefl _ (HOB.out _ he.symm).2)
              have q3 := hG3.block bv hq1 (fun he => hbvb (HOB.out _ he.symm).1)
              have q2 : (Wd.alloc (.cells #[.int .i64 1, .int .i64 ca.kind, .int .i64 ca.n, .string ca.name, .slice aca ca.args.length pca, .int .i64 cb.kind, .int .i64 cb.n, .string cb.name, .slice acb cb.args.length pcb, .string ⟨#[]⟩, .int .i64 0] 124)).heap[wr.heap.size]? = Wd.heap[wr.heap.size]? := Below.heap_alloc _ _ _ hlwd
              have q4 : (Wd.alloc (.cells #[.int .i64 1, .int .i64 ca.kind, .int .i64 ca.n, .string ca.name, .slice aca ca.args.length pca, .int .i64 cb.kind, .int .i64 cb.n, .string cb.name, .slice acb cb.args.length pcb, .string ⟨#[]⟩, .int .i64 0] 124)).heap[bv]? = Wd.heap[bv]? := Below.heap_alloc _ _ _ (Nat.lt_trans hbv hlwd)
              have E103 : Hid (w3.heap[wr.heap.size]? = V1.heap[wr.heap.size]?) := Lib.hid (q1.trans (q2.trans E10.out))
              have Ebv3 : Hid (w3.heap[bv]? = V1.heap[bv]?) := Lib.hid (q3.trans (q4.trans Ebv.out))
              clear q1 q2 q3 q4 hq0 hq1
              have HO3 := Lib.hid hO3
              have HB3 := Lib.hid hB3
              clear hO3 hB3 hG3 hD3
              refine hK.out _ _ (HQr.out _ E103.out Ebv3.out) (fun hHeld1 => ?_)
              clear hK K hHeld
              have hHeld := hHeld1
              clear hHeld1
              (try simp only [Act.put, List.setIfInBounds_toArray, List.set_cons_zero, List.set_cons_succ])
              refine rg_take (i := 13) (v := ?_) rfl (by kernel_rfl) (by kernel_rfl) (by kernel_rfl) (by rfl) ?_ hHeld ?_
              rotate_left 1
              · intro w hSw; (try dsimp only at hSw); go_simp; try (with_reducible rfl)
              (try simp only [Act.put, List.setIfInBounds_toArray, List.set_cons_zero, List.set_cons_succ])
              refine rg_only (i := 14) rfl (by kernel_rfl) (by rfl) (fun K hK => ?_)
              go_simp
              skip
              refine hK.out _ _ (HQr.out _ ((setCell_other w3 g8 8 _ wr.heap.size (by omega)).trans E103.out) ((setCell_other w3 g8 8 _ bv hbvg).trans Ebv3.out)) (fun hHeld1 => ?_)
              clear hK K hHeld
              have hHeld := hHeld1
              clear hHeld1
              (try simp only [Act.put, List.setIfInBounds_toArray, List.set_cons_zero, List.set_cons_succ])
              refine rg_done (by kernel_rfl) ?_
              clear hHeld
              rotate_left 1
              all_goals (
                go_wp2_with fail
                go_roundw
                case rel =>
                  have h1 := HO3.out.setCell g8 8 (.slice (some ⟨gg, 0, none⟩) (ds.length + 1) cg) hg81 (fun e => by rcases e with e | e; (have := HS.out _ e; omega); omega)
                  have h2 := ((HK8.out.then HBd.out).thenB HB3.out).setCell (b := g8) (o := 8) (.slice (some ⟨gg, 0, none⟩) (ds.length + 1) cg) (.inl rfl)
                  have h3 : Blk (w3.setCell ⟨g8, 8, none⟩ (.slice (some ⟨gg, 0, none⟩) (ds.length + 1) cg)) g8 [.int .i64 p.kind, .int .i64 p.n, .string p.name, .slice ap p.args.length pp, .int .i64 q.kind, .int .i64 q.n, .string q.name, .slice aq q.args.length pq, .slice (some ⟨gg, 0, none⟩) (ds.length + 1) cg, .int .i64 n.kind, .int .i64 n.n, .string n.name, .slice an n.args.length pn] := (HGd.out.below HB3.out hg81).set 8 (.slice (some ⟨gg, 0, none⟩) (ds.length + 1) cg) (by simp)
                  refine ⟨j + 1, ds ++ [⟨1, ca, cb, ⟨#[]⟩, 0⟩], .slice (some ⟨gg, 0, none⟩) (ds.length + 1) cg, hlj, by go_num, HM2.out, ?_, ?_, ?_⟩
                  · with_reducible exact h1
                  · with_reducible exact h2
                  · with_reducible exact h3
                case measure => simp [intOf]; omega)
            · skip
              have HI1 := Lib.hid hi1
              have HI2 := Lib.hid hi2
              have HDO := Lib.hid hdo
              clear hi1 hi2 hdo
              have HAA := Lib.hid haa
              have hn5 : ac.args.length = 4 := by rw [haa]; rfl
              have ha1 : (1 : Int) < ac.args.length := by omega
              have ha2 : (2 : Int) < ac.args.length := by omega
              have ha3 : (3 : Int) < ac.args.length := by omega
              have HNA := Lib.hid hn5
              clear haa hn5
              have hrv := HAC.out.rts.2
              rw [HAA.out] at hrv
              obtain ⟨bv, ov, rfl⟩ := hrv.addr (by simp)
              obtain ⟨aca, pca, hsca, ca0, ca1, ca2, ca3, hrca⟩ := hrv.elem 1 (by simp)
              simp only [Nat.zero_mul, Nat.one_mul, Nat.add_zero, Nat.reduceMul, Nat.add_assoc, Nat.reduceAdd, List.getElem_cons_zero, List.getElem_cons_succ] at ca0 ca1 ca2 ca3 hrca
              have HRca := Lib.hid hrca
              clear hrca
              obtain ⟨acb, pcb, hscb, cb0, cb1, cb2, cb3, hrcb⟩ := hrv.elem 2 (by simp)
              simp only [Nat.zero_mul, Nat.one_mul, Nat.add_zero, Nat.reduceMul, Nat.add_assoc, Nat.reduceAdd, List.getElem_cons_zero, List.getElem_cons_succ] at cb0 cb1 cb2 cb3 hrcb
              have HRcb := Lib.hid hrcb
              clear hrcb
              obtain ⟨acc, pcc, hscc, cc0, cc1, cc2, cc3, hrcc⟩ := hrv.elem 3 (by simp)
              simp only [Nat.zero_mul, Nat.one_mul, Nat.add_zero, Nat.reduceMul, Nat.add_assoc, Nat.reduceAdd, List.getElem_cons_zero, List.getElem_cons_succ] at cc0 cc1 cc2 cc3 hrcc
              have HRcc := Lib.hid hrcc
              clear hrcc
              have hbv : bv < wr.heap.size := World.block_lt_of_cell? _ _ ca0
              clear hrv
              refine (is_Is ac sSend _ _ _ _ (HAC.out.below HBv0.out) (by omega) (by omega) (by omega)).mono ?_
              rintro e V1 ⟨he, hB⟩
              rw [HI1.out] at he
              subst he
              have hv1 := hB.size
              have HBv1 : Hid (Below wr.heap.size wr V1) := Lib.hid (below_step HBv0.out (by omega) hB)
              have HBw1 : Hid (Below V0.heap.size V0 V1) := Lib.hid (below_step HBw0.out (by omega) hB)
              obtain ⟨x0, x1, x2, x3⟩ := HX10.out.step HBw1.out
              clear hB
              go_wp2_with fail
              refine (is_Is ac sSpawn _ _ _ _ (HAC.out.below HBv1.out) (by omega) (by omega) (by omega)).mono ?_
              rintro e V2 ⟨he, hB⟩
              rw [HI2.out] at he
              subst he
              have hv2 := hB.size
              have HBv2 : Hid (Below wr.heap.size wr V2) := Lib.hid (below_step HBv1.out (by omega) hB)
              have HBw2 : Hid (Below V0.heap.size V0 V2) := Lib.hid (below_step HBw1.out (by omega) hB)
              obtain ⟨x0, x1, x2, x3⟩ := HX10.out.step HBw2.out
              clear hB
              have ca0v2 := (HBv2.out.cell (p := ⟨bv, ov + 4, none⟩) hbv).trans ca0
              have ca2v2 := (HBv2.out.cell (p := ⟨bv, ov + 6, none⟩) hbv).trans ca2
              have cb0v2 := (HBv2.out.cell (p := ⟨bv, ov + 8, none⟩) hbv).trans cb0
              have cb1v2 := (HBv2.out.cell (p := ⟨bv, ov + 9, none⟩) hbv).trans cb1
              have cb2v2 := (HBv2.out.cell (p := ⟨bv, ov + 10, none⟩) hbv).trans cb2
              have cb3v2 := (HBv2.out.cell (p := ⟨bv, ov + 11, none⟩) hbv).trans cb3
              have cc0v2 := (HBv2.out.cell (p := ⟨bv, ov + 12, none⟩) hbv).trans cc0
              have cc1v2 := (HBv2.out.cell (p := ⟨bv, ov + 13, none⟩) hbv).trans cc1
              clear ca0 ca1 ca2 ca3 cb0 cb1 cb2 cb3 cc0 cc1 cc2 cc3
              have HQr : Hid (∀ w' : World, w'.heap[wr.heap.size]? = V2.heap[wr.heap.size]? → w'.heap[bv]? = V2.heap[bv]? → w'.cell? ⟨wr.heap.size, 3, none⟩ = some (.slice (some ⟨bv, ov, none⟩) ac.args.length pv) ∧ w'.cell? ⟨bv, ov + 6, none⟩ = some (.string ca.name) ∧ w'.cell? ⟨bv, ov + 8, none⟩ = some (.int .i64 cb.kind) ∧ w'.cell? ⟨bv, ov + 9, none⟩ = some (.int .i64 cb.n) ∧ w'.cell? ⟨bv, ov + 10, none⟩ = some (.string cb.name) ∧ w'.cell? ⟨bv, ov + 11, none⟩ = some (.slice acb cb.args.length pcb) ∧ w'.cell? ⟨bv, ov + 13, none⟩ = some (.int .i64 cc.n)) := Lib.hid fun w' e1 e2 => ⟨(World.cell?_of_block (w := V2) e1).trans x3, (World.cell?_of_block (w := V2) e2).trans ca2v2, (World.cell?_of_block (w := V2) e2).trans cb0v2, (World.cell?_of_block (w := V2) e2).trans cb1v2, (World.cell?_of_block (w := V2) e2).trans cb2v2, (World.cell?_of_block (w := V2) e2).trans cb3v2, (World.cell?_of_block (w := V2) e2).trans cc1v2⟩
              have HM2 : Hid (mapO deedO (m.args.take (j + 1)) = some (ds ++ [⟨2, zeroT, cb, ca.name, cc.n⟩])) := Lib.hid (by rw [mapO_snoc _ hlj, HM8.out, HAJ.out, HDO.out])
              go_wp2_with fail
              clear x0 x1 x2 x3 ca2v2 cb0v2 cb1v2 cb2v2 cb3v2 cc1v2
              refine rg_start (fun w' => w'.cell? ⟨wr.heap.size, 3, none⟩ = some (.slice (some ⟨bv, ov, none⟩) ac.args.length pv) ∧ w'.cell? ⟨bv, ov + 6, none⟩ = some (.string ca.name) ∧ w'.cell? ⟨bv, ov + 8, none⟩ = some (.int .i64 cb.kind) ∧ w'.cell? ⟨bv, ov + 9, none⟩ = some (.int .i64 cb.n) ∧ w'.cell? ⟨bv, ov + 10, none⟩ = some (.string cb.name) ∧ w'.cell? ⟨bv, ov + 11, none⟩ = some (.slice acb cb.args.length pcb) ∧ w'.cell? ⟨bv, ov + 13, none⟩ = some (.int .i64 cc.n)) (by kernel_rfl) (fun Wd hB => HQr.out _ (hB.block _ (by omega)) (hB.block _ (by omega))) ?_
              intro Wd hB hWd hWd' hHeld
              have HBd : Hid (Below wr.heap.size wr Wd) := Lib.hid (below_step HBv2.out (by omega) hB)
              have E10 : Hid (Wd.heap[wr.heap.size]? = V2.heap[wr.heap.size]?) := Lib.hid (hB.block _ (by omega))
              have Ebv : Hid (Wd.heap[bv]? = V2.heap[bv]?) := Lib.hid (hB.block _ (by omega))
              have HGd := Lib.hid ((HGI.out.step HBv2.out).step hB)
              have hg8d := HGd.out.lt
              have r8 : Wd.cell? ⟨g8, 8, none⟩ = some (.slice a8 ds.length c8) := HGd.out.cell 8 _ rfl
              have HOd := Lib.hid ((HO8.out.below HBv2.out).below hB)
              have HCd : Hid (deedC (fun b => S b) Wd ⟨2, zeroT, cb, ca.name, cc.n⟩ [.int .i64 2, .int .i64 0, .int .i64 0, .string ⟨#[]⟩, .slice none 0 0, .int .i64 cb.kind, .int .i64 cb.n, .string cb.name, .slice acb cb.args.length pcb, .string ca.name, .int .i64 cc.n]) := Lib.hid ⟨none, 0, acb, pcb, rfl, zeroT_rt _ _, (HRcb.out.below HBv2.out).below hB⟩
              have HOB := Lib.hid HO8.out.block
              have hlwd : wr.heap.size < Wd.heap.size := by omega
              have hbvw := HS.out _ hsca
              have hbvb : ¬ W6.heap.size ≤ bv := by omega
              have hbvg : bv ≠ g8 := by omega
              clear hB
              refine rg_take (i := 0) (v := ?_) rfl (by kernel_rfl) (by kernel_rfl) (by kernel_rfl) (by rfl) ?_ hHeld ?_
              rotate_left 1
              · intro w hSw; (try dsimp only at hSw); go_simp; try (with_reducible rfl)
              (try simp only [Act.put, List.setIfInBounds_toArray, List.set_cons_zero, List.set_cons_succ])
              refine rg_take (i := 2) (v := ?_) rfl (by kernel_rfl) (by kernel_rfl) (by kernel_rfl) (by rfl) ?_ hHeld ?_
              rotate_left 1
              · intro w hSw; (try dsimp only at hSw); go_simp; try (with_reducible rfl)
              (try simp only [Act.put, List.setIfInBounds_toArray, List.set_cons_zero, List.set_cons_succ])
              refine rg_take (i := 3) (v := ?_) rfl (by kernel_rfl) (by kernel_rfl) (by kernel_rfl) (by rfl) ?_ hHeld ?_
              rotate_left 1
              · intro w hSw; (try dsimp only at hSw); go_simp; try (with_reducible rfl)
              (try simp only [Act.put, List.setIfInBounds_toArray, List.set_cons_zero, List.set_cons_succ])
              refine rg_take (i := 4) (v := ?_) rfl (by kernel_rfl) (by kernel_rfl) (by kernel_rfl) (by rfl) ?_ hHeld ?_
              rotate_left 1
              · intro w hSw; (try dsimp only at hSw); go_simp; try (with_reducible rfl)
              (try simp only [Act.put, List.setIfInBounds_toArray, List.set_cons_zero, List.set_cons_succ])
              refine rg_take (i := 5) (v := ?_) rfl (by kernel_rfl) (by kernel_rfl) (by kernel_rfl) (by rfl) ?_ hHeld ?_
              rotate_left 1
              · intro w hSw; (try dsimp only at hSw); go_simp; try (with_reducible rfl)
              (try simp only [Act.put, List.setIfInBounds_toArray, List.set_cons_zero, List.set_cons_succ])
              refine rg_take (i := 6) (v := ?_) rfl (by kernel_rfl) (by kernel_rfl) (by kernel_rfl) (by rfl) ?_ hHeld ?_
              rotate_left 1
              · intro w hSw; (try dsimp only at hSw); go_simp; try (with_reducible rfl)
              (try simp only [Act.put, List.setIfInBounds_toArray, List.set_cons_zero, List.set_cons_succ])
              refine rg_take (i := 7) (v := ?_) rfl (by kernel_rfl) (by kernel_rfl) (by kernel_rfl) (by rfl) ?_ hHeld ?_
              rotate_left 1
              · intro w hSw; (try dsimp only at hSw); go_simp; try (with_reducible rfl)
              (try simp only [Act.put, List.setIfInBounds_toArray, List.set_cons_zero, List.set_cons_succ])
              refine rg_take (i := 8) (v := ?_) rfl (by kernel_rfl) (by kernel_rfl) (by kernel_rfl) (by rfl) ?_ hHeld ?_
              rotate_left 1
              · intro w hSw; (try dsimp only at hSw); go_simp; try (with_reducible rfl)
              (try simp only [Act.put, List.setIfInBounds_toArray, List.set_cons_zero, List.set_cons_succ])
              refine rg_take (i := 9) (v := ?_) rfl (by kernel_rfl) (by kernel_rfl) (by kernel_rfl) (by rfl) ?_ hHeld ?_
              rotate_left 1
              · intro w hSw; (try dsimp only at hSw); go_simp; try (with_reducible rfl)
              (try simp only [Act.put, List.setIfInBounds_toArray, List.set_cons_zero, List.set_cons_succ])
              refine rg_take (i := 10) (v := ?_) rfl (by kernel_rfl) (by kernel_rfl) (by kernel_rfl) (by rfl) ?_ hHeld ?_
              rotate_left 1
              · intro w hSw; (try dsimp only at hSw); go_simp; try (with_reducible rfl)
              (try simp only [Act.put, List.setIfInBounds_toArray, List.set_cons_zero, List.set_cons_succ])
              refine rg_take (i := 11) (v := ?_) rfl (by kernel_rfl) (by kernel_rfl) (by kernel_rfl) (by rfl) ?_ hHeld ?_
              rotate_left 1
              · intro w hSw; (try dsimp only at hSw); go_simp; try (with_reducible rfl)
              (try simp only [Act.put, List.setIfInBounds_toArray, List.set_cons_zero, List.set_cons_succ])
              refine rg_take (i := 12) (v := ?_) rfl (by kernel_rfl) (by kernel_rfl) (by kernel_rfl) (by rfl) ?_ hHeld ?_
              rotate_left 1
              · intro w hSw; (try dsimp only at hSw); go_simp; try (with_reducible rfl)
              (try simp only [Act.put, List.setIfInBounds_toArray, List.set_cons_zero, List.set_cons_succ])
              refine rg_take (i := 13) (v := ?_) rfl (by kernel_rfl) (by kernel_rfl) (by kernel_rfl) (by rfl) ?_ hHeld ?_
              rotate_left 1
              · intro w hSw; (try dsimp only at hSw); go_simp; try (with_reducible rfl)
              (try simp only [Act.put, List.setIfInBounds_toArray, List.set_cons_zero, List.set_cons_succ])
              refine rg_take (i := 14) (v := ?_) rfl (by kernel_rfl) (by kernel_rfl) (by kernel_rfl) (by rfl) ?_ hHeld ?_
              rotate_left 1
              · intro w hSw; (try dsimp only at hSw); go_simp; try (with_reducible rfl)
              (try simp only [Act.put, List.setIfInBounds_toArray, List.set_cons_zero, List.set_cons_succ])
              refine rg_take (i := 15) (v := ?_) rfl (by kernel_rfl) (by kernel_rfl) (by kernel_rfl) (by rfl) ?_ hHeld ?_
              rotate_left 1
              · intro w hSw; (try dsimp only at hSw); go_simp; try (with_reducible rfl)
              (try simp only [Act.put, List.setIfInBounds_toArray, List.set_cons_zero, List.set_cons_succ])
              refine rg_take (i := 16) (v := ?_) rfl (by kernel_rfl) (by kernel_rfl) (by kernel_rfl) (by rfl) ?_ hHeld ?_
              rotate_left 1
              · intro w hSw; (try dsimp only at hSw); go_simp; try (with_reducible rfl)
              (try simp only [Act.put, List.setIfInBounds_toArray, List.set_cons_zero, List.set_cons_succ])
              refine rg_two (i := 1) (j := 17) rfl rfl (by kernel_rfl) (by rfl) (by rfl) (fun K hK => ?_) (fun K hK => ?_)
              go_simp
              skip
              refine hK.out _ _ (hHeld) (fun hHeld1 => ?_)
              clear hK K hHeld
              have hHeld := hHeld1
              clear hHeld1
              (try simp only [Act.put, List.setIfInBounds_toArray, List.set_cons_zero, List.set_cons_succ])
              refine rg_only (i := 17) rfl (by kernel_rfl) (by rfl) (fun K hK => ?_)
              go_simp
              skip
              refine hK.out _ _ (HQr.out _ ((Below.heap_alloc Wd (.cells #[.int .i64 2, .int .i64 0, .int .i64 0, .string ⟨#[]⟩, .slice none 0 0, .int .i64 cb.kind, .int .i64 cb.n, .string cb.name, .slice acb cb.args.length pcb, .string ca.name, .int .i64 cc.n] 124) wr.heap.size hlwd).trans E10.out) ((Below.heap_alloc Wd (.cells #[.int .i64 2, .int .i64 0, .int .i64 0, .string ⟨#[]⟩, .slice none 0 0, .int .i64 cb.kind, .int .i64 cb.n, .string cb.name, .slice acb cb.args.length pcb, .string ca.name, .int .i64 cc.n] 124) bv (Nat.lt_trans hbv hlwd)).trans Ebv.out)) (fun hHeld1 => ?_)
              clear hK K hHeld
              have hHeld := hHeld1
              clear hHeld1
              (try simp only [Act.put, List.setIfInBounds_toArray, List.set_cons_zero, List.set_cons_succ])
              refine rg_only (i := 18) rfl (by kernel_rfl) (by rfl) (fun K hK => ?_)
              refine wp_growX (v := .slice a8 ds.length c8) (g0 := Wd.heap.size) deedF _ _ rfl rfl (by rfl) (by rfl) rfl HOd.out HCd.out (fun b hb hl => ⟨.inl hb, fun he => by have := HOB.out b he; have := HS.out b hb; omega⟩) rfl (by omega) (by omega) ?_
              intro gg cg w3 hO3 hB3 hG3 hD3
              have g83 := (hB3.cell (p := ⟨g8, 8, none⟩) hg81).trans r8
              have gf3 := fun o => (hB3.frozen (p := ⟨g8, o, none⟩) hg81).trans (HGd.out.fr o)
              have hl3 := hB3.size
              have hq0 : wr.heap.size < (Wd.alloc (.cells #[.int .i64 2, .int .i64 0, .int .i64 0, .string ⟨#[]⟩, .slice none 0 0, .int .i64 cb.kind, .int .i64 cb.n, .string cb.name, .slice acb cb.args.length pcb, .string ca.name, .int .i64 cc.n] 124)).heap.size := by rw [World.size_alloc]; exact Nat.lt_succ_of_lt hlwd
              have hq1 : bv < (Wd.alloc (.cells #[.int .i64 2, .int .i64 0, .int .i64 0, .string ⟨#[]⟩, .slice none 0 0, .int .i64 cb.kind, .int .i64 cb.n, .string cb.name, .slice acb cb.args.length pcb, .string ca.name, .int .i64 cc.n] 124)).heap.size := by rw [World.size_alloc]; exact Nat.lt_succ_of_lt (Nat.lt_trans hbv hlwd)
              have q1 := hG3.block wr.heap.size hq0 (fun he => Nat.lt_irrefl _ (HOB.out _ he.symm).2)
              have q3 := hG3.block bv hq1 (fun he => hbvb (HOB.out _ he.symm).1)
              have q2 : (Wd.alloc (.cells #[.int .i64 2, .int .i64 0, .int .i64 0, .string ⟨#[]⟩, .slice none 0 0, .int .i64 cb.kind, .int .i64 cb.n, .string cb.name, .slice acb cb.args.length pcb, .string ca.name, .int .i64 cc.n] 124)).heap[wr.heap.size]? = Wd.heap[wr.heap.size]? := Below.heap_alloc _ _ _ hlwd
              have q4 : (Wd.alloc (.cells #[.int .i64 2, .int .i64 0, .int .i64 0, .string ⟨#[]⟩, .slice none 0 0, .int .i64 cb.kind, .int .i64 cb.n, .string cb.name, .slice acb cb.args.length pcb, .string ca.name, .int .i64 cc.n] 124)).heap[bv]? = Wd.heap[bv]? := Below.heap_alloc _ _ _ (Nat.lt_trans hbv hlwd)
              have E103 : Hid (w3.heap[wr.heap.size]? = V2.heap[wr.heap.size]?) := Lib.hid (q1.trans (q2.trans E10.out))
              have Ebv3 : Hid (w3.heap[bv]? = V2.heap[bv]?) := Lib.hid (q3.trans (q4.trans Ebv.out))
              clear q1 q2 q3 q4 hq0 hq1
              have HO3 := Lib.hid hO3
              have HB3 := Lib.hid hB3
              clear hO3 hB3 hG3 hD3
              refine hK.out _ _ (HQr.out _ E103.out Ebv3.out) (fun hHeld1 => ?_)
              clear hK K hHeld
              have hHeld := hHeld1
              clear hHeld1
              (try simp only [Act.put, List.setIfInBounds_toArray, List.set_cons_zero, List.set_cons_succ])
              refine rg_take (i := 19) (v := ?_) rfl (by kernel_rfl) (by kernel_rfl) (by kernel_rfl) (by rfl) ?_ hHeld ?_
              rotate_left 1
              · intro w hSw; (try dsimp only at hSw); go_simp; try (with_reducible rfl)
              (try simp only [Act.put, List.setIfInBounds_toArray, List.set_cons_zero, List.set_cons_succ])
              refine rg_only (i := 20) rfl (by kernel_rfl) (by rfl) (fun K hK => ?_)
              go_simp
              skip
              refine hK.out _ _ (HQr.out _ ((setCell_other w3 g8 8 _ wr.heap.size (by omega)).trans E103.out) ((setCell_other w3 g8 8 _ bv hbvg).trans Ebv3.out)) (fun hHeld1 => ?_)
              clear hK K hHeld
              have hHeld := hHeld1
              clear hHeld1
              (try simp only [Act.put, List.setIfInBounds_toArray, List.set_cons_zero, List.set_cons_succ])
              refine rg_done (by kernel_rfl) ?_
              clear hHeld
              rotate_left 1
              go_simp
              skip
              refine hK.out _ _ (HQr.out _ ((Below.heap_alloc Wd (.cells #[.int .i64 2, .int .i64 0, .int .i64 0, .string ⟨#[]⟩, .slice none 0 0, .int .i64 cb.kind, .int .i64 cb.n, .string cb.name, .slice acb cb.args.length pcb, .string ca.name, .int .i64 cc.n] 124) wr.heap.size hlwd).trans E10.out) ((Below.heap_alloc Wd (.cells #[.int .i64 2, .int .i64 0, .int .i64 0, .string ⟨#[]⟩, .slice none 0 0, .int .i64 cb.kind, .int .i64 cb.n, .string cb.name, .slice acb cb.args.length pcb, .string ca.name, .int .i64 cc.n] 124) bv (Nat.lt_trans hbv hlwd)).trans Ebv.out)) (fun hHeld1 => ?_)
              clear hK K hHeld
              have hHeld := hHeld1
              clear hHeld1
              (try simp only [Act.put, List.setIfInBounds_toArray, List.set_cons_zero, List.set_cons_succ])
              refine rg_only (i := 1) rfl (by kernel_rfl) (by rfl) (fun K hK => ?_)
              go_simp
              skip
              refine hK.out _ _ (hHeld) (fun hHeld1 => ?_)
              clear hK K hHeld
              have hHeld := hHeld1
              clear hHeld1
              (try simp only [Act.put, List.setIfInBounds_toArray, List.set_cons_zero, List.set_cons_succ])
              refine rg_only (i := 18) rfl (by kernel_rfl) (by rfl) (fun K hK => ?_)
              refine wp_growX (v := .slice a8 ds.length c8) (g0 := Wd.heap.size) deedF _ _ rfl rfl (by rfl) (by rfl) rfl HOd.out HCd.out (fun b hb hl => ⟨.inl hb, fun he => by have := HOB.out b he; have := HS.out b hb; omega⟩) rfl (by omega) (by omega) ?_
              intro gg cg w3 hO3 hB3 hG3 hD3
              have g83 := (hB3.cell (p := ⟨g8, 8, none⟩) hg81).trans r8
              have gf3 := fun o => (hB3.frozen (p := ⟨g8, o, none⟩) hg81).trans (HGd.out.fr o)
              have hl3 := hB3.size
              have hq0 : wr.heap.size < (Wd.alloc (.cells #[.int .i64 2, .int .i64 0, .int .i64 0, .string ⟨#[]⟩, .slice none 0 0, .int .i64 cb.kind, .int .i64 cb.n, .string cb.name, .slice acb cb.args.length pcb, .string ca.name, .int .i64 cc.n] 124)).heap.size := by rw [World.size_alloc]; exact Nat.lt_succ_of_lt hlwd
              have hq1 : bv < (Wd.alloc (.cells #[.int .i64 2, .int .i64 0, .int .i64 0, .string ⟨#[]⟩, .slice none 0 0, .int .i64 cb.kind, .int .i64 cb.n, .string cb.name, .slice acb cb.args.length pcb, .string ca.name, .int .i64 cc.n] 124)).heap.size := by rw [World.size_alloc]; exact Nat.lt_succ_of_lt (Nat.lt_trans hbv hlwd)
              have q1 := hG3.block wr.heap.size hq0 (fun he => Nat.lt_irrefl _ (HOB.out _ he.symm).2)
              have q3 := hG3.block bv hq1 (fun he => hbvb (HOB.out _ he.symm).1)
              have q2 : (Wd.alloc (.cells #[.int .i64 2, .int .i64 0, .int .i64 0, .string ⟨#[]⟩, .slice none 0 0, .int .i64 cb.kind, .int .i64 cb.n, .string cb.name, .slice acb cb.args.length pcb, .string ca.name, .int .i64 cc.n] 124)).heap[wr.heap.size]? = Wd.heap[wr.heap.size]? := Below.heap_alloc _ _ _ hlwd
              have q4 : (Wd.alloc (.cells #[.int .i64 2, .int .i64 0, .int .i64 0, .string ⟨#[]⟩, .slice none 0 0, .int .i64 cb.kind, .int .i64 cb.n, .string cb.name, .slice acb cb.args.length pcb, .string ca.name, .int .i64 cc.n] 124)).heap[bv]? = Wd.heap[bv]? := Below.heap_alloc _ _ _ (Nat.lt_trans hbv hlwd)
              have E103 : Hid (w3.heap[wr.heap.size]? = V2.heap[wr.heap.size]?) := Lib.hid (q1.trans (q2.trans E10.out))
              have Ebv3 : Hid (w3.heap[bv]? = V2.heap[bv]?) := Lib.hid (q3.trans (q4.trans Ebv.out))
              clear q1 q2 q3 q4 hq0 hq1
              have HO3 := Lib.hid hO3
              have HB3 := Lib.hid hB3
              clear hO3 hB3 hG3 hD3
              refine hK.out _ _ (HQr.out _ E103.out Ebv3.out) (fun hHeld1 => ?_)
              clear hK K hHeld
              have hHeld := hHeld1
              clear hHeld1
              (try simp only [Act.put, List.setIfInBounds_toArray, List.set_cons_zero, List.set_cons_succ])
              refine rg_take (i := 19) (v := ?_) rfl (by kernel_rfl) (by kernel_rfl) (by kernel_rfl) (by rfl) ?_ hHeld ?_
              rotate_left 1
              · intro w hSw; (try dsimp only at hSw); go_simp; try (with_reducible rfl)
              (try simp only [Act.put, List.setIfInBounds_toArray, List.set_cons_zero, List.set_cons_succ])
              refine rg_only (i := 20) rfl (by kernel_rfl) (by rfl) (fun K hK => ?_)
              go_simp
              skip
              refine hK.out _ _ (HQr.out _ ((setCell_other w3 g8 8 _ wr.heap.size (by omega)).trans E103.out) ((setCell_other w3 g8 8 _ bv hbvg).trans Ebv3.out)) (fun hHeld1 => ?_)
              clear hK K hHeld
              have hHeld := hHeld1
              clear hHeld1
              (try simp only [Act.put, List.setIfInBounds_toArray, List.set_cons_zero, List.set_cons_succ])
              refine rg_done (by kernel_rfl) ?_
              clear hHeld
              rotate_left 1
              all_goals (
                go_wp2_with fail
                go_roundw
                case rel =>
                  have h1 := HO3.out.setCell g8 8 (.slice (some ⟨gg, 0, none⟩) (ds.length + 1) cg) hg81 (fun e => by rcases e with e | e; (have := HS.out _ e; omega); omega)
                  have h2 := ((HK8.out.then HBd.out).thenB HB3.out).setCell (b := g8) (o := 8) (.slice (some ⟨gg, 0, none⟩) (ds.length + 1) cg) (.inl rfl)
                  have h3 : Blk (w3.setCell ⟨g8, 8, none⟩ (.slice (some ⟨gg, 0, none⟩) (ds.length + 1) cg)) g8 [.int .i64 p.kind, .int .i64 p.n, .string p.name, .slice ap p.args.length pp, .int .i64 q.kind, .int .i64 q.n, .string q.name, .slice aq q.args.length pq, .slice (some ⟨gg, 0, none⟩) (ds.length + 1) cg, .int .i64 n.kind, .int .i64 n.n, .string n.name, .slice an n.args.length pn] := (HGd.out.below HB3.out hg81).set 8 (.slice (some ⟨gg, 0, none⟩) (ds.length + 1) cg) (by simp)
                  refine ⟨j + 1, ds ++ [⟨2, zeroT, cb, ca.name, cc.n⟩], .slice (some ⟨gg, 0, none⟩) (ds.length + 1) cg, hlj, by go_num, HM2.out, ?_, ?_, ?_⟩
                  · with_reducible exact h1
                  · with_reducible exact h2
                  · with_reducible exact h3
                case measure => simp [intOf]; omega)
            · skip
              have HI1 := Lib.hid hi1
              have HI2 := Lib.hid hi2
              have HI3 := Lib.hid hi3
              have HI4 := Lib.hid hi4
              have HDO := Lib.hid hdo
              clear hi1 hi2 hi3 hi4 hdo
              have HAA := Lib.hid haa
              have hn5 : ac.args.length = 4 := by rw [haa]; rfl
              have ha1 : (1 : Int) < ac.args.length := by omega
              have ha2 : (2 : Int) < ac.args.length := by omega
              have ha3 : (3 : Int) < ac.args.length := by omega
              have HNA := Lib.hid hn5
              clear haa hn5
              have hrv := HAC.out.rts.2
              rw [HAA.out] at hrv
              obtain ⟨bv, ov, rfl⟩ := hrv.addr (by simp)
              obtain ⟨aca, pca, hsca, ca0, ca1, ca2, ca3, hrca⟩ := hrv.elem 1 (by simp)
              simp only [Nat.zero_mul, Nat.one_mul, Nat.add_zero, Nat.reduceMul, Nat.add_assoc, Nat.reduceAdd, List.getElem_cons_zero, List.getElem_cons_succ] at ca0 ca1 ca2 ca3 hrca
              have HRca := Lib.hid hrca
              clear hrca
              obtain ⟨acb, pcb, hscb, cb0, cb1, cb2, cb3, hrcb⟩ := hrv.elem 2 (by simp)
              simp only [Nat.zero_mul, Nat.one_mul, Nat.add_zero, Nat.reduceMul, Nat.add_assoc, Nat.reduceAdd, List.getElem_cons_zero, List.getElem_cons_succ] at cb0 cb1 cb2 cb3 hrcb
              have HRcb := Lib.hid hrcb
              clear hrcb
              obtain ⟨acc, pcc, hscc, cc0, cc1, cc2, cc3, hrcc⟩ := hrv.elem 3 (by simp)
              simp only [Nat.zero_mul, Nat.one_mul, Nat.add_zero, Nat.reduceMul, Nat.add_assoc, Nat.reduceAdd, List.getElem_cons_zero, List.getElem_cons_succ] at cc0 cc1 cc2 cc3 hrcc
              have HRcc := Lib.hid hrcc
              clear hrcc
              have hbv : bv < wr.heap.size := World.block_lt_of_cell? _ _ ca0
              clear hrv
              refine (is_Is ac sSend _ _ _ _ (HAC.out.below HBv0.out) (by omega) (by omega) (by omega)).mono ?_
              rintro e V1 ⟨he, hB⟩
              rw [HI1.out] at he
              subst he
              have hv1 := hB.size
              have HBv1 : Hid (Below wr.heap.size wr V1) := Lib.hid (below_step HBv0.out (by omega) hB)
              have HBw1 : Hid (Below V0.heap.size V0 V1) := Lib.hid (below_step HBw0.out (by omega) hB)
              obtain ⟨x0, x1, x2, x3⟩ := HX10.out.step HBw1.out
              clear hB
              go_wp2_with fail
              refine (is_Is ac sSpawn _ _ _ _ (HAC.out.below HBv1.out) (by omega) (by omega) (by omega)).mono ?_
              rintro e V2 ⟨he, hB⟩
              rw [HI2.out] at he
              subst he
              have hv2 := hB.size
              have HBv2 : Hid (Below wr.heap.size wr V2) := Lib.hid (below_step HBv1.out (by omega) hB)
              have HBw2 : Hid (Below V0.heap.size V0 V2) := Lib.hid (below_step HBw1.out (by omega) hB)
              obtain ⟨x0, x1, x2, x3⟩ := HX10.out.step HBw2.out
              clear hB
              have ca0v2 := (HBv2.out.cell (p := ⟨bv, ov + 4, none⟩) hbv).trans ca0
              have cc0v2 := (HBv2.out.cell (p := ⟨bv, ov + 12, none⟩) hbv).trans cc0
              clear ca0 ca1 ca2 ca3 cb0 cb1 cb2 cb3 cc0 cc1 cc2 cc3
              go_wp2_with fail
              refine (is_Is ac sLink _ _ _ _ (HAC.out.below HBv2.out) (by omega) (by omega) (by omega)).mono ?_
              rintro e V3 ⟨he, hB⟩
              rw [HI3.out] at he
              subst he
              have hv3 := hB.size
              have HBv3 : Hid (Below wr.heap.size wr V3) := Lib.hid (below_step HBv2.out (by omega) hB)
              have HBw3 : Hid (Below V0.heap.size V0 V3) := Lib.hid (below_step HBw2.out (by omega) hB)
              obtain ⟨x0, x1, x2, x3⟩ := HX10.out.step HBw3.out
              clear hB
              go_wp2_with fail
              refine (is_Is ac sStop _ _ _ _ (HAC.out.below HBv3.out) (by omega) (by omega) (by omega)).mono ?_
              rintro e V4 ⟨he, hB⟩
              rw [HI4.out] at he
              subst he
              have hv4 := hB.size
              have HBv4 : Hid (Below wr.heap.size wr V4) := Lib.hid (below_step HBv3.out (by omega) hB)
              have HBw4 : Hid (Below V0.heap.size V0 V4) := Lib.hid (below_step HBw3.out (by omega) hB)
              obtain ⟨x0, x1, x2, x3⟩ := HX10.out.step HBw4.out
              clear hB
              have HNN : Hid (behvO t = none) := Lib.hid (by rw [HBO.out, mapO_bad hlt (by rw [HUK.out, HCU.out, mapO_bad hlj (by rw [HAJ.out]; exact HDO.out)]; rfl)]; rfl)
              go_wp2_with (first | (refine load_blk 115 2 szBeh _ Try.underlying115 rfl _ rfl rfl rfl (HGR.out.step (HBi.out.trans (HBv4.out.mono (by omega)))) rfl ?_) | (refine store_blk 115 2 szBeh _ _ rfl rfl rfl rfl rfl (HZr.out.step (HBi.out.trans (HBv4.out.mono (by omega)))) rfl rfl rfl ?_; intro W' hF hs' hBW hoth; have HF := Lib.hid hF; have HFB := Lib.hid (hBW _ _ (by omega) (HBr.out.trans (((HBi.out.trans (HBv4.out.mono (by omega)))).mono (by omega)))); have HOTH := Lib.hid hoth; clear hF hBW hoth))
              refine bodyPost_ret (results_blk Try.results77 szBeh _ Try.underlying115 rfl rfl HF.out rfl) rfl (TellS.none HNN.out ⟨x.name, cs⟩ [.string x.name, .slice ar cs.length capr] rfl HFB.out ⟨ar, capr, rfl, ?_⟩)
              exact ((HO.out.below (HBi.out.trans (HBv4.out.mono (by omega)))).rx (fun b hb => .inr hb)).to (fun b hb _ => by rcases hb with hb | hb; exact .inl hb; exact .inr (by omega)) (fun b hb _ => by rcases hb with hb | hb; exact .inl hb; exact .inr (by omega)) fun b hb hl => HOTH.out b (fun e => by rcases hb with (hb | hb) | (hb | hb) <;> first | omega | (have := HS.out b hb; omega))
            · skip
              have HI1 := Lib.hid hi1
              have HI2 := Lib.hid hi2
              have HI3 := Lib.hid hi3
              have HI4 := Lib.hid hi4
              have HDO := Lib.hid hdo
              clear hi1 hi2 hi3 hi4 hdo
              have HAA := Lib.hid haa
              have hn5 : ac.args.length = 4 := by rw [haa]; rfl
              have ha1 : (1 : Int) < ac.args.length := by omega
              have ha2 : (2 : Int) < ac.args.length := by omega
              have ha3 : (3 : Int) < ac.args.length := by omega
              have HNA := Lib.hid hn5
              clear haa hn5
              have hrv := HAC.out.rts.2
              rw [HAA.out] at hrv
              obtain ⟨bv, ov, rfl⟩ := hrv.addr (by simp)
              obtain ⟨aca, pca, hsca, ca0, ca1, ca2, ca3, hrca⟩ := hrv.elem 1 (by simp)
              simp only [Nat.zero_mul, Nat.one_mul, Nat.add_zero, Nat.reduceMul, Nat.add_assoc, Nat.reduceAdd, List.getElem_cons_zero, List.getElem_cons_succ] at ca0 ca1 ca2 ca3 hrca
              have HRca := Lib.hid hrca
              clear hrca
              obtain ⟨acb, pcb, hscb, cb0, cb1, cb2, cb3, hrcb⟩ := hrv.elem 2 (by simp)
              simp only [Nat.zero_mul, Nat.one_mul, Nat.add_zero, Nat.reduceMul, Nat.add_assoc, Nat.reduceAdd, List.getElem_cons_zero, List.getElem_cons_succ] at cb0 cb1 cb2 cb3 hrcb
              have HRcb := Lib.hid hrcb
              clear hrcb
              obtain ⟨acc, pcc, hscc, cc0, cc1, cc2, cc3, hrcc⟩ := hrv.elem 3 (by simp)
              simp only [Nat.zero_mul, Nat.one_mul, Nat.add_zero, Nat.reduceMul, Nat.add_assoc, Nat.reduceAdd, List.getElem_cons_zero, List.getElem_cons_succ] at cc0 cc1 cc2 cc3 hrcc
              have HRcc := Lib.hid hrcc
              clear hrcc
              have hbv : bv < wr.heap.size := World.block_lt_of_cell? _ _ ca0
              clear hrv
              refine (is_Is ac sSend _ _ _ _ (HAC.out.below HBv0.out) (by omega) (by omega) (by omega)).mono ?_
              rintro e V1 ⟨he, hB⟩
              rw [HI1.out] at he
              subst he
              have hv1 := hB.size
              have HBv1 : Hid (Below wr.heap.size wr V1) := Lib.hid (below_step HBv0.out (by omega) hB)
              have HBw1 : Hid (Below V0.heap.size V0 V1) := Lib.hid (below_step HBw0.out (by omega) hB)
              obtain ⟨x0, x1, x2, x3⟩ := HX10.out.step HBw1.out
              clear hB
              go_wp2_with fail
              refine (is_Is ac sSpawn _ _ _ _ (HAC.out.below HBv1.out) (by omega) (by omega) (by omega)).mono ?_
              rintro e V2 ⟨he, hB⟩
              rw [HI2.out] at he
              subst he
              have hv2 := hB.size
              have HBv2 : Hid (Below wr.heap.size wr V2) := Lib.hid (below_step HBv1.out (by omega) hB)
              have HBw2 : Hid (Below V0.heap.size V0 V2) := Lib.hid (below_step HBw1.out (by omega) hB)
              obtain ⟨x0, x1, x2, x3⟩ := HX10.out.step HBw2.out
              clear hB
              have ca0v2 := (HBv2.out.cell (p := ⟨bv, ov + 4, none⟩) hbv).trans ca0
              have cc0v2 := (HBv2.out.cell (p := ⟨bv, ov + 12, none⟩) hbv).trans cc0
              clear ca0 ca1 ca2 ca3 cb0 cb1 cb2 cb3 cc0 cc1 cc2 cc3
              go_wp2_with fail
              refine (is_Is ac sLink _ _ _ _ (HAC.out.below HBv2.out) (by omega) (by omega) (by omega)).mono ?_
              rintro e V3 ⟨he, hB⟩
              rw [HI3.out] at he
              subst he
              have hv3 := hB.size
              have HBv3 : Hid (Below wr.heap.size wr V3) := Lib.hid (below_step HBv2.out (by omega) hB)
              have HBw3 : Hid (Below V0.heap.size V0 V3) := Lib.hid (below_step HBw2.out (by omega) hB)
              obtain ⟨x0, x1, x2, x3⟩ := HX10.out.step HBw3.out
              clear hB
              go_wp2_with fail
              refine (is_Is ac sStop _ _ _ _ (HAC.out.below HBv3.out) (by omega) (by omega) (by omega)).mono ?_
              rintro e V4 ⟨he, hB⟩
              rw [HI4.out] at he
              subst he
              have hv4 := hB.size
              have HBv4 : Hid (Below wr.heap.size wr V4) := Lib.hid (below_step HBv3.out (by omega) hB)
              have HBw4 : Hid (Below V0.heap.size V0 V4) := Lib.hid (below_step HBw3.out (by omega) hB)
              obtain ⟨x0, x1, x2, x3⟩ := HX10.out.step HBw4.out
              clear hB
              have HNN : Hid (behvO t = none) := Lib.hid (by rw [HBO.out, mapO_bad hlt (by rw [HUK.out, HCU.out, mapO_bad hlj (by rw [HAJ.out]; exact HDO.out)]; rfl)]; rfl)
              go_wp2_with (first | (refine load_blk 115 2 szBeh _ Try.underlying115 rfl _ rfl rfl rfl (HGR.out.step (HBi.out.trans (HBv4.out.mono (by omega)))) rfl ?_) | (refine store_blk 115 2 szBeh _ _ rfl rfl rfl rfl rfl (HZr.out.step (HBi.out.trans (HBv4.out.mono (by omega)))) rfl rfl rfl ?_; intro W' hF hs' hBW hoth; have HF := Lib.hid hF; have HFB := Lib.hid (hBW _ _ (by omega) (HBr.out.trans (((HBi.out.trans (HBv4.out.mono (by omega)))).mono (by omega)))); have HOTH := Lib.hid hoth; clear hF hBW hoth))
              refine bodyPost_ret (results_blk Try.results77 szBeh _ Try.underlying115 rfl rfl HF.out rfl) rfl (TellS.none HNN.out ⟨x.name, cs⟩ [.string x.name, .slice ar cs.length capr] rfl HFB.out ⟨ar, capr, rfl, ?_⟩)
              exact ((HO.out.below (HBi.out.trans (HBv4.out.mono (by omega)))).rx (fun b hb => .inr hb)).to (fun b hb _ => by rcases hb with hb | hb; exact .inl hb; exact .inr (by omega)) (fun b hb _ => by rcases hb with hb | hb; exact .inl hb; exact .inr (by omega)) fun b hb hl => HOTH.out b (fun e => by rcases hb with (hb | hb) | (hb | hb) <;> first | omega | (have := HS.out b hb; omega))
            · skip
              have HI1 := Lib.hid hi1
              have HI2 := Lib.hid hi2
              have HI3 := Lib.hid hi3
              have HDO := Lib.hid hdo
              clear hi1 hi2 hi3 hdo
              have HAA := Lib.hid haa
              have hn5 : ac.args.length = 2 := by rw [haa]; rfl
              have ha1 : (1 : Int) < ac.args.length := by omega
              have HNA := Lib.hid hn5
              clear haa hn5
              have hrv := HAC.out.rts.2
              rw [HAA.out] at hrv
              obtain ⟨bv, ov, rfl⟩ := hrv.addr (by simp)
              obtain ⟨aca, pca, hsca, ca0, ca1, ca2, ca3, hrca⟩ := hrv.elem 1 (by simp)
              simp only [Nat.zero_mul, Nat.one_mul, Nat.add_zero, Nat.reduceMul, Nat.add_assoc, Nat.reduceAdd, List.getElem_cons_zero, List.getElem_cons_succ] at ca0 ca1 ca2 ca3 hrca
              have HRca := Lib.hid hrca
              clear hrca
              have hbv : bv < wr.heap.size := World.block_lt_of_cell? _ _ ca0
              clear hrv
              refine (is_Is ac sSend _ _ _ _ (HAC.out.below HBv0.out) (by omega) (by omega) (by omega)).mono ?_
              rintro e V1 ⟨he, hB⟩
              rw [HI1.out] at he
              subst he
              have hv1 := hB.size
              have HBv1 : Hid (Below wr.heap.size wr V1) := Lib.hid (below_step HBv0.out (by omega) hB)
              have HBw1 : Hid (Below V0.heap.size V0 V1) := Lib.hid (below_step HBw0.out (by omega) hB)
              obtain ⟨x0, x1, x2, x3⟩ := HX10.out.step HBw1.out
              clear hB
              go_wp2_with fail
              refine (is_Is ac sSpawn _ _ _ _ (HAC.out.below HBv1.out) (by omega) (by omega) (by omega)).mono ?_
              rintro e V2 ⟨he, hB⟩
              rw [HI2.out] at he
              subst he
              have hv2 := hB.size
              have HBv2 : Hid (Below wr.heap.size wr V2) := Lib.hid (below_step HBv1.out (by omega) hB)
              have HBw2 : Hid (Below V0.heap.size V0 V2) := Lib.hid (below_step HBw1.out (by omega) hB)
              obtain ⟨x0, x1, x2, x3⟩ := HX10.out.step HBw2.out
              clear hB
              go_wp2_with fail
              refine (is_Is ac sLink _ _ _ _ (HAC.out.below HBv2.out) (by omega) (by omega) (by omega)).mono ?_
              rintro e V3 ⟨he, hB⟩
              rw [HI3.out] at he
              subst he
              have hv3 := hB.size
              have HBv3 : Hid (Below wr.heap.size wr V3) := Lib.hid (below_step HBv2.out (by omega) hB)
              have HBw3 : Hid (Below V0.heap.size V0 V3) := Lib.hid (below_step HBw2.out (by omega) hB)
              obtain ⟨x0, x1, x2, x3⟩ := HX10.out.step HBw3.out
              clear hB
              have ca0v3 := (HBv3.out.cell (p := ⟨bv, ov + 4, none⟩) hbv).trans ca0
              have ca1v3 := (HBv3.out.cell (p := ⟨bv, ov + 5, none⟩) hbv).trans ca1
              have ca2v3 := (HBv3.out.cell (p := ⟨bv, ov + 6, none⟩) hbv).trans ca2
              have ca3v3 := (HBv3.out.cell (p := ⟨bv, ov + 7, none⟩) hbv).trans ca3
              clear ca0 ca1 ca2 ca3
              have HQr : Hid (∀ w' : World, w'.heap[wr.heap.size]? = V3.heap[wr.heap.size]? → w'.heap[bv]? = V3.heap[bv]? → w'.cell? ⟨wr.heap.size, 3, none⟩ = some (.slice (some ⟨bv, ov, none⟩) ac.args.length pv) ∧ w'.cell? ⟨bv, ov + 4, none⟩ = some (.int .i64 ca.kind) ∧ w'.cell? ⟨bv, ov + 5, none⟩ = some (.int .i64 ca.n) ∧ w'.cell? ⟨bv, ov + 6, none⟩ = some (.string ca.name) ∧ w'.cell? ⟨bv, ov + 7, none⟩ = some (.slice aca ca.args.length pca)) := Lib.hid fun w' e1 e2 => ⟨(World.cell?_of_block (w := V3) e1).trans x3, (World.cell?_of_block (w := V3) e2).trans ca0v3, (World.cell?_of_block (w := V3) e2).trans ca1v3, (World.cell?_of_block (w := V3) e2).trans ca2v3, (World.cell?_of_block (w := V3) e2).trans ca3v3⟩
              have HM2 : Hid (mapO deedO (m.args.take (j + 1)) = some (ds ++ [⟨3, ca, zeroT, ⟨#[]⟩, 0⟩])) := Lib.hid (by rw [mapO_snoc _ hlj, HM8.out, HAJ.out, HDO.out])
              go_wp2_with fail
              clear x0 x1 x2 x3 ca0v3 ca1v3 ca2v3 ca3v3
              refine rg_start (fun w' => w'.cell? ⟨wr.heap.size, 3, none⟩ = some (.slice (some ⟨bv, ov, none⟩) ac.args.length pv) ∧ w'.cell? ⟨bv, ov + 4, none⟩ = some (.int .i64 ca.kind) ∧ w'.cell? ⟨bv, ov + 5, none⟩ = some (.int .i64 ca.n) ∧ w'.cell? ⟨bv, ov + 6, none⟩ = some (.string ca.name) ∧ w'.cell? ⟨bv, ov + 7, none⟩ = some (.slice aca ca.args.length pca)) (by kernel_rfl) (fun Wd hB => HQr.out _ (hB.block _ (by omega)) (hB.block _ (by omega))) ?_
              intro Wd hB hWd hWd' hHeld
              have HBd : Hid (Below wr.heap.size wr Wd) := Lib.hid (below_step HBv3.out (by omega) hB)
              have E10 : Hid (Wd.heap[wr.heap.size]? = V3.heap[wr.heap.size]?) := Lib.hid (hB.block _ (by omega))
              have Ebv : Hid (Wd.heap[bv]? = V3.heap[bv]?) := Lib.hid (hB.block _ (by omega))
              have HGd := Lib.hid ((HGI.out.step HBv3.out).step hB)
              have hg8d := HGd.out.lt
              have r8 : Wd.cell? ⟨g8, 8, none⟩ = some (.slice a8 ds.length c8) := HGd.out.cell 8 _ rfl
              have HOd := Lib.hid ((HO8.out.below HBv3.out).below hB)
              have HCd : Hid (deedC (fun b => S b) Wd ⟨3, ca, zeroT, ⟨#[]⟩, 0⟩ [.int .i64 3, .int .i64 ca.kind, .int .i64 ca.n, .string ca.name, .slice aca ca.args.length pca, .int .i64 0, .int .i64 0, .string ⟨#[]⟩, .slice none 0 0, .string ⟨#[]⟩, .int .i64 0]) := Lib.hid ⟨aca, pca, none, 0, rfl, (HRca.out.below HBv3.out).below hB, zeroT_rt _ _⟩
              have HOB := Lib.hid HO8.out.block
              have hlwd : wr.heap.size < Wd.heap.size := by omega
              have hbvw := HS.out _ hsca
              have hbvb : ¬ W6.heap.size ≤ bv := by omega
              have hbvg : bv ≠ g8 := by omega
              clear hB
              refine rg_take (i := 0) (v := ?_) rfl (by kernel_rfl) (by kernel_rfl) (by kernel_rfl) (by rfl) ?_ hHeld ?_
              rotate_left 1
              · intro w hSw; (try dsimp only at hSw); go_simp; try (with_reducible rfl)
              (try simp only [Act.put, List.setIfInBounds_toArray, List.set_cons_zero, List.set_cons_succ])
              refine rg_take (i := 2) (v := ?_) rfl (by kernel_rfl) (by kernel_rfl) (by kernel_rfl) (by rfl) ?_ hHeld ?_
              rotate_left 1
              · intro w hSw; (try dsimp only at hSw); go_simp; try (with_reducible rfl)
              (try simp only [Act.put, List.setIfInBounds_toArray, List.set_cons_zero, List.set_cons_succ])
              refine rg_take (i := 3) (v := ?_) rfl (by kernel_rfl) (by kernel_rfl) (by kernel_rfl) (by rfl) ?_ hHeld ?_
              rotate_left 1
              · intro w hSw; (try dsimp only at hSw); go_simp; try (with_reducible rfl)
              (try simp only [Act.put, List.setIfInBounds_toArray, List.set_cons_zero, List.set_cons_succ])
              refine rg_take (i := 4) (v := ?_) rfl (by kernel_rfl) (by kernel_rfl) (by kernel_rfl) (by rfl) ?_ hHeld ?_
              rotate_left 1
              · intro w hSw; (try dsimp only at hSw); go_simp; try (with_reducible rfl)
              (try simp only [Act.put, List.setIfInBounds_toArray, List.set_cons_zero, List.set_cons_succ])
              refine rg_take (i := 5) (v := ?_) rfl (by kernel_rfl) (by kernel_rfl) (by kernel_rfl) (by rfl) ?_ hHeld ?_
              rotate_left 1
              · intro w hSw; (try dsimp only at hSw); go_simp; try (with_reducible rfl)
              (try simp only [Act.put, List.setIfInBounds_toArray, List.set_cons_zero, List.set_cons_succ])
              refine rg_take (i := 6) (v := ?_) rfl (by kernel_rfl) (by kernel_rfl) (by kernel_rfl) (by rfl) ?_ hHeld ?_
              rotate_left 1
              · intro w hSw; (try dsimp only at hSw); go_simp; try (with_reducible rfl)
              (try simp only [Act.put, List.setIfInBounds_toArray, List.set_cons_zero, List.set_cons_succ])
              refine rg_two (i := 1) (j := 7) rfl rfl (by kernel_rfl) (by rfl) (by rfl) (fun K hK => ?_) (fun K hK => ?_)
              go_simp
              skip
              refine hK.out _ _ (hHeld) (fun hHeld1 => ?_)
              clear hK K hHeld
              have hHeld := hHeld1
              clear hHeld1
              (try simp only [Act.put, List.setIfInBounds_toArray, List.set_cons_zero, List.set_cons_succ])
              refine rg_only (i := 7) rfl (by kernel_rfl) (by rfl) (fun K hK => ?_)
              go_simp
              skip
              refine hK.out _ _ (HQr.out _ ((Below.heap_alloc Wd (.cells #[.int .i64 3, .int .i64 ca.kind, .int .i64 ca.n, .string ca.name, .slice aca ca.args.length pca, .int .i64 0, .int .i64 0, .string ⟨#[]⟩, .slice none 0 0, .string ⟨#[]⟩, .int .i64 0] 124) wr.heap.size hlwd).trans E10.out) ((Below.heap_alloc Wd (.cells #[.int .i64 3, .int .i64 ca.kind, .int .i64 ca.n, .string ca.name, .slice aca ca.args.length pca, .int .i64 0, .int .i64 0, .string ⟨#[]⟩, .slice none 0 0, .string ⟨#[]⟩, .int .i64 0] 124) bv (Nat.lt_trans hbv hlwd)).trans Ebv.out)) (fun hHeld1 => ?_)
              clear hK K hHeld
              have hHeld := hHeld1
              clear hHeld1
              (try simp only [Act.put, List.setIfInBounds_toArray, List.set_cons_zero, List.set_cons_succ])
              refine rg_only (i := 8) rfl (by kernel_rfl) (by rfl) (fun K hK => ?_)
              refine wp_growX (v := .slice a8 ds.length c8) (g0 := Wd.heap.size) deedF _ _ rfl rfl (by rfl) (by rfl) rfl HOd.out HCd.out (fun b hb hl => ⟨.inl hb, fun he => by have := HOB.out b he; have := HS.out b hb; omega⟩) rfl (by omega) (by omega) ?_
              intro gg cg w3 hO3 hB3 hG3 hD3
              have g83 := (hB3.cell (p := ⟨g8, 8, none⟩) hg81).trans r8
              have gf3 := fun o => (hB3.frozen (p := ⟨g8, o, none⟩) hg81).trans (HGd.out.fr o)
              have hl3 := hB3.size
              have hq0 : wr.heap.size < (Wd.alloc (.cells #[.int .i64 3, .int .i64 ca.kind, .int .i64 ca.n, .string ca.name, .slice aca ca.args.length pca, .int .i64 0, .int .i64 0, .string ⟨#[]⟩, .slice none 0 0, .string ⟨#[]⟩, .int .i64 0] 124)).heap.size := by rw [World.size_alloc]; exact Nat.lt_succ_of_lt hlwd
              have hq1 : bv < (Wd.alloc (.cells #[.int .i64 3, .int .i64 ca.kind, .int .i64 ca.n, .string ca.name, .slice aca ca.args.length pca, .int .i64 0, .int .i64 0, .string ⟨#[]⟩, .slice none 0 0, .string ⟨#[]⟩, .int .i64 0] 124)).heap.size := by rw [World.size_alloc]; exact Nat.lt_succ_of_lt (Nat.lt_trans hbv hlwd)
              have q1 := hG3.block wr.heap.size hq0 (fun he => Nat.lt_irrefl _ (HOB.out _ he.symm).2)
              have q3 := hG3.block bv hq1 (fun he => hbvb (HOB.out _ he.symm).1)
              have q2 : (Wd.alloc (.cells #[.int .i64 3, .int .i64 ca.kind, .int .i64 ca.n, .string ca.name, .slice aca ca.args.length pca, .int .i64 0, .int .i64 0, .string ⟨#[]⟩, .slice none 0 0, .string ⟨#[]⟩, .int .i64 0] 124)).heap[wr.heap.size]? = Wd.heap[wr.heap.size]? := Below.heap_alloc _ _ _ hlwd
              have q4 : (Wd.alloc (.cells #[.int .i64 3, .int .i64 ca.kind, .int .i64 ca.n, .string ca.name, .slice aca ca.args.length pca, .int .i64 0, .int .i64 0, .string ⟨#[]⟩, .slice none 0 0, .string ⟨#[]⟩, .int .i64 0] 124)).heap[bv]? = Wd.heap[bv]? := Below.heap_alloc _ _ _ (Nat.lt_trans hbv hlwd)
              have E103 : Hid (w3.heap[wr.heap.size]? = V3.heap[wr.heap.size]?) := Lib.hid (q1.trans (q2.trans E10.out))
              have Ebv3 : Hid (w3.heap[bv]? = V3.heap[bv]?) := Lib.hid (q3.trans (q4.trans Ebv.out))
              clear q1 q2 q3 q4 hq0 hq1
              have HO3 := Lib.hid hO3
              have HB3 := Lib.hid hB3
              clear hO3 hB3 hG3 hD3
              refine hK.out _ _ (HQr.out _ E103.out Ebv3.out) (fun hHeld1 => ?_)
              clear hK K hHeld
              have hHeld := hHeld1
              clear hHeld1
              (try simp only [Act.put, List.setIfInBounds_toArray, List.set_cons_zero, List.set_cons_succ])
              refine rg_take (i := 9) (v := ?_) rfl (by kernel_rfl) (by kernel_rfl) (by kernel_rfl) (by rfl) ?_ hHeld ?_
              rotate_left 1
              · intro w hSw; (try dsimp only at hSw); go_simp; try (with_reducible rfl)
              (try simp only [Act.put, List.setIfInBounds_toArray, List.set_cons_zero, List.set_cons_succ])
              refine rg_only (i := 10) rfl (by kernel_rfl) (by rfl) (fun K hK => ?_)
              go_simp
              skip
              refine hK.out _ _ (HQr.out _ ((setCell_other w3 g8 8 _ wr.heap.size (by omega)).trans E103.out) ((setCell_other w3 g8 8 _ bv hbvg).trans Ebv3.out)) (fun hHeld1 => ?_)
              clear hK K hHeld
              have hHeld := hHeld1
              clear hHeld1
              (try simp only [Act.put, List.setIfInBounds_toArray, List.set_cons_zero, List.set_cons_succ])
              refine rg_done (by kernel_rfl) ?_
              clear hHeld
              rotate_left 1
              go_simp
              skip
              refine hK.out _ _ (HQr.out _ ((Below.heap_alloc Wd (.cells #[.int .i64 3, .int .i64 ca.kind, .int .i64 ca.n, .string ca.name, .slice aca ca.args.length pca, .int .i64 0, .int .i64 0, .string ⟨#[]⟩, .slice none 0 0, .string ⟨#[]⟩, .int .i64 0] 124) wr.heap.size hlwd).trans E10.out) ((Below.heap_alloc Wd (.cells #[.int .i64 3, .int .i64 ca.kind, .int .i64 ca.n, .string ca.name, .slice aca ca.args.length pca, .int .i64 0, .int .i64 0, .string ⟨#[]⟩, .slice none 0 0, .string ⟨#[]⟩, .int .i64 0] 124) bv (Nat.lt_trans hbv hlwd)).trans Ebv.out)) (fun hHeld1 => ?_)
              clear hK K hHeld
              have hHeld := hHeld1
              clear hHeld1
              (try simp only [Act.put, List.setIfInBounds_toArray, List.set_cons_zero, List.set_cons_succ])
              refine rg_only (i := 1) rfl (by kernel_rfl) (by rfl) (fun K hK => ?_)
              go_simp
              skip
              refine hK.out _ _ (hHeld) (fun hHeld1 => ?_)
              clear hK K hHeld
              have hHeld := hHeld1
              clear hHeld1
              (try simp only [Act.put, List.setIfInBounds_toArray, List.set_cons_zero, List.set_cons_succ])
              refine rg_only (i := 8) rfl (by kernel_rfl) (by rfl) (fun K hK => ?_)
              refine wp_growX (v := .slice a8 ds.length c8) (g0 := Wd.heap.size) deedF _ _ rfl rfl (by rfl) (by rfl) rfl HOd.out HCd.out (fun b hb hl => ⟨.inl hb, fun he => by have := HOB.out b he; have := HS.out b hb; omega⟩) rfl (by omega) (by omega) ?_
              intro gg cg w3 hO3 hB3 hG3 hD3
              have g83 := (hB3.cell (p := ⟨g8, 8, none⟩) hg81).trans r8
              have gf3 := fun o => (hB3.frozen (p := ⟨g8, o, none⟩) hg81).trans (HGd.out.fr o)
              have hl3 := hB3.size
              have hq0 : wr.heap.size < (Wd.alloc (.cells #[.int .i64 3, .int .i64 ca.kind, .int .i64 ca.n, .string ca.name, .slice aca ca.args.length pca, .int .i64 0, .int .i64 0, .string ⟨#[]⟩, .slice none 0 0, .string ⟨#[]⟩, .int .i64 0] 124)).heap.size := by rw [World.size_alloc]; exact Nat.lt_succ_of_lt hlwd
              have hq1 : bv < (Wd.alloc (.cells #[.int .i64 3, .int .i64 ca.kind, .int .i64 ca.n, .string ca.name, .slice aca ca.args.length pca, .int .i64 0, .int .i64 0, .string ⟨#[]⟩, .slice none 0 0, .string ⟨#[]⟩, .int .i64 0] 124)).heap.size := by rw [World.size_alloc]; exact Nat.lt_succ_of_lt (Nat.lt_trans hbv hlwd)
              have q1 := hG3.block wr.heap.size hq0 (fun he => Nat.lt_irrefl _ (HOB.out _ he.symm).2)
              have q3 := hG3.block bv hq1 (fun he => hbvb (HOB.out _ he.symm).1)
              have q2 : (Wd.alloc (.cells #[.int .i64 3, .int .i64 ca.kind, .int .i64 ca.n, .string ca.name, .slice aca ca.args.length pca, .int .i64 0, .int .i64 0, .string ⟨#[]⟩, .slice none 0 0, .string ⟨#[]⟩, .int .i64 0] 124)).heap[wr.heap.size]? = Wd.heap[wr.heap.size]? := Below.heap_alloc _ _ _ hlwd
              have q4 : (Wd.alloc (.cells #[.int .i64 3, .int .i64 ca.kind, .int .i64 ca.n, .string ca.name, .slice aca ca.args.length pca, .int .i64 0, .int .i64 0, .string ⟨#[]⟩, .slice none 0 0, .string ⟨#[]⟩, .int .i64 0] 124)).heap[bv]? = Wd.heap[bv]? := Below.heap_alloc _ _ _ (Nat.lt_trans hbv hlwd)
              have E103 : Hid (w3.heap[wr.heap.size]? = V3.heap[wr.heap.size]?) := Lib.hid (q1.trans (q2.trans E10.out))
              have Ebv3 : Hid (w3.heap[bv]? = V3.heap[bv]?) := Lib.hid (q3.trans (q4.trans Ebv.out))
              clear q1 q2 q3 q4 hq0 hq1
              have HO3 := Lib.hid hO3
              have HB3 := Lib.hid hB3
              clear hO3 hB3 hG3 hD3
              refine hK.out _ _ (HQr.out _ E103.out Ebv3.out) (fun hHeld1 => ?_)
              clear hK K hHeld
              have hHeld := hHeld1
              clear hHeld1
              (try simp only [Act.put, List.setIfInBounds_toArray, List.set_cons_zero, List.set_cons_succ])
              refine rg_take (i := 9) (v := ?_) rfl (by kernel_rfl) (by kernel_rfl) (by kernel_rfl) (by rfl) ?_ hHeld ?_
              rotate_left 1
              · intro w hSw; (try dsimp only at hSw); go_simp; try (with_reducible rfl)
              (try simp only [Act.put, List.setIfInBounds_toArray, List.set_cons_zero, List.set_cons_succ])
              refine rg_only (i := 10) rfl (by kernel_rfl) (by rfl) (fun K hK => ?_)
              go_simp
              skip
              refine hK.out _ _ (HQr.out _ ((setCell_other w3 g8 8 _ wr.heap.size (by omega)).trans E103.out) ((setCell_other w3 g8 8 _ bv hbvg).trans Ebv3.out)) (fun hHeld1 => ?_)
              clear hK K hHeld
              have hHeld := hHeld1
              clear hHeld1
              (try simp only [Act.put, List.setIfInBounds_toArray, List.set_cons_zero, List.set_cons_succ])
              refine rg_done (by kernel_rfl) ?_
              clear hHeld
              rotate_left 1
              all_goals (
                go_wp2_with fail
                go_roundw
                case rel =>
                  have h1 := HO3.out.setCell g8 8 (.slice (some ⟨gg, 0, none⟩) (ds.length + 1) cg) hg81 (fun e => by rcases e with e | e; (have := HS.out _ e; omega); omega)
                  have h2 := ((HK8.out.then HBd.out).thenB HB3.out).setCell (b := g8) (o := 8) (.slice (some ⟨gg, 0, none⟩) (ds.length + 1) cg) (.inl rfl)
                  have h3 : Blk (w3.setCell ⟨g8, 8, none⟩ (.slice (some ⟨gg, 0, none⟩) (ds.length + 1) cg)) g8 [.int .i64 p.kind, .int .i64 p.n, .string p.name, .slice ap p.args.length pp, .int .i64 q.kind, .int .i64 q.n, .string q.name, .slice aq q.args.length pq, .slice (some ⟨gg, 0, none⟩) (ds.length + 1) cg, .int .i64 n.kind, .int .i64 n.n, .string n.name, .slice an n.args.length pn] := (HGd.out.below HB3.out hg81).set 8 (.slice (some ⟨gg, 0, none⟩) (ds.length + 1) cg) (by simp)
                  refine ⟨j + 1, ds ++ [⟨3, ca, zeroT, ⟨#[]⟩, 0⟩], .slice (some ⟨gg, 0, none⟩) (ds.length + 1) cg, hlj, by go_num, HM2.out, ?_, ?_, ?_⟩
                  · with_reducible exact h1
                  · with_reducible exact h2
                  · with_reducible exact h3
                case measure => simp [intOf]; omega)
            · skip
              have HI1 := Lib.hid hi1
              have HI2 := Lib.hid hi2
              have HI3 := Lib.hid hi3
              have HI4 := Lib.hid hi4
              have HDO := Lib.hid hdo
              clear hi1 hi2 hi3 hi4 hdo
              refine (is_Is ac sSend _ _ _ _ (HAC.out.below HBv0.out) (by omega) (by omega) (by omega)).mono ?_
              rintro e V1 ⟨he, hB⟩
              rw [HI1.out] at he
              subst he
              have hv1 := hB.size
              have HBv1 : Hid (Below wr.heap.size wr V1) := Lib.hid (below_step HBv0.out (by omega) hB)
              have HBw1 : Hid (Below V0.heap.size V0 V1) := Lib.hid (below_step HBw0.out (by omega) hB)
              obtain ⟨x0, x1, x2, x3⟩ := HX10.out.step HBw1.out
              clear hB
              go_wp2_with fail
              refine (is_Is ac sSpawn _ _ _ _ (HAC.out.below HBv1.out) (by omega) (by omega) (by omega)).mono ?_
              rintro e V2 ⟨he, hB⟩
              rw [HI2.out] at he
              subst he
              have hv2 := hB.size
              have HBv2 : Hid (Below wr.heap.size wr V2) := Lib.hid (below_step HBv1.out (by omega) hB)
              have HBw2 : Hid (Below V0.heap.size V0 V2) := Lib.hid (below_step HBw1.out (by omega) hB)
              obtain ⟨x0, x1, x2, x3⟩ := HX10.out.step HBw2.out
              clear hB
              go_wp2_with fail
              refine (is_Is ac sLink _ _ _ _ (HAC.out.below HBv2.out) (by omega) (by omega) (by omega)).mono ?_
              rintro e V3 ⟨he, hB⟩
              rw [HI3.out] at he
              subst he
              have hv3 := hB.size
              have HBv3 : Hid (Below wr.heap.size wr V3) := Lib.hid (below_step HBv2.out (by omega) hB)
              have HBw3 : Hid (Below V0.heap.size V0 V3) := Lib.hid (below_step HBw2.out (by omega) hB)
              obtain ⟨x0, x1, x2, x3⟩ := HX10.out.step HBw3.out
              clear hB
              go_wp2_with fail
              refine (is_Is ac sStop _ _ _ _ (HAC.out.below HBv3.out) (by omega) (by omega) (by omega)).mono ?_
              rintro e V4 ⟨he, hB⟩
              rw [HI4.out] at he
              subst he
              have hv4 := hB.size
              have HBv4 : Hid (Below wr.heap.size wr V4) := Lib.hid (below_step HBv3.out (by omega) hB)
              have HBw4 : Hid (Below V0.heap.size V0 V4) := Lib.hid (below_step HBw3.out (by omega) hB)
              obtain ⟨x0, x1, x2, x3⟩ := HX10.out.step HBw4.out
              clear hB
              have HM2 : Hid (mapO deedO (m.args.take (j + 1)) = some (ds ++ [⟨4, zeroT, zeroT, ⟨#[]⟩, 0⟩])) := Lib.hid (by rw [mapO_snoc _ hlj, HM8.out, HAJ.out, HDO.out])
              have HGd := Lib.hid (HGI.out.step HBv4.out)
              have hg8d := HGd.out.lt
              have r8 : V4.cell? ⟨g8, 8, none⟩ = some (.slice a8 ds.length c8) := HGd.out.cell 8 _ rfl
              have r8f := HGd.out.fr
              have HOd := Lib.hid (HO8.out.below HBv4.out)
              have HCd : Hid (deedC (fun b => S b) V4 ⟨4, zeroT, zeroT, ⟨#[]⟩, 0⟩ [.int .i64 4, .int .i64 0, .int .i64 0, .string ⟨#[]⟩, .slice none 0 0, .int .i64 0, .int .i64 0, .string ⟨#[]⟩, .slice none 0 0, .string ⟨#[]⟩, .int .i64 0]) := Lib.hid ⟨none, 0, none, 0, rfl, zeroT_rt _ _, zeroT_rt _ _⟩
              have HOB := Lib.hid HO8.out.block
              go_wp2_with (at_builtin; refine append_growX deedF _ _ rfl rfl rfl rfl (by rfl) HOd.out HCd.out (fun b hb hl => ⟨.inl hb, fun he => by have := HOB.out b he; have := HS.out b hb; omega⟩) rfl (by omega) (by omega) ?_; intro gg cg w3 hO3 hB3 hG3 hD3; have g83 := (hB3.cell (p := ⟨g8, 8, none⟩) hg81).trans r8; have gf3 := fun o => (hB3.frozen (p := ⟨g8, o, none⟩) hg81).trans (HGd.out.fr o); have HO3 := Lib.hid hO3; have HB3 := Lib.hid hB3; clear hO3 hB3 hG3 hD3)
              go_roundw
              case rel =>
                have h1 := HO3.out.setCell g8 8 (.slice (some ⟨gg, 0, none⟩) (ds.length + 1) cg) hg81 (fun e => by rcases e with e | e; (have := HS.out _ e; omega); omega)
                have h2 := ((HK8.out.then HBv4.out).thenB HB3.out).setCell (b := g8) (o := 8) (.slice (some ⟨gg, 0, none⟩) (ds.length + 1) cg) (.inl rfl)
                have h3 : Blk (w3.setCell ⟨g8, 8, none⟩ (.slice (some ⟨gg, 0, none⟩) (ds.length + 1) cg)) g8 [.int .i64 p.kind, .int .i64 p.n, .string p.name, .slice ap p.args.length pp, .int .i64 q.kind, .int .i64 q.n, .string q.name, .slice aq q.args.length pq, .slice (some ⟨gg, 0, none⟩) (ds.length + 1) cg, .int .i64 n.kind, .int .i64 n.n, .string n.name, .slice an n.args.length pn] := (HGd.out.below HB3.out hg81).set 8 (.slice (some ⟨gg, 0, none⟩) (ds.length + 1) cg) (by simp)
                refine ⟨j + 1, ds ++ [⟨4, zeroT, zeroT, ⟨#[]⟩, 0⟩], .slice (some ⟨gg, 0, none⟩) (ds.length + 1) cg, hlj, by go_num, HM2.out, ?_, ?_, ?_⟩
                · with_reducible exact h1
                · with_reducible exact h2
                · with_reducible exact h3
              case measure => simp [intOf]; omega
            · skip
              have HI1 := Lib.hid hi1
              have HI2 := Lib.hid hi2
              have HI3 := Lib.hid hi3
              have HI4 := Lib.hid hi4
              have HDO := Lib.hid hdo
              clear hi1 hi2 hi3 hi4 hdo
              refine (is_Is ac sSend _ _ _ _ (HAC.out.below HBv0.out) (by omega) (by omega) (by omega)).mono ?_
              rintro e V1 ⟨he, hB⟩
              rw [HI1.out] at he
              subst he
              have hv1 := hB.size
              have HBv1 : Hid (Below wr.heap.size wr V1) := Lib.hid (below_step HBv0.out (by omega) hB)
              have HBw1 : Hid (Below V0.heap.size V0 V1) := Lib.hid (below_step HBw0.out (by omega) hB)
              obtain ⟨x0, x1, x2, x3⟩ := HX10.out.step HBw1.out
              clear hB
              go_wp2_with fail
              refine (is_Is ac sSpawn _ _ _ _ (HAC.out.below HBv1.out) (by omega) (by omega) (by omega)).mono ?_
              rintro e V2 ⟨he, hB⟩
              rw [HI2.out] at he
              subst he
              have hv2 := hB.size
              have HBv2 : Hid (Below wr.heap.size wr V2) := Lib.hid (below_step HBv1.out (by omega) hB)
              have HBw2 : Hid (Below V0.heap.size V0 V2) := Lib.hid (below_step HBw1.out (by omega) hB)
              obtain ⟨x0, x1, x2, x3⟩ := HX10.out.step HBw2.out
              clear hB
              go_wp2_with fail
              refine (is_Is ac sLink _ _ _ _ (HAC.out.below HBv2.out) (by omega) (by omega) (by omega)).mono ?_
              rintro e V3 ⟨he, hB⟩
              rw [HI3.out] at he
              subst he
              have hv3 := hB.size
              have HBv3 : Hid (Below wr.heap.size wr V3) := Lib.hid (below_step HBv2.out (by omega) hB)
              have HBw3 : Hid (Below V0.heap.size V0 V3) := Lib.hid (below_step HBw2.out (by omega) hB)
              obtain ⟨x0, x1, x2, x3⟩ := HX10.out.step HBw3.out
              clear hB
              go_wp2_with fail
              refine (is_Is ac sStop _ _ _ _ (HAC.out.below HBv3.out) (by omega) (by omega) (by omega)).mono ?_
              rintro e V4 ⟨he, hB⟩
              rw [HI4.out] at he
              subst he
              have hv4 := hB.size
              have HBv4 : Hid (Below wr.heap.size wr V4) := Lib.hid (below_step HBv3.out (by omega) hB)
              have HBw4 : Hid (Below V0.heap.size V0 V4) := Lib.hid (below_step HBw3.out (by omega) hB)
              obtain ⟨x0, x1, x2, x3⟩ := HX10.out.step HBw4.out
              clear hB
              have HNN : Hid (behvO t = none) := Lib.hid (by rw [HBO.out, mapO_bad hlt (by rw [HUK.out, HCU.out, mapO_bad hlj (by rw [HAJ.out]; exact HDO.out)]; rfl)]; rfl)
              go_wp2_with (first | (refine load_blk 115 2 szBeh _ Try.underlying115 rfl _ rfl rfl rfl (HGR.out.step (HBi.out.trans (HBv4.out.mono (by omega)))) rfl ?_) | (refine store_blk 115 2 szBeh _ _ rfl rfl rfl rfl rfl (HZr.out.step (HBi.out.trans (HBv4.out.mono (by omega)))) rfl rfl rfl ?_; intro W' hF hs' hBW hoth; have HF := Lib.hid hF; have HFB := Lib.hid (hBW _ _ (by omega) (HBr.out.trans (((HBi.out.trans (HBv4.out.mono (by omega)))).mono (by omega)))); have HOTH := Lib.hid hoth; clear hF hBW hoth))
              refine bodyPost_ret (results_blk Try.results77 szBeh _ Try.underlying115 rfl rfl HF.out rfl) rfl (TellS.none HNN.out ⟨x.name, cs⟩ [.string x.name, .slice ar cs.length capr] rfl HFB.out ⟨ar, capr, rfl, ?_⟩)
              exact ((HO.out.below (HBi.out.trans (HBv4.out.mono (by omega)))).rx (fun b hb => .inr hb)).to (fun b hb _ => by rcases hb with hb | hb; exact .inl hb; exact .inr (by omega)) (fun b hb _ => by rcases hb with hb | hb; exact .inl hb; exact .inr (by omega)) fun b hb hl => HOTH.out b (fun e => by rcases hb with (hb | hb) | (hb | hb) <;> first | omega | (have := HS.out b hb; omega))
          · skip
            have hjj : j = m.args.length := by omega
            subst hjj
            have hji : ¬ (m.args.length : Int) < m.args.length := by omega
            have HM3 : Hid (mapO clauO (L.take (k + 1)) = some (cs ++ [⟨p, q, ds, n⟩])) := Lib.hid (by have := HM8.out; rw [List.take_of_length_le (Nat.le_refl _)] at this; rw [mapO_snoc _ hlt, HM.out, HUK.out, HCU.out, this]; rfl)
            have H4i := Lib.hid (HGR.out.step HBi.out)
            have b41 : wr.cell? ⟨w.heap.size + 1 + 1, 1, none⟩ = some (.slice ar cs.length capr) := H4i.out.cell 1 _ rfl
            have b4f := H4i.out.fr
            have b4l := H4i.out.lt
            have HOi := Lib.hid (HO.out.below HBi.out)
            have HOB := Lib.hid HO.out.block
            have HCi : Hid (clauC (fun b => S b ∨ wo.heap.size ≤ b) wr ⟨p, q, ds, n⟩ [.int .i64 p.kind, .int .i64 p.n, .string p.name, .slice ap p.args.length pp, .int .i64 q.kind, .int .i64 q.n, .string q.name, .slice aq q.args.length pq, .slice a8 ds.length c8, .int .i64 n.kind, .int .i64 n.n, .string n.name, .slice an n.args.length pn]) := Lib.hid ⟨ap, pp, aq, pq, a8, c8, an, pn, rfl, (HRp.out.below HBi.out).mono (fun b hb => .inl hb), (HRq.out.below HBi.out).mono (fun b hb => .inl hb), (HO8.out.rx (fun b hb => .inr hb)).mono (fun b hb => by rcases hb with hb | hb; exact .inl hb; exact .inr (by omega)) (fun b hb => by rcases hb with hb | hb; exact .inl hb; exact .inr (by omega)), (HRn.out.below HBi.out).mono (fun b hb => .inl hb)⟩
            have hkL : k + 1 ≤ (y :: r).length := by rw [← HLE.out]; exact hlt
            have HKL := Lib.hid hkL
            clear hkL
            go_wp2_with (first | (at_builtin; refine append_growX clauF _ _ rfl rfl rfl rfl (by rfl) HOi.out HCi.out (fun b hb hl => ⟨by rcases hb with hb | hb; exact .inl hb; exact .inr (by omega), fun he => by have := HOB.out b he; rcases hb with hb | hb; (have := HS.out b hb; omega); omega⟩) rfl (by omega) (by omega) ?_; intro gg cg w3 hO3 hB3 hG3 hD3; have b43 := (hB3.cell (p := ⟨w.heap.size + 1 + 1, 1, none⟩) hl4).trans b41; have b4f3 := fun o => (hB3.frozen (p := ⟨w.heap.size + 1 + 1, o, none⟩) hl4).trans (H4i.out.fr o); have HO3 := Lib.hid hO3; have HB3 := Lib.hid hB3; clear hO3 hB3 hG3 hD3) | (refine load_blk (o := ⟨some 172, .load 122 (.tmp 8), _, _, _, _⟩) 122 13 szClau _ Try.underlying122 rfl _ rfl rfl rfl HGI.out rfl ?_))
            go_roundw
            case rel =>
              have h1 := HO3.out.setCell (w.heap.size + 1 + 1) 1 (.slice (some ⟨gg, 0, none⟩) (cs.length + 1) cg) hl4 (fun e => by rcases e with e | e; (have := HS.out _ e; omega); omega)
              have h2 := ((HK.out.then HBi.out).thenB HB3.out).setCell (b := w.heap.size + 1 + 1) (o := 1) (.slice (some ⟨gg, 0, none⟩) (cs.length + 1) cg) (.inl rfl)
              have h3 : Blk (w3.setCell ⟨w.heap.size + 1 + 1, 1, none⟩ (.slice (some ⟨gg, 0, none⟩) (cs.length + 1) cg)) (w.heap.size + 1 + 1) [.string x.name, .slice (some ⟨gg, 0, none⟩) (cs.length + 1) cg] := (H4i.out.below HB3.out hl4).set 1 (.slice (some ⟨gg, 0, none⟩) (cs.length + 1) cg) (by simp)
              refine ⟨k + 1, cs ++ [⟨p, q, ds, n⟩], .slice (some ⟨gg, 0, none⟩) (cs.length + 1) cg, HKL.out, ?_, ?_, ?_, ?_, ?_⟩
              · show Value.int _ _ = Value.int _ _
                congr 1 <;> omega
              · rw [← HLE.out]; exact HM3.out
              · with_reducible exact h1
              · with_reducible exact h2
              · with_reducible exact h3
            case measure => have := HHM.out; simp [intOf]; omega
    · have hkk : k = L.length := by omega
      subst hkk
      have hik : ¬ (L.length : Int) + 2 < t.args.length := by have := hlen.out; omega
      have HCL : Hid (behvO t = some ⟨x.name, cs⟩) := Lib.hid (by rw [HBO.out]; have := HM.out; rw [List.take_of_length_le (Nat.le_refl _)] at this; rw [this]; rfl)
      go_wp2_with (first | (refine load_blk 115 2 szBeh _ Try.underlying115 rfl _ rfl rfl rfl (HGR.out) rfl ?_) | (refine store_blk 115 2 szBeh _ _ rfl rfl rfl rfl rfl (HZr.out) rfl rfl rfl ?_; intro W' hF hs' hBW hoth; have HF := Lib.hid hF; have HFB := Lib.hid (hBW _ _ (by omega) (HBr.out)); have HOTH := Lib.hid hoth; clear hF hBW hoth))
      refine bodyPost_ret (results_blk Try.results77 szBeh _ Try.underlying115 rfl rfl HF.out rfl) rfl ⟨⟨x.name, cs⟩, [.string x.name, .slice ar cs.length capr], by rw [HCL.out]; rfl, HFB.out, ⟨ar, capr, rfl, ?_⟩, fun c' h => by rw [HCL.out] at h; exact (Option.some.inj h).symm⟩
      exact (HO.out.rx (fun b hb => .inr hb)).to (fun b hb _ => by rcases hb with hb | hb; exact .inl hb; exact .inr (by omega)) (fun b hb _ => by rcases hb with hb | hb; exact .inl hb; exact .inr (by omega)) fun b hb hl => HOTH.out b (fun e => by rcases hb with (hb | hb) | (hb | hb) <;> first | omega | (have := HS.out b hb; omega))

theorem rbeh_c (t : T) (S : Nat → Prop) (w : World) (v : Value) (hv : RT S w t v) (hS : ∀ b, S b → b < w.heap.size) (hb : bulkL [t] ≤ 137438953472) : Calls Try.prog 77 #[v] w (TellS S behvE behvO w t) := by
  by_cases h3 : t.args.length < 3
  · exact rbeh_short t S w v hv hS hb h3
  · rcases behv_cases t (by omega) with ⟨hi, hn⟩ | ⟨hd, x, y, r, ha, hi, hk, hn⟩ | ⟨hd, x, y, r, ha, hi, hk, hn⟩
    · exact rbeh_none t S w v hv hS hb (by omega) hi hn
    · exact rbeh_kind t S w v hv hS hb hd x y r (by omega) ha hi hk hn
    · exact rbeh_main t S w v hv hS hb hd x y r (by omega) ha hi hk hn
end Go.Proofs.Ytedfepnekjjmnaa
