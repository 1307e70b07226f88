/-
  Contracts and plain laws, joined: Heap8 Heap9 Heap10 PutR JoinP GraphP KeptP Kept AgainP AgainI ProcP ShareP Side SideQ NodeM LiveP GrowP ProcM Proc1 Proc12 Proc13 Proc2 Proc3 Proc4 Proc5 Proc6 Proc8. Conditions stand in each.
-/
import Derived.Deep.Upon
import Derived.Deep.CutBlock
import Derived.Deep.DeepCutAuto
import Derived.Test.YtedfepnekjjmnabHeap7
import Derived.Test.YtedfepnekjjmnabForm
import Derived.Test.YtedfepnekjjmnabJg
import Derived.Test.YtedfepnekjjmnabJb
import Derived.Test.YtedfepnekjjmnabJc
import Derived.Test.YtedfepnekjjmnabRCheck
import Derived.Test.YtedfepnekjjmnabJe
import Derived.Test.YtedfepnekjjmnabJa
import Derived.Test.YtedfepnekjjmnabValNC
/-
 heap.all: whether all words stand for something. No condition but a bound.
-/
namespace Go.Proofs.Ytedfepnekjjmnab
open Go.RowKit
set_option linter.unusedSimpArgs false
set_option linter.unusedVariables false
set_option maxRecDepth 100000

set_option maxHeartbeats 400000 in
theorem indexFuncW (p : Wrd → Bool) (R S : Nat → Prop) (ts : List Wrd) (w : World) (v c : Value) (hv : RX wrdE R S w ts v) (hlen : ts.length ≤ 1099511627776)
  (hf : ∀ x ∈ ts, ∀ W : World, Below w.heap.size w W → Calls Try.prog 83 #[.agg #[.int .i64 x.kind, .int .i64 x.n], c] W fun e w' => e = .returned (.bool (p x)) ∧ Below W.heap.size W w') :
  Calls Try.prog 107 #[v, .func (.func 83) #[] #[c]] w fun e w' => e = .returned (.int .i64 (idxI p ts 0)) ∧ Below w.heap.size w w' := by
 obtain ⟨a, cap, cs, rfl, hcap, hC, hj⟩ := hv
 have HV : Hid (RX wrdE R S w ts (.slice a ts.length cap)) := Lib.hid ⟨a, cap, cs, rfl, hcap, hC, hj⟩
 have HF := Lib.hid hf; clear hf hC hj hcap
 go_enter Try.func107, Try.ntmps107
 go_wp2_with fail
 go_loopw [8] (fun i wr => ∃ k : Nat, k ≤ ts.length ∧ i = .int .i64 k ∧ (ts.take k).any p = false ∧ Below w.heap.size w wr) (fun i _ => ts.length - (intOf i).toNat)
 case atStart => exact ⟨0, Nat.zero_le _, rfl, rfl, Below.refl _ _⟩
 case round =>
  obtain ⟨k, hkl, rfl, hany, hB⟩ := hrel
  have HA := Lib.hid hany; clear hany
  have hsz' := hB.size
  by_cases hlt : k < ts.length
  ·obtain ⟨b, o, rfl⟩ := HV.out.addr (by decide) (by omega)
   obtain ⟨-, d0, d1⟩ := (RX.wto HV.out fun b _ hl => hB.block b hl).wrd k hlt
   have HS := Lib.hid (any_take_succ p ts k hlt)
   go_wp2_with fail
   refine (HF.out _ (List.getElem_mem hlt) _ hB).mono ?_
   cases hp : p ts[k]
   ·have HP := Lib.hid hp; clear hp
    rintro e w1 ⟨rfl, hB1⟩
    go_wp2_with fail
    go_roundw
    case rel => exact ⟨k + 1, by omega, by go_num, by rw [HS.out, HA.out, HP.out]; rfl, below_step hB (by omega) hB1⟩
    case measure => simp [intOf]; omega
   ·have HP := Lib.hid hp; clear hp
    rintro e w1 ⟨rfl, hB1⟩
    go_wp2_with fail
    go_ret
    exact ⟨ret_int (by rw [idxI_take p ts k 0 hlt HA.out HP.out]; omega), below_step hB (by omega) hB1⟩
  ·have hkk : k = ts.length := by omega
   subst hkk
   go_wp2_with fail
   go_ret
   exact ⟨ret_int (by rw [idxI_none p ts 0 (by simpa using HA.out)]), hB⟩

set_option maxHeartbeats 400000 in
theorem containsFuncW (p : Wrd → Bool) (R S : Nat → Prop) (ts : List Wrd) (w : World) (v c : Value) (hv : RX wrdE R S w ts v) (hlen : ts.length ≤ 1099511627776)
  (hf : ∀ x ∈ ts, ∀ W : World, Below w.heap.size w W → Calls Try.prog 83 #[.agg #[.int .i64 x.kind, .int .i64 x.n], c] W fun e w' => e = .returned (.bool (p x)) ∧ Below W.heap.size W w') :
  Calls Try.prog 82 #[v, .func (.func 83) #[] #[c]] w fun e w' => e = .returned (.bool (ts.any p)) ∧ Below w.heap.size w w' := by
 have HF := Lib.hid hf; clear hf
 have HV := Lib.hid hv; clear hv
 go_enter Try.func82, Try.ntmps82
 go_wp2_with fail
 refine (indexFuncW p R S ts _ v c HV.out hlen HF.out).mono ?_
 rintro e w1 ⟨rfl, hB1⟩
 go_wp2_with fail
 go_ret
 exact ⟨ret_bool (idxI_any p ts 0 (by omega)), hB1⟩

set_option maxHeartbeats 400000 in
theorem hall1_c (F : Nat → Prop) (w : World) (B : Nat) (room : Int) (H : HS) (x : Wrd) (g : Nat) (hc : w.cell? ⟨g, 0, none⟩ = some (.pointer (some ⟨B, 0, none⟩))) (hR : HeapR F w B room H) (hH : HeadsOk H) (hl : H.ws.length ≤ 137438953472) :
  Calls Try.prog 83 #[.agg #[.int .i64 x.kind, .int .i64 x.n], .pointer (some ⟨g, 0, none⟩)] w fun e w' => e = .returned (.bool (!standsB H x)) ∧ Below w.heap.size w w' := by
 have hgl := World.block_lt_of_cell? w _ hc
 go_enter Try.func83, Try.ntmps83
 go_wp2_with fail
 refine (hstands_c F _ B room H x (hR.below (below_alloc _ _)) hH hl).mono ?_
 rintro e w1 ⟨rfl, hB1⟩
 go_wp2_with fail
 go_ret
 exact ⟨rfl, (below_alloc _ _).trans (hB1.mono (by simp))⟩

set_option maxHeartbeats 400000 in
theorem hall_c (F R S : Nat → Prop) (w : World) (B : Nat) (room : Int) (H : HS) (ts : List Wrd) (v : Value) (hv : RX wrdE R S w ts v) (hlen : ts.length ≤ 1099511627776) (hR : HeapR F w B room H) (hH : HeadsOk H) (hl : H.ws.length ≤ 137438953472) :
  Calls Try.prog 50 #[.pointer (some ⟨B, 0, none⟩), v] w fun e w' => e = .returned (.bool (ts.all (standsB H))) ∧ Below w.heap.size w w' := by
 have hmf : ∀ (fn : Fn) (first cap : Array Value) (w : World), (Instr.makeFunc fn first cap).run Try.prog w = .ok (.func fn first cap) w := fun _ _ _ _ => rfl
 have HV := Lib.hid hv; clear hv
 obtain ⟨W0, hW0⟩ : ∃ W : World, W = w.alloc (.cells #[.pointer (some ⟨B, 0, none⟩)] 26) := ⟨_, rfl⟩
 have HB0 : Hid (Below w.heap.size w W0) := Lib.hid (by rw [hW0]; exact below_alloc _ _)
 have HX0 : Hid (Blk W0 w.heap.size [.pointer (some ⟨B, 0, none⟩)]) := Lib.hid (by rw [hW0]; exact Blk.new _ _ _ _ rfl)
 have hs0 := HB0.out.size
 have HR0 := Lib.hid (hR.below HB0.out)
 have HW0 := Lib.hid hW0
 clear hR hW0
 go_enter Try.func50, Try.ntmps50
 go_upto_region 1 with fail
 rw [← HW0.out]
 go_wp2_with fail
 refine (containsFuncW (fun x => !standsB H x) R S ts W0 v _ (RX.wto HV.out fun b _ hb => HB0.out.block b hb) hlen (fun x _ W hB => hall1_c F W B room H x w.heap.size ((HX0.out.step hB).cell 0 _ rfl) (HR0.out.below hB) hH hl)).mono ?_
 rintro e w1 ⟨rfl, hB1⟩
 go_wp2_with fail
 go_ret
 exact ⟨ret_bool (by rw [List.all_eq_not_any_not]), HB0.out.trans (hB1.mono (by omega))⟩
end Go.Proofs.Ytedfepnekjjmnab

/-
 heap.Live, heap.Collect. No condition but a bound.
-/
namespace Go.Proofs.Ytedfepnekjjmnab
open Go.RowKit
set_option linter.unusedSimpArgs false
set_option linter.unusedVariables false
set_option maxRecDepth 100000

theorem stands_good {H : HS} (hH : HeadsOk H) {x : Wrd} (h : standsB H x = true) : GoodW H x := fun e => by
 unfold standsB at h
 rw [if_neg (by omega), if_neg (by omega), if_neg (by omega), if_pos e] at h
 obtain ⟨n, hn⟩ := Option.isSome_iff_exists.1 h
 obtain ⟨i, k, hi, h1, rfl, h2, h3⟩ := headN_some hH hn
 exact ⟨i, k, h1, by rw [List.getElem?_eq_getElem hi, h2], h3⟩
theorem Rep.good {H : HS} {t : T} {x : Wrd} (h : Rep H t x) : GoodW H x := fun e => by
 have hk := h.kinds
 obtain ⟨-, -, i, rfl, h1, h2, -⟩ := h.tup (by omega)
 exact ⟨i, _, rfl, h1, h2⟩
def LeafOk (t : T) : Prop := (t.kind = 1 → -1099511627776 ≤ t.n ∧ t.n ≤ 1099511627776) ∧ (t.kind = 3 → 1 ≤ t.n ∧ t.n ≤ 99)
theorem Rep.stands {H : HS} {t : T} {x : Wrd} (h : Rep H t x) (hb : LeafOk t) : standsB H x = true := by
 have hk := h.kinds
 unfold standsB
 by_cases h4 : t.kind = 4
 ·rw [if_neg (by omega), if_neg (by omega), if_neg (by omega), if_pos (by omega)]
  obtain ⟨i, k, h1, h2⟩ := h.good (by omega)
  rw [h1, h2.headN]; rfl
 ·by_cases h2 : t.kind = 2
  ·rw [if_neg (by omega), if_neg (by omega), if_pos (by omega)]
   obtain ⟨-, -, i, rfl, h1⟩ := h.atom h2
   have := (List.getElem?_eq_some_iff.1 h1).1
   simp; omega
  ·obtain ⟨h1, -, -, hx⟩ := h.leaf h4 h2
   have hn : x.n = t.n := by rw [hx]
   rcases h1 with h1 | h1
   ·have := hb.1 h1
    rw [if_pos (by omega), hn]; simp; omega
   ·have := hb.2 h1
    rw [if_neg (by omega), if_pos (by omega), hn]; simp; omega

/-- What Collect answers. -/
def CollectP (F : Nat → Prop) (w : World) (B : Nat) (room : Int) (H : HS) (rs : List Wrd) (e : Ending) (w' : World) : Prop := ∃ v2 tw out ks, e = .returned (.tuple #[v2, .int .i64 0]) ∧ Keep F w w' ∧ Col H rs ks tw out ∧
 HeapR (fun b => F b ∨ (w.heap.size ≤ b ∧ v2.ownBlock ≠ some b)) w' B room ⟨tw, H.names⟩ ∧ OwnW w' v2 out ∧ ∀ b, v2.ownBlock = some b → w.heap.size ≤ b
set_option maxHeartbeats 1000000 in
theorem hcollect_c (F R S : Nat → Prop) (w : World) (B : Nat) (room : Int) (H : HS) (ts : List Wrd) (v : Value) (hv : RX wrdE R S w ts v) (hlen : ts.length ≤ 4294967296) (hR : HeapR F w B room H) (hW : WF H) (hl : H.ws.length ≤ 4294967296) (hs : ∀ x ∈ ts, standsB H x = true) :
  Calls Try.prog 15 #[.pointer (some ⟨B, 0, none⟩), v] w (CollectP F w B room H ts) := by
 have hall : ts.all (standsB H) = true := List.all_eq_true.2 hs
 have hgood : ∀ x ∈ ts, GoodW H x := fun x hx => stands_good hW.heads (hs x hx)
 have HA := Lib.hid hall
 have HG := Lib.hid hgood
 have HV := Lib.hid hv
 have HR := Lib.hid hR
 have HW := Lib.hid hW
 clear hall hgood hv hR hW hs
 go_enter Try.func15, Try.ntmps15
 go_wp2_with fail
 refine (hall_c F R S w B room H ts v HV.out (by omega) HR.out HW.out.heads (by omega)).mono ?_
 rintro e w1 ⟨rfl, hB1⟩
 rw [HA.out]
 have hs1 := hB1.size
 have HB1 := Lib.hid hB1
 clear hB1
 go_wp2_with fail
 refine (hcopied_c H ts F R S w1 B room v (HR.out.below HB1.out) HW.out (RX.wto HV.out fun b _ hb => HB1.out.block b hb) HG.out hl hlen).mono ?_
 rintro e w2 ⟨v1, v2, tw, out, ks, rfl, hB2, hCol, hO1, hO2, h1, h2⟩
 obtain ⟨a1, c1, rfl⟩ := hO1.form
 have hs2 := hB2.size
 have hB12 : Below w.heap.size w w2 := HB1.out.trans (hB2.mono (by omega))
 obtain ⟨vw, vn, hV⟩ := HR.out
 have hV2 := hV.below hB12
 have b1 := hV2.blk.cell 1 _ rfl
 have bf := hV2.blk.fr
 have hnb : ∀ b, v2.ownBlock = some b → b ≠ B := fun b hb e => by have := h2 b hb; have := hV.blk.lt; omega
 have hh := hV.words' (w3 := w2) (v' := .slice a1 tw.length c1) (l := tw) (by omega) (fun b hb _ => hB12.block b hb) hO1 (fun b hb => .inr (by have := (h1 b hb).1; omega))
 have HH := Lib.hid hh
 have HVV := Lib.hid hV
 have HCol := Lib.hid hCol
 have HB12 := Lib.hid hB12
 have HO2 := Lib.hid hO2
 have H1 := Lib.hid h1
 have H2 := Lib.hid h2
 have HNB := Lib.hid hnb
 clear hCol hB2 hO1 hO2 h1 h2 hV hV2 hh hB12 hnb
 go_wp2_with fail
 go_ret2
 refine ⟨v2, tw, out, ks, rfl, ?_, HCol.out, ⟨_, _, ⟨HH.out.blk, HH.out.ws, HH.out.nm, HH.out.nw, HH.out.nn, HH.out.ne, .inl HVV.out.fb, fun b hb => .inr ⟨by have := (H1.out b hb).1; omega, (H1.out b hb).2⟩, fun b hb => .inl (HVV.out.fn b hb)⟩⟩, ?_, fun b hb => by have := H2.out b hb; omega⟩
 ·exact (Keep.of HB12.out).setCell _ (.inl HVV.out.fb)
 ·exact OwnW.to HO2.out (by simp) fun b hb => setCell_other w2 B 1 _ b (HNB.out b hb)
end Go.Proofs.Ytedfepnekjjmnab

/-
 heap.Get of a word that stands for a term. No condition but a bound.
-/
namespace Go.Proofs.Ytedfepnekjjmnab
open Go.RowKit
set_option linter.unusedSimpArgs false
set_option linter.unusedVariables false
set_option maxRecDepth 100000

def HGetP (w : World) (t : T) (e : Ending) (w' : World) : Prop :=
 ∃ a cap, e = .returned (.tuple #[.agg #[.int .i64 t.kind, .int .i64 t.n, .string t.name, .slice a t.args.length cap], .int .i64 0]) ∧ Below w.heap.size w w' ∧ RT (fun b => w.heap.size ≤ b) w' t (.agg #[.int .i64 t.kind, .int .i64 t.n, .string t.name, .slice a t.args.length cap])
set_option maxHeartbeats 1000000 in
theorem hGet_c (t : T) (F : Nat → Prop) (w : World) (B : Nat) (room : Int) (H : HS) (x : Wrd) (hR : HeapR F w B room H) (hr : Rep H t x) (hb : LeafOk t) (hH : HeadsOk H) (hl : H.ws.length ≤ 137438953472) (hn : H.names.length ≤ 137438953472) :
  Calls Try.prog 18 #[.pointer (some ⟨B, 0, none⟩), .agg #[.int .i64 x.kind, .int .i64 x.n]] w (HGetP w t) := by
 obtain ⟨W0, hW0⟩ : ∃ W : World, W = (w.alloc (.cells #[.int .i64 x.kind, .int .i64 x.n] 31)).alloc (.cells #[.int .i64 0, .int .i64 0, .string ⟨#[]⟩, .slice none 0 0] 24) := ⟨_, rfl⟩
 have HX3 : Hid (Blk W0 w.heap.size [.int .i64 x.kind, .int .i64 x.n]) := Lib.hid (by rw [hW0]; exact (Blk.new _ _ _ _ rfl).alloc _)
 have HX4 : Hid (Blk W0 (w.heap.size + 1) [.int .i64 0, .int .i64 0, .string ⟨#[]⟩, .slice none 0 0]) := Lib.hid (by rw [hW0]; exact Blk.new _ _ _ _ (by simp))
 have HB0 : Hid (Below w.heap.size w W0) := Lib.hid (by rw [hW0]; exact (below_alloc _ _).trans ((below_alloc _ _).mono (by simp)))
 have hs0 : W0.heap.size = w.heap.size + 2 := by rw [hW0]; simp
 have hs0a : w.heap.size + 2 ≤ W0.heap.size := by omega
 have HR0 := Lib.hid (hR.below HB0.out)
 have HST := Lib.hid (hr.stands hb)
 have HREP := Lib.hid hr
 have HH := Lib.hid hH
 have HW0 := Lib.hid hW0
 clear hR hr hb hH hW0 hs0
 go_enter Try.func18, Try.ntmps18
 go_upto_region 1 with fail
 rw [← HW0.out]
 have y0 := HX3.out.cell 0 _ rfl
 have y1 := HX3.out.cell 1 _ rfl
 go_wp2_with fail
 refine (hstands_c F W0 B room H x HR0.out HH.out hl).mono ?_
 rintro e w1 ⟨rfl, hB⟩
 rw [HST.out]
 have hs1 := hB.size
 have HB1 := Lib.hid hB
 have HX31 := Lib.hid (HX3.out.step hB)
 have HX41 := Lib.hid (HX4.out.step hB)
 have HR1 := Lib.hid (HR0.out.below hB)
 clear hB y0 y1
 have y0 := HX31.out.cell 0 _ rfl
 have y1 := HX31.out.cell 1 _ rfl
 go_wp2_with fail
 refine (hget_c t F w1 B room H x HR1.out HREP.out hl hn).mono ?_
 rintro e w2 ⟨a, cap, rfl, hB, hT⟩
 have hs2 := hB.size
 have HB2 := Lib.hid hB
 have HT := Lib.hid hT
 have HX42 := Lib.hid (HX41.out.step hB)
 clear hB hT y0 y1
 go_wp2_with (refine store_blk 24 4 szTerm _ _ rfl rfl rfl rfl rfl HX42.out rfl rfl rfl ?_; intro W' hF hs' hBW hoth; have HF := Lib.hid hF; have HSZ := Lib.hid hs'; have HBW := Lib.hid hBW; have HOTH := Lib.hid hoth; clear hF hBW hoth hs')
 refine bodyPost_ret (results_blk Try.results18 szTerm _ Try.underlying24 rfl rfl HF.out rfl) rfl ⟨a, cap, rfl, ?_, ?_⟩
 ·have h1 := HBW.out (w.heap.size) w (by omega) (HB0.out.trans ((HB1.out.mono (by omega)).trans (HB2.out.mono (by omega))))
  exact h1
 ·exact RT.to HT.out (fun b hb _ => by omega) fun b hb hl => HOTH.out b (by omega)
end Go.Proofs.Ytedfepnekjjmnab

/-
 A term that Put takes. No condition.
-/
namespace Go.Proofs.Ytedfepnekjjmnab
open Go.RowKit
set_option linter.unusedSimpArgs false
set_option linter.unusedVariables false

theorem name_nil {s : ByteArray} (h : s.toList.isEmpty = true) : s = ⟨#[]⟩ := by
 have h1 : s.toList = [] := List.isEmpty_iff.1 h
 have h2 : s.data.toList = [] := by rw [← ByteArray.toList_eq]; exact h1
 have h3 : s.data = #[] := by rw [← Array.toList_inj]; simpa using h2
 cases s; simp only at h3; rw [h3]
theorem bare_nil {t : T} (h : bareB t = true) : t.name = ⟨#[]⟩ ∧ t.args = [] := by
 unfold bareB at h
 rw [Bool.and_eq_true] at h
 exact ⟨name_nil h.1, List.eq_nil_of_length_eq_zero (by simpa using h.2)⟩
theorem head_leaf {t : T} (h : headB t = true) : LeafOk t := by
 refine ⟨fun e => ?_, fun e => ?_⟩
 ·unfold headB at h; rw [if_pos e, Bool.and_eq_true] at h
  have := h.2; simp [inB] at this; exact this
 ·unfold headB at h; rw [if_neg (by omega), if_neg (by omega), if_pos e, Bool.and_eq_true] at h
  have := h.2; simp [inB] at this; exact this
theorem head_ok {t : T} (h : headB t = true) (h5 : t.kind ≠ 5) (h6 : t.kind ≠ 6) (hl : t.kind = 4 → OkL t.args) : OkT t := by
 unfold headB at h
 unfold OkT
 by_cases h4 : t.kind = 4
 ·rw [if_neg (by omega), if_neg (by omega), if_neg (by omega), if_neg (by omega), if_neg (by omega), if_pos h4] at h
  rw [if_pos h4]
  simp only [Bool.and_eq_true, decide_eq_true_eq] at h
  exact ⟨h.1.1, name_nil h.1.2, hl h4⟩
 ·by_cases h2 : t.kind = 2
  ·rw [if_neg (by omega), if_pos h2] at h
   rw [if_neg h4, if_pos h2]
   simp only [Bool.and_eq_true, decide_eq_true_eq] at h
   exact ⟨h.1.1, List.eq_nil_of_length_eq_zero h.1.2⟩
  ·rw [if_neg h4, if_neg h2]
   by_cases h1 : t.kind = 1
   ·rw [if_pos h1, Bool.and_eq_true] at h
    exact ⟨.inl h1, bare_nil h.1⟩
   ·rw [if_neg h1, if_neg h2] at h
    by_cases h3 : t.kind = 3
    ·rw [if_pos h3, Bool.and_eq_true] at h
     exact ⟨.inr h3, bare_nil h.1⟩
    ·rw [if_neg h3, if_neg h5, if_neg h6, if_neg h4] at h; cases h
theorem okL_of : ∀ (m : Nat) (ts : List T), bulkL ts ≤ m → formL ts = true → closedL ts = true → OkL ts
 | 0, ts, hb, _, _ => by
  cases ts with
  | nil => rw [OkL]; trivial
  | cons t ts => rw [bulkL_cons] at hb; omega
 | m + 1, ts, hb, hf, hc => by
  cases ts with
  | nil => rw [OkL]; trivial
  | cons t ts =>
   rw [bulkL_cons] at hb
   rw [formL_cons] at hf
   rw [closedL_cons] at hc
   simp only [Bool.and_eq_true] at hf hc
   have h5 : t.kind ≠ 5 := by simpa using hc.1.1.1
   have h6 : t.kind ≠ 6 := by simpa using hc.1.1.2
   exact (OkL_cons t ts).2 ⟨head_ok hf.1.1 h5 h6 fun _ => okL_of m t.args (by omega) hf.1.2 hc.1.2, okL_of m ts (by omega) hf.2 hc.2⟩
theorem check_ok {t : T} (h : checkE t = 0) (hc : closedL [t] = true) : OkT t ∧ LeafOk t ∧ szL [t] ≤ 200 := by
 unfold checkE at h
 by_cases hf : formL [t] = true
 ·rw [if_pos hf] at h
  have h1 := okL_of _ [t] (Nat.le_refl _) hf hc
  rw [formL_cons] at hf
  simp only [Bool.and_eq_true] at hf
  by_cases hd : dpL [t] ≤ 12 ∧ szL [t] ≤ 200
  ·exact ⟨((OkL_cons t []).1 h1).1, head_leaf hf.1.1, hd.2⟩
  ·rw [if_neg hd] at h; omega
 ·rw [if_neg hf] at h; omega
/-- What Put makes of a heap in order. -/
theorem putHO_R {H : HS} (hW : WF H) (room : Int) (t : T) : ((putHO room H t).2.1 = 0 ∧ LeafOk t ∧ PutR H t (putHO room H t).1 (putHO room H t).2.2 ∧ (putHO room H t).2.2.ws.length ≤ H.ws.length + 200 ∧ ((putHO room H t).2.2.ws.length : Int) ≤ max room H.ws.length) ∨ ((putHO room H t).2.1 ≠ 0 ∧ (putHO room H t).2.2 = H) := by
 by_cases h1 : checkE t = 0
 ·by_cases h2 : closedL [t] = true
  ·by_cases h3 : room < H.ws.length + szL [t]
   ·rw [putHO_full h1 h2 h3]; exact .inr ⟨by show (6 : Int) ≠ 0; decide, rfl⟩
   ·rw [putHO_ok h1 h2 h3]
    obtain ⟨ho, hl, hs⟩ := check_ok h1 h2
    have h4 := (putW_len H t).1
    exact .inl ⟨rfl, hl, putW_R hW ho, by show (putW H t).2.ws.length ≤ _; omega, by show ((putW H t).2.ws.length : Int) ≤ _; omega⟩
  ·have h2' : closedL [t] = false := by simpa using h2
   rw [putHO_form h1 h2']; exact .inr ⟨by show (5 : Int) ≠ 0; decide, rfl⟩
 ·rw [putHO_check h1]; exact .inr ⟨h1, rfl⟩
end Go.Proofs.Ytedfepnekjjmnab

/-
 What Join makes of a heap: plain words. No condition.
-/
namespace Go.Proofs.Ytedfepnekjjmnab
open Go.RowKit
set_option linter.unusedSimpArgs false
set_option linter.unusedVariables false

theorem RepL.app {H : HS} (new : List Wrd) (more : List ByteArray) {ts : List T} {xs : List Wrd} (h : RepL H ts xs) : RepL ⟨H.ws ++ new, H.names ++ more⟩ ts xs :=
 RepL.of h.length fun i h1 h2 => (h.at i h1 h2).app new more
theorem RepL.kind {H : HS} {ts : List T} {xs : List Wrd} (h : RepL H ts xs) (hk : ∀ t ∈ ts, t.kind ≠ 0) : ∀ x ∈ xs, x.kind ≠ 0 := fun x hx => by
 obtain ⟨i, hi, e⟩ := List.getElem_of_mem hx
 have hl := h.length
 have h1 := h.at i (by omega) hi
 rw [e] at h1
 rw [h1.kinds]
 exact hk _ (List.getElem_mem _)
theorem RepL.rep {H : HS} {t : T} {x : Wrd} (h : Rep H t x) (k : Nat) : RepL H (List.replicate k t) (List.replicate k x) :=
 RepL.of (by simp) fun i h1 h2 => by simpa using h
end Go.Proofs.Ytedfepnekjjmnab

/-
 Nodes of a heap as the document has it, and the heap's heads: which node is which head. Plain facts. No condition.
-/
namespace Go.Proofs.Ytedfepnekjjmnab
set_option linter.unusedSimpArgs false
set_option linter.unusedVariables false

/-- A node: how many words, and its kids. -/
abbrev NodeD := Nat × List (Option Nat)
inductive ReachN (N : Nat → NodeD) (l : List (Option Nat)) : Nat → Prop where
 | root (b : Nat) (h : some b ∈ l) : ReachN N l b
 | kid (b c : Nat) (hb : ReachN N l b) (h : some c ∈ (N b).2) : ReachN N l c
def Link (P : List (Nat × Nat)) (o : Option Nat) (x : Wrd) : Prop := (x.kind = 4 → ∃ b i : Nat, o = some b ∧ x = ⟨4, (i : Int)⟩ ∧ (b, i) ∈ P) ∧ (x.kind ≠ 4 → o = none)
def LinkL (P : List (Nat × Nat)) : List (Option Nat) → List Wrd → Prop
 | [], xs => xs = []
 | o :: os, xs => ∃ x xs', xs = x :: xs' ∧ Link P o x ∧ LinkL P os xs'
theorem Link.mono {P Q : List (Nat × Nat)} {o : Option Nat} {x : Wrd} (h : Link P o x) (hs : ∀ q ∈ P, q ∈ Q) : Link Q o x :=
 ⟨fun e => by obtain ⟨b, i, h1, h2, h3⟩ := h.1 e; exact ⟨b, i, h1, h2, hs _ h3⟩, h.2⟩
theorem LinkL.mono {P Q : List (Nat × Nat)} (hs : ∀ q ∈ P, q ∈ Q) : ∀ {os : List (Option Nat)} {xs : List Wrd}, LinkL P os xs → LinkL Q os xs
 | [], _, h => h
 | o :: os, _, h => by
  obtain ⟨x, xs', rfl, h1, h2⟩ := h
  exact ⟨x, xs', rfl, h1.mono hs, h2.mono hs⟩
theorem LinkL.len {P : List (Nat × Nat)} : ∀ {os : List (Option Nat)} {xs : List Wrd}, LinkL P os xs → os.length = xs.length
 | [], _, h => by obtain rfl := h; rfl
 | o :: os, _, h => by obtain ⟨x, xs', rfl, h1, h2⟩ := h; simp [h2.len]
theorem LinkL.at {P : List (Nat × Nat)} : ∀ {os : List (Option Nat)} {xs : List Wrd}, LinkL P os xs → ∀ i (h1 : i < os.length) (h2 : i < xs.length), Link P os[i] xs[i]
 | [], _, _, i, h1, _ => by simp at h1
 | o :: os, _, h, i, h1, h2 => by
  obtain ⟨x, xs', rfl, g1, g2⟩ := h
  cases i with
  | zero => exact g1
  | succ i => exact g2.at i (by simpa using h1) (by simpa using h2)
theorem LinkL.snoc {P : List (Nat × Nat)} {o : Option Nat} {x : Wrd} (hx : Link P o x) : ∀ {os : List (Option Nat)} {xs : List Wrd}, LinkL P os xs → LinkL P (os ++ [o]) (xs ++ [x])
 | [], xs, h => by obtain rfl : xs = [] := h; exact ⟨x, [], rfl, hx, rfl⟩
 | p :: os, _, h => by
  obtain ⟨y, xs', rfl, g1, g2⟩ := h
  exact ⟨y, xs' ++ [x], rfl, g1, g2.snoc hx⟩
theorem LinkL.to {P : List (Nat × Nat)} : ∀ {os : List (Option Nat)} {xs : List Wrd}, LinkL P os xs → ∀ b, some b ∈ os → ∃ i : Nat, (⟨4, (i : Int)⟩ : Wrd) ∈ xs ∧ (b, i) ∈ P
 | [], _, _, b, h => by simp at h
 | o :: os, _, h, b, hb => by
  obtain ⟨x, xs', rfl, g1, g2⟩ := h
  rcases List.mem_cons.1 hb with e | hb
  ·by_cases hk : x.kind = 4
   ·obtain ⟨b', i, h1, h2, h3⟩ := g1.1 hk
    rw [← e] at h1
    obtain rfl := Option.some.inj h1
    exact ⟨i, by rw [h2]; exact List.mem_cons_self .., h3⟩
   ·have := g1.2 hk; rw [← e] at this; cases this
  ·obtain ⟨i, h1, h2⟩ := g2.to b hb
   exact ⟨i, List.mem_cons_of_mem _ h1, h2⟩
theorem LinkL.back {P : List (Nat × Nat)} : ∀ {os : List (Option Nat)} {xs : List Wrd}, LinkL P os xs → ∀ i : Nat, (⟨4, (i : Int)⟩ : Wrd) ∈ xs → ∃ b, some b ∈ os ∧ (b, i) ∈ P
 | [], xs, h, i, hi => by obtain rfl : xs = [] := h; simp at hi
 | o :: os, _, h, i, hi => by
  obtain ⟨x, xs', rfl, g1, g2⟩ := h
  rcases List.mem_cons.1 hi with e | hi
  ·obtain ⟨b, j, h1, h2, h3⟩ := g1.1 (by rw [← e])
   rw [← e] at h2
   have : i = j := by
    have := congrArg Wrd.n h2
    exact Int.ofNat.inj this
   subst this
   exact ⟨b, by rw [h1]; exact List.mem_cons_self .., h3⟩
  ·obtain ⟨b, h1, h2⟩ := g2.back i hi
   exact ⟨b, List.mem_cons_of_mem _ h1, h2⟩
/-- Which node is which head. -/
structure NG (H : HS) (N : Nat → NodeD) (P : List (Nat × Nat)) : Prop where
 n1 : (P.map (·.1)).Nodup
 n2 : (P.map (·.2)).Nodup
 hd : ∀ q ∈ P, Hd H q.2 (kN H q.2) ∧ (N q.1).1 = 1 + kN H q.2 ∧ LinkL P (N q.1).2 (partsL H q.2 (kN H q.2))
theorem pair_fst {P : List (Nat × Nat)} (h : (P.map (·.1)).Nodup) {a b c : Nat} (h1 : (a, b) ∈ P) (h2 : (a, c) ∈ P) : b = c := by
 induction P with
 | nil => cases h1
 | cons q P ih =>
  obtain ⟨g1, g2⟩ := List.nodup_cons.1 (show (q.1 :: P.map (·.1)).Nodup from h)
  rcases List.mem_cons.1 h1 with e1 | h1
  ·rcases List.mem_cons.1 h2 with e2 | h2
   ·rw [← e1] at e2; exact (congrArg Prod.snd e2).symm
   ·exact absurd (List.mem_map.2 ⟨(a, c), h2, by rw [← e1]⟩) g1
  ·rcases List.mem_cons.1 h2 with e2 | h2
   ·exact absurd (List.mem_map.2 ⟨(a, b), h1, by rw [← e2]⟩) g1
   ·exact ih g2 h1 h2
theorem pair_snd {P : List (Nat × Nat)} (h : (P.map (·.2)).Nodup) {a b c : Nat} (h1 : (a, c) ∈ P) (h2 : (b, c) ∈ P) : a = b := by
 induction P with
 | nil => cases h1
 | cons q P ih =>
  obtain ⟨g1, g2⟩ := List.nodup_cons.1 (show (q.2 :: P.map (·.2)).Nodup from h)
  rcases List.mem_cons.1 h1 with e1 | h1
  ·rcases List.mem_cons.1 h2 with e2 | h2
   ·rw [← e1] at e2; exact (congrArg Prod.fst e2).symm
   ·exact absurd (List.mem_map.2 ⟨(b, c), h2, by rw [← e1]⟩) g1
  ·rcases List.mem_cons.1 h2 with e2 | h2
   ·exact absurd (List.mem_map.2 ⟨(a, c), h1, by rw [← e2]⟩) g1
   ·exact ih g2 h1 h2
/-- The head of a node. -/
noncomputable def headOf (P : List (Nat × Nat)) (b : Nat) : Nat := open Classical in if h : ∃ i, (b, i) ∈ P then h.choose else 0
theorem headOf_eq {P : List (Nat × Nat)} (h : (P.map (·.1)).Nodup) {b i : Nat} (hb : (b, i) ∈ P) : headOf P b = i := by
 unfold headOf
 have he : ∃ i, (b, i) ∈ P := ⟨i, hb⟩
 rw [dif_pos he]
 exact pair_fst h he.choose_spec hb
section
variable {H : HS} {N : Nat → NodeD} {P : List (Nat × Nat)} {ns : List (Option Nat)} {xs : List Wrd}
theorem NG.reach (h : NG H N P) (hl : LinkL P ns xs) {b : Nat} (hb : ReachN N ns b) : ∃ i, (b, i) ∈ P ∧ Reach H xs i := by
 induction hb with
 | root b hm =>
  obtain ⟨i, h1, h2⟩ := hl.to b hm
  exact ⟨i, h2, .root i h1⟩
 | kid b c _ hm ih =>
  obtain ⟨i, h1, h2⟩ := ih
  obtain ⟨-, -, h3⟩ := h.hd _ h1
  obtain ⟨j, h4, h5⟩ := h3.to c hm
  exact ⟨j, h5, .part i j h2 h4⟩
theorem NG.reachB (h : NG H N P) (hl : LinkL P ns xs) {i : Nat} (hi : Reach H xs i) : ∃ b, (b, i) ∈ P ∧ ReachN N ns b := by
 induction hi with
 | root i hm =>
  obtain ⟨b, h1, h2⟩ := hl.back i hm
  exact ⟨b, h2, .root b h1⟩
 | part j i _ hm ih =>
  obtain ⟨b, h1, h2⟩ := ih
  obtain ⟨-, -, h3⟩ := h.hd _ h1
  obtain ⟨c, h4, h5⟩ := h3.back i hm
  exact ⟨c, h5, .kid b c h2 h4⟩
/-- Live words, each once: of the nodes, and of the heap. -/
theorem NG.count (h : NG H N P) (hl : LinkL P ns xs) {ks : List Nat} {tw out : List Wrd} (hC : Col H xs ks tw out) {L : List Nat} (hn : L.Nodup) (hL : ∀ b, b ∈ L ↔ ReachN N ns b) : tw.length = (L.map fun b => (N b).1).sum := by
 have key : ∀ b ∈ L, ∃ i, (b, i) ∈ P ∧ Reach H xs i ∧ headOf P b = i := fun b hb => by
  obtain ⟨i, h1, h2⟩ := h.reach hl ((hL b).1 hb)
  exact ⟨i, h1, h2, headOf_eq h.n1 h1⟩
 have h1 : tw.length = ((L.map (headOf P)).map fun i => 1 + kN H i).sum := by
  refine hC.count (nodup_map hn fun a ha b hb e => ?_) (fun i hi => ?_) fun i hi => ?_
  ·obtain ⟨i, g1, -, g3⟩ := key a ha
   obtain ⟨j, k1, -, k3⟩ := key b hb
   rw [g3, k3] at e
   subst e
   exact pair_snd h.n2 g1 k1
  ·obtain ⟨b, hb, rfl⟩ := List.mem_map.1 hi
   obtain ⟨i, -, g2, g3⟩ := key b hb
   rw [g3]; exact g2
  ·obtain ⟨b, g1, g2⟩ := h.reachB hl hi
   exact List.mem_map.2 ⟨b, (hL b).2 g2, headOf_eq h.n1 g1⟩
 rw [h1, List.map_map]
 congr 1
 refine List.map_congr_left fun b hb => ?_
 obtain ⟨i, g1, -, g3⟩ := key b hb
 show 1 + kN H (headOf P b) = _
 rw [g3, (h.hd _ g1).2.1]
end
/-! ### Collected -/
def movP (H : HS) (ks : List Nat) (P : List (Nat × Nat)) : List (Nat × Nat) := (P.filter fun q => decide (q.2 ∈ ks)).map fun q => (q.1, posn H ks q.2)
theorem movP_mem {H : HS} {ks : List Nat} {P : List (Nat × Nat)} {b i : Nat} (h : (b, i) ∈ P) (hi : i ∈ ks) : (b, posn H ks i) ∈ movP H ks P :=
 List.mem_map.2 ⟨(b, i), List.mem_filter.2 ⟨h, by simpa using hi⟩, rfl⟩
theorem LinkL.mov {H : HS} {ks : List Nat} {P : List (Nat × Nat)} : ∀ {os : List (Option Nat)} {xs : List Wrd}, LinkL P os xs → (∀ x ∈ xs, Kn ks x) → LinkL (movP H ks P) os (xs.map (fwd H ks))
 | [], xs, h, _ => by obtain rfl : xs = [] := h; rfl
 | o :: os, _, h, hk => by
  obtain ⟨x, xs', rfl, g1, g2⟩ := h
  refine ⟨fwd H ks x, xs'.map (fwd H ks), rfl, ⟨fun e => ?_, fun e => g1.2 (by rwa [fwd_kind] at e)⟩, g2.mov fun y hy => hk y (List.mem_cons_of_mem _ hy)⟩
  rw [fwd_kind] at e
  obtain ⟨b, i, h1, h2, h3⟩ := g1.1 e
  obtain ⟨j, hj, hj2⟩ := hk x (List.mem_cons_self ..) e
  rw [h2] at hj2
  have : i = j := Int.ofNat.inj hj2
  subst this
  refine ⟨b, posn H ks i, h1, ?_, movP_mem h3 hj⟩
  unfold fwd
  rw [if_pos e, h2]
  simp
theorem NG.col {H : HS} {N : Nat → NodeD} {P : List (Nat × Nat)} {xs : List Wrd} {ks : List Nat} {tw out : List Wrd} (h : NG H N P) (hC : Col H xs ks tw out) (nm : List ByteArray) : NG ⟨tw, nm⟩ N (movP H ks P) := by
 have hsub : (P.filter fun q => decide (q.2 ∈ ks)).Sublist P := List.filter_sublist
 refine ⟨?_, ?_, fun q hq => ?_⟩
 ·unfold movP
  rw [List.map_map]
  exact h.n1.sublist (hsub.map _)
 ·unfold movP
  rw [List.map_map]
  have h2 : ((P.filter fun q => decide (q.2 ∈ ks)).map (·.2)).Nodup := h.n2.sublist (hsub.map _)
  have h3 := nodup_map (f := posn H ks) h2 fun i hi j hj e => by
   obtain ⟨q, hq, rfl⟩ := List.mem_map.1 hi
   obtain ⟨r, hr, rfl⟩ := List.mem_map.1 hj
   exact posn_inj ks (by simpa using (List.mem_filter.1 hq).2) (by simpa using (List.mem_filter.1 hr).2) e
  rw [List.map_map] at h3
  exact h3
 ·obtain ⟨r, hr, rfl⟩ := List.mem_map.1 hq
  obtain ⟨hr1, hr2⟩ := List.mem_filter.1 hr
  have hk : r.2 ∈ ks := by simpa using hr2
  obtain ⟨g1, g2, g3⟩ := h.hd r hr1
  obtain ⟨b1, b2⟩ := hC.block hk nm
  have hkn : kN ⟨tw, nm⟩ (posn H ks r.2) = kN H r.2 := b1.kN
  refine ⟨by show Hd _ (posn H ks r.2) (kN ⟨tw, nm⟩ (posn H ks r.2)); rw [hkn]; exact b1, by show _ = 1 + kN ⟨tw, nm⟩ (posn H ks r.2); rw [hkn]; exact g2, ?_⟩
  show LinkL _ (N r.1).2 (partsL ⟨tw, nm⟩ (posn H ks r.2) (kN ⟨tw, nm⟩ (posn H ks r.2)))
  rw [hkn, b2]
  exact g3.mov fun x hx => hC.kn x (mem_raw hk hx)
/-! ### The heap has grown; nodes have come -/
theorem Hd.app {H : HS} {i k : Nat} (h : Hd H i k) (new : List Wrd) (nm : List ByteArray) : Hd ⟨H.ws ++ new, nm⟩ i k :=
 ⟨by show (H.ws ++ new)[i]? = _; rw [List.getElem?_append_left h.lt]; exact h.1, by show _ ≤ (H.ws ++ new).length; rw [List.length_append]; have := h.2; omega⟩
theorem NG.app {H : HS} {N N' : Nat → NodeD} {P : List (Nat × Nat)} (h : NG H N P) (new : List Wrd) (nm : List ByteArray) (hN : ∀ q ∈ P, N' q.1 = N q.1) : NG ⟨H.ws ++ new, nm⟩ N' P := by
 refine ⟨h.n1, h.n2, fun q hq => ?_⟩
 obtain ⟨g1, g2, g3⟩ := h.hd q hq
 have e1 : kN ⟨H.ws ++ new, nm⟩ q.2 = kN H q.2 := (g1.app new nm).kN
 rw [e1, hN q hq, partsL_app new nm g1.2]
 exact ⟨g1.app new nm, g2, g3⟩
/-- New pairs, beside the old ones. -/
theorem NG.add {H : HS} {N : Nat → NodeD} {P Q : List (Nat × Nat)} (h : NG H N P) (n1 : (Q.map (·.1)).Nodup) (n2 : (Q.map (·.2)).Nodup) (d1 : ∀ q ∈ P, ∀ r ∈ Q, q.1 ≠ r.1) (d2 : ∀ q ∈ P, ∀ r ∈ Q, q.2 ≠ r.2)
  (hd : ∀ q ∈ Q, Hd H q.2 (kN H q.2) ∧ (N q.1).1 = 1 + kN H q.2 ∧ LinkL (P ++ Q) (N q.1).2 (partsL H q.2 (kN H q.2))) : NG H N (P ++ Q) := by
 refine ⟨?_, ?_, fun q hq => ?_⟩
 ·rw [List.map_append]
  refine List.nodup_append.2 ⟨h.n1, n1, fun a ha b hb e => ?_⟩
  obtain ⟨q, hq, rfl⟩ := List.mem_map.1 ha
  obtain ⟨r, hr, rfl⟩ := List.mem_map.1 hb
  exact d1 q hq r hr e
 ·rw [List.map_append]
  refine List.nodup_append.2 ⟨h.n2, n2, fun a ha b hb e => ?_⟩
  obtain ⟨q, hq, rfl⟩ := List.mem_map.1 ha
  obtain ⟨r, hr, rfl⟩ := List.mem_map.1 hb
  exact d2 q hq r hr e
 ·rcases List.mem_append.1 hq with hq | hq
  ·obtain ⟨g1, g2, g3⟩ := h.hd q hq
   exact ⟨g1, g2, g3.mono fun _ hr => List.mem_append.2 (.inl hr)⟩
  ·exact hd q hq
/-! ### The nodes of a term -/
def GrowL (N : Nat → NodeD) : List T → List (Option Nat) → Prop
 | [], os => os = []
 | ⟨k, _, _, l⟩ :: ts, os => ∃ o os', os = o :: os' ∧ ((k ≠ 4 → o = none) ∧ (k = 4 → ∃ b, o = some b ∧ (N b).1 = 1 + l.length ∧ GrowL N l (N b).2)) ∧ GrowL N ts os'
def Grow1 (N : Nat → NodeD) (t : T) (o : Option Nat) : Prop := (t.kind ≠ 4 → o = none) ∧ (t.kind = 4 → ∃ b, o = some b ∧ (N b).1 = 1 + t.args.length ∧ GrowL N t.args (N b).2)
theorem GrowL_cons (N : Nat → NodeD) (t : T) (ts : List T) (os : List (Option Nat)) : GrowL N (t :: ts) os ↔ ∃ o os', os = o :: os' ∧ Grow1 N t o ∧ GrowL N ts os' := by
 obtain ⟨k, n, s, l⟩ := t; rw [GrowL]; rfl
theorem GrowL_nil (N : Nat → NodeD) (os : List (Option Nat)) : GrowL N [] os ↔ os = [] := by rw [GrowL]
/-- The nodes. -/
def ndL (N : Nat → NodeD) : List T → List (Option Nat) → List Nat
 | [], _ => []
 | ⟨_, _, _, l⟩ :: ts, os => (match os.headD none with | some b => b :: ndL N l (N b).2 | none => []) ++ ndL N ts os.tail
def nd1 (N : Nat → NodeD) (t : T) (o : Option Nat) : List Nat := match o with | some b => b :: ndL N t.args (N b).2 | none => []
theorem ndL_nil (N : Nat → NodeD) (os : List (Option Nat)) : ndL N [] os = [] := by rw [ndL]
theorem ndL_cons (N : Nat → NodeD) (t : T) (ts : List T) (o : Option Nat) (os : List (Option Nat)) : ndL N (t :: ts) (o :: os) = nd1 N t o ++ ndL N ts os := by
 obtain ⟨k, n, s, l⟩ := t; rw [ndL]; rfl
end Go.Proofs.Ytedfepnekjjmnab

/-
 What kept's heap comes to. No condition.
-/
namespace Go.Proofs.Ytedfepnekjjmnab
open Go.RowKit
set_option linter.unusedSimpArgs false
set_option linter.unusedVariables false

theorem RT.low {S : Nat → Prop} {w : World} {t : T} {v : Value} (h : RT S w t v) : RT (fun b => S b ∧ b < w.heap.size) w t v := h.to (fun b h hl => ⟨h, hl⟩) fun _ _ _ => rfl
end Go.Proofs.Ytedfepnekjjmnab

/-
 kept: the heap's first words. No condition.
-/
namespace Go.Proofs.Ytedfepnekjjmnab
open Go.RowKit
set_option linter.unusedSimpArgs false
set_option linter.unusedVariables false
set_option maxRecDepth 100000

end Go.Proofs.Ytedfepnekjjmnab

/-
 HeapAgain's plain law: words and the terms that they stand for. No condition.
-/
namespace Go.Proofs.Ytedfepnekjjmnab
open Go.RowKit
set_option linter.unusedSimpArgs false
set_option linter.unusedVariables false

/-- Words that stand for terms, one by one. -/
def Stand (H : HS) (ts : List T) (xs : List Wrd) : Prop := RepL H ts xs ∧ ∀ t ∈ ts, LeafOk t
theorem Stand.nil (H : HS) : Stand H [] [] := ⟨by rw [RepL_nil], by simp⟩
theorem Stand.length {H : HS} {ts : List T} {xs : List Wrd} (h : Stand H ts xs) : xs.length = ts.length := h.1.length
theorem RepL.map {H H' : HS} (f : Wrd → Wrd) : ∀ {ts : List T} {xs : List Wrd}, RepL H ts xs → (∀ t x, t ∈ ts → x ∈ xs → Rep H t x → Rep H' t (f x)) → RepL H' ts (xs.map f)
 | [], xs, h, _ => by rw [RepL_nil] at h ⊢; rw [h]; rfl
 | t :: ts, xs, h, hf => by
  obtain ⟨x, r, rfl, h1, h2⟩ := (RepL_cons H t ts xs).1 h
  exact (RepL_cons H' t ts _).2 ⟨f x, r.map f, rfl, hf t x (by simp) (by simp) h1, h2.map f fun u y hu hy => hf u y (by simp [hu]) (by simp [hy])⟩
theorem RepL.snoc {H : HS} {t : T} {x : Wrd} (hx : Rep H t x) : ∀ {ts : List T} {xs : List Wrd}, RepL H ts xs → RepL H (ts ++ [t]) (xs ++ [x])
 | [], xs, h => by rw [RepL_nil] at h; rw [h]; exact (RepL_cons H t [] _).2 ⟨x, [], rfl, hx, by rw [RepL_nil]⟩
 | u :: ts, xs, h => by
  obtain ⟨y, r, rfl, h1, h2⟩ := (RepL_cons H u ts xs).1 h
  exact (RepL_cons H u _ _).2 ⟨y, r ++ [x], rfl, h1, h2.snoc hx⟩
/-- A put. -/
theorem Stand.put {H : HS} (hW : WF H) {ts : List T} {xs : List Wrd} (h : Stand H ts xs) (room : Int) (t : T) :
  ((putHO room H t).2.1 = 0 ∧ Stand (putHO room H t).2.2 (ts ++ [t]) (xs ++ [(putHO room H t).1])) ∨ ((putHO room H t).2.1 ≠ 0 ∧ Stand (putHO room H t).2.2 ts xs) := by
 rcases putHO_R hW room t with ⟨h0, hl, hr, -, -⟩ | ⟨h0, hH⟩
 ·refine .inl ⟨h0, ?_, fun u hu => ?_⟩
  ·have h1 := h.1.map id fun u y _ _ hy => hr.old u y hy
   rw [List.map_id] at h1
   exact h1.snoc hr.rep
  ·rcases List.mem_append.1 hu with hu | hu
   ·exact h.2 u hu
   ·rw [List.mem_singleton.1 hu]; exact hl
 ·rw [hH]; exact .inr ⟨h0, h⟩
theorem Stand.at {H : HS} {ts : List T} {xs : List Wrd} (h : Stand H ts xs) (i : Nat) (h1 : i < ts.length) (h2 : i < xs.length) : Rep H ts[i] xs[i] ∧ LeafOk ts[i] := ⟨h.1.at i h1 h2, h.2 _ (List.getElem_mem h1)⟩
theorem Stand.stands {H : HS} {ts : List T} {xs : List Wrd} (h : Stand H ts xs) : ∀ x ∈ xs, standsB H x = true := fun x hx => by
 obtain ⟨i, hi, rfl⟩ := List.getElem_of_mem hx
 have hl := h.length
 obtain ⟨h1, h2⟩ := h.at i (by omega) hi
 exact h1.stands h2
/-- A collection. -/
theorem Stand.col {H : HS} {ts : List T} {xs : List Wrd} {ks : List Nat} {tw out : List Wrd} (h : Stand H ts xs) (hC : Col H xs ks tw out) : Stand ⟨tw, H.names⟩ ts out := by
 refine ⟨?_, h.2⟩
 rw [hC.out]
 exact h.1.map _ fun u y _ hy hr => hC.rep u y hr (hC.rk y hy)
theorem Col.le {H : HS} (hW : WF H) {rs : List Wrd} {ks : List Nat} {tw out : List Wrd} (h : Col H rs ks tw out) : tw.length ≤ H.ws.length := by
 rw [h.tw, List.length_map]; exact raw_le hW ks h.hd h.nd
end Go.Proofs.Ytedfepnekjjmnab

/-
 Slices of numbers, as read. No condition.
-/
namespace Go.Proofs.Ytedfepnekjjmnab
open Go.RowKit
set_option linter.unusedSimpArgs false
set_option linter.unusedVariables false

def intE : El Int where
 k := 1
 C := fun _ _ x cs => cs = [.int .i64 x]
 len := by rintro S w x cs rfl; rfl
 one := by rintro S w x cs rfl; simp [Value.oneCell']
 «to» := by rintro S S' w w' x cs rfl _ _; rfl
theorem RX.int {R S : Nat → Prop} {w : World} {l : List Int} {b o n cap : Nat} (h : RX intE R S w l (.slice (some ⟨b, o, none⟩) n cap)) (j : Nat) (hj : j < l.length) :
  R b ∧ w.cell? ⟨b, o + j, none⟩ = some (.int .i64 l[j]) := by
 obtain ⟨c, rfl, hc⟩ := h.elem j hj
 have h0 := hc 0 _ rfl
 exact ⟨h0.1, by have := h0.2; simpa [intE] using this⟩
end Go.Proofs.Ytedfepnekjjmnab

/-
 A process' heap in plain words: terms and their words side by side, none of them shared. No condition.
-/
namespace Go.Proofs.Ytedfepnekjjmnab
open Go.RowKit
set_option linter.unusedSimpArgs false
set_option linter.unusedVariables false

theorem hb_small {t : T} (h : headB t = true) : t.name.size ≤ 8 ∧ (t.kind ≠ 4 → t.args = []) := by
 have bare : bareB t = true → t.name.size ≤ 8 ∧ (t.kind ≠ 4 → t.args = []) := fun hb => by
  obtain ⟨h1, h2⟩ := bare_nil hb
  exact ⟨by rw [h1]; decide, fun _ => h2⟩
 unfold headB at h
 by_cases h1 : t.kind = 1
 ·rw [if_pos h1, Bool.and_eq_true] at h; exact bare h.1
 rw [if_neg h1] at h
 by_cases h2 : t.kind = 2
 ·rw [if_pos h2] at h
  simp only [Bool.and_eq_true, decide_eq_true_eq] at h
  refine ⟨?_, fun _ => List.eq_nil_of_length_eq_zero h.1.2⟩
  have h3 := h.2
  unfold nameB at h3
  simp only [Bool.and_eq_true, decide_eq_true_eq] at h3
  exact h3.1.2
 rw [if_neg h2] at h
 by_cases h3 : t.kind = 3
 ·rw [if_pos h3, Bool.and_eq_true] at h; exact bare h.1
 rw [if_neg h3] at h
 by_cases h5 : t.kind = 5
 ·rw [if_pos h5, Bool.and_eq_true] at h; exact bare h.1
 rw [if_neg h5] at h
 by_cases h6 : t.kind = 6
 ·rw [if_pos h6, Bool.and_eq_true] at h; exact bare h.1
 rw [if_neg h6] at h
 by_cases h4 : t.kind = 4
 ·rw [if_pos h4] at h
  simp only [Bool.and_eq_true, decide_eq_true_eq] at h
  exact ⟨by rw [name_nil h.1.2]; decide, fun e => absurd h4 e⟩
 ·rw [if_neg h4] at h; cases h
theorem bulk_frm : ∀ (m : Nat) (ts : List T), bulkL ts ≤ m → formL ts = true → bulkL ts ≤ 9 * (ts.length + szL ts)
 | 0, ts, hb, _ => by omega
 | m + 1, ts, hb, hf => by
  cases ts with
  | nil => simp [bulkL]
  | cons t ts =>
   rw [bulkL_cons] at hb
   rw [formL_cons] at hf
   simp only [Bool.and_eq_true] at hf
   obtain ⟨h1, h2⟩ := hb_small hf.1.1
   have i1 := bulk_frm m t.args (by omega) hf.1.2
   have i2 := bulk_frm m ts (by omega) hf.2
   rw [bulkL_cons, szL_cons, List.length_cons]
   by_cases h4 : t.kind = 4
   ·rw [if_pos h4]; omega
   ·rw [if_neg h4, h2 h4]
    simp [bulkL]; omega
theorem chk_bulk {t : T} (h : checkE t = 0) : bulkL [t] ≤ 1809 := by
 unfold checkE at h
 cases hf : formL [t] with
 | false => rw [hf] at h; simp at h
 | true =>
  rw [hf, if_pos rfl] at h
  by_cases hs : dpL [t] ≤ 12 ∧ szL [t] ≤ 200
  ·have := bulk_frm _ [t] (Nat.le_refl _) hf
   simp only [List.length_cons, List.length_nil] at this
   omega
  ·rw [if_neg hs] at h; cases h
/-- Terms and words, side by side. -/
abbrev TW := List (T × Wrd)
def tmsL (L : TW) : List T := L.map (·.1)
def wdsL (L : TW) : List Wrd := L.map (·.2)
def headsL (H : HS) (L : TW) : List Nat := L.flatMap fun p => hd1 H p.1 p.2
theorem hdL_of (H : HS) : ∀ L : TW, hdL H (tmsL L) (wdsL L) = headsL H L
 | [] => hdL_nil _ _
 | p :: L => by
  show hdL H (p.1 :: tmsL L) (p.2 :: wdsL L) = _
  rw [hdL_cons, hdL_of H L]; rfl
theorem repL_of {H : HS} : ∀ {L : TW}, RepL H (tmsL L) (wdsL L) ↔ ∀ p ∈ L, Rep H p.1 p.2
 | [] => by simp [tmsL, wdsL, RepL_nil]
 | p :: L => by
  show RepL H (p.1 :: tmsL L) (p.2 :: wdsL L) ↔ _
  rw [RepL_cons, List.forall_mem_cons, ← repL_of (L := L)]
  constructor
  ·rintro ⟨x, r, e, h1, h2⟩
   obtain ⟨rfl, rfl⟩ := List.cons.inj e
   exact ⟨h1, h2⟩
  ·rintro ⟨h1, h2⟩
   exact ⟨_, _, rfl, h1, h2⟩
/-- Terms that stand in a heap, apart from each other. -/
structure PH (room : Int) (H : HS) (L : TW) : Prop where
 wf : WF H
 rep : ∀ p ∈ L, Rep H p.1 p.2
 nd : (headsL H L).Nodup
 ok : ∀ p ∈ L, checkE p.1 = 0 ∧ closedL [p.1] = true
 rm : (H.ws.length : Int) ≤ room
section
variable {room : Int} {H : HS} {L L' : TW}
theorem sub_flatMap {α β : Type _} (f : α → List β) {l l' : List α} (h : l'.Sublist l) : (l'.flatMap f).Sublist (l.flatMap f) := by
 induction h with
 | slnil => exact List.Sublist.refl _
 | cons a _ ih => rw [List.flatMap_cons]; exact ih.trans (List.sublist_append_right _ _)
 | cons_cons a _ ih => rw [List.flatMap_cons, List.flatMap_cons]; exact (List.Sublist.refl _).append ih
theorem PH.repL (h : PH room H L) : RepL H (tmsL L) (wdsL L) := repL_of.2 h.rep
theorem PH.ndL (h : PH room H L) : (hdL H (tmsL L) (wdsL L)).Nodup := by rw [hdL_of]; exact h.nd
theorem PH.new (hr : 0 ≤ room) : PH room ⟨[], []⟩ [] := ⟨WF.new _, by simp, by simp [headsL], by simp, by simpa using hr⟩
theorem PH.sub (h : PH room H L) (hs : L'.Sublist L) : PH room H L' :=
 ⟨h.wf, fun p hp => h.rep p (hs.subset hp), h.nd.sublist (sub_flatMap _ hs), fun p hp => h.ok p (hs.subset hp), h.rm⟩
theorem PH.perm (h : PH room H L) (hp : L.Perm L') : PH room H L' :=
 ⟨h.wf, fun p hq => h.rep p (hp.mem_iff.2 hq), (hp.flatMap_right _).nodup h.nd, fun p hq => h.ok p (hp.mem_iff.2 hq), h.rm⟩
theorem PH.leaf (h : PH room H L) : ∀ p ∈ L, LeafOk p.1 ∧ szL [p.1] ≤ 200 := fun p hp => (check_ok (h.ok p hp).1 (h.ok p hp).2).2
theorem PH.stands (h : PH room H L) : ∀ x ∈ wdsL L, standsB H x = true := fun x hx => by
 obtain ⟨p, hp, rfl⟩ := List.mem_map.1 hx
 exact (h.rep p hp).stands (h.leaf p hp).1
/-- How many words they need at least. -/
theorem PH.le (h : PH room H L) : szL (tmsL L) ≤ H.ws.length := by
 have h1 := h.repL
 have hh := fun i hi => (hdL_reach H (wdsL L) _ (tmsL L) (Nat.le_refl _) (wdsL L) h1 (fun j hj => Reach.root j hj) i hi).2
 have h2 := hdL_sum H _ (tmsL L) (Nat.le_refl _) (wdsL L) h1
 rw [← h2, ← raw_len _ hh]
 exact raw_le h.wf _ hh h.ndL
/-- A put. -/
theorem PH.put (h : PH room H L) {t : T} (h0 : checkE t = 0) (h1 : closedL [t] = true) (h2 : ¬ room < H.ws.length + szL [t]) : PH room (putW H t).2 (L ++ [(t, (putW H t).1)]) := by
 have hok := (check_ok h0 h1).1
 have hR := putW_R h.wf hok
 have ho := hR.hdo _ _ h.repL
 rw [hdL_of, hdL_of] at ho
 refine ⟨hR.wf, fun p hp => ?_, ?_, fun p hp => ?_, ?_⟩
 ·rcases List.mem_append.1 hp with hp | hp
  ·exact hR.old _ _ (h.rep p hp)
  ·rw [List.mem_singleton.1 hp]; exact hR.rep
 ·show ((L ++ [(t, (putW H t).1)]).flatMap fun p => hd1 (putW H t).2 p.1 p.2).Nodup
  rw [List.flatMap_append, List.flatMap_singleton]
  have e : (L.flatMap fun p => hd1 (putW H t).2 p.1 p.2) = headsL H L := ho.1
  rw [e]
  refine List.nodup_append.2 ⟨h.nd, hR.nd, fun a ha b hb e => ?_⟩
  have := ho.2 a ha
  have := hR.fr b hb
  omega
 ·rcases List.mem_append.1 hp with hp | hp
  ·exact h.ok p hp
  ·rw [List.mem_singleton.1 hp]; exact ⟨h0, h1⟩
 ·have := (putW_len H t).1
  omega
/-- A collection. -/
theorem PH.col (h : PH room H L) {ks : List Nat} {tw out : List Wrd} (hC : Col H (wdsL L) ks tw out) : ∃ L2 : TW, tmsL L2 = tmsL L ∧ wdsL L2 = out ∧ PH room ⟨tw, H.names⟩ L2 ∧ tw.length = szL (tmsL L) := by
 have e : wdsL (L.map fun p => (p.1, fwd H ks p.2)) = out := by
  rw [hC.out]; simp [wdsL, List.map_map]
 have e1 : tmsL (L.map fun p => (p.1, fwd H ks p.2)) = tmsL L := by simp [tmsL, List.map_map]
 refine ⟨L.map fun p => (p.1, fwd H ks p.2), e1, e, ⟨hC.wf h.wf _, fun p hp => ?_, ?_, fun p hp => ?_, ?_⟩, hC.size h.repL h.ndL⟩
 ·obtain ⟨q, hq, rfl⟩ := List.mem_map.1 hp
  exact hC.rep _ _ (h.rep q hq) (hC.rk _ (List.mem_map.2 ⟨q, hq, rfl⟩))
 ·rw [← hdL_of, e, e1]
  exact hC.nodup h.repL h.ndL _
 ·obtain ⟨q, hq, rfl⟩ := List.mem_map.1 hp
  exact h.ok q hq
 ·have := hC.le h.wf
  have := h.rm
  show (tw.length : Int) ≤ room
  omega
/-- A number needs no words. -/
theorem PH.num (h : PH room H L) : PH room H ((numT 0, ⟨1, 0⟩) :: L) := by
 have hr : Rep H (numT 0) ⟨1, 0⟩ := by
  unfold numT; simp [Rep]
 refine ⟨h.wf, fun p hp => ?_, ?_, fun p hp => ?_, h.rm⟩
 ·rcases List.mem_cons.1 hp with rfl | hp
  ·exact hr
  ·exact h.rep p hp
 ·show (hd1 H (numT 0) ⟨1, 0⟩ ++ headsL H L).Nodup
  rw [show hd1 H (numT 0) ⟨1, 0⟩ = [] from rfl]
  exact h.nd
 ·rcases List.mem_cons.1 hp with rfl | hp
  ·exact ⟨by simp [checkE, numT, formL, headB, bareB, inB, dpL, szL], by simp [numT, closedL]⟩
  ·exact h.ok p hp
end
end Go.Proofs.Ytedfepnekjjmnab

/-
 HeapShares: plain facts about what it joins and collects; clerkref.Putable. No condition but bounds.
-/
namespace Go.Proofs.Ytedfepnekjjmnab
open Go.RowKit
set_option linter.unusedSimpArgs false
set_option linter.unusedVariables false
set_option maxRecDepth 100000

/-- What Putable answers. -/
def putE (t : T) : Int := if checkE t ≠ 0 then checkE t else if closedL [t] = false then 5 else 0
theorem WF.empty : WF ⟨[], []⟩ := WF.new []
end Go.Proofs.Ytedfepnekjjmnab

/-
 Rows of a call's own side by side, what they hold, and blocks that they leave alone: allocated, grown, kept. No condition.
-/
namespace Go.Proofs.Ytedfepnekjjmnab
open Go.RowKit
set_option linter.unusedSimpArgs false
set_option linter.unusedVariables false

/-! ### Terms as elements -/
def termE : El T where
 k := 4
 C := fun S w t cs => ∃ a cap, cs = [.int .i64 t.kind, .int .i64 t.n, .string t.name, .slice a t.args.length cap] ∧ CapOk a t.args.length cap ∧ RTs S w t.args a 0
 len := by rintro S w x cs ⟨a, cap, rfl, -⟩; rfl
 one := by rintro S w x cs ⟨a, cap, rfl, -⟩; simp [Value.oneCell']
 «to» := by rintro S S' w w' x cs ⟨a, cap, rfl, h1, h2⟩ hs hc; exact ⟨a, cap, rfl, h1, h2.to hs hc⟩
def termF : ElT termE where
 e := 24
 sl := 22
 bytes := 56
 z := .agg #[.int .i64 0, .int .i64 0, .string ⟨#[]⟩, .slice none 0 0]
 hund := Try.underlying22
 info := info24
 hzs := rfl
 hk := by decide
 hb := by decide
theorem cells_termE {S : Nat → Prop} {w : World} : ∀ {ts : List T} {cs : List Value}, CellsX termE S w ts cs ↔ CellsT S w ts cs
 | [], cs => Iff.rfl
 | t :: ts, cs => by
  constructor
  ·rintro ⟨c, cs', rfl, ⟨a, cap, rfl, h1, h2⟩, h3⟩
   exact ⟨a, cap, cs', rfl, h1, h2, cells_termE.1 h3⟩
  ·rintro ⟨a, cap, cs', rfl, h1, h2, h3⟩
   exact ⟨_, cs', rfl, ⟨a, cap, rfl, h1, h2⟩, cells_termE.2 h3⟩
theorem termE_of {S : Nat → Prop} {w : World} {t : T} {c : Array Value} (h : RT S w t (.agg c)) : termE.C S w t c.toList := by
 obtain ⟨a, cap, e, h1, h2⟩ := h
 simp only [Value.agg.injEq] at e
 exact ⟨a, cap, by rw [e], h1, h2⟩

/-! ### Rows side by side -/
structure Rw where
 X : Type
 E : El X
 F : ElT E
 v : Value
 l : List X
def rT (v : Value) (l : List T) : Rw := ⟨T, termE, termF, v, l⟩
/-- Rows of one's own (rs) since w0, that lead into P; blocks apart from them: F, and bs, which are known whole. -/
structure RS (P F : Nat → Prop) (w0 : World) (bs : List (Nat × List Value)) (w : World) (rs : List Rw) : Prop where
 bel : Below w0.heap.size w0 w
 pb : ∀ b, P b → b < w.heap.size ∧ ¬ F b ∧ ∀ r ∈ rs, r.v.ownBlock ≠ some b
 ok : ∀ r ∈ rs, OwnXG r.E r.F.e P w0.heap.size w r.v r.l
 ap : rs.Pairwise fun r s => ∀ b, r.v.ownBlock = some b → s.v.ownBlock ≠ some b
 fh : ∀ b, F b → w0.heap.size ≤ b ∧ b < w.heap.size ∧ ∀ r ∈ rs, r.v.ownBlock ≠ some b
 bk : ∀ p ∈ bs, Blk w p.1 p.2 ∧ ¬ F p.1 ∧ ∀ r ∈ rs, r.v.ownBlock ≠ some p.1
section
variable {P F : Nat → Prop} {w0 w : World} {bs : List (Nat × List Value)} {rs : List Rw}
theorem RS.start (P : Nat → Prop) (w : World) (hP : ∀ b, P b → b < w.heap.size) : RS P (fun _ => False) w [] w [] :=
 ⟨Below.refl _ _, fun b hb => ⟨hP b hb, not_false, by simp⟩, by simp, List.Pairwise.nil, fun b h => h.elim, by simp⟩
theorem RS.lt (h : RS P F w0 bs w rs) {r : Rw} (hr : r ∈ rs) (b : Nat) (hb : r.v.ownBlock = some b) : w0.heap.size ≤ b ∧ b < w.heap.size := OwnXG.block (h.ok r hr) b hb
theorem RS.sub (h : RS P F w0 bs w rs) {bs' : List (Nat × List Value)} (hs : ∀ p ∈ bs', p ∈ bs) : RS P F w0 bs' w rs := ⟨h.bel, h.pb, h.ok, h.ap, h.fh, fun p hp => h.bk p (hs p hp)⟩
/-- Something that leaves all that is tracked as it was. -/
theorem RS.step (h : RS P F w0 bs w rs) {w' : World} {F' : Nat → Prop} (hb0 : Below w0.heap.size w0 w') (hl : w.heap.size ≤ w'.heap.size) (hF : ∀ b, F' b → (F b ∨ w.heap.size ≤ b) ∧ b < w'.heap.size) (hc : ∀ b, b < w.heap.size → ¬ F b → w'.heap[b]? = w.heap[b]?) : RS P F' w0 bs w' rs := by
 have hnF : ∀ b, b < w.heap.size → ¬ F b → ¬ F' b := fun b hb hn hf => by
  rcases (hF b hf).1 with h1 | h1
  ·exact hn h1
  ·omega
 refine ⟨hb0, fun b hb => ⟨by have := (h.pb b hb).1; omega, hnF b (h.pb b hb).1 (h.pb b hb).2.1, (h.pb b hb).2.2⟩, fun r hr => ?_, h.ap, fun b hb => ?_, fun p hp => ?_⟩
 ·refine OwnXG.to (h.ok r hr) hl fun b hb hlt => hc b hlt fun hf => ?_
  rcases hb with hb | hb
  ·exact (h.pb b hb).2.1 hf
  ·exact (h.fh b hf).2.2 r hr hb
 ·obtain ⟨h1, h2⟩ := hF b hb
  have hw := h.bel.size
  rcases h1 with h1 | h1
  ·exact ⟨(h.fh b h1).1, h2, (h.fh b h1).2.2⟩
  ·exact ⟨by omega, h2, fun r hr e => by have := (h.lt hr b e).2; omega⟩
 ·obtain ⟨h1, h2, h3⟩ := h.bk p hp
  exact ⟨h1.heap (hc p.1 h1.lt h2), hnF p.1 h1.lt h2, h3⟩
theorem RS.below (h : RS P F w0 bs w rs) {w' : World} (hB : Below w.heap.size w w') : RS P F w0 bs w' rs :=
 h.step (below_step h.bel h.bel.size hB) hB.size (fun b hb => ⟨.inl hb, by have := (h.fh b hb).2.1; have := hB.size; omega⟩) fun b hb _ => hB.block b hb
theorem RS.keep (h : RS P F w0 bs w rs) {w' : World} {F' : Nat → Prop} (hK : Keep F w w') (hF : ∀ b, F' b → (F b ∨ w.heap.size ≤ b) ∧ b < w'.heap.size) : RS P F' w0 bs w' rs :=
 h.step (h.bel.trans (hK.below h.bel.size fun b hb => (h.fh b hb).1)) hK.size hF fun b hb hn => hK.block b hb hn
/-- A block is made. -/
theorem RS.alloc (h : RS P F w0 bs w rs) (c : Array Value) (e : TypeId) {g : Nat} (hg : g = w.heap.size) : RS P F w0 ((g, c.toList) :: bs) (w.alloc (.cells c e)) rs := by
 subst hg
 have h1 := h.below (below_alloc w (.cells c e))
 refine ⟨h1.bel, h1.pb, h1.ok, h1.ap, h1.fh, fun p hp => ?_⟩
 rcases List.mem_cons.1 hp with rfl | hp
 ·exact ⟨Blk.new w c e _ rfl, fun hf => by have := (h.fh _ hf).2.1; omega, fun r hr e => by have := (h.lt hr _ e).2; omega⟩
 ·exact h1.bk p hp
/-- A block that is known whole. -/
theorem RS.blk (h : RS P F w0 bs w rs) {g : Nat} {c : List Value} (hB : Blk w g c) (hF : ¬ F g) (hr : ∀ r ∈ rs, r.v.ownBlock ≠ some g) : RS P F w0 ((g, c) :: bs) w rs :=
 ⟨h.bel, h.pb, h.ok, h.ap, h.fh, fun p hp => by
  rcases List.mem_cons.1 hp with rfl | hp
  ·exact ⟨hB, hF, hr⟩
  ·exact h.bk p hp⟩
/-- A new row. -/
theorem RS.nil (h : RS P F w0 bs w rs) {X : Type} {E : El X} (Fe : ElT E) : RS P F w0 bs w (⟨X, E, Fe, .slice none 0 0, []⟩ :: rs) := by
 have hn : ∀ b, (Value.slice none 0 0).ownBlock ≠ some b := fun b => by simp [Value.ownBlock]
 refine ⟨h.bel, fun b hb => ⟨(h.pb b hb).1, (h.pb b hb).2.1, fun r hr => ?_⟩, fun r hr => ?_, List.pairwise_cons.2 ⟨fun s _ b hb => absurd hb (hn b), h.ap⟩, fun b hb => ⟨(h.fh b hb).1, (h.fh b hb).2.1, fun r hr => ?_⟩, fun p hp => ⟨(h.bk p hp).1, (h.bk p hp).2.1, fun r hr => ?_⟩⟩
 ·rcases List.mem_cons.1 hr with rfl | hr
  ·exact hn b
  ·exact (h.pb b hb).2.2 r hr
 ·rcases List.mem_cons.1 hr with rfl | hr
  ·exact OwnXG.nil _ _ _ _
  ·exact h.ok r hr
 ·rcases List.mem_cons.1 hr with rfl | hr
  ·exact hn b
  ·exact (h.fh b hb).2.2 r hr
 ·rcases List.mem_cons.1 hr with rfl | hr
  ·exact hn _
  ·exact (h.bk p hp).2.2 r hr
/-- Only the places matter. -/
theorem RS.perm (h : RS P F w0 bs w rs) {rs' : List Rw} (hp : rs.Perm rs') : RS P F w0 bs w rs' := by
 have hm : ∀ r, r ∈ rs' → r ∈ rs := fun r hr => hp.mem_iff.2 hr
 refine ⟨h.bel, fun b hb => ⟨(h.pb b hb).1, (h.pb b hb).2.1, fun r hr => (h.pb b hb).2.2 r (hm r hr)⟩, fun r hr => h.ok r (hm r hr), ?_, fun b hb => ⟨(h.fh b hb).1, (h.fh b hb).2.1, fun r hr => (h.fh b hb).2.2 r (hm r hr)⟩, fun p hp' => ⟨(h.bk p hp').1, (h.bk p hp').2.1, fun r hr => (h.bk p hp').2.2 r (hm r hr)⟩⟩
 exact hp.pairwise h.ap fun {r s} hrs b hb e => hrs b e hb
/-- One row is grown. -/
theorem RS.grown {l1 l2 : List Rw} {X : Type} {E : El X} {Fe : ElT E} {v v' : Value} {xs xs' : List X} (h : RS P F w0 bs w (l1 ++ ⟨X, E, Fe, v, xs⟩ :: l2)) {w' : World} (hg : w.grownBy w' v.ownBlock)
  (ho : OwnXG E Fe.e P w0.heap.size w' v' xs') (hv : ∀ b, v'.ownBlock = some b → v.ownBlock = some b ∨ w.heap.size ≤ b) : RS P F w0 bs w' (l1 ++ ⟨X, E, Fe, v', xs'⟩ :: l2) := by
 have hmr : (⟨X, E, Fe, v, xs⟩ : Rw) ∈ l1 ++ ⟨X, E, Fe, v, xs⟩ :: l2 := by simp
 have hmo : ∀ r, (r ∈ l1 ∨ r ∈ l2) → r ∈ l1 ++ (⟨X, E, Fe, v, xs⟩ : Rw) :: l2 := fun r hr => by
  rcases hr with hr | hr <;> simp [hr]
 have hsp : ∀ r, r ∈ l1 ++ (⟨X, E, Fe, v', xs'⟩ : Rw) :: l2 → r = ⟨X, E, Fe, v', xs'⟩ ∨ (r ∈ l1 ∨ r ∈ l2) := fun r hr => by
  rcases List.mem_append.1 hr with hr | hr
  ·exact .inr (.inl hr)
  ·rcases List.mem_cons.1 hr with hr | hr
   ·exact .inl hr
   ·exact .inr (.inr hr)
 obtain ⟨a1, a2, a3⟩ := List.pairwise_append.1 h.ap
 obtain ⟨a4, a5⟩ := List.pairwise_cons.1 a2
 have hother : ∀ r, (r ∈ l1 ∨ r ∈ l2) → ∀ b, r.v.ownBlock = some b → v.ownBlock ≠ some b := fun r hr b hb e => by
  rcases hr with hr | hr
  ·exact a3 r hr _ (List.mem_cons_self ..) b hb e
  ·exact a4 r hr b e hb
 have hnew : ∀ b, b < w.heap.size → v.ownBlock ≠ some b → v'.ownBlock ≠ some b := fun b hb hn e => by
  rcases hv b e with h1 | h1
  ·exact hn h1
  ·omega
 have hrowl := fun b hb => (h.lt hmr b hb).1
 have hsz := hg.size
 refine ⟨grown_below h.bel hg h.bel.size hrowl, fun b hb => ⟨by have := (h.pb b hb).1; omega, (h.pb b hb).2.1, fun r hr => ?_⟩, fun r hr => ?_, ?_, fun b hb => ⟨(h.fh b hb).1, by have := (h.fh b hb).2.1; omega, fun r hr => ?_⟩, fun p hp => ⟨?_, (h.bk p hp).2.1, fun r hr => ?_⟩⟩
 ·rcases hsp r hr with rfl | hr
  ·exact hnew b (h.pb b hb).1 ((h.pb b hb).2.2 _ hmr)
  ·exact (h.pb b hb).2.2 r (hmo r hr)
 ·rcases hsp r hr with rfl | hr
  ·exact ho
  ·refine OwnXG.to (h.ok r (hmo r hr)) hg.size fun b hb hlt => hg.block b hlt fun e => ?_
   rcases hb with hb | hb
   ·exact (h.pb b hb).2.2 _ hmr e.symm
   ·exact hother r hr b hb e.symm
 ·refine List.pairwise_append.2 ⟨a1, List.pairwise_cons.2 ⟨fun s hs b hb e => ?_, a5⟩, fun r hr s hs b hb e => ?_⟩
  ·rcases hv b hb with h1 | h1
   ·exact a4 s hs b h1 e
   ·have := (h.lt (hmo s (.inr hs)) b e).2; omega
  ·rcases List.mem_cons.1 hs with rfl | hs
   ·rcases hv b e with h1 | h1
    ·exact a3 r hr _ (List.mem_cons_self ..) b hb h1
    ·have := (h.lt (hmo r (.inl hr)) b hb).2; omega
   ·exact a3 r hr s (List.mem_cons_of_mem _ hs) b hb e
 ·rcases hsp r hr with rfl | hr
  ·exact hnew b (h.fh b hb).2.1 ((h.fh b hb).2.2 _ hmr)
  ·exact (h.fh b hb).2.2 r (hmo r hr)
 ·have h1 := h.bk p hp
  exact h1.1.heap (hg.block p.1 h1.1.lt fun e => h1.2.2 _ hmr e.symm)
 ·rcases hsp r hr with rfl | hr
  ·exact hnew p.1 (h.bk p hp).1.lt ((h.bk p hp).2.2 _ hmr)
  ·exact (h.bk p hp).2.2 r (hmo r hr)
/-- What stays when a row is grown. -/
theorem RS.stay {l1 l2 : List Rw} {r : Rw} (h : RS P F w0 bs w (l1 ++ r :: l2)) {w' : World} (hg : w.grownBy w' r.v.ownBlock) (b : Nat) (hb : P b ∨ F b) : w'.heap[b]? = w.heap[b]? := by
 have hmr : r ∈ l1 ++ r :: l2 := by simp
 rcases hb with hb | hb
 ·exact hg.block b (h.pb b hb).1 fun e => (h.pb b hb).2.2 _ hmr e.symm
 ·exact hg.block b (h.fh b hb).2.1 fun e => (h.fh b hb).2.2 _ hmr e.symm
theorem RS.rx {r : Rw} (h : RS P F w0 bs w rs) (hr : r ∈ rs) : RX r.E (fun b => r.v.ownBlock = some b) P w r.l r.v := (OwnX.rx (h.ok r hr)).mono (fun _ h => h) fun b hb => hb.1
theorem RS.own {r : Rw} (h : RS P F w0 bs w rs) (hr : r ∈ rs) : OwnXG r.E r.F.e P w0.heap.size w r.v r.l := h.ok r hr
theorem RS.cell {g : Nat} {c : List Value} (h : RS P F w0 bs w rs) (hg : (g, c) ∈ bs) (j : Nat) (u : Value) (hu : c[j]? = some u) : w.cell? ⟨g, j, none⟩ = some u := (h.bk _ hg).1.cell j u hu
end
section
variable {o : Oper} {a : Act} {Q : Exit → Act → World → Prop} {K : Act → World → Prop} {w : World}
end
end Go.Proofs.Ytedfepnekjjmnab

/-
 Rows of one's own side by side, each of which may have lost heads. Printed out of XSide by sideq.py. No condition.
-/
namespace Go.Proofs.Ytedfepnekjjmnab
open Go.RowKit
set_option linter.unusedSimpArgs false
set_option linter.unusedVariables false

section
variable {X : Type} {E : El X} {e : TypeId} {P : Nat → Prop} {base : Nat} {w : World} {v : Value} {xs : List X}
def OwnXQ (E : El X) (e : TypeId) (P : Nat → Prop) (base : Nat) (w : World) (v : Value) (xs : List X) : Prop := ∃ cs, ownsQ w base e E.k v xs.length cs ∧ CellsX E (fun b => P b ∧ b < w.heap.size ∧ v.ownBlock ≠ some b) w xs cs
theorem OwnXQ.nil (e : TypeId) (P : Nat → Prop) (base : Nat) (w : World) : OwnXQ E e P base w (.slice none 0 0) [] := ⟨[], ⟨by simp, .inl ⟨rfl, rfl⟩⟩, rfl⟩
theorem OwnXQ.to {w' : World} (h : OwnXQ E e P base w v xs) (hl : w.heap.size ≤ w'.heap.size) (hc : ∀ b, (P b ∨ v.ownBlock = some b) → b < w.heap.size → w'.heap[b]? = w.heap[b]?) : OwnXQ E e P base w' v xs := by
 obtain ⟨cs, h1, h2⟩ := h
 exact ⟨cs, h1.to fun b hb => hc b (.inr hb) (h1.lt b hb).2, h2.to (fun b hb _ => ⟨hb.1, by have := hb.2.1; omega, hb.2.2⟩) fun b hb hlt => hc b (.inl hb.1) hlt⟩
theorem OwnXQ.block (h : OwnXQ E e P base w v xs) : ∀ b, v.ownBlock = some b → base ≤ b ∧ b < w.heap.size := by obtain ⟨cs, h1, -⟩ := h; exact h1.lt
theorem OwnXQ.of (h : OwnXG E e P base w v xs) : OwnXQ E e P base w v xs := by obtain ⟨cs, h1, h2⟩ := h; exact ⟨cs, ownsQ_of h1, h2⟩
theorem OwnXQ.rx (h : OwnXQ E e P base w v xs) : RX E (fun b => v.ownBlock = some b) (fun b => P b ∧ b < w.heap.size ∧ v.ownBlock ≠ some b) w xs v := by
 obtain ⟨cs, h1, h2⟩ := h
 rcases h1.2 with ⟨rfl, h0⟩ | ⟨g, o, cap, cur, rfl, -, -, hn, -⟩
 ·obtain rfl : xs = [] := List.eq_nil_of_length_eq_zero h0
  exact ⟨none, 0, cs, rfl, ⟨Nat.le_refl _, fun _ => rfl⟩, h2, fun j u hu => by
   obtain rfl : cs = [] := h2
   simp at hu⟩
 ·exact ⟨some ⟨g, o * E.k, none⟩, cap, cs, rfl, ⟨hn, fun h => by cases h⟩, h2, fun j u hu => ⟨g, o * E.k, rfl, rfl, by have := h1.cells rfl j u hu; rwa [Addr.add_lit] at this⟩⟩
end
/-- Rows of one's own (rs) since w0, that lead into P; blocks apart from them: F, and bs, which are known whole. -/
structure RQ (P F : Nat → Prop) (w0 : World) (bs : List (Nat × List Value)) (w : World) (rs : List Rw) : Prop where
 bel : Below w0.heap.size w0 w
 pb : ∀ b, P b → b < w.heap.size ∧ ¬ F b ∧ ∀ r ∈ rs, r.v.ownBlock ≠ some b
 ok : ∀ r ∈ rs, OwnXQ r.E r.F.e P w0.heap.size w r.v r.l
 ap : rs.Pairwise fun r s => ∀ b, r.v.ownBlock = some b → s.v.ownBlock ≠ some b
 fh : ∀ b, F b → w0.heap.size ≤ b ∧ b < w.heap.size ∧ ∀ r ∈ rs, r.v.ownBlock ≠ some b
 bk : ∀ p ∈ bs, Blk w p.1 p.2 ∧ ¬ F p.1 ∧ ∀ r ∈ rs, r.v.ownBlock ≠ some p.1
section
variable {P F : Nat → Prop} {w0 w : World} {bs : List (Nat × List Value)} {rs : List Rw}
theorem RQ.start (P : Nat → Prop) (w : World) (hP : ∀ b, P b → b < w.heap.size) : RQ P (fun _ => False) w [] w [] :=
 ⟨Below.refl _ _, fun b hb => ⟨hP b hb, not_false, by simp⟩, by simp, List.Pairwise.nil, fun b h => h.elim, by simp⟩
theorem RQ.lt (h : RQ P F w0 bs w rs) {r : Rw} (hr : r ∈ rs) (b : Nat) (hb : r.v.ownBlock = some b) : w0.heap.size ≤ b ∧ b < w.heap.size := OwnXQ.block (h.ok r hr) b hb
theorem RQ.sub (h : RQ P F w0 bs w rs) {bs' : List (Nat × List Value)} (hs : ∀ p ∈ bs', p ∈ bs) : RQ P F w0 bs' w rs := ⟨h.bel, h.pb, h.ok, h.ap, h.fh, fun p hp => h.bk p (hs p hp)⟩
/-- Something that leaves all that is tracked as it was. -/
theorem RQ.step (h : RQ P F w0 bs w rs) {w' : World} {F' : Nat → Prop} (hb0 : Below w0.heap.size w0 w') (hl : w.heap.size ≤ w'.heap.size) (hF : ∀ b, F' b → (F b ∨ w.heap.size ≤ b) ∧ b < w'.heap.size) (hc : ∀ b, b < w.heap.size → ¬ F b → w'.heap[b]? = w.heap[b]?) : RQ P F' w0 bs w' rs := by
 have hnF : ∀ b, b < w.heap.size → ¬ F b → ¬ F' b := fun b hb hn hf => by
  rcases (hF b hf).1 with h1 | h1
  ·exact hn h1
  ·omega
 refine ⟨hb0, fun b hb => ⟨by have := (h.pb b hb).1; omega, hnF b (h.pb b hb).1 (h.pb b hb).2.1, (h.pb b hb).2.2⟩, fun r hr => ?_, h.ap, fun b hb => ?_, fun p hp => ?_⟩
 ·refine OwnXQ.to (h.ok r hr) hl fun b hb hlt => hc b hlt fun hf => ?_
  rcases hb with hb | hb
  ·exact (h.pb b hb).2.1 hf
  ·exact (h.fh b hf).2.2 r hr hb
 ·obtain ⟨h1, h2⟩ := hF b hb
  have hw := h.bel.size
  rcases h1 with h1 | h1
  ·exact ⟨(h.fh b h1).1, h2, (h.fh b h1).2.2⟩
  ·exact ⟨by omega, h2, fun r hr e => by have := (h.lt hr b e).2; omega⟩
 ·obtain ⟨h1, h2, h3⟩ := h.bk p hp
  exact ⟨h1.heap (hc p.1 h1.lt h2), hnF p.1 h1.lt h2, h3⟩
theorem RQ.below (h : RQ P F w0 bs w rs) {w' : World} (hB : Below w.heap.size w w') : RQ P F w0 bs w' rs :=
 h.step (below_step h.bel h.bel.size hB) hB.size (fun b hb => ⟨.inl hb, by have := (h.fh b hb).2.1; have := hB.size; omega⟩) fun b hb _ => hB.block b hb
theorem RQ.keep (h : RQ P F w0 bs w rs) {w' : World} {F' : Nat → Prop} (hK : Keep F w w') (hF : ∀ b, F' b → (F b ∨ w.heap.size ≤ b) ∧ b < w'.heap.size) : RQ P F' w0 bs w' rs :=
 h.step (h.bel.trans (hK.below h.bel.size fun b hb => (h.fh b hb).1)) hK.size hF fun b hb hn => hK.block b hb hn
/-- A block is made. -/
theorem RQ.alloc (h : RQ P F w0 bs w rs) (c : Array Value) (e : TypeId) {g : Nat} (hg : g = w.heap.size) : RQ P F w0 ((g, c.toList) :: bs) (w.alloc (.cells c e)) rs := by
 subst hg
 have h1 := h.below (below_alloc w (.cells c e))
 refine ⟨h1.bel, h1.pb, h1.ok, h1.ap, h1.fh, fun p hp => ?_⟩
 rcases List.mem_cons.1 hp with rfl | hp
 ·exact ⟨Blk.new w c e _ rfl, fun hf => by have := (h.fh _ hf).2.1; omega, fun r hr e => by have := (h.lt hr _ e).2; omega⟩
 ·exact h1.bk p hp
/-- A block that is known whole. -/
theorem RQ.blk (h : RQ P F w0 bs w rs) {g : Nat} {c : List Value} (hB : Blk w g c) (hF : ¬ F g) (hr : ∀ r ∈ rs, r.v.ownBlock ≠ some g) : RQ P F w0 ((g, c) :: bs) w rs :=
 ⟨h.bel, h.pb, h.ok, h.ap, h.fh, fun p hp => by
  rcases List.mem_cons.1 hp with rfl | hp
  ·exact ⟨hB, hF, hr⟩
  ·exact h.bk p hp⟩
/-- A new row. -/
theorem RQ.nil (h : RQ P F w0 bs w rs) {X : Type} {E : El X} (Fe : ElT E) : RQ P F w0 bs w (⟨X, E, Fe, .slice none 0 0, []⟩ :: rs) := by
 have hn : ∀ b, (Value.slice none 0 0).ownBlock ≠ some b := fun b => by simp [Value.ownBlock]
 refine ⟨h.bel, fun b hb => ⟨(h.pb b hb).1, (h.pb b hb).2.1, fun r hr => ?_⟩, fun r hr => ?_, List.pairwise_cons.2 ⟨fun s _ b hb => absurd hb (hn b), h.ap⟩, fun b hb => ⟨(h.fh b hb).1, (h.fh b hb).2.1, fun r hr => ?_⟩, fun p hp => ⟨(h.bk p hp).1, (h.bk p hp).2.1, fun r hr => ?_⟩⟩
 ·rcases List.mem_cons.1 hr with rfl | hr
  ·exact hn b
  ·exact (h.pb b hb).2.2 r hr
 ·rcases List.mem_cons.1 hr with rfl | hr
  ·exact OwnXQ.nil _ _ _ _
  ·exact h.ok r hr
 ·rcases List.mem_cons.1 hr with rfl | hr
  ·exact hn b
  ·exact (h.fh b hb).2.2 r hr
 ·rcases List.mem_cons.1 hr with rfl | hr
  ·exact hn _
  ·exact (h.bk p hp).2.2 r hr
/-- Only the places matter. -/
theorem RQ.perm (h : RQ P F w0 bs w rs) {rs' : List Rw} (hp : rs.Perm rs') : RQ P F w0 bs w rs' := by
 have hm : ∀ r, r ∈ rs' → r ∈ rs := fun r hr => hp.mem_iff.2 hr
 refine ⟨h.bel, fun b hb => ⟨(h.pb b hb).1, (h.pb b hb).2.1, fun r hr => (h.pb b hb).2.2 r (hm r hr)⟩, fun r hr => h.ok r (hm r hr), ?_, fun b hb => ⟨(h.fh b hb).1, (h.fh b hb).2.1, fun r hr => (h.fh b hb).2.2 r (hm r hr)⟩, fun p hp' => ⟨(h.bk p hp').1, (h.bk p hp').2.1, fun r hr => (h.bk p hp').2.2 r (hm r hr)⟩⟩
 exact hp.pairwise h.ap fun {r s} hrs b hb e => hrs b e hb
/-- One row is grown. -/
theorem RQ.grown {l1 l2 : List Rw} {X : Type} {E : El X} {Fe : ElT E} {v v' : Value} {xs xs' : List X} (h : RQ P F w0 bs w (l1 ++ ⟨X, E, Fe, v, xs⟩ :: l2)) {w' : World} (hg : w.grownBy w' v.ownBlock)
  (ho : OwnXQ E Fe.e P w0.heap.size w' v' xs') (hv : ∀ b, v'.ownBlock = some b → v.ownBlock = some b ∨ w.heap.size ≤ b) : RQ P F w0 bs w' (l1 ++ ⟨X, E, Fe, v', xs'⟩ :: l2) := by
 have hmr : (⟨X, E, Fe, v, xs⟩ : Rw) ∈ l1 ++ ⟨X, E, Fe, v, xs⟩ :: l2 := by simp
 have hmo : ∀ r, (r ∈ l1 ∨ r ∈ l2) → r ∈ l1 ++ (⟨X, E, Fe, v, xs⟩ : Rw) :: l2 := fun r hr => by
  rcases hr with hr | hr <;> simp [hr]
 have hsp : ∀ r, r ∈ l1 ++ (⟨X, E, Fe, v', xs'⟩ : Rw) :: l2 → r = ⟨X, E, Fe, v', xs'⟩ ∨ (r ∈ l1 ∨ r ∈ l2) := fun r hr => by
  rcases List.mem_append.1 hr with hr | hr
  ·exact .inr (.inl hr)
  ·rcases List.mem_cons.1 hr with hr | hr
   ·exact .inl hr
   ·exact .inr (.inr hr)
 obtain ⟨a1, a2, a3⟩ := List.pairwise_append.1 h.ap
 obtain ⟨a4, a5⟩ := List.pairwise_cons.1 a2
 have hother : ∀ r, (r ∈ l1 ∨ r ∈ l2) → ∀ b, r.v.ownBlock = some b → v.ownBlock ≠ some b := fun r hr b hb e => by
  rcases hr with hr | hr
  ·exact a3 r hr _ (List.mem_cons_self ..) b hb e
  ·exact a4 r hr b e hb
 have hnew : ∀ b, b < w.heap.size → v.ownBlock ≠ some b → v'.ownBlock ≠ some b := fun b hb hn e => by
  rcases hv b e with h1 | h1
  ·exact hn h1
  ·omega
 have hrowl := fun b hb => (h.lt hmr b hb).1
 have hsz := hg.size
 refine ⟨grown_below h.bel hg h.bel.size hrowl, fun b hb => ⟨by have := (h.pb b hb).1; omega, (h.pb b hb).2.1, fun r hr => ?_⟩, fun r hr => ?_, ?_, fun b hb => ⟨(h.fh b hb).1, by have := (h.fh b hb).2.1; omega, fun r hr => ?_⟩, fun p hp => ⟨?_, (h.bk p hp).2.1, fun r hr => ?_⟩⟩
 ·rcases hsp r hr with rfl | hr
  ·exact hnew b (h.pb b hb).1 ((h.pb b hb).2.2 _ hmr)
  ·exact (h.pb b hb).2.2 r (hmo r hr)
 ·rcases hsp r hr with rfl | hr
  ·exact ho
  ·refine OwnXQ.to (h.ok r (hmo r hr)) hg.size fun b hb hlt => hg.block b hlt fun e => ?_
   rcases hb with hb | hb
   ·exact (h.pb b hb).2.2 _ hmr e.symm
   ·exact hother r hr b hb e.symm
 ·refine List.pairwise_append.2 ⟨a1, List.pairwise_cons.2 ⟨fun s hs b hb e => ?_, a5⟩, fun r hr s hs b hb e => ?_⟩
  ·rcases hv b hb with h1 | h1
   ·exact a4 s hs b h1 e
   ·have := (h.lt (hmo s (.inr hs)) b e).2; omega
  ·rcases List.mem_cons.1 hs with rfl | hs
   ·rcases hv b e with h1 | h1
    ·exact a3 r hr _ (List.mem_cons_self ..) b hb h1
    ·have := (h.lt (hmo r (.inl hr)) b hb).2; omega
   ·exact a3 r hr s (List.mem_cons_of_mem _ hs) b hb e
 ·rcases hsp r hr with rfl | hr
  ·exact hnew b (h.fh b hb).2.1 ((h.fh b hb).2.2 _ hmr)
  ·exact (h.fh b hb).2.2 r (hmo r hr)
 ·have h1 := h.bk p hp
  exact h1.1.heap (hg.block p.1 h1.1.lt fun e => h1.2.2 _ hmr e.symm)
 ·rcases hsp r hr with rfl | hr
  ·exact hnew p.1 (h.bk p hp).1.lt ((h.bk p hp).2.2 _ hmr)
  ·exact (h.bk p hp).2.2 r (hmo r hr)
/-- What stays when a row is grown. -/
theorem RQ.stay {l1 l2 : List Rw} {r : Rw} (h : RQ P F w0 bs w (l1 ++ r :: l2)) {w' : World} (hg : w.grownBy w' r.v.ownBlock) (b : Nat) (hb : P b ∨ F b) : w'.heap[b]? = w.heap[b]? := by
 have hmr : r ∈ l1 ++ r :: l2 := by simp
 rcases hb with hb | hb
 ·exact hg.block b (h.pb b hb).1 fun e => (h.pb b hb).2.2 _ hmr e.symm
 ·exact hg.block b (h.fh b hb).2.1 fun e => (h.fh b hb).2.2 _ hmr e.symm
theorem RQ.rx {r : Rw} (h : RQ P F w0 bs w rs) (hr : r ∈ rs) : RX r.E (fun b => r.v.ownBlock = some b) P w r.l r.v := (OwnXQ.rx (h.ok r hr)).mono (fun _ h => h) fun b hb => hb.1
theorem RQ.own {r : Rw} (h : RQ P F w0 bs w rs) (hr : r ∈ rs) : OwnXQ r.E r.F.e P w0.heap.size w r.v r.l := h.ok r hr
theorem RQ.cell {g : Nat} {c : List Value} (h : RQ P F w0 bs w rs) (hg : (g, c) ∈ bs) (j : Nat) (u : Value) (hu : c[j]? = some u) : w.cell? ⟨g, j, none⟩ = some u := (h.bk _ hg).1.cell j u hu
end
section
variable {o : Oper} {a : Act} {Q : Exit → Act → World → Prop} {K : Act → World → Prop} {w : World}
/-- 'append(s, x)' of one element that lies in a block of its own. -/
theorem wp_growQ (s x : Operand) {X : Type} {E : El X} (Fe : ElT E) (ho : o.op = .call { callee := .builtin .append, args := #[s, x], argTypes := #[Fe.sl, Fe.sl] })
  {P F : Nat → Prop} {w0 : World} {bs : List (Nat × List Value)} (l1 l2 : List Rw) {v : Value} {xs : List X} {y : X} {g0 n : Nat} {c : List Value}
  (hs : a.eval s = v) (hx : a.eval x = .slice (some ⟨g0, 0, none⟩) 1 1) (h : RQ P F w0 bs w (l1 ++ ⟨X, E, Fe, v, xs⟩ :: l2)) (hg : (g0, c) ∈ bs) (ht : E.C P w y c) (hnl : xs.length = n) (hn : n + 1 ≤ 274877906944)
  (hK : ∀ g o' cap w', RQ P F w0 bs w' (l1 ++ ⟨X, E, Fe, .slice (some ⟨g, o', none⟩) (n + 1) cap, xs ++ [y]⟩ :: l2) → w.grownBy w' v.ownBlock → K (a.put o.dst (.slice (some ⟨g, o', none⟩) (n + 1) cap)) w') :
  Oper.wp Try.prog o a w K Q := by
 subst hnl
 have hmr : (⟨X, E, Fe, v, xs⟩ : Rw) ∈ l1 ++ ⟨X, E, Fe, v, xs⟩ :: l2 := by simp
 obtain ⟨i, hi, hiz, his, hib⟩ := info_parts Fe.info
 have hb := Fe.hb
 have hown : OwnXQ E Fe.e P w0.heap.size w v xs := h.ok _ hmr
 have hpb := h.pb
 have hbel := h.bel.size
 obtain ⟨cs, ho1, hC⟩ := hown
 have hx1 : E.C (fun b => P b ∧ b < w.heap.size ∧ v.ownBlock ≠ some b) w y c := E.to ht (fun b hb hl => ⟨hb, hl, (hpb b hb).2.2 _ hmr⟩) fun _ _ _ => rfl
 obtain ⟨g, o', cap, w', hr, h1, h2, h3⟩ := run_append_q (P := Try.prog) w Fe.sl o.type w0.heap.size Fe.e i Fe.z E.k Fe.bytes Fe.hund hi hiz his hib Fe.hzs Fe.hk v _ cs ho1 ⟨g0, 0, none⟩ 1 1 c (by rw [E.len ht]; simp) (fun j u hu => by
  have := (h.bk _ hg).1.cell j u hu
  rw [Addr.add_lit, Nat.zero_add]; exact this) (E.one ht) (by decide) (by unfold maxLen; omega) (Nat.le_trans (Nat.mul_le_mul hn hb) (by decide)) hbel
 have hsz := h2.size
 have hblk : ∀ b, (P b ∧ b < w.heap.size ∧ v.ownBlock ≠ some b) → b < w.heap.size → w'.heap[b]? = w.heap[b]? := fun b hb hlt => h2.block b hlt fun e => hb.2.2 e.symm
 have hO : OwnXQ E Fe.e P w0.heap.size w' (.slice (some ⟨g, o', none⟩) (xs.length + 1) cap) (xs ++ [y]) := by
  refine ⟨cs ++ c, by simpa using h1, ?_⟩
  have hcc : CellsX E (fun b => P b ∧ b < w.heap.size ∧ v.ownBlock ≠ some b) w' (xs ++ [y]) (cs ++ c) := (hC.to (fun _ h _ => h) hblk).append (CellsX.single (E.to hx1 (fun _ h _ => h) hblk))
  refine hcc.to (fun b hb _ => ⟨hb.1, by have := hb.2.1; omega, fun e => ?_⟩) fun _ _ _ => rfl
  have e1 : g = b := by simpa [Value.ownBlock] using e
  subst e1
  rcases h3 with h5 | h5
  ·exact hb.2.2 h5
  ·have := hb.2.1; omega
 have hv : ∀ b, (Value.slice (some ⟨g, o', none⟩) (xs.length + 1) cap).ownBlock = some b → v.ownBlock = some b ∨ w.heap.size ≤ b := fun b hb => by
  have e1 : g = b := by simpa [Value.ownBlock] using hb
  subst e1
  rcases h3 with h5 | h5
  ·exact .inl h5
  ·exact .inr (by omega)
 unfold Oper.wp execOp
 simp only [ho, resolve, invoke, builtin, Sem.run_bind, Sem.run_pure, Result.andThen_ok, List.map_toArray, List.map_cons, List.map_nil, hs, hx, hr]
 exact hK g o' cap w' (h.grown h2 hO hv) h2
/-- The same in a plain region. -/
theorem append_growQ {ops : Array Oper} {rest : List Oper} (s x : Operand) (hgd : o.guard = none) {X : Type} {E : El X} (Fe : ElT E) (ho : o.op = .call { callee := .builtin .append, args := #[s, x], argTypes := #[Fe.sl, Fe.sl] })
  {P F : Nat → Prop} {w0 : World} {bs : List (Nat × List Value)} (l1 l2 : List Rw) {v : Value} {xs : List X} {y : X} {g0 n : Nat} {c : List Value}
  (hs : a.eval s = v) (hx : a.eval x = .slice (some ⟨g0, 0, none⟩) 1 1) (h : RQ P F w0 bs w (l1 ++ ⟨X, E, Fe, v, xs⟩ :: l2)) (hg : (g0, c) ∈ bs) (ht : E.C P w y c) (hnl : xs.length = n) (hn : n + 1 ≤ 274877906944)
  (hK : ∀ g o' cap w', RQ P F w0 bs w' (l1 ++ ⟨X, E, Fe, .slice (some ⟨g, o', none⟩) (n + 1) cap, xs ++ [y]⟩ :: l2) → w.grownBy w' v.ownBlock → wpList Try.prog ops Q rest (a.put o.dst (.slice (some ⟨g, o', none⟩) (n + 1) cap)) w') :
  wpList Try.prog ops Q (o :: rest) a w :=
 wpList_plain hgd fun _ hK' => wp_growQ s x Fe ho l1 l2 hs hx h hg ht hnl hn fun g o' cap w' h1 h2 => hK' _ _ (hK g o' cap w' h1 h2)
end
end Go.Proofs.Ytedfepnekjjmnab

/-
 Nodes of the document in memory: pointers as elements, a node's cells. No condition.
-/
namespace Go.Proofs.Ytedfepnekjjmnab
open Go.RowKit
set_option linter.unusedSimpArgs false
set_option linter.unusedVariables false
set_option maxRecDepth 100000

def optr (o : Option Nat) : Value := .pointer (o.map fun b => ⟨b, 0, none⟩)
def ptrE : El (Option Nat) where
 k := 1
 C := fun _ _ o cs => cs = [optr o]
 len := by rintro S w x cs rfl; rfl
 one := by rintro S w x cs rfl; simp [optr, Value.oneCell']
 «to» := by rintro S S' w w' x cs rfl _ _; rfl
theorem cells_ptrE {S : Nat → Prop} {w : World} : ∀ {os : List (Option Nat)} {cs : List Value}, CellsX ptrE S w os cs ↔ cs = os.map optr
 | [], cs => Iff.rfl
 | o :: os, cs => by
  constructor
  ·rintro ⟨c, cs', rfl, rfl, h⟩
   rw [cells_ptrE.1 h]; rfl
  ·rintro rfl
   exact ⟨[optr o], os.map optr, rfl, rfl, cells_ptrE.2 rfl⟩
/-- A node in its block; its kids' row in a block of P. -/
structure NodeR (P : Nat → Prop) (w : World) (b : Nat) (d : NodeD) : Prop where
 p : P b
 c : IsC w b
 ex : ∃ a cap, Blk w b [.int .i64 d.1, .slice a d.2.length cap] ∧ RX ptrE P (fun _ => False) w d.2 (.slice a d.2.length cap)
theorem NodeR.to {P P' : Nat → Prop} {w w' : World} {b : Nat} {d : NodeD} (h : NodeR P w b d) (hs : ∀ b, P b → b < w.heap.size → P' b) (hc : ∀ b, P b → b < w.heap.size → w'.heap[b]? = w.heap[b]?) : NodeR P' w' b d := by
 obtain ⟨hp, h1, a, cap, h2, h3⟩ := h
 have e := hc b hp h2.lt
 exact ⟨hs b hp h2.lt, h1.to e, a, cap, h2.heap e, h3.to hs (fun _ h _ => h) fun b hb hl => hc b (hb.elim (fun h => h.elim) id) hl⟩
/-- Nodes, with their kids. -/
structure NodesR (P : Nat → Prop) (w : World) (N : Nat → NodeD) (D : List Nat) : Prop where
 at' : ∀ b ∈ D, NodeR P w b (N b)
 kid : ∀ b ∈ D, ∀ c, some c ∈ (N b).2 → c ∈ D
 few : ∀ b ∈ D, (N b).2.length ≤ 1000 ∧ (N b).1 ≤ 1001
theorem NodesR.to {P P' : Nat → Prop} {w w' : World} {N : Nat → NodeD} {D : List Nat} (h : NodesR P w N D) (hs : ∀ b, P b → b < w.heap.size → P' b) (hc : ∀ b, P b → b < w.heap.size → w'.heap[b]? = w.heap[b]?) : NodesR P' w' N D :=
 ⟨fun b hb => (h.at' b hb).to hs hc, h.kid, h.few⟩
theorem ownsQ.base {w : World} {b1 b2 : Nat} {e : TypeId} {size n : Nat} {v : Value} {xs : List Value} (h : ownsQ w b1 e size v n xs) (hb : b2 ≤ b1) : ownsQ w b2 e size v n xs := by
 refine ⟨h.1, h.2.imp id ?_⟩
 rintro ⟨g, o, cap, cur, rfl, r1, r⟩
 exact ⟨g, o, cap, cur, rfl, Nat.le_trans hb r1, r⟩
theorem OwnXQ.base {X : Type} {E : El X} {e : TypeId} {P : Nat → Prop} {b1 b2 : Nat} {w : World} {v : Value} {xs : List X} (h : OwnXQ E e P b1 w v xs) (hb : b2 ≤ b1) : OwnXQ E e P b2 w v xs := by
 obtain ⟨cs, h1, h2⟩ := h
 exact ⟨cs, h1.base hb, h2⟩
end Go.Proofs.Ytedfepnekjjmnab

/-
 Live nodes: what the loop of the reference's count keeps. Plain facts. No condition.
-/
namespace Go.Proofs.Ytedfepnekjjmnab
open Go.RowKit
set_option linter.unusedSimpArgs false
set_option linter.unusedVariables false

structure LV (N : Nat → NodeD) (ns : List (Option Nat)) (S : List Nat) (todo : List (Option Nat)) (n : Nat) : Prop where
 nd : S.Nodup
 sum : n = (S.map fun b => (N b).1).sum
 sd : ∀ b ∈ S, ReachN N ns b
 td : ∀ b, some b ∈ todo → ReachN N ns b
 cl : ∀ b ∈ S, ∀ c, some c ∈ (N b).2 → c ∈ S ∨ some c ∈ todo
 rt : ∀ b, some b ∈ ns → b ∈ S ∨ some b ∈ todo
section
variable {N : Nat → NodeD} {ns : List (Option Nat)} {S : List Nat} {todo : List (Option Nat)} {n : Nat}
theorem LV.start (N : Nat → NodeD) (ns : List (Option Nat)) : LV N ns [] ns 0 := ⟨List.nodup_nil, rfl, by simp, fun b h => .root b h, by simp, fun b h => .inr h⟩
theorem LV.skip {o : Option Nat} (h : LV N ns S (o :: todo) n) (ho : ∀ b, o = some b → b ∈ S) : LV N ns S todo n := by
 have key : ∀ c, some c ∈ o :: todo → c ∈ S ∨ some c ∈ todo := fun c hc => by
  rcases List.mem_cons.1 hc with e | hc
  ·exact .inl (ho c e.symm)
  ·exact .inr hc
 exact ⟨h.nd, h.sum, h.sd, fun b hb => h.td b (List.mem_cons_of_mem _ hb), fun b hb c hc => (h.cl b hb c hc).elim .inl (key c), fun b hb => (h.rt b hb).elim .inl (key b)⟩
theorem LV.take {x : Nat} (h : LV N ns S (some x :: todo) n) (hx : x ∉ S) : LV N ns (S ++ [x]) (todo ++ (N x).2) (n + (N x).1) := by
 have hr := h.td x (List.mem_cons_self ..)
 have key : ∀ c, (c ∈ S ∨ some c ∈ some x :: todo) → c ∈ S ++ [x] ∨ some c ∈ todo ++ (N x).2 := fun c hc => by
  rcases hc with hc | hc
  ·exact .inl (by simp [hc])
  ·rcases List.mem_cons.1 hc with e | hc
   ·cases e; exact .inl (by simp)
   ·exact .inr (by simp [hc])
 refine ⟨?_, ?_, fun b hb => ?_, fun b hb => ?_, fun b hb c hc => ?_, fun b hb => key b (h.rt b hb)⟩
 ·refine List.nodup_append.2 ⟨h.nd, by simp, fun a ha b hb e => ?_⟩
  obtain rfl : b = x := by simpa using hb
  exact hx (e ▸ ha)
 ·rw [h.sum]; simp
 ·rcases List.mem_append.1 hb with hb | hb
  ·exact h.sd b hb
  ·obtain rfl : b = x := by simpa using hb
   exact hr
 ·rcases List.mem_append.1 hb with hb | hb
  ·exact h.td b (List.mem_cons_of_mem _ hb)
  ·exact .kid x b hr hb
 ·rcases List.mem_append.1 hb with hb | hb
  ·exact key c (h.cl b hb c hc)
  ·obtain rfl : b = x := by simpa using hb
   exact .inr (by simp [hc])
theorem LV.done (h : LV N ns S [] n) (b : Nat) : b ∈ S ↔ ReachN N ns b := by
 refine ⟨h.sd b, fun hb => ?_⟩
 induction hb with
 | root b hm => exact (h.rt b hm).elim id fun h => by cases h
 | kid b c _ hm ih => exact (h.cl b ih c hm).elim id fun h => by cases h
end
section
variable {o : Oper} {a : Act} {Q : Exit → Act → World → Prop} {K : Act → World → Prop} {w : World}
end
end Go.Proofs.Ytedfepnekjjmnab

/-
 Nodes that grow: plain facts on the graph of a term's nodes. No condition.
-/
namespace Go.Proofs.Ytedfepnekjjmnab
open Go.RowKit
set_option linter.unusedSimpArgs false
set_option linter.unusedVariables false

theorem GrowL.len {N : Nat → NodeD} : ∀ {ts : List T} {os : List (Option Nat)}, GrowL N ts os → os.length = ts.length
 | [], os, h => by rw [(GrowL_nil N os).1 h]; rfl
 | t :: ts, os, h => by
  obtain ⟨o, os', rfl, -, h2⟩ := (GrowL_cons N t ts os).1 h
  simp [h2.len]
theorem GrowL.congr {N N' : Nat → NodeD} : ∀ (m : Nat) (ts : List T), bulkL ts ≤ m → ∀ os, GrowL N ts os → (∀ b ∈ ndL N ts os, N' b = N b) → GrowL N' ts os ∧ ndL N' ts os = ndL N ts os := by
 intro m
 induction m with
 | zero =>
  intro ts hb os hg _
  cases ts with
  | nil => obtain rfl := (GrowL_nil N os).1 hg; exact ⟨(GrowL_nil N' _).2 rfl, by rw [ndL_nil, ndL_nil]⟩
  | cons t ts => rw [bulkL_cons] at hb; omega
 | succ m ih =>
  intro ts hb os hg he
  cases ts with
  | nil => obtain rfl := (GrowL_nil N os).1 hg; exact ⟨(GrowL_nil N' _).2 rfl, by rw [ndL_nil, ndL_nil]⟩
  | cons t ts =>
   rw [bulkL_cons] at hb
   obtain ⟨o, os', rfl, ho, hos⟩ := (GrowL_cons N t ts os).1 hg
   rw [ndL_cons] at he
   obtain ⟨a1, a2⟩ := ih ts (by omega) os' hos fun b hb => he b (List.mem_append.2 (.inr hb))
   by_cases hk : t.kind = 4
   ·obtain ⟨b, rfl, hb1, hb2⟩ := ho.2 hk
    have en : ∀ N : Nat → NodeD, nd1 N t (some b) = b :: ndL N t.args (N b).2 := fun _ => rfl
    rw [en] at he
    have e0 : N' b = N b := he b (by simp)
    obtain ⟨c1, c2⟩ := ih t.args (by omega) _ hb2 fun c hc => he c (by simp [hc])
    refine ⟨(GrowL_cons N' t ts _).2 ⟨some b, os', rfl, ⟨fun e => absurd hk e, fun _ => ⟨b, rfl, by rw [e0]; exact hb1, by rw [e0]; exact c1⟩⟩, a1⟩, ?_⟩
    rw [ndL_cons, ndL_cons, en, en, e0, c2, a2]
   ·obtain rfl := ho.1 hk
    refine ⟨(GrowL_cons N' t ts _).2 ⟨none, os', rfl, ⟨fun _ => rfl, fun e => absurd e hk⟩, a1⟩, ?_⟩
    rw [ndL_cons, ndL_cons, a2]; rfl
theorem GrowL.snoc {N : Nat → NodeD} {t : T} {o : Option Nat} (ht : Grow1 N t o) : ∀ {ts : List T} {os : List (Option Nat)}, GrowL N ts os → GrowL N (ts ++ [t]) (os ++ [o]) ∧ ndL N (ts ++ [t]) (os ++ [o]) = ndL N ts os ++ nd1 N t o
 | [], os, h => by
  obtain rfl := (GrowL_nil N os).1 h
  refine ⟨(GrowL_cons N t [] _).2 ⟨o, [], rfl, ht, (GrowL_nil N _).2 rfl⟩, ?_⟩
  show ndL N [t] [o] = _
  rw [ndL_cons, ndL_nil]; simp
 | s :: ts, os, h => by
  obtain ⟨p, os', rfl, h1, h2⟩ := (GrowL_cons N s ts os).1 h
  obtain ⟨a1, a2⟩ := h2.snoc ht
  refine ⟨(GrowL_cons N s _ _).2 ⟨p, os' ++ [o], rfl, h1, a1⟩, ?_⟩
  show ndL N (s :: (ts ++ [t])) (p :: (os' ++ [o])) = _
  rw [ndL_cons, ndL_cons, a2, List.append_assoc]
theorem RX.ptr {R S S' : Nat → Prop} {w : World} {os : List (Option Nat)} {v : Value} (h : RX ptrE R S w os v) : RX ptrE R S' w os v := by
 obtain ⟨a, cap, cs, rfl, h1, h2, h3⟩ := h
 exact ⟨a, cap, cs, rfl, h1, cells_ptrE.2 (cells_ptrE.1 h2), h3⟩
theorem OwnXQ.monoP {X : Type} {E : El X} {e : TypeId} {P P' : Nat → Prop} {base : Nat} {w : World} {v : Value} {xs : List X} (h : OwnXQ E e P base w v xs) (hP : ∀ b, P b → P' b) : OwnXQ E e P' base w v xs := by
 obtain ⟨cs, h1, h2⟩ := h
 exact ⟨cs, h1, h2.to (fun b hb _ => ⟨hP b hb.1, hb.2⟩) fun _ _ _ => rfl⟩
/-- What has come anew may be led to. -/
theorem RQ.belowP {P F : Nat → Prop} {w0 w w' : World} {bs : List (Nat × List Value)} {rs : List Rw} (h : RQ P F w0 bs w rs) (hB : Below w.heap.size w w') : RQ (fun b => P b ∨ (w.heap.size ≤ b ∧ b < w'.heap.size)) F w0 bs w' rs := by
 have h1 := h.below hB
 have hs := hB.size
 refine ⟨h1.bel, fun b hb => ?_, fun r hr => OwnXQ.monoP (h1.ok r hr) fun _ h => .inl h, h1.ap, h1.fh, h1.bk⟩
 rcases hb with hb | hb
 ·exact h1.pb b hb
 ·exact ⟨hb.2, fun hf => by have := (h.fh b hf).2.1; omega, fun r hr e => by have := (OwnXQ.block (h.ok r hr) b e).2; omega⟩
end Go.Proofs.Ytedfepnekjjmnab

/-
 A process in memory. No condition.
-/
namespace Go.Proofs.Ytedfepnekjjmnab
open Go.RowKit
set_option linter.unusedSimpArgs false
set_option linter.unusedVariables false

/-- A process: its block, its heap, its words (L); what else stands in its heap (Z). -/
structure PrV (F : Nat → Prop) (w : World) (pb : Nat) (name : ByteArray) (room : Int) (L Z : TW) (B : Nat) (H : HS) (v : Value) : Prop where
 blk : Blk w pb [.string name, .pointer (some ⟨B, 0, none⟩), v]
 hp : HeapR F w B room H
 ow : OwnW w v (wdsL L)
 ph : PH room H (L ++ Z)
 fp : ¬ F pb
 fl : ∀ b, F b → b < w.heap.size
 fv : ∀ b, v.ownBlock = some b → ¬ F b ∧ b ≠ pb
/-- The same; all its blocks are of G; u words are in use; at most nb names are kept. -/
def PrR (G : Nat → Prop) (w : World) (pb : Nat) (name : ByteArray) (room : Int) (nb u : Nat) (L Z : TW) : Prop :=
 ∃ (F : Nat → Prop) (B : Nat) (H : HS) (v : Value), PrV F w pb name room L Z B H v ∧ H.names.length ≤ nb ∧ H.ws.length = u ∧ (∀ b, F b → G b) ∧ G pb ∧ ∀ b, v.ownBlock = some b → G b
section
variable {F G G' : Nat → Prop} {w w' : World} {pb : Nat} {name : ByteArray} {room : Int} {nb u : Nat} {L Z L' Z' : TW} {B : Nat} {H H' : HS} {v v' : Value}
theorem PrV.to (h : PrV F w pb name room L Z B H v) (hl : w.heap.size ≤ w'.heap.size) (hc : ∀ b, (F b ∨ b = pb ∨ v.ownBlock = some b) → b < w.heap.size → w'.heap[b]? = w.heap[b]?) : PrV F w' pb name room L Z B H v :=
 ⟨h.blk.heap (hc pb (.inr (.inl rfl)) h.blk.lt), h.hp.to hl (fun _ h => h) fun b hb hl => hc b (.inl hb) hl, h.ow.to hl fun b hb => hc b (.inr (.inr hb)) (h.ow.block b hb).2, h.ph, h.fp, fun b hb => Nat.lt_of_lt_of_le (h.fl b hb) hl, h.fv⟩
theorem PrV.below (h : PrV F w pb name room L Z B H v) (hB : Below w.heap.size w w') : PrV F w' pb name room L Z B H v := h.to hB.size fun b _ hl => hB.block b hl
/-- The heap has done something. -/
theorem PrV.heap (h : PrV F w pb name room L Z B H v) (hK : Keep F w w') (hH : HeapR (fun b => F b ∨ w.heap.size ≤ b) w' B room H') (hp : PH room H' (L' ++ Z')) (hL : wdsL L' = wdsL L) : PrV (fun b => (F b ∨ w.heap.size ≤ b) ∧ b < w'.heap.size) w' pb name room L' Z' B H' v := by
 refine ⟨h.blk.heap (hK.block pb h.blk.lt h.fp), hH.low, hL ▸ h.ow.to hK.size fun b hb => hK.block b (h.ow.block b hb).2 (h.fv b hb).1, hp, fun hf => ?_, fun b hb => hb.2, fun b hb => ⟨fun hf => ?_, (h.fv b hb).2⟩⟩
 ·have := h.blk.lt
  rcases hf.1 with h1 | h1
  ·exact h.fp h1
  ·omega
 ·have := (h.ow.block b hb).2
  rcases hf.1 with h1 | h1
  ·exact (h.fv b hb).1 h1
  ·omega
theorem PrV.after {F1 : Nat → Prop} (h : PrV F w pb name room L Z B H v) (hl : w.heap.size ≤ w'.heap.size) (hc : ∀ b, b < w.heap.size → ¬ F b → w'.heap[b]? = w.heap[b]?) (hH : HeapR F1 w' B room H') (hF : ∀ b, F1 b → (F b ∨ w.heap.size ≤ b) ∧ b < w'.heap.size) (hp : PH room H' (L' ++ Z')) (hL : wdsL L' = wdsL L) : PrV F1 w' pb name room L' Z' B H' v := by
 refine ⟨h.blk.heap (hc pb h.blk.lt h.fp), hH, hL ▸ h.ow.to hl fun b hb => hc b (h.ow.block b hb).2 (h.fv b hb).1, hp, fun hf => ?_, fun b hb => (hF b hb).2, fun b hb => ⟨fun hf => ?_, (h.fv b hb).2⟩⟩
 ·have := h.blk.lt
  rcases (hF _ hf).1 with h1 | h1
  ·exact h.fp h1
  ·omega
 ·have := (h.ow.block b hb).2
  rcases (hF _ hf).1 with h1 | h1
  ·exact (h.fv b hb).1 h1
  ·omega
theorem PrV.words' {w3 : World} (h : PrV F w pb name room L Z B H v) (hl : w.heap.size ≤ w3.heap.size) (hc : ∀ b, b < w.heap.size → v.ownBlock ≠ some b → w3.heap[b]? = w.heap[b]?) (ho : OwnW w3 v' (wdsL L')) (hv : ∀ b, v'.ownBlock = some b → v.ownBlock = some b ∨ w.heap.size ≤ b) (hp : PH room H (L' ++ Z')) : PrV F (w3.setCell ⟨pb, 2, none⟩ v') pb name room L' Z' B H v' := by
 have hpl := h.blk.lt
 have hb3 : Blk w3 pb [.string name, .pointer (some ⟨B, 0, none⟩), v] := h.blk.heap (hc pb hpl fun e => (h.fv pb e).2 rfl)
 have hv2 : ∀ b, v'.ownBlock = some b → ¬ F b ∧ b ≠ pb := fun b hb => by
  rcases hv b hb with h1 | h1
  ·exact h.fv b h1
  ·exact ⟨fun hf => by have := h.fl b hf; omega, by omega⟩
 exact ⟨hb3.set 2 v' (by simp), h.hp.to (by simpa using hl) (fun _ h => h) fun b hb hl => (setCell_other w3 pb 2 v' b fun e => h.fp (e ▸ hb)).trans (hc b hl fun e => (h.fv b e).1 hb), ho.to (by simp) fun b hb => setCell_other w3 pb 2 v' b (hv2 b hb).2, hp, h.fp, fun b hb => by have := h.fl b hb; simp; omega, hv2⟩
theorem PrV.rx (h : PrV F w pb name room L Z B H v) : RX wrdE (fun b => v.ownBlock = some b) (fun _ => True) w (wdsL L) v := h.ow.rx
theorem PrR.to (h : PrR G w pb name room nb u L Z) (hl : w.heap.size ≤ w'.heap.size) (hc : ∀ b, G b → b < w.heap.size → w'.heap[b]? = w.heap[b]?) : PrR G w' pb name room nb u L Z := by
 obtain ⟨F, B, H, v, hV, h1, h2, h3, h4, h5⟩ := h
 refine ⟨F, B, H, v, hV.to hl fun b hb hl => hc b ?_ hl, h1, h2, h3, h4, h5⟩
 rcases hb with hb | rfl | hb
 ·exact h3 b hb
 ·exact h4
 ·exact h5 b hb
theorem PrR.below (h : PrR G w pb name room nb u L Z) (hB : Below w.heap.size w w') : PrR G w' pb name room nb u L Z := h.to hB.size fun b _ hl => hB.block b hl
theorem PrR.mono (h : PrR G w pb name room nb u L Z) (hG : ∀ b, G b → b < w.heap.size → G' b) : PrR G' w pb name room nb u L Z := by
 obtain ⟨F, B, H, v, hV, h1, h2, h3, h4, h5⟩ := h
 exact ⟨fun b => F b ∧ b < w.heap.size, B, H, v, ⟨hV.blk, hV.hp.low, hV.ow, hV.ph, fun hf => hV.fp hf.1, fun b hb => hb.2, fun b hb => ⟨fun hf => (hV.fv b hb).1 hf.1, (hV.fv b hb).2⟩⟩, h1, h2, fun b hb => hG b (h3 b hb.1) hb.2, hG pb h4 hV.blk.lt, fun b hb => hG b (h5 b hb) (hV.ow.block b hb).2⟩
theorem PrR.low (h : PrR G w pb name room nb u L Z) : PrR (fun b => G b ∧ b < w.heap.size) w pb name room nb u L Z := h.mono fun b hb hl => ⟨hb, hl⟩
theorem PrR.names (h : PrR G w pb name room nb u L Z) {nb' : Nat} (hn : nb ≤ nb') : PrR G w pb name room nb' u L Z := by
 obtain ⟨F, B, H, v, hV, h1, h2⟩ := h
 exact ⟨F, B, H, v, hV, by omega, h2⟩
theorem PrR.le (h : PrR G w pb name room nb u L Z) : szL (tmsL L) ≤ u ∧ (u : Int) ≤ room := by
 obtain ⟨F, B, H, v, hV, h1, rfl, h2⟩ := h
 have := (hV.ph.sub (List.sublist_append_left L Z)).le
 have := hV.ph.rm
 omega
end
end Go.Proofs.Ytedfepnekjjmnab

/-
 A process: Tidy, Used, get, State. Conditions: it lies as PrR says; few names, few words.
-/
namespace Go.Proofs.Ytedfepnekjjmnab
open Go.RowKit
set_option linter.unusedSimpArgs false
set_option linter.unusedVariables false
set_option maxRecDepth 100000

theorem wdsL_len (L : TW) : (wdsL L).length = L.length := List.length_map ..
theorem tmsL_len (L : TW) : (tmsL L).length = L.length := List.length_map ..
theorem keep0 {R : Nat → Prop} {a b c : World} (h : Below a.heap.size a b) (k : Keep R b c) : Keep R a c := (Keep.of h).trans k
set_option maxHeartbeats 1000000 in
theorem ptidy_c (G : Nat → Prop) (w : World) (pb : Nat) (name : ByteArray) (room : Int) (nb u : Nat) (L : TW) (h : PrR G w pb name room nb u L []) (hr : room ≤ 1000) (hl : L.length ≤ 1000) :
  Calls Try.prog 41 #[.pointer (some ⟨pb, 0, none⟩)] w fun e w' => e = .returned (.tuple #[]) ∧ Keep G w w' ∧ ∃ L', tmsL L' = tmsL L ∧ PrR (fun b => G b ∨ w.heap.size ≤ b) w' pb name room nb (szL (tmsL L)) L' [] := by
 obtain ⟨F, B, H, v, hV, hn, hu, hG⟩ := h
 have HV := Lib.hid hV; have HN := Lib.hid hn; have HG := Lib.hid hG
 have HPH : Hid (PH room H L) := Lib.hid (by have := hV.ph; rwa [List.append_nil] at this)
 clear hV hn hu hG
 go_enter Try.func41, Try.ntmps41
 go_upto_region 0 with fail
 refine rg_start (fun w' => w'.cell? ⟨pb, 1, none⟩ = some (.pointer (some ⟨B, 0, none⟩))) (by as_aux_lemma => kernel_rfl) (fun Wd h => (HV.out.below h).blk.cell 1 _ rfl) ?_
 intro Wd hB hWd hWd' hHeld
 have HBd := Lib.hid hB
 have HVd := Lib.hid (HV.out.below hB)
 have y2 := HVd.out.blk.cell 2 _ rfl
 clear hB
 refine rg_tk 0 ?_ rfl (by as_aux_lemma => kernel_rfl) (by rfl) ?_ hHeld ?_
 rotate_left 1
 ·intro w hSw; (try dsimp only at hSw); go_simp; try (with_reducible rfl)
 (try simp only [Act.put, pA, pB, pC])
 refine rg_tk 1 ?_ rfl (by as_aux_lemma => kernel_rfl) (by rfl) ?_ hHeld ?_
 rotate_left 1
 ·intro w hSw; (try dsimp only at hSw); go_simp; try (with_reducible rfl)
 (try simp only [Act.put, pA, pB, pC])
 refine rg_tk 2 ?_ rfl (by as_aux_lemma => kernel_rfl) (by rfl) ?_ hHeld ?_
 rotate_left 1
 ·intro w hSw; (try dsimp only at hSw); go_simp; try (with_reducible rfl)
 (try simp only [Act.put, pA, pB, pC])
 refine rg_tk 3 ?_ rfl (by as_aux_lemma => kernel_rfl) (by rfl) ?_ hHeld ?_
 rotate_left 1
 ·intro w hSw; (try dsimp only at hSw); go_simp; try (with_reducible rfl)
 (try simp only [Act.put, pA, pB, pC])
 refine rg_tk 4 ?_ rfl (by as_aux_lemma => kernel_rfl) (by rfl) ?_ hHeld ?_
 rotate_left 1
 ·intro w hSw; (try dsimp only at hSw); go_simp; try (with_reducible rfl)
 (try simp only [Act.put, pA, pB, pC])
 refine rg_tk 5 ?_ rfl (by as_aux_lemma => kernel_rfl) (by rfl) ?_ hHeld ?_
 rotate_left 1
 ·intro w hSw; (try dsimp only at hSw); go_simp; try (with_reducible rfl)
 (try simp only [Act.put, pA, pB, pC])
 refine rg_tk 6 ?_ rfl (by as_aux_lemma => kernel_rfl) (by rfl) ?_ hHeld ?_
 rotate_left 1
 ·intro w hSw; (try dsimp only at hSw); go_simp; try (with_reducible rfl)
 (try simp only [Act.put, pA, pB, pC])
 refine rg_tk 7 ?_ rfl (by as_aux_lemma => kernel_rfl) (by rfl) ?_ hHeld ?_
 rotate_left 1
 ·intro w hSw; (try dsimp only at hSw); go_simp; try (with_reducible rfl)
 (try simp only [Act.put, pA, pB, pC])
 refine rg_only (i := 8) rfl (by as_aux_lemma => kernel_rfl) (by rfl) (fun K hK => ?_)
 go_simp
 skip
 refine hK.out _ _ (hHeld) (fun _ => ?_)
 clear hK K hHeld
 rename_i hHeld
 (try simp only [Act.put, pA, pB, pC])
 refine rg_only (i := 9) rfl (by as_aux_lemma => kernel_rfl) (by rfl) (fun K hK => ?_)
 go_simp
 go_at_call 15
 refine (hcollect_c F _ _ Wd B room H (wdsL L) v HVd.out.rx (by rw [wdsL_len]; omega) HVd.out.hp HVd.out.ph.wf (by have := HVd.out.ph.rm; omega) (HPH.out.stands)).mono ?_
 rintro e w2 ⟨v2, tw, out, ks, rfl, hK, hC, hH, hO, hb⟩
 obtain ⟨a2, c2, rfl⟩ := hO.form
 obtain ⟨L2, e1, e2, e3, e4⟩ := HPH.out.col hC
 have HK2 := Lib.hid hK; have HH2 := Lib.hid hH; have HO2 := Lib.hid hO; have HB2 := Lib.hid hb; have HE1 := Lib.hid e1; have HE2 := Lib.hid e2; have HE3 := Lib.hid e3; have HE4 := Lib.hid e4
 have HX2 : Hid (Blk w2 pb [.string name, .pointer (some ⟨B, 0, none⟩), v]) := Lib.hid (HVd.out.blk.heap (hK.block pb HVd.out.blk.lt HVd.out.fp))
 have k2 := HX2.out.cell 2 _ rfl
 have kf := HX2.out.fr
 clear hK hH hO hb hC e1 e2 e3 e4 y2
 refine hK.out _ _ (HX2.out.cell 1 _ rfl) (fun _ => ?_)
 clear hK K hHeld
 rename_i hHeld
 (try simp only [Act.put, pA, pB, pC])
 refine rg_tk 10 ?_ rfl (by as_aux_lemma => kernel_rfl) (by rfl) ?_ hHeld ?_
 rotate_left 1
 ·intro w hSw; (try dsimp only at hSw); go_simp; try (with_reducible rfl)
 (try simp only [Act.put, pA, pB, pC])
 refine rg_tk 11 ?_ rfl (by as_aux_lemma => kernel_rfl) (by rfl) ?_ hHeld ?_
 rotate_left 1
 ·intro w hSw; (try dsimp only at hSw); go_simp; try (with_reducible rfl)
 (try simp only [Act.put, pA, pB, pC])
 refine rg_tk 12 ?_ rfl (by as_aux_lemma => kernel_rfl) (by rfl) ?_ hHeld ?_
 rotate_left 1
 ·intro w hSw; (try dsimp only at hSw); go_simp; try (with_reducible rfl)
 (try simp only [Act.put, pA, pB, pC])
 refine rg_tk 13 ?_ rfl (by as_aux_lemma => kernel_rfl) (by rfl) ?_ hHeld ?_
 rotate_left 1
 ·intro w hSw; (try dsimp only at hSw); go_simp; try (with_reducible rfl)
 (try simp only [Act.put, pA, pB, pC])
 refine rg_tk 14 ?_ rfl (by as_aux_lemma => kernel_rfl) (by rfl) ?_ hHeld ?_
 rotate_left 1
 ·intro w hSw; (try dsimp only at hSw); go_simp; try (with_reducible rfl)
 (try simp only [Act.put, pA, pB, pC])
 refine rg_only (i := 15) rfl (by as_aux_lemma => kernel_rfl) (by rfl) (fun K hK => ?_)
 go_simp
 skip
 refine hK.out _ _ ((HX2.out.set 2 _ (by simp)).cell 1 _ rfl) (fun _ => ?_)
 clear hK K hHeld
 rename_i hHeld
 (try simp only [Act.put, pA, pB, pC])
 refine rg_done (by as_aux_lemma => kernel_rfl) ?_
 clear hHeld
 have hW : Below Wd.heap.size Wd w2 → True := fun _ => trivial
 have hsz := HK2.out.size
 have hpl := HVd.out.blk.lt
 refine bodyPost_end (results_none Try.results41 _ _ _) rfl ⟨rfl, (keep0 HBd.out (HK2.out.mono fun b _ hb => HG.out.1 b hb)).setCell _ (.inl HG.out.2.1), L2, HE1.out, fun b => (F b ∨ (Wd.heap.size ≤ b ∧ (Value.slice a2 out.length c2).ownBlock ≠ some b)) ∧ b < w2.heap.size, B, ⟨tw, H.names⟩, .slice a2 out.length c2, ⟨HX2.out.set 2 _ (by simp), ?_, ?_, ?_, ?_, fun b hb => by simpa using hb.2, ?_⟩, HN.out, HE4.out, fun b hb => ?_, .inl HG.out.2.1, fun b hb => .inr (by have := HB2.out b hb; omega)⟩
 ·refine HH2.out.low.to (by simp) (fun _ h => h) fun b hb _ => setCell_other w2 pb 2 _ b fun e => ?_
  subst e
  rcases hb.1 with h1 | h1
  ·exact HVd.out.fp h1
  ·omega
 ·rw [HE2.out]
  exact HO2.out.to (by simp) fun b hb => setCell_other w2 pb 2 _ b fun e => by have := HB2.out b hb; omega
 ·rw [List.append_nil]; exact HE3.out
 ·intro hf
  rcases hf.1 with h1 | h1
  ·exact HVd.out.fp h1
  ·omega
 ·intro b hb
  have h2 := HB2.out b hb
  refine ⟨fun hf => ?_, by omega⟩
  rcases hf.1 with h1 | h1
  ·have := HVd.out.fl b h1; omega
  ·exact h1.2 hb
 ·rcases hb.1 with h1 | h1
  ·exact .inl (HG.out.1 b h1)
  ·exact .inr (by omega)
set_option maxHeartbeats 1000000 in
theorem pused_c (G : Nat → Prop) (w : World) (pb : Nat) (name : ByteArray) (room : Int) (nb u : Nat) (L Z : TW) (h : PrR G w pb name room nb u L Z) :
  Calls Try.prog 42 #[.pointer (some ⟨pb, 0, none⟩)] w fun e w' => e = .returned (.int .i64 (u : Int)) ∧ w = w' := by
 obtain ⟨F, B, H, v, hV, hn, rfl, hG⟩ := h
 have HV := Lib.hid hV
 have y1 := hV.blk.cell 1 _ rfl
 clear hV
 go_enter Try.func42, Try.ntmps42
 go_wp2_with fail
 refine (hused_c F w B room H HV.out.hp).mono ?_
 rintro e w1 ⟨rfl, rfl⟩
 go_wp2_with fail
 go_ret
 exact ⟨rfl, rfl⟩
set_option maxHeartbeats 1000000 in
theorem pget_c (G : Nat → Prop) (w : World) (pb : Nat) (name : ByteArray) (room : Int) (nb u : Nat) (L Z : TW) (h : PrR G w pb name room nb u L Z) (i : Nat) (hi : i < L.length) (hl : L.length ≤ 1000) (hr : room ≤ 1000) (hn : nb ≤ 137438953472) :
  Calls Try.prog 68 #[.pointer (some ⟨pb, 0, none⟩), .int .i64 (i : Int)] w fun e w' => ∃ ar cr, e = .returned (.agg #[.int .i64 L[i].1.kind, .int .i64 L[i].1.n, .string L[i].1.name, .slice ar L[i].1.args.length cr]) ∧ Below w.heap.size w w' ∧ RT (fun b => w.heap.size ≤ b) w' L[i].1 (.agg #[.int .i64 L[i].1.kind, .int .i64 L[i].1.n, .string L[i].1.name, .slice ar L[i].1.args.length cr]) := by
 obtain ⟨F, B, H, v, hV, hnb, rfl, hG⟩ := h
 obtain ⟨W0, hW0⟩ : ∃ W : World, W = w.alloc (.cells #[.int .i64 0, .int .i64 0, .string ⟨#[]⟩, .slice none 0 0] 24) := ⟨_, rfl⟩
 obtain ⟨g4, hg4⟩ : ∃ g, g = w.heap.size := ⟨_, rfl⟩
 have HB0 : Hid (Below w.heap.size w W0) := Lib.hid (by rw [hW0]; exact below_alloc _ _)
 have HX4 : Hid (Blk W0 g4 [.int .i64 0, .int .i64 0, .string ⟨#[]⟩, .slice none 0 0]) := Lib.hid (by rw [hW0]; exact Blk.new _ _ _ _ hg4)
 have hs0 : w.heap.size < W0.heap.size := by rw [hW0]; simp
 have hV0 := hV.below HB0.out
 obtain ⟨av, cv, ev, -⟩ := hV0.rx.form
 rw [wdsL_len] at ev
 subst ev
 obtain ⟨gv, ov, rfl⟩ := RX.addr hV0.rx (by decide) (by rw [wdsL_len]; omega)
 obtain ⟨cc, hcc, hc⟩ := RX.elem hV0.rx i (by rw [wdsL_len]; exact hi)
 obtain ⟨t, ht⟩ : ∃ t, t = L[i].1 := ⟨_, rfl⟩
 obtain ⟨x, hx⟩ : ∃ x, x = L[i].2 := ⟨_, rfl⟩
 have hxi : (wdsL L)[i]'(by rw [wdsL_len]; exact hi) = x := by rw [hx]; exact List.getElem_map ..
 rw [hxi] at hcc
 subst hcc
 have y0 := (hc 0 _ rfl).2
 have y1 := (hc 1 _ rfl).2
 have hm : L[i] ∈ L ++ Z := List.mem_append_left _ (List.getElem_mem hi)
 have HREP : Hid (Rep H t x) := Lib.hid (by rw [ht, hx]; exact hV0.ph.rep _ hm)
 have HLF : Hid (LeafOk t) := Lib.hid (by rw [ht]; exact (hV0.ph.leaf _ hm).1)
 have HV0 := Lib.hid hV0
 have HQ : Hid (∀ w', Below W0.heap.size W0 w' → w'.cell? ⟨pb, 1, none⟩ = some (.pointer (some ⟨B, 0, none⟩)) ∧ w'.cell? ⟨pb, 2, none⟩ = some (.slice (some ⟨gv, ov, none⟩) L.length cv) ∧ w'.cell? ⟨gv, ov + i * 2, none⟩ = some (.int .i64 x.kind) ∧ w'.cell? ⟨gv, ov + i * 2 + 1, none⟩ = some (.int .i64 x.n)) := Lib.hid fun w' hB => ⟨(hV0.blk.step hB).cell 1 _ rfl, (hV0.blk.step hB).cell 2 _ rfl, (hB.cell (World.block_lt_of_cell? _ _ y0)).trans y0, (hB.cell (World.block_lt_of_cell? _ _ y1)).trans y1⟩
 have qi : (i : Int) < (L.length : Int) := by omega
 rw [← ht]
 clear hV hc hV0 y0 y1 hxi hm ht hx hG
 go_enter Try.func68, Try.ntmps68
 go_upto_region 1 with fail
 rw [← hW0, ← hg4]
 have HG4 := Lib.hid hg4
 clear hW0 hg4
 refine rg_start (fun w' => w'.cell? ⟨pb, 1, none⟩ = some (.pointer (some ⟨B, 0, none⟩)) ∧ w'.cell? ⟨pb, 2, none⟩ = some (.slice (some ⟨gv, ov, none⟩) L.length cv) ∧ w'.cell? ⟨gv, ov + i * 2, none⟩ = some (.int .i64 x.kind) ∧ w'.cell? ⟨gv, ov + i * 2 + 1, none⟩ = some (.int .i64 x.n)) (by as_aux_lemma => kernel_rfl) (fun Wd h => HQ.out _ h) ?_
 intro Wd hB hWd hWd' hHeld
 have HCWd := Lib.hid hB
 clear hB
 refine rg_tk 0 ?_ rfl (by as_aux_lemma => kernel_rfl) (by rfl) ?_ hHeld ?_
 rotate_left 1
 ·intro w hSw; (try dsimp only at hSw); go_simp; try (with_reducible rfl)
 (try simp only [Act.put, pA, pB, pC])
 refine rg_tk 1 ?_ rfl (by as_aux_lemma => kernel_rfl) (by rfl) ?_ hHeld ?_
 rotate_left 1
 ·intro w hSw; (try dsimp only at hSw); go_simp; try (with_reducible rfl)
 (try simp only [Act.put, pA, pB, pC])
 refine rg_tk 2 ?_ rfl (by as_aux_lemma => kernel_rfl) (by rfl) ?_ hHeld ?_
 rotate_left 1
 ·intro w hSw; (try dsimp only at hSw); go_simp; try (with_reducible rfl)
 (try simp only [Act.put, pA, pB, pC])
 refine rg_tk 3 ?_ rfl (by as_aux_lemma => kernel_rfl) (by rfl) ?_ hHeld ?_
 rotate_left 1
 ·intro w hSw; (try dsimp only at hSw); go_simp; try (with_reducible rfl)
 (try simp only [Act.put, pA, pB, pC])
 refine rg_tk 4 ?_ rfl (by as_aux_lemma => kernel_rfl) (by rfl) ?_ hHeld ?_
 rotate_left 1
 ·intro w hSw; (try dsimp only at hSw); go_simp; try (with_reducible rfl)
 (try simp only [Act.put, pA, pB, pC])
 refine rg_tk 5 ?_ rfl (by as_aux_lemma => kernel_rfl) (by rfl) ?_ hHeld ?_
 rotate_left 1
 ·intro w hSw; (try dsimp only at hSw); go_simp; try (with_reducible rfl)
 (try simp only [Act.put, pA, pB, pC])
 refine rg_tk 6 ?_ rfl (by as_aux_lemma => kernel_rfl) (by rfl) ?_ hHeld ?_
 rotate_left 1
 ·intro w hSw; (try dsimp only at hSw); go_simp; try (with_reducible rfl)
 (try simp only [Act.put, pA, pB, pC])
 refine rg_tk 7 ?_ rfl (by as_aux_lemma => kernel_rfl) (by rfl) ?_ hHeld ?_
 rotate_left 1
 ·intro w hSw; (try dsimp only at hSw); go_simp; try (with_reducible rfl)
 (try simp only [Act.put, pA, pB, pC])
 refine rg_tk 8 ?_ rfl (by as_aux_lemma => kernel_rfl) (by rfl) ?_ hHeld ?_
 rotate_left 1
 ·intro w hSw; (try dsimp only at hSw); go_simp; try (with_reducible rfl)
 (try simp only [Act.put, pA, pB, pC])
 refine rg_tk 9 ?_ rfl (by as_aux_lemma => kernel_rfl) (by rfl) ?_ hHeld ?_
 rotate_left 1
 ·intro w hSw; (try dsimp only at hSw); go_simp; try (with_reducible rfl)
 (try simp only [Act.put, pA, pB, pC])
 refine rg_tk 10 ?_ rfl (by as_aux_lemma => kernel_rfl) (by rfl) ?_ hHeld ?_
 rotate_left 1
 ·intro w hSw; (try dsimp only at hSw); go_simp; try (with_reducible rfl)
 (try simp only [Act.put, pA, pB, pC])
 refine rg_two (i := 11) (j := 15) rfl rfl (by as_aux_lemma => kernel_rfl) (by rfl) (by rfl) (fun K hK => ?_) (fun K hK => ?_)
 ·skip
  go_simp
  go_at_call 18
  refine (hGet_c t F Wd B room H x (HV0.out.hp.below HCWd.out) HREP.out HLF.out HV0.out.ph.wf.heads (by have := HV0.out.ph.rm; omega) (by omega)).mono ?_
  rintro e wc ⟨ar, cr, rfl, hB, hT⟩
  have HCwc : Hid (Below W0.heap.size W0 wc) := Lib.hid (below_step HCWd.out HCWd.out.size hB)
  have HT : Hid (RT (fun b => Wd.heap.size ≤ b) wc t (.agg #[.int .i64 t.kind, .int .i64 t.n, .string t.name, .slice ar t.args.length cr])) := Lib.hid hT
  clear hB hT
  refine hK.out _ _ (HQ.out _ HCwc.out) (fun _ => ?_)
  clear hK K hHeld
  rename_i hHeld
  (try simp only [Act.put, pA, pB, pC])
  refine rg_tk 12 ?_ rfl (by as_aux_lemma => kernel_rfl) (by rfl) ?_ hHeld ?_
  rotate_left 1
  ·intro w hSw; (try dsimp only at hSw); go_simp; try (with_reducible rfl)
  (try simp only [Act.put, pA, pB, pC])
  refine rg_tk 13 ?_ rfl (by as_aux_lemma => kernel_rfl) (by rfl) ?_ hHeld ?_
  rotate_left 1
  ·intro w hSw; (try dsimp only at hSw); go_simp; try (with_reducible rfl)
  (try simp only [Act.put, pA, pB, pC])
  refine rg_tk 14 ?_ rfl (by as_aux_lemma => kernel_rfl) (by rfl) ?_ hHeld ?_
  rotate_left 1
  ·intro w hSw; (try dsimp only at hSw); go_simp; try (with_reducible rfl)
  (try simp only [Act.put, pA, pB, pC])
  refine rg_only (i := 15) rfl (by as_aux_lemma => kernel_rfl) (by rfl) (fun K hK => ?_)
  go_simp
  obtain ⟨wg, hwg⟩ : ∃ W : World, W = wc.alloc (.cells #[.int .i64 0, .int .i64 0, .string ⟨#[]⟩, .slice none 0 0] 24) := ⟨_, rfl⟩
  obtain ⟨gg, hgg⟩ : ∃ g, g = wc.heap.size := ⟨_, rfl⟩
  have HG : Hid (Blk wg gg [.int .i64 0, .int .i64 0, .string ⟨#[]⟩, .slice none 0 0]) := Lib.hid (by rw [hwg]; exact Blk.new _ _ _ _ hgg)
  have hB : Below wc.heap.size wc wg := by rw [hwg]; exact below_alloc _ _
  have HGG : Hid (W0.heap.size ≤ gg) := Lib.hid (by have := HCwc.out.size; omega)
  have HT : Hid (RT (fun b => W0.heap.size ≤ b ∧ b ≠ gg) wg t (.agg #[.int .i64 t.kind, .int .i64 t.n, .string t.name, .slice ar t.args.length cr])) := Lib.hid (HT.out.to (fun b hb hl => by have := HCWd.out.size; omega) fun b _ hl => hB.block b hl)
  rw [← hwg, ← hgg]
  have HCwg : Hid (Below W0.heap.size W0 wg) := Lib.hid (below_step HCwc.out HCwc.out.size hB)
  clear hwg hgg hB
  refine hK.out _ _ (HQ.out _ HCwg.out) (fun _ => ?_)
  clear hK K hHeld
  rename_i hHeld
  (try simp only [Act.put, pA, pB, pC])
  refine rg_only (i := 16) rfl (by as_aux_lemma => kernel_rfl) (by rfl) (fun K hK => ?_)
  refine wp_store_blk 24 4 szTerm _ _ rfl rfl rfl rfl HG.out rfl rfl rfl ?_
  intro W2 hF hs2 hBW hoth
  have HF := Lib.hid hF
  have HFB : Hid (Below W0.heap.size W0 W2) := Lib.hid (hBW _ _ HGG.out HCwg.out)
  have HOTH := Lib.hid hoth
  clear hF hBW hs2 hoth
  refine hK.out _ _ (HQ.out _ HFB.out) (fun _ => ?_)
  clear hK K hHeld
  rename_i hHeld
  (try simp only [Act.put, pA, pB, pC])
  refine rg_tk 17 ?_ rfl (by as_aux_lemma => kernel_rfl) (by rfl) ?_ hHeld ?_
  rotate_left 1
  ·intro w hSw; (try dsimp only at hSw); go_simp; try (with_reducible rfl)
  (try simp only [Act.put, pA, pB, pC])
  refine rg_done (by as_aux_lemma => kernel_rfl) ?_
  clear hHeld
  have y0 := HF.out.cell 0 _ rfl
  have y1 := HF.out.cell 1 _ rfl
  have y2 := HF.out.cell 2 _ rfl
  have y3 := HF.out.cell 3 _ rfl
  go_wp2_with (first | (refine store_blk 24 4 szTerm _ _ rfl rfl rfl rfl rfl (HX4.out.step HFB.out) rfl rfl rfl ?_; intro W3 hF3 hs3 hBW3 hoth3; have HF3 := Lib.hid hF3; have HBW3 := Lib.hid hBW3; have HO3 := Lib.hid hoth3; clear hF3 hs3 hBW3 hoth3))
  refine bodyPost_ret (result_blk Try.results68 szTerm _ Try.underlying24 rfl rfl HF3.out rfl) rfl ⟨ar, cr, rfl, HBW3.out _ _ (by have := HG4.out; omega) (HB0.out.trans (HFB.out.mono (by omega))), ?_⟩
  exact HT.out.to (fun b hb _ => by omega) fun b hb _ => (HO3.out b (by have := HG4.out; omega)).trans (HOTH.out b hb.2)
 ·skip
  go_simp
  obtain ⟨wg, hwg⟩ : ∃ W : World, W = Wd.alloc (.cells #[.int .i64 0, .int .i64 0, .string ⟨#[]⟩, .slice none 0 0] 24) := ⟨_, rfl⟩
  obtain ⟨gg, hgg⟩ : ∃ g, g = Wd.heap.size := ⟨_, rfl⟩
  have HG : Hid (Blk wg gg [.int .i64 0, .int .i64 0, .string ⟨#[]⟩, .slice none 0 0]) := Lib.hid (by rw [hwg]; exact Blk.new _ _ _ _ hgg)
  have hB : Below Wd.heap.size Wd wg := by rw [hwg]; exact below_alloc _ _
  have HGG : Hid (W0.heap.size ≤ gg) := Lib.hid (by have := HCWd.out.size; omega)
  rw [← hwg, ← hgg]
  have HCwg : Hid (Below W0.heap.size W0 wg) := Lib.hid (below_step HCWd.out HCWd.out.size hB)
  clear hwg hgg hB
  refine hK.out _ _ (HQ.out _ HCwg.out) (fun _ => ?_)
  clear hK K hHeld
  rename_i hHeld
  (try simp only [Act.put, pA, pB, pC])
  refine rg_only (i := 11) rfl (by as_aux_lemma => kernel_rfl) (by rfl) (fun K hK => ?_)
  go_simp
  go_at_call 18
  refine (hGet_c t F wg B room H x (HV0.out.hp.below HCwg.out) HREP.out HLF.out HV0.out.ph.wf.heads (by have := HV0.out.ph.rm; omega) (by omega)).mono ?_
  rintro e wc ⟨ar, cr, rfl, hB, hT⟩
  have HCwc : Hid (Below W0.heap.size W0 wc) := Lib.hid (below_step HCwg.out HCwg.out.size hB)
  have HT : Hid (RT (fun b => W0.heap.size ≤ b ∧ b ≠ gg) wc t (.agg #[.int .i64 t.kind, .int .i64 t.n, .string t.name, .slice ar t.args.length cr])) := Lib.hid (hT.to (fun b hb _ => by have := HCwg.out.size; have := HG.out.lt; omega) fun _ _ _ => rfl)
  have HG := Lib.hid (HG.out.step hB)
  clear hB hT
  refine hK.out _ _ (HQ.out _ HCwc.out) (fun _ => ?_)
  clear hK K hHeld
  rename_i hHeld
  (try simp only [Act.put, pA, pB, pC])
  refine rg_tk 12 ?_ rfl (by as_aux_lemma => kernel_rfl) (by rfl) ?_ hHeld ?_
  rotate_left 1
  ·intro w hSw; (try dsimp only at hSw); go_simp; try (with_reducible rfl)
  (try simp only [Act.put, pA, pB, pC])
  refine rg_tk 13 ?_ rfl (by as_aux_lemma => kernel_rfl) (by rfl) ?_ hHeld ?_
  rotate_left 1
  ·intro w hSw; (try dsimp only at hSw); go_simp; try (with_reducible rfl)
  (try simp only [Act.put, pA, pB, pC])
  refine rg_tk 14 ?_ rfl (by as_aux_lemma => kernel_rfl) (by rfl) ?_ hHeld ?_
  rotate_left 1
  ·intro w hSw; (try dsimp only at hSw); go_simp; try (with_reducible rfl)
  (try simp only [Act.put, pA, pB, pC])
  refine rg_only (i := 16) rfl (by as_aux_lemma => kernel_rfl) (by rfl) (fun K hK => ?_)
  refine wp_store_blk 24 4 szTerm _ _ rfl rfl rfl rfl HG.out rfl rfl rfl ?_
  intro W2 hF hs2 hBW hoth
  have HF := Lib.hid hF
  have HFB : Hid (Below W0.heap.size W0 W2) := Lib.hid (hBW _ _ HGG.out HCwc.out)
  have HOTH := Lib.hid hoth
  clear hF hBW hs2 hoth
  refine hK.out _ _ (HQ.out _ HFB.out) (fun _ => ?_)
  clear hK K hHeld
  rename_i hHeld
  (try simp only [Act.put, pA, pB, pC])
  refine rg_tk 17 ?_ rfl (by as_aux_lemma => kernel_rfl) (by rfl) ?_ hHeld ?_
  rotate_left 1
  ·intro w hSw; (try dsimp only at hSw); go_simp; try (with_reducible rfl)
  (try simp only [Act.put, pA, pB, pC])
  refine rg_done (by as_aux_lemma => kernel_rfl) ?_
  clear hHeld
  have y0 := HF.out.cell 0 _ rfl
  have y1 := HF.out.cell 1 _ rfl
  have y2 := HF.out.cell 2 _ rfl
  have y3 := HF.out.cell 3 _ rfl
  go_wp2_with (first | (refine store_blk 24 4 szTerm _ _ rfl rfl rfl rfl rfl (HX4.out.step HFB.out) rfl rfl rfl ?_; intro W3 hF3 hs3 hBW3 hoth3; have HF3 := Lib.hid hF3; have HBW3 := Lib.hid hBW3; have HO3 := Lib.hid hoth3; clear hF3 hs3 hBW3 hoth3))
  refine bodyPost_ret (result_blk Try.results68 szTerm _ Try.underlying24 rfl rfl HF3.out rfl) rfl ⟨ar, cr, rfl, HBW3.out _ _ (by have := HG4.out; omega) (HB0.out.trans (HFB.out.mono (by omega))), ?_⟩
  exact HT.out.to (fun b hb _ => by omega) fun b hb _ => (HO3.out b (by have := HG4.out; omega)).trans (HOTH.out b hb.2)
end Go.Proofs.Ytedfepnekjjmnab

/-
 A doer: value. Conditions: it lies as said; the term and what is bound are small.
-/
namespace Go.Proofs.Ytedfepnekjjmnab
open Go.RowKit
set_option linter.unusedSimpArgs false
set_option linter.unusedVariables false
set_option maxRecDepth 100000

/-- A doer's cells. -/
def doerC (vb : Value) (self next : Int) (o : List Value) (bad : Bool) : List Value := vb :: .int .i64 self :: .int .i64 next :: (o ++ [.bool bad])
/-- What value answers. -/
def DValP (w : World) (db : Nat) (vb : Value) (self next : Int) (o : List Value) (bad : Bool) (r : T × Int) (e : Ending) (w' : World) : Prop :=
 ∃ a cap, e = .returned (.agg #[.int .i64 r.1.kind, .int .i64 r.1.n, .string r.1.name, .slice a r.1.args.length cap]) ∧ Keep (fun b => b = db) w w' ∧ Blk w' db (doerC vb self next o (bad || r.2 != 0)) ∧ RT (fun b => w.heap.size ≤ b) w' r.1 (.agg #[.int .i64 r.1.kind, .int .i64 r.1.n, .string r.1.name, .slice a r.1.args.length cap])
set_option maxHeartbeats 4000000 in
theorem dval_c (db : Nat) (vb : Value) (self next : Int) (o : List Value) (ho : o.length = 8) (bad : Bool) (bd : List T) (x : T) (S : Nat → Prop) (w : World) (v : Value) (hX : Blk w db (doerC vb self next o bad)) (hv : RT S w x v) (hb : RSl S w bd vb) (hS : ∀ b, S b → b < w.heap.size ∧ b ≠ db) (hbk : bulkL [x] + bulkL bd ≤ 2000000) :
  Calls Try.prog 71 #[.pointer (some ⟨db, 0, none⟩), v] w (DValP w db vb self next o bad (reckO bd self x)) := by
 obtain ⟨ax, cx, rfl, hcap, hrt⟩ := hv
 obtain ⟨W0, hW0⟩ : ∃ W : World, W = (w.alloc (.cells #[.int .i64 x.kind, .int .i64 x.n, .string x.name, .slice ax x.args.length cx] 24)).alloc (.cells #[.int .i64 0, .int .i64 0, .string ⟨#[]⟩, .slice none 0 0] 24) := ⟨_, rfl⟩
 obtain ⟨g3, hg3⟩ : ∃ g, g = w.heap.size := ⟨_, rfl⟩
 obtain ⟨g4, hg4⟩ : ∃ g, g = w.heap.size + 1 := ⟨_, rfl⟩
 have HB0 : Hid (Below w.heap.size w W0) := Lib.hid (by rw [hW0]; exact (below_alloc _ _).trans ((below_alloc _ _).mono (by simp)))
 have HX3 : Hid (Blk W0 g3 [.int .i64 x.kind, .int .i64 x.n, .string x.name, .slice ax x.args.length cx]) := Lib.hid (by rw [hW0, hg3]; exact (Blk.new _ _ _ _ rfl).alloc _)
 have HX4 : Hid (Blk W0 g4 [.int .i64 0, .int .i64 0, .string ⟨#[]⟩, .slice none 0 0]) := Lib.hid (by rw [hW0]; exact Blk.new _ _ _ _ (by rw [hg4]; simp))
 have hs0 : W0.heap.size = w.heap.size + 2 := by rw [hW0]; simp
 have HXD : Hid (Blk W0 db (doerC vb self next o bad)) := Lib.hid (hX.step HB0.out)
 have HTX : Hid (RT S W0 x (.agg #[.int .i64 x.kind, .int .i64 x.n, .string x.name, .slice ax x.args.length cx])) := Lib.hid (RT.below ⟨ax, cx, rfl, hcap, hrt⟩ HB0.out)
 have HBD : Hid (RSl S W0 bd vb) := Lib.hid (hb.to (fun _ h _ => h) fun b hb hl => HB0.out.block b hl)
 have HSS : Hid (∀ b, S b → b < w.heap.size ∧ b ≠ db) := Lib.hid hS
 have HDB : Hid (db < w.heap.size ∧ g3 = w.heap.size ∧ g4 = w.heap.size + 1 ∧ W0.heap.size = w.heap.size + 2) := Lib.hid ⟨hX.lt, hg3, hg4, hs0⟩
 have HQ : Hid (∀ w' : World, Below W0.heap.size W0 w' → w'.cell? ⟨g3, 0, none⟩ = some (.int .i64 x.kind) ∧ w'.cell? ⟨g3, 1, none⟩ = some (.int .i64 x.n) ∧ w'.cell? ⟨g3, 2, none⟩ = some (.string x.name) ∧ w'.cell? ⟨g3, 3, none⟩ = some (.slice ax x.args.length cx) ∧ w'.cell? ⟨db, 0, none⟩ = some vb ∧ w'.cell? ⟨db, 1, none⟩ = some (.int .i64 self)) := Lib.hid fun w' h => ⟨(HX3.out.step h).cell 0 _ rfl, (HX3.out.step h).cell 1 _ rfl, (HX3.out.step h).cell 2 _ rfl, (HX3.out.step h).cell 3 _ rfl, (HXD.out.step h).cell 0 _ rfl, (HXD.out.step h).cell 1 _ rfl⟩
 obtain ⟨⟨t, n⟩, hr⟩ : ∃ r, r = reckO bd self x := ⟨_, rfl⟩
 have HRO := Lib.hid hr
 rw [← hr]
 clear hX hcap hrt hb hS hr
 go_enter Try.func71, Try.ntmps71
 go_upto_region 1 with fail
 rw [← hW0, ← hg4, ← hg3]
 clear hW0 hg3 hg4 hs0
 refine rg_start (fun w' => w'.cell? ⟨g3, 0, none⟩ = some (.int .i64 x.kind) ∧ w'.cell? ⟨g3, 1, none⟩ = some (.int .i64 x.n) ∧ w'.cell? ⟨g3, 2, none⟩ = some (.string x.name) ∧ w'.cell? ⟨g3, 3, none⟩ = some (.slice ax x.args.length cx) ∧ w'.cell? ⟨db, 0, none⟩ = some vb ∧ w'.cell? ⟨db, 1, none⟩ = some (.int .i64 self)) (by as_aux_lemma => kernel_rfl) (fun Wd h => HQ.out _ h) ?_
 intro Wd hB hWd hWd' hHeld
 have HCWd := Lib.hid hB
 clear hB
 refine rg_tk 0 ?_ rfl (by as_aux_lemma => kernel_rfl) (by rfl) ?_ hHeld ?_
 rotate_left 1
 ·intro w hSw; (try dsimp only at hSw); go_simp; try (with_reducible rfl)
 (try simp only [Act.put, pA, pB, pC])
 refine rg_tk 1 ?_ rfl (by as_aux_lemma => kernel_rfl) (by rfl) ?_ hHeld ?_
 rotate_left 1
 ·intro w hSw; (try dsimp only at hSw); go_simp; try (with_reducible rfl)
 (try simp only [Act.put, pA, pB, pC])
 refine rg_tk 2 ?_ rfl (by as_aux_lemma => kernel_rfl) (by rfl) ?_ hHeld ?_
 rotate_left 1
 ·intro w hSw; (try dsimp only at hSw); go_simp; try (with_reducible rfl)
 (try simp only [Act.put, pA, pB, pC])
 refine rg_tk 3 ?_ rfl (by as_aux_lemma => kernel_rfl) (by rfl) ?_ hHeld ?_
 rotate_left 1
 ·intro w hSw; (try dsimp only at hSw); go_simp; try (with_reducible rfl)
 (try simp only [Act.put, pA, pB, pC])
 refine rg_tk 4 ?_ rfl (by as_aux_lemma => kernel_rfl) (by rfl) ?_ hHeld ?_
 rotate_left 1
 ·intro w hSw; (try dsimp only at hSw); go_simp; try (with_reducible rfl)
 (try simp only [Act.put, pA, pB, pC])
 refine rg_tk 5 ?_ rfl (by as_aux_lemma => kernel_rfl) (by rfl) ?_ hHeld ?_
 rotate_left 1
 ·intro w hSw; (try dsimp only at hSw); go_simp; try (with_reducible rfl)
 (try simp only [Act.put, pA, pB, pC])
 refine rg_tk 6 ?_ rfl (by as_aux_lemma => kernel_rfl) (by rfl) ?_ hHeld ?_
 rotate_left 1
 ·intro w hSw; (try dsimp only at hSw); go_simp; try (with_reducible rfl)
 (try simp only [Act.put, pA, pB, pC])
 refine rg_tk 7 ?_ rfl (by as_aux_lemma => kernel_rfl) (by rfl) ?_ hHeld ?_
 rotate_left 1
 ·intro w hSw; (try dsimp only at hSw); go_simp; try (with_reducible rfl)
 (try simp only [Act.put, pA, pB, pC])
 refine rg_tk 8 ?_ rfl (by as_aux_lemma => kernel_rfl) (by rfl) ?_ hHeld ?_
 rotate_left 1
 ·intro w hSw; (try dsimp only at hSw); go_simp; try (with_reducible rfl)
 (try simp only [Act.put, pA, pB, pC])
 refine rg_two (i := 9) (j := 13) rfl rfl (by as_aux_lemma => kernel_rfl) (by rfl) (by rfl) (fun K hK => ?_) (fun K hK => ?_)
 ·skip
  go_simp
  go_at_call 102
  refine (valueN_c bd self x S Wd _ vb (HTX.out.below HCWd.out) (HBD.out.to (fun _ h _ => h) fun b hb hl => HCWd.out.block b hl) (fun b hb => by have := HSS.out b hb; have := HCWd.out.size; have := HDB.out; omega) (by omega)).mono ?_
  intro e wc hro
  rw [← HRO.out] at hro
  obtain ⟨ar, cr, rfl, hB, hT⟩ := hro.open
  have HCwc : Hid (Below W0.heap.size W0 wc) := Lib.hid (below_step HCWd.out HCWd.out.size hB)
  have HT : Hid (RT (fun b => False ∨ Wd.heap.size ≤ b) wc t (.agg #[.int .i64 t.kind, .int .i64 t.n, .string t.name, .slice ar t.args.length cr])) := Lib.hid hT
  clear hB hT hro
  refine hK.out _ _ (HQ.out _ HCwc.out) (fun _ => ?_)
  clear hK K hHeld
  rename_i hHeld
  (try simp only [Act.put, pA, pB, pC])
  refine rg_tk 10 ?_ rfl (by as_aux_lemma => kernel_rfl) (by rfl) ?_ hHeld ?_
  rotate_left 1
  ·intro w hSw; (try dsimp only at hSw); go_simp; try (with_reducible rfl)
  (try simp only [Act.put, pA, pB, pC])
  refine rg_tk 11 ?_ rfl (by as_aux_lemma => kernel_rfl) (by rfl) ?_ hHeld ?_
  rotate_left 1
  ·intro w hSw; (try dsimp only at hSw); go_simp; try (with_reducible rfl)
  (try simp only [Act.put, pA, pB, pC])
  refine rg_tk 12 ?_ rfl (by as_aux_lemma => kernel_rfl) (by rfl) ?_ hHeld ?_
  rotate_left 1
  ·intro w hSw; (try dsimp only at hSw); go_simp; try (with_reducible rfl)
  (try simp only [Act.put, pA, pB, pC])
  refine rg_only (i := 13) rfl (by as_aux_lemma => kernel_rfl) (by rfl) (fun K hK => ?_)
  go_simp
  obtain ⟨wg, hwg⟩ : ∃ W : World, W = wc.alloc (.cells #[.int .i64 0, .int .i64 0, .string ⟨#[]⟩, .slice none 0 0] 24) := ⟨_, rfl⟩
  obtain ⟨gg, hgg⟩ : ∃ g, g = wc.heap.size := ⟨_, rfl⟩
  have HG : Hid (Blk wg gg [.int .i64 0, .int .i64 0, .string ⟨#[]⟩, .slice none 0 0]) := Lib.hid (by rw [hwg]; exact Blk.new _ _ _ _ hgg)
  have hB : Below wc.heap.size wc wg := by rw [hwg]; exact below_alloc _ _
  have HGG : Hid (W0.heap.size ≤ gg) := Lib.hid (by have := HCwc.out.size; omega)
  have HT : Hid (RT (fun b => W0.heap.size ≤ b ∧ b ≠ gg) wg t (.agg #[.int .i64 t.kind, .int .i64 t.n, .string t.name, .slice ar t.args.length cr])) := Lib.hid (HT.out.to (fun b hb hl => by (rcases hb with hb | hb; exact hb.elim; (have := HCWd.out.size; omega))) fun b _ hl => hB.block b hl)
  rw [← hwg, ← hgg]
  have HCwg : Hid (Below W0.heap.size W0 wg) := Lib.hid (below_step HCwc.out HCwc.out.size hB)
  clear hwg hgg hB
  refine hK.out _ _ (HQ.out _ HCwg.out) (fun _ => ?_)
  clear hK K hHeld
  rename_i hHeld
  (try simp only [Act.put, pA, pB, pC])
  refine rg_only (i := 14) rfl (by as_aux_lemma => kernel_rfl) (by rfl) (fun K hK => ?_)
  refine wp_store_blk 24 4 szTerm _ _ rfl rfl rfl rfl HG.out rfl rfl rfl ?_
  intro W2 hF hs2 hBW hoth
  have HF := Lib.hid hF
  have HFB : Hid (Below W0.heap.size W0 W2) := Lib.hid (hBW _ _ HGG.out HCwg.out)
  have HOTH := Lib.hid hoth
  clear hF hBW hs2 hoth
  refine hK.out _ _ (HQ.out _ HFB.out) (fun _ => ?_)
  clear hK K hHeld
  rename_i hHeld
  (try simp only [Act.put, pA, pB, pC])
  refine rg_tk 15 ?_ rfl (by as_aux_lemma => kernel_rfl) (by rfl) ?_ hHeld ?_
  rotate_left 1
  ·intro w hSw; (try dsimp only at hSw); go_simp; try (with_reducible rfl)
  (try simp only [Act.put, pA, pB, pC])
  refine rg_done (by as_aux_lemma => kernel_rfl) ?_
  clear hHeld
  have HT2 : Hid (RT (fun b => W0.heap.size ≤ b ∧ b ≠ gg) W2 t (.agg #[.int .i64 t.kind, .int .i64 t.n, .string t.name, .slice ar t.args.length cr])) := Lib.hid (HT.out.to (fun _ h _ => h) fun b hb _ => HOTH.out b hb.2)
  have HXD2 := Lib.hid (HXD.out.step HFB.out)
  have h11 : (doerC vb self next o bad)[11]? = some (.bool bad) := by simp [doerC, List.getElem?_append, ho]
  have xb := HXD2.out.cell 11 _ h11
  have xf := HXD2.out.fr
  have hll : (doerC vb self next o bad).length = 12 := by simp [doerC, ho]
  have HX42 := Lib.hid (HX4.out.step HFB.out)
  have HLN : Hid (11 < (doerC vb self next o bad).length) := Lib.hid (by omega)
  have key : ∀ W3 : World, W3 = W2.setCell ⟨db, 11, none⟩ (.bool (bad || n != 0)) → Blk W3 db (doerC vb self next o (bad || n != 0)) ∧ Blk W3 gg [.int .i64 t.kind, .int .i64 t.n, .string t.name, .slice ar t.args.length cr] ∧ Blk W3 g4 [.int .i64 0, .int .i64 0, .string ⟨#[]⟩, .slice none 0 0] ∧ RT (fun b => W0.heap.size ≤ b ∧ b ≠ gg) W3 t (.agg #[.int .i64 t.kind, .int .i64 t.n, .string t.name, .slice ar t.args.length cr]) ∧ Keep (fun b => b = db) w W3 := fun W3 h3 => by
   have hd := HDB.out
   have hg := HGG.out
   have hs : ∀ b, b ≠ db → W3.heap[b]? = W2.heap[b]? := fun b hb => by rw [h3]; exact setCell_other W2 db 11 _ b hb
   refine ⟨?_, HF.out.heap (hs gg (by omega)), HX42.out.heap (hs g4 (by omega)), HT2.out.to (fun _ h _ => h) fun b hb _ => hs b ?_, ?_⟩
   ·have := HXD2.out.set 11 (.bool (bad || n != 0)) HLN.out
    rw [h3]
    rwa [show (doerC vb self next o bad).set 11 (.bool (bad || n != 0)) = doerC vb self next o (bad || n != 0) by
     match o, ho with
     | [_, _, _, _, _, _, _, _], _ => rfl] at this
   ·omega
   ·rw [h3]
    exact ((Keep.of HB0.out).then HFB.out).setCell _ (.inl rfl)
  have KEY := Lib.hid key
  clear key h11 hll
  cases bad
  ·go_upto_region 3 with fail
   obtain ⟨W3, hW3⟩ : ∃ W : World, W = W2.setCell ⟨db, 11, none⟩ (.bool (n != 0)) := ⟨_, rfl⟩
   have HK3 := Lib.hid (KEY.out W3 (by rw [hW3]; simp))
   rw [← hW3]
   clear hW3 xb xf
   have y0 := HK3.out.2.1.cell 0 _ rfl
   have y1 := HK3.out.2.1.cell 1 _ rfl
   have y2 := HK3.out.2.1.cell 2 _ rfl
   have y3 := HK3.out.2.1.cell 3 _ rfl
   go_wp2_with (first | (refine store_blk 24 4 szTerm _ _ rfl rfl rfl rfl rfl HK3.out.2.2.1 rfl rfl rfl ?_; intro W4 hF4 hs4 hBW4 hoth4; have HF4 := Lib.hid hF4; have HBW4 := Lib.hid hBW4; have HO4 := Lib.hid hoth4; have HS4 := Lib.hid hs4; clear hF4 hs4 hBW4 hoth4))
   have hd := HDB.out
   have hg := HGG.out
   have b4 := HBW4.out 0 W3 (Nat.zero_le _) (Below.refl _ _)
   have k3 := HK3.out.2.2.2.2
   refine bodyPost_ret (result_blk Try.results71 szTerm _ Try.underlying24 rfl rfl HF4.out rfl) rfl ⟨ar, cr, rfl, ⟨b4.os.trans k3.os, b4.tape.trans k3.tape, b4.output.trans k3.output, by have := k3.size; have := HS4.out; omega, fun k hk hn => (HO4.out k (by omega)).trans (k3.block k hk hn)⟩, HK3.out.1.heap (HO4.out db (by omega)), HK3.out.2.2.2.1.to (fun b hb _ => by show w.heap.size ≤ b; omega) fun b hb _ => HO4.out b (by omega)⟩
  ·go_upto_region 3 with fail
   obtain ⟨W3, hW3⟩ : ∃ W : World, W = W2.setCell ⟨db, 11, none⟩ (.bool true) := ⟨_, rfl⟩
   have HK3 := Lib.hid (KEY.out W3 (by rw [hW3]; simp))
   rw [← hW3]
   clear hW3 xb xf
   have y0 := HK3.out.2.1.cell 0 _ rfl
   have y1 := HK3.out.2.1.cell 1 _ rfl
   have y2 := HK3.out.2.1.cell 2 _ rfl
   have y3 := HK3.out.2.1.cell 3 _ rfl
   go_wp2_with (first | (refine store_blk 24 4 szTerm _ _ rfl rfl rfl rfl rfl HK3.out.2.2.1 rfl rfl rfl ?_; intro W4 hF4 hs4 hBW4 hoth4; have HF4 := Lib.hid hF4; have HBW4 := Lib.hid hBW4; have HO4 := Lib.hid hoth4; have HS4 := Lib.hid hs4; clear hF4 hs4 hBW4 hoth4))
   have hd := HDB.out
   have hg := HGG.out
   have b4 := HBW4.out 0 W3 (Nat.zero_le _) (Below.refl _ _)
   have k3 := HK3.out.2.2.2.2
   refine bodyPost_ret (result_blk Try.results71 szTerm _ Try.underlying24 rfl rfl HF4.out rfl) rfl ⟨ar, cr, rfl, ⟨b4.os.trans k3.os, b4.tape.trans k3.tape, b4.output.trans k3.output, by have := k3.size; have := HS4.out; omega, fun k hk hn => (HO4.out k (by omega)).trans (k3.block k hk hn)⟩, HK3.out.1.heap (HO4.out db (by omega)), HK3.out.2.2.2.1.to (fun b hb _ => by show w.heap.size ≤ b; omega) fun b hb _ => HO4.out b (by omega)⟩
 ·skip
  go_simp
  obtain ⟨wg, hwg⟩ : ∃ W : World, W = Wd.alloc (.cells #[.int .i64 0, .int .i64 0, .string ⟨#[]⟩, .slice none 0 0] 24) := ⟨_, rfl⟩
  obtain ⟨gg, hgg⟩ : ∃ g, g = Wd.heap.size := ⟨_, rfl⟩
  have HG : Hid (Blk wg gg [.int .i64 0, .int .i64 0, .string ⟨#[]⟩, .slice none 0 0]) := Lib.hid (by rw [hwg]; exact Blk.new _ _ _ _ hgg)
  have hB : Below Wd.heap.size Wd wg := by rw [hwg]; exact below_alloc _ _
  have HGG : Hid (W0.heap.size ≤ gg) := Lib.hid (by have := HCWd.out.size; omega)
  rw [← hwg, ← hgg]
  have HCwg : Hid (Below W0.heap.size W0 wg) := Lib.hid (below_step HCWd.out HCWd.out.size hB)
  clear hwg hgg hB
  refine hK.out _ _ (HQ.out _ HCwg.out) (fun _ => ?_)
  clear hK K hHeld
  rename_i hHeld
  (try simp only [Act.put, pA, pB, pC])
  refine rg_only (i := 9) rfl (by as_aux_lemma => kernel_rfl) (by rfl) (fun K hK => ?_)
  go_simp
  go_at_call 102
  refine (valueN_c bd self x S wg _ vb (HTX.out.below HCwg.out) (HBD.out.to (fun _ h _ => h) fun b hb hl => HCwg.out.block b hl) (fun b hb => by have := HSS.out b hb; have := HCwg.out.size; have := HDB.out; omega) (by omega)).mono ?_
  intro e wc hro
  rw [← HRO.out] at hro
  obtain ⟨ar, cr, rfl, hB, hT⟩ := hro.open
  have HCwc : Hid (Below W0.heap.size W0 wc) := Lib.hid (below_step HCwg.out HCwg.out.size hB)
  have HT : Hid (RT (fun b => W0.heap.size ≤ b ∧ b ≠ gg) wc t (.agg #[.int .i64 t.kind, .int .i64 t.n, .string t.name, .slice ar t.args.length cr])) := Lib.hid (hT.to (fun b hb _ => by (rcases hb with hb | hb; exact hb.elim; (have := HCwg.out.size; have := HG.out.lt; omega))) fun _ _ _ => rfl)
  have HG := Lib.hid (HG.out.step hB)
  clear hB hT hro
  refine hK.out _ _ (HQ.out _ HCwc.out) (fun _ => ?_)
  clear hK K hHeld
  rename_i hHeld
  (try simp only [Act.put, pA, pB, pC])
  refine rg_tk 10 ?_ rfl (by as_aux_lemma => kernel_rfl) (by rfl) ?_ hHeld ?_
  rotate_left 1
  ·intro w hSw; (try dsimp only at hSw); go_simp; try (with_reducible rfl)
  (try simp only [Act.put, pA, pB, pC])
  refine rg_tk 11 ?_ rfl (by as_aux_lemma => kernel_rfl) (by rfl) ?_ hHeld ?_
  rotate_left 1
  ·intro w hSw; (try dsimp only at hSw); go_simp; try (with_reducible rfl)
  (try simp only [Act.put, pA, pB, pC])
  refine rg_tk 12 ?_ rfl (by as_aux_lemma => kernel_rfl) (by rfl) ?_ hHeld ?_
  rotate_left 1
  ·intro w hSw; (try dsimp only at hSw); go_simp; try (with_reducible rfl)
  (try simp only [Act.put, pA, pB, pC])
  refine rg_only (i := 14) rfl (by as_aux_lemma => kernel_rfl) (by rfl) (fun K hK => ?_)
  refine wp_store_blk 24 4 szTerm _ _ rfl rfl rfl rfl HG.out rfl rfl rfl ?_
  intro W2 hF hs2 hBW hoth
  have HF := Lib.hid hF
  have HFB : Hid (Below W0.heap.size W0 W2) := Lib.hid (hBW _ _ HGG.out HCwc.out)
  have HOTH := Lib.hid hoth
  clear hF hBW hs2 hoth
  refine hK.out _ _ (HQ.out _ HFB.out) (fun _ => ?_)
  clear hK K hHeld
  rename_i hHeld
  (try simp only [Act.put, pA, pB, pC])
  refine rg_tk 15 ?_ rfl (by as_aux_lemma => kernel_rfl) (by rfl) ?_ hHeld ?_
  rotate_left 1
  ·intro w hSw; (try dsimp only at hSw); go_simp; try (with_reducible rfl)
  (try simp only [Act.put, pA, pB, pC])
  refine rg_done (by as_aux_lemma => kernel_rfl) ?_
  clear hHeld
  have HT2 : Hid (RT (fun b => W0.heap.size ≤ b ∧ b ≠ gg) W2 t (.agg #[.int .i64 t.kind, .int .i64 t.n, .string t.name, .slice ar t.args.length cr])) := Lib.hid (HT.out.to (fun _ h _ => h) fun b hb _ => HOTH.out b hb.2)
  have HXD2 := Lib.hid (HXD.out.step HFB.out)
  have h11 : (doerC vb self next o bad)[11]? = some (.bool bad) := by simp [doerC, List.getElem?_append, ho]
  have xb := HXD2.out.cell 11 _ h11
  have xf := HXD2.out.fr
  have hll : (doerC vb self next o bad).length = 12 := by simp [doerC, ho]
  have HX42 := Lib.hid (HX4.out.step HFB.out)
  have HLN : Hid (11 < (doerC vb self next o bad).length) := Lib.hid (by omega)
  have key : ∀ W3 : World, W3 = W2.setCell ⟨db, 11, none⟩ (.bool (bad || n != 0)) → Blk W3 db (doerC vb self next o (bad || n != 0)) ∧ Blk W3 gg [.int .i64 t.kind, .int .i64 t.n, .string t.name, .slice ar t.args.length cr] ∧ Blk W3 g4 [.int .i64 0, .int .i64 0, .string ⟨#[]⟩, .slice none 0 0] ∧ RT (fun b => W0.heap.size ≤ b ∧ b ≠ gg) W3 t (.agg #[.int .i64 t.kind, .int .i64 t.n, .string t.name, .slice ar t.args.length cr]) ∧ Keep (fun b => b = db) w W3 := fun W3 h3 => by
   have hd := HDB.out
   have hg := HGG.out
   have hs : ∀ b, b ≠ db → W3.heap[b]? = W2.heap[b]? := fun b hb => by rw [h3]; exact setCell_other W2 db 11 _ b hb
   refine ⟨?_, HF.out.heap (hs gg (by omega)), HX42.out.heap (hs g4 (by omega)), HT2.out.to (fun _ h _ => h) fun b hb _ => hs b ?_, ?_⟩
   ·have := HXD2.out.set 11 (.bool (bad || n != 0)) HLN.out
    rw [h3]
    rwa [show (doerC vb self next o bad).set 11 (.bool (bad || n != 0)) = doerC vb self next o (bad || n != 0) by
     match o, ho with
     | [_, _, _, _, _, _, _, _], _ => rfl] at this
   ·omega
   ·rw [h3]
    exact ((Keep.of HB0.out).then HFB.out).setCell _ (.inl rfl)
  have KEY := Lib.hid key
  clear key h11 hll
  cases bad
  ·go_upto_region 3 with fail
   obtain ⟨W3, hW3⟩ : ∃ W : World, W = W2.setCell ⟨db, 11, none⟩ (.bool (n != 0)) := ⟨_, rfl⟩
   have HK3 := Lib.hid (KEY.out W3 (by rw [hW3]; simp))
   rw [← hW3]
   clear hW3 xb xf
   have y0 := HK3.out.2.1.cell 0 _ rfl
   have y1 := HK3.out.2.1.cell 1 _ rfl
   have y2 := HK3.out.2.1.cell 2 _ rfl
   have y3 := HK3.out.2.1.cell 3 _ rfl
   go_wp2_with (first | (refine store_blk 24 4 szTerm _ _ rfl rfl rfl rfl rfl HK3.out.2.2.1 rfl rfl rfl ?_; intro W4 hF4 hs4 hBW4 hoth4; have HF4 := Lib.hid hF4; have HBW4 := Lib.hid hBW4; have HO4 := Lib.hid hoth4; have HS4 := Lib.hid hs4; clear hF4 hs4 hBW4 hoth4))
   have hd := HDB.out
   have hg := HGG.out
   have b4 := HBW4.out 0 W3 (Nat.zero_le _) (Below.refl _ _)
   have k3 := HK3.out.2.2.2.2
   refine bodyPost_ret (result_blk Try.results71 szTerm _ Try.underlying24 rfl rfl HF4.out rfl) rfl ⟨ar, cr, rfl, ⟨b4.os.trans k3.os, b4.tape.trans k3.tape, b4.output.trans k3.output, by have := k3.size; have := HS4.out; omega, fun k hk hn => (HO4.out k (by omega)).trans (k3.block k hk hn)⟩, HK3.out.1.heap (HO4.out db (by omega)), HK3.out.2.2.2.1.to (fun b hb _ => by show w.heap.size ≤ b; omega) fun b hb _ => HO4.out b (by omega)⟩
  ·go_upto_region 3 with fail
   obtain ⟨W3, hW3⟩ : ∃ W : World, W = W2.setCell ⟨db, 11, none⟩ (.bool true) := ⟨_, rfl⟩
   have HK3 := Lib.hid (KEY.out W3 (by rw [hW3]; simp))
   rw [← hW3]
   clear hW3 xb xf
   have y0 := HK3.out.2.1.cell 0 _ rfl
   have y1 := HK3.out.2.1.cell 1 _ rfl
   have y2 := HK3.out.2.1.cell 2 _ rfl
   have y3 := HK3.out.2.1.cell 3 _ rfl
   go_wp2_with (first | (refine store_blk 24 4 szTerm _ _ rfl rfl rfl rfl rfl HK3.out.2.2.1 rfl rfl rfl ?_; intro W4 hF4 hs4 hBW4 hoth4; have HF4 := Lib.hid hF4; have HBW4 := Lib.hid hBW4; have HO4 := Lib.hid hoth4; have HS4 := Lib.hid hs4; clear hF4 hs4 hBW4 hoth4))
   have hd := HDB.out
   have hg := HGG.out
   have b4 := HBW4.out 0 W3 (Nat.zero_le _) (Below.refl _ _)
   have k3 := HK3.out.2.2.2.2
   refine bodyPost_ret (result_blk Try.results71 szTerm _ Try.underlying24 rfl rfl HF4.out rfl) rfl ⟨ar, cr, rfl, ⟨b4.os.trans k3.os, b4.tape.trans k3.tape, b4.output.trans k3.output, by have := k3.size; have := HS4.out; omega, fun k hk hn => (HO4.out k (by omega)).trans (k3.block k hk hn)⟩, HK3.out.1.heap (HO4.out db (by omega)), HK3.out.2.2.2.1.to (fun b hb _ => by show w.heap.size ≤ b; omega) fun b hb _ => HO4.out b (by omega)⟩
end Go.Proofs.Ytedfepnekjjmnab

/-
 A doer: pid. Conditions: it lies as said; the term and what is bound are small.
-/
namespace Go.Proofs.Ytedfepnekjjmnab
open Go.RowKit
set_option linter.unusedSimpArgs false
set_option linter.unusedVariables false
set_option maxRecDepth 100000

/-- What pid answers. -/
def DPidP (w : World) (db : Nat) (vb : Value) (self next : Int) (o : List Value) (bad : Bool) (r : T × Int) (e : Ending) (w' : World) : Prop :=
 e = .returned (.int .i64 r.1.n) ∧ Keep (fun b => b = db) w w' ∧ Blk w' db (doerC vb self next o ((bad || r.2 != 0) || r.1.kind != 3))
theorem doerC_set (vb : Value) (self next : Int) (o : List Value) (ho : o.length = 8) (b b' : Bool) : (doerC vb self next o b).set 11 (.bool b') = doerC vb self next o b' := by
 match o, ho with
 | [_, _, _, _, _, _, _, _], _ => rfl
theorem doerC_get (vb : Value) (self next : Int) (o : List Value) (ho : o.length = 8) (b : Bool) : (doerC vb self next o b)[11]? = some (.bool b) := by
 match o, ho with
 | [_, _, _, _, _, _, _, _], _ => rfl
set_option maxHeartbeats 4000000 in
theorem dpid_c (db : Nat) (vb : Value) (self next : Int) (o : List Value) (ho : o.length = 8) (bad : Bool) (bd : List T) (x : T) (S : Nat → Prop) (w : World) (v : Value) (hX : Blk w db (doerC vb self next o bad)) (hv : RT S w x v) (hb : RSl S w bd vb) (hS : ∀ b, S b → b < w.heap.size ∧ b ≠ db) (hbk : bulkL [x] + bulkL bd ≤ 2000000) :
  Calls Try.prog 100 #[.pointer (some ⟨db, 0, none⟩), v] w (DPidP w db vb self next o bad (reckO bd self x)) := by
 obtain ⟨ax, cx, rfl, hcap, hrt⟩ := hv
 obtain ⟨W0, hW0⟩ : ∃ W : World, W = w.alloc (.cells #[.int .i64 x.kind, .int .i64 x.n, .string x.name, .slice ax x.args.length cx] 24) := ⟨_, rfl⟩
 obtain ⟨g3, hg3⟩ : ∃ g, g = w.heap.size := ⟨_, rfl⟩
 have HB0 : Hid (Below w.heap.size w W0) := Lib.hid (by rw [hW0]; exact below_alloc _ _)
 have HX3 : Hid (Blk W0 g3 [.int .i64 x.kind, .int .i64 x.n, .string x.name, .slice ax x.args.length cx]) := Lib.hid (by rw [hW0]; exact Blk.new _ _ _ _ hg3)
 have hs0 : W0.heap.size = w.heap.size + 1 := by rw [hW0]; simp
 have HXD : Hid (Blk W0 db (doerC vb self next o bad)) := Lib.hid (hX.step HB0.out)
 have HTX : Hid (RT S W0 x (.agg #[.int .i64 x.kind, .int .i64 x.n, .string x.name, .slice ax x.args.length cx])) := Lib.hid (RT.below ⟨ax, cx, rfl, hcap, hrt⟩ HB0.out)
 have HBD : Hid (RSl S W0 bd vb) := Lib.hid (hb.to (fun _ h _ => h) fun b hb hl => HB0.out.block b hl)
 have HSS : Hid (∀ b, S b → b < w.heap.size ∧ b ≠ db) := Lib.hid hS
 have HDB : Hid (db < w.heap.size ∧ W0.heap.size = w.heap.size + 1) := Lib.hid ⟨hX.lt, hs0⟩
 obtain ⟨⟨t, n⟩, hr⟩ : ∃ r, r = reckO bd self x := ⟨_, rfl⟩
 have HRO := Lib.hid hr
 have x0 := HX3.out.cell 0 _ rfl
 have x1 := HX3.out.cell 1 _ rfl
 have x2 := HX3.out.cell 2 _ rfl
 have x3 := HX3.out.cell 3 _ rfl
 rw [← hr]
 clear hX hcap hrt hb hS hr
 go_enter Try.func100, Try.ntmps100
 go_upto_region 1 with fail
 rw [← hW0, ← hg3]
 clear hW0 hg3 hs0
 go_wp2_with fail
 refine (dval_c db vb self next o ho bad bd x S W0 _ HXD.out HTX.out HBD.out (fun b hb => ⟨by have := HSS.out b hb; have := HDB.out; omega, (HSS.out b hb).2⟩) hbk).mono ?_
 rintro e W1 hP
 rw [← HRO.out] at hP
 obtain ⟨at', ct, rfl, hK, hXd, hT⟩ := hP
 obtain ⟨b1, hb1⟩ : ∃ b1, b1 = (bad || n != 0) := ⟨_, rfl⟩
 have hXd : Blk W1 db (doerC vb self next o (bad || n != 0)) := hXd
 rw [← hb1] at hXd
 have HB1 := Lib.hid hb1
 have HXd := Lib.hid hXd; have HK := Lib.hid hK
 clear hK hXd hT x0 x1 x2 x3 hb1
 go_upto_region 2 with fail
 obtain ⟨W2, hW2⟩ : ∃ W : World, W = W1.alloc (.cells #[.int .i64 t.kind, .int .i64 t.n, .string t.name, .slice at' t.args.length ct] 24) := ⟨_, rfl⟩
 obtain ⟨g5, hg5⟩ : ∃ g, g = W1.heap.size := ⟨_, rfl⟩
 have HX5 : Hid (Blk W2 g5 [.int .i64 t.kind, .int .i64 t.n, .string t.name, .slice at' t.args.length ct]) := Lib.hid (by rw [hW2]; exact Blk.new _ _ _ _ hg5)
 have HXD2 : Hid (Blk W2 db (doerC vb self next o b1)) := Lib.hid (by rw [hW2]; exact HXd.out.alloc _)
 have HK2 : Hid (Keep (fun b => b = db) w W2) := Lib.hid (by rw [hW2]; exact (((Keep.of HB0.out).trans (HK.out.mono fun _ _ h => h)).alloc _))
 have HG5 : Hid (g5 ≠ db) := Lib.hid (by have := HXd.out.lt; omega)
 rw [← hW2, ← hg5]
 clear hW2 hg5
 have xb := HXD2.out.cell 11 _ (doerC_get vb self next o ho b1)
 have xf := HXD2.out.fr
 have y0 := HX5.out.cell 0 _ rfl
 have key : ∀ (W3 : World) (b2 : Bool), W3 = W2.setCell ⟨db, 11, none⟩ (.bool b2) → Blk W3 db (doerC vb self next o b2) ∧ Blk W3 g5 [.int .i64 t.kind, .int .i64 t.n, .string t.name, .slice at' t.args.length ct] ∧ Keep (fun b => b = db) w W3 := fun W3 b2 h3 => by
  subst h3
  refine ⟨?_, HX5.out.heap (setCell_other W2 db 11 _ g5 HG5.out), HK2.out.setCell _ (.inl rfl)⟩
  have := HXD2.out.set 11 (.bool b2) (by simp [doerC, ho])
  rwa [doerC_set vb self next o ho] at this
 have KEY := Lib.hid key
 clear key
 cases b1
 ·go_upto_region 3 with fail
  obtain ⟨W3, hW3⟩ : ∃ W : World, W = W2.setCell ⟨db, 11, none⟩ (.bool (t.kind != 3)) := ⟨_, rfl⟩
  have HK3 := Lib.hid (KEY.out W3 _ hW3)
  rw [← hW3]
  have z1 := HK3.out.2.1.cell 1 _ rfl
  clear hW3 xb xf y0
  go_wp2_with fail
  go_ret
  refine ⟨rfl, HK3.out.2.2, ?_⟩
  rw [← HB1.out]
  exact HK3.out.1
 ·go_upto_region 3 with fail
  obtain ⟨W3, hW3⟩ : ∃ W : World, W = W2.setCell ⟨db, 11, none⟩ (.bool true) := ⟨_, rfl⟩
  have HK3 := Lib.hid (KEY.out W3 _ hW3)
  rw [← hW3]
  have z1 := HK3.out.2.1.cell 1 _ rfl
  clear hW3 xb xf y0
  go_wp2_with fail
  go_ret
  refine ⟨rfl, HK3.out.2.2, ?_⟩
  rw [← HB1.out]
  exact HK3.out.1
end Go.Proofs.Ytedfepnekjjmnab

/-
 A process: State, put. Conditions: it lies as PrR says; few names, few words.
-/
namespace Go.Proofs.Ytedfepnekjjmnab
open Go.RowKit
set_option linter.unusedSimpArgs false
set_option linter.unusedVariables false
set_option maxRecDepth 100000

/-- What putting a term answers, where the terms of us stand. -/
def pputE (room : Int) (us : List T) (t : T) : Int := if putE t ≠ 0 then putE t else if room < (szL us : Int) + szL [t] then 6 else 0
theorem checkE_6 (t : T) : checkE t ≠ 6 := by
 unfold checkE
 split
 ·split <;> decide
 ·decide
theorem putE_6 (t : T) : putE t ≠ 6 := by
 unfold putE
 split
 ·exact checkE_6 t
 ·split <;> decide
theorem putHO_e {room : Int} {H : HS} {t : T} (h : putE t ≠ 0) : putHO room H t = (⟨0, 0⟩, putE t, H) := by
 unfold putE at h ⊢
 by_cases h0 : checkE t ≠ 0
 ·rw [if_pos h0] at h ⊢
  exact putHO_check h0
 ·rw [if_neg h0] at h ⊢
  by_cases h1 : closedL [t] = false
  ·rw [if_pos h1]
   exact putHO_form (by simpa using h0) h1
  ·rw [if_neg h1] at h
   exact absurd rfl h
theorem putE_yes {t : T} (h : putE t = 0) : checkE t = 0 ∧ closedL [t] = true := by
 unfold putE at h
 by_cases h0 : checkE t ≠ 0
 ·rw [if_pos h0] at h
  exact absurd h h0
 ·rw [if_neg h0] at h
  by_cases h1 : closedL [t] = false
  ·rw [if_pos h1] at h
   exact absurd h (by decide)
  ·exact ⟨by simpa using h0, by simpa using h1⟩
/-- What a put into a heap makes of it. -/
theorem PH.putHO {room : Int} {H : HS} {L : TW} (h : PH room H L) (t : T) : ((putHO room H t).2.1 = 6 ∧ (putHO room H t).2.2 = H ∧ putE t = 0 ∧ room < H.ws.length + szL [t]) ∨
  ((putHO room H t).2.1 = pputE room (tmsL L) t ∧ (putHO room H t).2.1 ≠ 0 ∧ (putHO room H t).2.1 ≠ 6 ∧ (putHO room H t).2.2 = H) ∨
  ((putHO room H t).2.1 = 0 ∧ pputE room (tmsL L) t = 0 ∧ PH room (putHO room H t).2.2 (L ++ [(t, (putHO room H t).1)]) ∧ (putHO room H t).2.2.names.length ≤ H.names.length + bulkL [t]) := by
 by_cases h0 : putE t = 0
 ·obtain ⟨h1, h2⟩ := putE_yes h0
  by_cases h3 : room < H.ws.length + szL [t]
  ·rw [putHO_full h1 h2 h3]
   exact .inl ⟨rfl, rfl, h0, h3⟩
  ·rw [putHO_ok h1 h2 h3]
   have := h.le
   refine .inr (.inr ⟨rfl, ?_, h.put h1 h2 h3, (putW_len H t).2⟩)
   unfold pputE
   rw [if_neg (by simp [h0]), if_neg (by omega)]
 ·rw [putHO_e h0]
  refine .inr (.inl ⟨?_, h0, putE_6 t, rfl⟩)
  unfold pputE
  rw [if_pos h0]
set_option maxHeartbeats 1000000 in
theorem pstate_c (G : Nat → Prop) (w : World) (pb : Nat) (name : ByteArray) (room : Int) (nb u : Nat) (t : T) (x : Wrd) (L Z : TW) (h : PrR G w pb name room nb u ((t, x) :: L) Z) (hl : L.length ≤ 900) (hr : room ≤ 1000) (hn : nb ≤ 137438953472) :
  Calls Try.prog 39 #[.pointer (some ⟨pb, 0, none⟩)] w fun e w' => ∃ ar cr, e = .returned (.agg #[.int .i64 t.kind, .int .i64 t.n, .string t.name, .slice ar t.args.length cr]) ∧ Below w.heap.size w w' ∧ RT (fun b => w.heap.size ≤ b) w' t (.agg #[.int .i64 t.kind, .int .i64 t.n, .string t.name, .slice ar t.args.length cr]) := by
 obtain ⟨W0, hW0⟩ : ∃ W : World, W = w.alloc (.cells #[.int .i64 0, .int .i64 0, .string ⟨#[]⟩, .slice none 0 0] 24) := ⟨_, rfl⟩
 obtain ⟨g2, hg2⟩ : ∃ g, g = w.heap.size := ⟨_, rfl⟩
 have HB0 : Hid (Below w.heap.size w W0) := Lib.hid (by rw [hW0]; exact below_alloc _ _)
 have HX2 : Hid (Blk W0 g2 [.int .i64 0, .int .i64 0, .string ⟨#[]⟩, .slice none 0 0]) := Lib.hid (by rw [hW0]; exact Blk.new _ _ _ _ hg2)
 have hs0 : w.heap.size < W0.heap.size := by rw [hW0]; simp
 have HH := Lib.hid (h.below HB0.out)
 clear h
 go_enter Try.func39, Try.ntmps39
 go_upto_region 1 with fail
 rw [← hW0, ← hg2]
 have HG2 := Lib.hid hg2
 clear hW0 hg2
 go_wp2_with fail
 refine (pget_c G W0 pb name room nb u ((t, x) :: L) Z HH.out 0 (by simp) (by simp; omega) hr hn).mono ?_
 rintro e w1 ⟨ar, cr, rfl, hB, hT⟩
 have HT : Hid (RT (fun b => W0.heap.size ≤ b) w1 t (.agg #[.int .i64 t.kind, .int .i64 t.n, .string t.name, .slice ar t.args.length cr])) := Lib.hid hT
 have HB := Lib.hid hB
 clear hB hT
 simp only [List.getElem_cons_zero]
 go_wp2_with (first | (refine store_blk 24 4 szTerm _ _ rfl rfl rfl rfl rfl (HX2.out.step HB.out) rfl rfl rfl ?_; intro W3 hF3 hs3 hBW3 hoth3; have HF3 := Lib.hid hF3; have HBW3 := Lib.hid hBW3; have HO3 := Lib.hid hoth3; clear hF3 hs3 hBW3 hoth3))
 refine bodyPost_ret (result_blk Try.results39 szTerm _ Try.underlying24 rfl rfl HF3.out rfl) rfl ⟨ar, cr, rfl, HBW3.out _ _ (by have := HG2.out; omega) (HB0.out.trans (HB.out.mono (by omega))), ?_⟩
 exact HT.out.to (fun b hb _ => by omega) fun b hb _ => HO3.out b (by have := HG2.out; omega)
/-- What a call of the heap's Put has left: a word in a variable, the heap. -/
def PutCut (F : Nat → Prop) (W0 : World) (B : Nat) (room : Int) (H : HS) (t : T) (s6 s7 : Value) (wx : World) : Prop :=
 ∃ gg, s6 = .pointer (some ⟨gg, 0, none⟩) ∧ s7 = .int .i64 (putHO room H t).2.1 ∧ Keep F W0 wx ∧ W0.heap.size ≤ gg ∧ Blk wx gg [.int .i64 (putHO room H t).1.kind, .int .i64 (putHO room H t).1.n] ∧
  ∃ F1 : Nat → Prop, HeapR F1 wx B room (putHO room H t).2.2 ∧ ∀ b, F1 b → (F b ∨ W0.heap.size ≤ b) ∧ b ≠ gg ∧ b < wx.heap.size
/-- What put answers. -/
def PPutP (G : Nat → Prop) (w : World) (pb : Nat) (name : ByteArray) (room : Int) (nb : Nat) (L : TW) (t : T) (e : Ending) (w' : World) : Prop :=
 Keep G w w' ∧ ∃ (y : Wrd) (L' : TW) (u' : Nat), e = .returned (.tuple #[.agg #[.int .i64 y.kind, .int .i64 y.n], .int .i64 (pputE room (tmsL L) t)]) ∧ tmsL L' = tmsL L ∧
  (pputE room (tmsL L) t = 0 → PrR (fun b => G b ∨ w.heap.size ≤ b) w' pb name room (nb + bulkL [t]) u' L' [(t, y)]) ∧ (pputE room (tmsL L) t ≠ 0 → PrR (fun b => G b ∨ w.heap.size ≤ b) w' pb name room nb u' L' [])
set_option maxHeartbeats 4000000 in
theorem pput_c (G : Nat → Prop) (w : World) (pb : Nat) (name : ByteArray) (room : Int) (nb u : Nat) (L : TW) (t : T) (S : Nat → Prop) (v : Value) (h : PrR G w pb name room nb u L []) (hv : RT S w t v) (hS : ∀ b, S b → b < w.heap.size ∧ ¬ G b) (hbt : bulkL [t] ≤ 4294967296) (hl : L.length ≤ 1000) (hr : room ≤ 1000) (hn : nb ≤ 4294967296) :
  Calls Try.prog 64 #[.pointer (some ⟨pb, 0, none⟩), v] w (PPutP G w pb name room nb L t) := by
 obtain ⟨F, B, H, vw, hV, hnb, rfl, hG⟩ := h
 obtain ⟨a, cap, rfl, hcap, hrt⟩ := hv
 obtain ⟨W0, hW0⟩ : ∃ W : World, W = (w.alloc (.cells #[.int .i64 t.kind, .int .i64 t.n, .string t.name, .slice a t.args.length cap] 24)).alloc (.cells #[.int .i64 0, .int .i64 0] 31) := ⟨_, rfl⟩
 obtain ⟨g3, hg3⟩ : ∃ g, g = w.heap.size := ⟨_, rfl⟩
 obtain ⟨g4, hg4⟩ : ∃ g, g = w.heap.size + 1 := ⟨_, rfl⟩
 have HB0 : Hid (Below w.heap.size w W0) := Lib.hid (by rw [hW0]; exact (below_alloc _ _).trans ((below_alloc _ _).mono (by simp)))
 have HX3 : Hid (Blk W0 g3 [.int .i64 t.kind, .int .i64 t.n, .string t.name, .slice a t.args.length cap]) := Lib.hid (by rw [hW0, hg3]; exact (Blk.new _ _ _ _ rfl).alloc _)
 have HX4 : Hid (Blk W0 g4 [.int .i64 0, .int .i64 0]) := Lib.hid (by rw [hW0]; exact Blk.new _ _ _ _ (by rw [hg4]; simp))
 have hs0 : W0.heap.size = w.heap.size + 2 := by rw [hW0]; simp
 have HV0 := Lib.hid (hV.below HB0.out)
 have HT0 : Hid (RT S W0 t (.agg #[.int .i64 t.kind, .int .i64 t.n, .string t.name, .slice a t.args.length cap])) := Lib.hid (RT.below ⟨a, cap, rfl, hcap, hrt⟩ HB0.out)
 have HS0 : Hid (∀ b, S b → b < W0.heap.size ∧ ¬ F b) := Lib.hid fun b hb => ⟨by have := (hS b hb).1; omega, fun hf => (hS b hb).2 (hG.1 b hf)⟩
 have HS1 : Hid (∀ b, S b → b < w.heap.size ∧ ¬ G b) := Lib.hid hS
 have HQ : Hid (∀ w', Keep F W0 w' → w'.cell? ⟨pb, 1, none⟩ = some (.pointer (some ⟨B, 0, none⟩)) ∧ w'.cell? ⟨g3, 0, none⟩ = some (.int .i64 t.kind) ∧ w'.cell? ⟨g3, 1, none⟩ = some (.int .i64 t.n) ∧ w'.cell? ⟨g3, 2, none⟩ = some (.string t.name) ∧ w'.cell? ⟨g3, 3, none⟩ = some (.slice a t.args.length cap)) := Lib.hid fun w' hK => by
  have e1 := hK.block pb HV0.out.blk.lt HV0.out.fp
  have e3 := hK.block g3 HX3.out.lt fun hf => by have := hV.fl g3 hf; omega
  exact ⟨(HV0.out.blk.heap e1).cell 1 _ rfl, (HX3.out.heap e3).cell 0 _ rfl, (HX3.out.heap e3).cell 1 _ rfl, (HX3.out.heap e3).cell 2 _ rfl, (HX3.out.heap e3).cell 3 _ rfl⟩
 have HG := Lib.hid hG; have HVO := Lib.hid hV
 have HG3 : Hid (g3 = w.heap.size ∧ g4 = w.heap.size + 1 ∧ W0.heap.size = w.heap.size + 2) := Lib.hid ⟨hg3, hg4, hs0⟩
 clear hV hcap hrt hS hG
 go_enter Try.func64, Try.ntmps64
 go_upto_region 1 with fail
 rw [← hW0, ← hg4, ← hg3]
 clear hW0 hg3 hg4 hs0
 go_cut [6, 7] (fun s6 s7 wx => PutCut F W0 B room H t s6 s7 wx)
 case first =>
  refine rg_start (fun w' => w'.cell? ⟨pb, 1, none⟩ = some (.pointer (some ⟨B, 0, none⟩)) ∧ w'.cell? ⟨g3, 0, none⟩ = some (.int .i64 t.kind) ∧ w'.cell? ⟨g3, 1, none⟩ = some (.int .i64 t.n) ∧ w'.cell? ⟨g3, 2, none⟩ = some (.string t.name) ∧ w'.cell? ⟨g3, 3, none⟩ = some (.slice a t.args.length cap)) (by as_aux_lemma => kernel_rfl) (fun Wd h => HQ.out _ (Keep.of h)) ?_
  intro Wd hB hWd hWd' hHeld
  have HCWd := Lib.hid hB
  clear hB
  refine rg_tk 0 ?_ rfl (by as_aux_lemma => kernel_rfl) (by rfl) ?_ hHeld ?_
  rotate_left 1
  ·intro w hSw; (try dsimp only at hSw); go_simp; try (with_reducible rfl)
  (try simp only [Act.put, pA, pB, pC])
  refine rg_tk 1 ?_ rfl (by as_aux_lemma => kernel_rfl) (by rfl) ?_ hHeld ?_
  rotate_left 1
  ·intro w hSw; (try dsimp only at hSw); go_simp; try (with_reducible rfl)
  (try simp only [Act.put, pA, pB, pC])
  refine rg_tk 2 ?_ rfl (by as_aux_lemma => kernel_rfl) (by rfl) ?_ hHeld ?_
  rotate_left 1
  ·intro w hSw; (try dsimp only at hSw); go_simp; try (with_reducible rfl)
  (try simp only [Act.put, pA, pB, pC])
  refine rg_tk 3 ?_ rfl (by as_aux_lemma => kernel_rfl) (by rfl) ?_ hHeld ?_
  rotate_left 1
  ·intro w hSw; (try dsimp only at hSw); go_simp; try (with_reducible rfl)
  (try simp only [Act.put, pA, pB, pC])
  refine rg_tk 4 ?_ rfl (by as_aux_lemma => kernel_rfl) (by rfl) ?_ hHeld ?_
  rotate_left 1
  ·intro w hSw; (try dsimp only at hSw); go_simp; try (with_reducible rfl)
  (try simp only [Act.put, pA, pB, pC])
  refine rg_two (i := 5) (j := 9) rfl rfl (by as_aux_lemma => kernel_rfl) (by rfl) (by rfl) (fun K hK => ?_) (fun K hK => ?_)
  ·skip
   go_simp
   go_at_call 9
   refine (hPut_c t F S Wd B room H _ (HV0.out.below HCWd.out).hp (HT0.out.below HCWd.out) (fun b hb => ⟨by have := HS0.out b hb; have := HCWd.out.size; omega, (HS0.out b hb).2⟩) (by omega) (by have := HV0.out.ph.rm; omega) (by omega)).mono ?_
   rintro e wc ⟨rfl, hK, hH⟩
   have HK : Hid (Keep F Wd wc) := Lib.hid hK
   have HH1 : Hid (HeapR (fun b => F b ∨ Wd.heap.size ≤ b) wc B room (putHO room H t).2.2) := Lib.hid hH
   have HKc : Hid (Keep F W0 wc) := Lib.hid ((Keep.of HCWd.out).trans hK)
   clear hK hH
   refine hK.out _ _ (HQ.out _ HKc.out) (fun _ => ?_)
   clear hK K hHeld
   rename_i hHeld
   (try simp only [Act.put, pA, pB, pC])
   refine rg_tk 6 ?_ rfl (by as_aux_lemma => kernel_rfl) (by rfl) ?_ hHeld ?_
   rotate_left 1
   ·intro w hSw; (try dsimp only at hSw); go_simp; try (with_reducible rfl)
   (try simp only [Act.put, pA, pB, pC])
   refine rg_tk 7 ?_ rfl (by as_aux_lemma => kernel_rfl) (by rfl) ?_ hHeld ?_
   rotate_left 1
   ·intro w hSw; (try dsimp only at hSw); go_simp; try (with_reducible rfl)
   (try simp only [Act.put, pA, pB, pC])
   refine rg_tk 8 ?_ rfl (by as_aux_lemma => kernel_rfl) (by rfl) ?_ hHeld ?_
   rotate_left 1
   ·intro w hSw; (try dsimp only at hSw); go_simp; try (with_reducible rfl)
   (try simp only [Act.put, pA, pB, pC])
   refine rg_only (i := 9) rfl (by as_aux_lemma => kernel_rfl) (by rfl) (fun K hK => ?_)
   go_simp
   obtain ⟨wg, hwg⟩ : ∃ W : World, W = wc.alloc (.cells #[.int .i64 0, .int .i64 0] 31) := ⟨_, rfl⟩
   obtain ⟨gg, hgg⟩ : ∃ g, g = wc.heap.size := ⟨_, rfl⟩
   have HG : Hid (Blk wg gg [.int .i64 0, .int .i64 0]) := Lib.hid (by rw [hwg]; exact Blk.new _ _ _ _ hgg)
   have hB : Below wc.heap.size wc wg := by rw [hwg]; exact below_alloc _ _
   have HGG : Hid (W0.heap.size ≤ gg) := Lib.hid (by have := HKc.out.size; omega)
   have HF1 : Hid (∃ F1 : Nat → Prop, HeapR F1 wg B room (putHO room H t).2.2 ∧ ∀ b, F1 b → (F b ∨ W0.heap.size ≤ b) ∧ b ≠ gg ∧ b < wg.heap.size) := Lib.hid ⟨_, HH1.out.low.below hB, fun b hb => ⟨hb.1.imp id fun h => by have := HCWd.out.size; omega, by omega, by have := hB.size; omega⟩⟩
   have HKg : Hid (Keep F W0 wg) := Lib.hid (HKc.out.then hB)
   rw [← hwg, ← hgg]
   clear hwg hgg hB
   refine hK.out _ _ (HQ.out _ HKg.out) (fun _ => ?_)
   clear hK K hHeld
   rename_i hHeld
   (try simp only [Act.put, pA, pB, pC])
   refine rg_only (i := 10) rfl (by as_aux_lemma => kernel_rfl) (by rfl) (fun K hK => ?_)
   refine wp_store_blk 31 2 szWord _ _ rfl rfl rfl rfl HG.out rfl rfl rfl ?_
   intro W2 hF hs2 hBW hoth
   have HFW := Lib.hid hF
   have HK2 : Hid (Keep F W0 W2) := Lib.hid ⟨(hBW 0 _ (Nat.zero_le _) (Below.refl _ _)).os.trans HKg.out.os, (hBW 0 _ (Nat.zero_le _) (Below.refl _ _)).tape.trans HKg.out.tape, (hBW 0 _ (Nat.zero_le _) (Below.refl _ _)).output.trans HKg.out.output, by rw [hs2]; exact HKg.out.size, fun k hk hn => (hoth k (by have := HGG.out; omega)).trans (HKg.out.block k hk hn)⟩
   have HF2 : Hid (∃ F1 : Nat → Prop, HeapR F1 W2 B room (putHO room H t).2.2 ∧ ∀ b, F1 b → (F b ∨ W0.heap.size ≤ b) ∧ b ≠ gg ∧ b < W2.heap.size) := Lib.hid (by
    obtain ⟨F1, h1, h2⟩ := HF1.out
    exact ⟨F1, h1.to (by omega) (fun _ h => h) fun b hb _ => hoth b (h2 b hb).2.1, fun b hb => ⟨(h2 b hb).1, (h2 b hb).2.1, by have := (h2 b hb).2.2; omega⟩⟩)
   clear hF hBW hs2 hoth
   refine hK.out _ _ (HQ.out _ HK2.out) (fun _ => ?_)
   clear hK K hHeld
   rename_i hHeld
   (try simp only [Act.put, pA, pB, pC])
   refine rg_tk 11 ?_ rfl (by as_aux_lemma => kernel_rfl) (by rfl) ?_ hHeld ?_
   rotate_left 1
   ·intro w hSw; (try dsimp only at hSw); go_simp; try (with_reducible rfl)
   (try simp only [Act.put, pA, pB, pC])
   refine rg_done (by as_aux_lemma => kernel_rfl) ?_
   clear hHeld
   go_wp2_with fail
   go_meet
   exact ⟨gg, rfl, rfl, HK2.out, HGG.out, HFW.out, HF2.out⟩
  ·skip
   go_simp
   obtain ⟨wg, hwg⟩ : ∃ W : World, W = Wd.alloc (.cells #[.int .i64 0, .int .i64 0] 31) := ⟨_, rfl⟩
   obtain ⟨gg, hgg⟩ : ∃ g, g = Wd.heap.size := ⟨_, rfl⟩
   have HG : Hid (Blk wg gg [.int .i64 0, .int .i64 0]) := Lib.hid (by rw [hwg]; exact Blk.new _ _ _ _ hgg)
   have hB : Below Wd.heap.size Wd wg := by rw [hwg]; exact below_alloc _ _
   have HGG : Hid (W0.heap.size ≤ gg) := Lib.hid (by have := HCWd.out.size; omega)
   have HCwg : Hid (Below W0.heap.size W0 wg) := Lib.hid (below_step HCWd.out HCWd.out.size hB)
   rw [← hwg, ← hgg]
   clear hwg hgg hB
   refine hK.out _ _ (HQ.out _ (Keep.of HCwg.out)) (fun _ => ?_)
   clear hK K hHeld
   rename_i hHeld
   (try simp only [Act.put, pA, pB, pC])
   refine rg_only (i := 5) rfl (by as_aux_lemma => kernel_rfl) (by rfl) (fun K hK => ?_)
   go_simp
   go_at_call 9
   refine (hPut_c t F S wg B room H _ (HV0.out.below HCwg.out).hp (HT0.out.below HCwg.out) (fun b hb => ⟨by have := HS0.out b hb; have := HCwg.out.size; omega, (HS0.out b hb).2⟩) (by omega) (by have := HV0.out.ph.rm; omega) (by omega)).mono ?_
   rintro e wc ⟨rfl, hK, hH⟩
   have HK : Hid (Keep F wg wc) := Lib.hid hK
   have HH1 : Hid (HeapR (fun b => F b ∨ wg.heap.size ≤ b) wc B room (putHO room H t).2.2) := Lib.hid hH
   have HKc : Hid (Keep F W0 wc) := Lib.hid ((Keep.of HCwg.out).trans hK)
   have HGL : Hid (gg < wg.heap.size) := Lib.hid HG.out.lt
   have HG := Lib.hid (HG.out.heap (hK.block gg HG.out.lt (fun hf => by have := HV0.out.fl gg hf; have := HGG.out; omega)))
   clear hK hH
   refine hK.out _ _ (HQ.out _ HKc.out) (fun _ => ?_)
   clear hK K hHeld
   rename_i hHeld
   (try simp only [Act.put, pA, pB, pC])
   refine rg_tk 6 ?_ rfl (by as_aux_lemma => kernel_rfl) (by rfl) ?_ hHeld ?_
   rotate_left 1
   ·intro w hSw; (try dsimp only at hSw); go_simp; try (with_reducible rfl)
   (try simp only [Act.put, pA, pB, pC])
   refine rg_tk 7 ?_ rfl (by as_aux_lemma => kernel_rfl) (by rfl) ?_ hHeld ?_
   rotate_left 1
   ·intro w hSw; (try dsimp only at hSw); go_simp; try (with_reducible rfl)
   (try simp only [Act.put, pA, pB, pC])
   refine rg_tk 8 ?_ rfl (by as_aux_lemma => kernel_rfl) (by rfl) ?_ hHeld ?_
   rotate_left 1
   ·intro w hSw; (try dsimp only at hSw); go_simp; try (with_reducible rfl)
   (try simp only [Act.put, pA, pB, pC])
   refine rg_only (i := 10) rfl (by as_aux_lemma => kernel_rfl) (by rfl) (fun K hK => ?_)
   have HF1 : Hid (∃ F1 : Nat → Prop, HeapR F1 wc B room (putHO room H t).2.2 ∧ ∀ b, F1 b → (F b ∨ W0.heap.size ≤ b) ∧ b ≠ gg ∧ b < wc.heap.size) := Lib.hid ⟨_, HH1.out.low, fun b hb => ⟨hb.1.imp id fun h => by have := HCwg.out.size; omega, fun e => by
    subst e
    rcases hb.1 with h1 | h1
    ·have := HV0.out.fl _ h1; have := HGG.out; omega
    ·have := HGL.out; omega, hb.2⟩⟩
   have HKg := HKc
   refine wp_store_blk 31 2 szWord _ _ rfl rfl rfl rfl HG.out rfl rfl rfl ?_
   intro W2 hF hs2 hBW hoth
   have HFW := Lib.hid hF
   have HK2 : Hid (Keep F W0 W2) := Lib.hid ⟨(hBW 0 _ (Nat.zero_le _) (Below.refl _ _)).os.trans HKg.out.os, (hBW 0 _ (Nat.zero_le _) (Below.refl _ _)).tape.trans HKg.out.tape, (hBW 0 _ (Nat.zero_le _) (Below.refl _ _)).output.trans HKg.out.output, by rw [hs2]; exact HKg.out.size, fun k hk hn => (hoth k (by have := HGG.out; omega)).trans (HKg.out.block k hk hn)⟩
   have HF2 : Hid (∃ F1 : Nat → Prop, HeapR F1 W2 B room (putHO room H t).2.2 ∧ ∀ b, F1 b → (F b ∨ W0.heap.size ≤ b) ∧ b ≠ gg ∧ b < W2.heap.size) := Lib.hid (by
    obtain ⟨F1, h1, h2⟩ := HF1.out
    exact ⟨F1, h1.to (by omega) (fun _ h => h) fun b hb _ => hoth b (h2 b hb).2.1, fun b hb => ⟨(h2 b hb).1, (h2 b hb).2.1, by have := (h2 b hb).2.2; omega⟩⟩)
   clear hF hBW hs2 hoth
   refine hK.out _ _ (HQ.out _ HK2.out) (fun _ => ?_)
   clear hK K hHeld
   rename_i hHeld
   (try simp only [Act.put, pA, pB, pC])
   refine rg_tk 11 ?_ rfl (by as_aux_lemma => kernel_rfl) (by rfl) ?_ hHeld ?_
   rotate_left 1
   ·intro w hSw; (try dsimp only at hSw); go_simp; try (with_reducible rfl)
   (try simp only [Act.put, pA, pB, pC])
   refine rg_done (by as_aux_lemma => kernel_rfl) ?_
   clear hHeld
   go_wp2_with fail
   go_meet
   exact ⟨gg, rfl, rfl, HK2.out, HGG.out, HFW.out, HF2.out⟩
 case rest =>
  obtain ⟨gg, rfl, rfl, hK, hgg, hX, F1, hH1, hF1⟩ := hcut
  have HKX := Lib.hid hK; have HGG := Lib.hid hgg; have HXG := Lib.hid hX; have HH1 := Lib.hid hH1; have HF1 := Lib.hid hF1
  have HPH : Hid (PH room H L) := Lib.hid (by have := HVO.out.ph; rwa [List.append_nil] at this)
  have HX4w : Hid (Blk wc g4 [.int .i64 0, .int .i64 0]) := Lib.hid (HX4.out.heap (hK.block g4 HX4.out.lt fun hf => by have := HVO.out.fl g4 hf; have := HG3.out; omega))
  have HKW : Hid (Keep F w wc) := Lib.hid ((Keep.of HB0.out).trans (hK.mono fun _ _ h => h))
  have x0 := HXG.out.cell 0 _ rfl
  have x1 := HXG.out.cell 1 _ rfl
  clear hK hgg hX hH1 hF1
  rcases HPH.out.putHO t with ⟨e6, eH, ep, hfull⟩ | hrest
  ·have qe : ((putHO room H t).2.1 == 6) = true := by rw [e6]; rfl
   have EP := Lib.hid ep
   have hsw := HKW.out.size
   have hsx := HKX.out.size
   have hg3 := HG3.out
   have hPR : PrR (fun b => (G b ∨ w.heap.size ≤ b) ∧ b ≠ gg ∧ b ≠ g3 ∧ b ≠ g4) wc pb name room nb H.ws.length L [] := by
    have hgg := HGG.out
    have hp := HVO.out.blk.lt
    refine ⟨F1, B, H, vw, HVO.out.after hsw (fun b hb hn => HKW.out.block b hb hn) (by have := HH1.out; rwa [eH] at this) (fun b hb => ⟨(HF1.out b hb).1.imp id fun h => by omega, (HF1.out b hb).2.2⟩) HVO.out.ph rfl, hnb, rfl, fun b hb => ⟨(HF1.out b hb).1.imp (HG.out.1 b) fun h => by omega, (HF1.out b hb).2.1, ?_⟩, ⟨.inl HG.out.2.1, by omega, by omega, by omega⟩, fun b hb => ⟨.inl (HG.out.2.2 b hb), by have := (HVO.out.ow.block b hb).2; omega, by have := (HVO.out.ow.block b hb).2; omega, by have := (HVO.out.ow.block b hb).2; omega⟩⟩
    rcases (HF1.out b hb).1 with h1 | h1
    ·have := HVO.out.fl b h1; omega
    ·omega
   obtain ⟨G1, hG1⟩ : ∃ G1 : Nat → Prop, G1 = fun b => (G b ∨ w.heap.size ≤ b) ∧ b ≠ gg ∧ b ≠ g3 ∧ b ≠ g4 := ⟨_, rfl⟩
   rw [← hG1] at hPR
   have HG1 : Hid (∀ b, G1 b → (G b ∨ w.heap.size ≤ b) ∧ b ≠ gg ∧ b ≠ g3 ∧ b ≠ g4) := Lib.hid (by rw [hG1]; exact fun _ h => h)
   have HPR := Lib.hid hPR
   have HX3w : Hid (Blk wc g3 [.int .i64 t.kind, .int .i64 t.n, .string t.name, .slice a t.args.length cap]) := Lib.hid (HX3.out.heap (HKX.out.block g3 HX3.out.lt fun hf => by have := HVO.out.fl g3 hf; omega))
   have HTw : Hid (RT S wc t (.agg #[.int .i64 t.kind, .int .i64 t.n, .string t.name, .slice a t.args.length cap])) := Lib.hid (HT0.out.to (fun _ h _ => h) fun b hb hl => HKX.out.block b hl (HS0.out b hb).2)
   clear hPR hG1 e6 eH ep hfull x0 x1 hg3 hsx
   go_wp2_with fail
   refine (ptidy_c G1 wc pb name room nb _ L HPR.out hr hl).mono ?_
   rintro e w2 ⟨rfl, hKt, L2, eL2, F2, B2, H2, v2, hV2, hn2, hu2, hG2⟩
   have HV2 := Lib.hid hV2; have HU2 := Lib.hid hu2; have HEL := Lib.hid eL2; have HKT := Lib.hid hKt; have HGG2 := Lib.hid hG2
   have hst := hKt.size
   have HX3t : Hid (Blk w2 g3 [.int .i64 t.kind, .int .i64 t.n, .string t.name, .slice a t.args.length cap]) := Lib.hid (HX3w.out.heap (hKt.block g3 HX3w.out.lt fun h => (HG1.out _ h).2.2.1 rfl))
   have HX4t : Hid (Blk w2 g4 [.int .i64 0, .int .i64 0]) := Lib.hid (HX4w.out.heap (hKt.block g4 HX4w.out.lt fun h => (HG1.out _ h).2.2.2 rfl))
   have HT2 : Hid (RT S w2 t (.agg #[.int .i64 t.kind, .int .i64 t.n, .string t.name, .slice a t.args.length cap])) := Lib.hid (HTw.out.to (fun _ h _ => h) fun b hb hl => hKt.block b hl fun h => by
    have h1 := HS1.out b hb
    rcases (HG1.out b h).1 with h2 | h2
    ·exact h1.2 h2
    ·omega)
   have HNF : Hid (¬ F2 pb ∧ ¬ F2 g3 ∧ ¬ F2 g4) := Lib.hid ⟨hV2.fp, fun hf => by
    rcases hG2.1 _ hf with h | h
    ·exact (HG1.out _ h).2.2.1 rfl
    ·have := HX3w.out.lt; omega, fun hf => by
    rcases hG2.1 _ hf with h | h
    ·exact (HG1.out _ h).2.2.2 rfl
    ·have := HX4w.out.lt; omega⟩
   have HS2 : Hid (∀ b, S b → b < w2.heap.size ∧ ¬ F2 b) := Lib.hid fun b hb => ⟨by have := (HS1.out b hb).1; omega, fun hf => by
    have h1 := HS1.out b hb
    rcases hG2.1 _ hf with h | h
    ·rcases (HG1.out b h).1 with h2 | h2
     ·exact h1.2 h2
     ·omega
    ·omega⟩
   have HQ4 : Hid (∀ w' : World, w'.heap[pb]? = w2.heap[pb]? → w'.heap[g3]? = w2.heap[g3]? → w'.cell? ⟨pb, 1, none⟩ = some (.pointer (some ⟨B2, 0, none⟩)) ∧ w'.cell? ⟨g3, 0, none⟩ = some (.int .i64 t.kind) ∧ w'.cell? ⟨g3, 1, none⟩ = some (.int .i64 t.n) ∧ w'.cell? ⟨g3, 2, none⟩ = some (.string t.name) ∧ w'.cell? ⟨g3, 3, none⟩ = some (.slice a t.args.length cap)) := Lib.hid fun w' e1 e3 => ⟨(hV2.blk.heap e1).cell 1 _ rfl, (HX3t.out.heap e3).cell 0 _ rfl, (HX3t.out.heap e3).cell 1 _ rfl, (HX3t.out.heap e3).cell 2 _ rfl, (HX3t.out.heap e3).cell 3 _ rfl⟩
   clear hV2 hu2 eL2 hKt hG2
   go_upto_region 4 with fail
   refine rg_start (fun w' => w'.cell? ⟨pb, 1, none⟩ = some (.pointer (some ⟨B2, 0, none⟩)) ∧ w'.cell? ⟨g3, 0, none⟩ = some (.int .i64 t.kind) ∧ w'.cell? ⟨g3, 1, none⟩ = some (.int .i64 t.n) ∧ w'.cell? ⟨g3, 2, none⟩ = some (.string t.name) ∧ w'.cell? ⟨g3, 3, none⟩ = some (.slice a t.args.length cap)) (by as_aux_lemma => kernel_rfl) (fun Wd h => HQ4.out _ (h.block _ HV2.out.blk.lt) (h.block _ HX3t.out.lt)) ?_
   intro Wd hB hWd hWd' hHeld
   have HCWd := Lib.hid hB
   clear hB
   refine rg_tk 0 ?_ rfl (by as_aux_lemma => kernel_rfl) (by rfl) ?_ hHeld ?_
   rotate_left 1
   ·intro w hSw; (try dsimp only at hSw); go_simp; try (with_reducible rfl)
   (try simp only [Act.put, pA, pB, pC])
   refine rg_tk 1 ?_ rfl (by as_aux_lemma => kernel_rfl) (by rfl) ?_ hHeld ?_
   rotate_left 1
   ·intro w hSw; (try dsimp only at hSw); go_simp; try (with_reducible rfl)
   (try simp only [Act.put, pA, pB, pC])
   refine rg_tk 2 ?_ rfl (by as_aux_lemma => kernel_rfl) (by rfl) ?_ hHeld ?_
   rotate_left 1
   ·intro w hSw; (try dsimp only at hSw); go_simp; try (with_reducible rfl)
   (try simp only [Act.put, pA, pB, pC])
   refine rg_tk 3 ?_ rfl (by as_aux_lemma => kernel_rfl) (by rfl) ?_ hHeld ?_
   rotate_left 1
   ·intro w hSw; (try dsimp only at hSw); go_simp; try (with_reducible rfl)
   (try simp only [Act.put, pA, pB, pC])
   refine rg_tk 4 ?_ rfl (by as_aux_lemma => kernel_rfl) (by rfl) ?_ hHeld ?_
   rotate_left 1
   ·intro w hSw; (try dsimp only at hSw); go_simp; try (with_reducible rfl)
   (try simp only [Act.put, pA, pB, pC])
   refine rg_only (i := 5) rfl (by as_aux_lemma => kernel_rfl) (by rfl) (fun K hK => ?_)
   go_simp
   go_at_call 9
   refine (hPut_c t F2 S Wd B2 room H2 _ (HV2.out.below HCWd.out).hp (HT2.out.below HCWd.out) (fun b hb => ⟨by have := HS2.out b hb; have := HCWd.out.size; omega, (HS2.out b hb).2⟩) (by omega) (by have := HV2.out.ph.rm; omega) (by omega)).mono ?_
   rintro e wc4 ⟨rfl, hK4, hH4⟩
   have HK4 : Hid (Keep F2 w2 wc4) := Lib.hid ((Keep.of HCWd.out).trans hK4)
   have HH4 : Hid (HeapR (fun b => (F2 b ∨ w2.heap.size ≤ b) ∧ b < wc4.heap.size) wc4 B2 room (putHO room H2 t).2.2) := Lib.hid (hH4.low.mono fun b hb => ⟨hb.1.imp id fun h => by have := HCWd.out.size; omega, hb.2⟩)
   have HX4q : Hid (Blk wc4 g4 [.int .i64 0, .int .i64 0]) := Lib.hid (HX4t.out.heap (HK4.out.block g4 HX4t.out.lt HNF.out.2.2))
   clear hK4 hH4
   refine hK.out _ _ (HQ4.out _ (HK4.out.block _ HV2.out.blk.lt HNF.out.1) (HK4.out.block _ HX3t.out.lt HNF.out.2.1)) (fun _ => ?_)
   clear hK K hHeld
   rename_i hHeld
   (try simp only [Act.put, pA, pB, pC])
   refine rg_tk 6 ?_ rfl (by as_aux_lemma => kernel_rfl) (by rfl) ?_ hHeld ?_
   rotate_left 1
   ·intro w hSw; (try dsimp only at hSw); go_simp; try (with_reducible rfl)
   (try simp only [Act.put, pA, pB, pC])
   refine rg_tk 7 ?_ rfl (by as_aux_lemma => kernel_rfl) (by rfl) ?_ hHeld ?_
   rotate_left 1
   ·intro w hSw; (try dsimp only at hSw); go_simp; try (with_reducible rfl)
   (try simp only [Act.put, pA, pB, pC])
   refine rg_only (i := 8) rfl (by as_aux_lemma => kernel_rfl) (by rfl) (fun K hK => ?_)
   refine wp_store_blk 31 2 szWord _ _ rfl rfl rfl rfl HX4q.out rfl rfl rfl ?_
   intro W3 hF hs3 hBW hoth
   have HF3 := Lib.hid hF; have HBW3 := Lib.hid hBW; have HO3 := Lib.hid hoth; have HS3 := Lib.hid hs3
   clear hF hBW hs3 hoth
   refine hK.out _ _ (HQ4.out _ ((HO3.out _ (by have := HVO.out.blk.lt; have := HG3.out; omega)).trans (HK4.out.block _ HV2.out.blk.lt HNF.out.1)) ((HO3.out _ (by have := HG3.out; omega)).trans (HK4.out.block _ HX3t.out.lt HNF.out.2.1))) (fun _ => ?_)
   clear hK K hHeld
   rename_i hHeld
   (try simp only [Act.put, pA, pB, pC])
   refine rg_tk 9 ?_ rfl (by as_aux_lemma => kernel_rfl) (by rfl) ?_ hHeld ?_
   rotate_left 1
   ·intro w hSw; (try dsimp only at hSw); go_simp; try (with_reducible rfl)
   (try simp only [Act.put, pA, pB, pC])
   refine rg_done (by as_aux_lemma => kernel_rfl) ?_
   clear hHeld
   go_wp2_with fail
   have hsx := HKX.out.size
   have HPH2 : Hid (PH room H2 L2) := Lib.hid (by have := HV2.out.ph; rwa [List.append_nil] at this)
   have hE : (putHO room H2 t).2.1 = pputE room (tmsL L) t ∧ (pputE room (tmsL L) t = 0 → PH room (putHO room H2 t).2.2 (L2 ++ [(t, (putHO room H2 t).1)]) ∧ (putHO room H2 t).2.2.names.length ≤ H2.names.length + bulkL [t]) ∧ (pputE room (tmsL L) t ≠ 0 → (putHO room H2 t).2.2 = H2) := by
    have hp := HPH2.out.putHO t
    rw [HEL.out] at hp
    rcases hp with ⟨f1, f2, f3, f4⟩ | ⟨f1, f2, f3, f4⟩ | ⟨f1, f2, f3, f4⟩
    ·have e : pputE room (tmsL L) t = 6 := by
      unfold pputE
      rw [if_neg (by simp [f3]), if_pos (by rw [HU2.out] at f4; exact f4)]
     rw [e]
     exact ⟨f1, fun h => absurd h (by decide), fun _ => f2⟩
    ·exact ⟨f1, fun h => absurd (f1.trans h) f2, fun _ => f4⟩
    ·exact ⟨f1.trans f2.symm, fun _ => ⟨f3, f4⟩, fun h => absurd f2 h⟩
   have hsz4 := HK4.out.size
   have hst := HKT.out.size
   have hsw := HKW.out.size
   have hg := HG3.out
   have hkeep : Keep G w W3 := by
    have hb0 := HBW3.out 0 wc4 (Nat.zero_le _) (Below.refl _ _)
    refine ⟨hb0.os.trans (HK4.out.os.trans (HKT.out.os.trans HKW.out.os)), hb0.tape.trans (HK4.out.tape.trans (HKT.out.tape.trans HKW.out.tape)), hb0.output.trans (HK4.out.output.trans (HKT.out.output.trans HKW.out.output)), by rw [HS3.out]; omega, fun k hk hn => ?_⟩
    rw [HO3.out k (by omega), HK4.out.block k (by omega) (fun hf => ?_), HKT.out.block k (by omega) (fun h1 => ?_), HKW.out.block k hk fun hf => hn (HG.out.1 k hf)]
    ·rcases (HG1.out k h1).1 with h2 | h2
     ·exact hn h2
     ·omega
    ·rcases HGG2.out.1 k hf with h1 | h1
     ·rcases (HG1.out k h1).1 with h2 | h2
      ·exact hn h2
      ·omega
     ·omega
   have hH3 : HeapR (fun b => (F2 b ∨ w2.heap.size ≤ b) ∧ b < wc4.heap.size) W3 B2 room (putHO room H2 t).2.2 := HH4.out.to (by rw [HS3.out]; exact Nat.le_refl _) (fun _ h => h) fun b hb _ => HO3.out b fun e => by
    subst e
    rcases hb.1 with h1 | h1
    ·exact HNF.out.2.2 h1
    ·have := HX4t.out.lt; omega
   have hup : ∀ b, (G1 b ∨ wc.heap.size ≤ b) → G b ∨ w.heap.size ≤ b := fun b h => h.elim (fun h => (HG1.out b h).1) fun h => .inr (by omega)
   have hGt : (∀ b, ((F2 b ∨ w2.heap.size ≤ b) ∧ b < wc4.heap.size) → G b ∨ w.heap.size ≤ b) ∧ (G pb ∨ w.heap.size ≤ pb) ∧ ∀ b, v2.ownBlock = some b → G b ∨ w.heap.size ≤ b := ⟨fun b hb => hb.1.elim (fun h => hup b (HGG2.out.1 b h)) fun h => .inr (by omega), .inl HG.out.2.1, fun b hb => hup b (HGG2.out.2.2 b hb)⟩
   have hc3 : ∀ b, b < w2.heap.size → ¬ F2 b → b ≠ g4 → W3.heap[b]? = w2.heap[b]? := fun b hb hn h4 => (HO3.out b h4).trans (HK4.out.block b hb hn)
   have h24 : pb ≠ g4 ∧ ∀ b, v2.ownBlock = some b → b ≠ g4 := ⟨by have := HVO.out.blk.lt; omega, fun b hb e => by
    subst e
    rcases HGG2.out.2.2 _ hb with h | h
    ·exact (HG1.out _ h).2.2.2 rfl
    ·omega⟩
   have hV3 : ∀ (H3 : HS) (Z : TW), HeapR (fun b => (F2 b ∨ w2.heap.size ≤ b) ∧ b < wc4.heap.size) W3 B2 room H3 → PH room H3 (L2 ++ Z) → PrV (fun b => (F2 b ∨ w2.heap.size ≤ b) ∧ b < wc4.heap.size) W3 pb name room L2 Z B2 H3 v2 := fun H3 Z hh hp =>
    ⟨HV2.out.blk.heap (hc3 pb HV2.out.blk.lt HV2.out.fp h24.1), hh, HV2.out.ow.to (by rw [HS3.out]; omega) fun b hb => hc3 b (HV2.out.ow.block b hb).2 (HV2.out.fv b hb).1 (h24.2 b hb), hp, fun hf => hf.1.elim HV2.out.fp fun h => by have := HV2.out.blk.lt; omega, fun b hb => by rw [HS3.out]; exact hb.2, fun b hb => ⟨fun hf => hf.1.elim (HV2.out.fv b hb).1 fun h => by have := (HV2.out.ow.block b hb).2; omega, (HV2.out.fv b hb).2⟩⟩
   refine bodyPost_ret (results_blk Try.results64 szWord _ Try.underlying31 rfl rfl HF3.out rfl) rfl ⟨hkeep, (putHO room H2 t).1, L2, (putHO room H2 t).2.2.ws.length, ?_, HEL.out, fun hz => ?_, fun hz => ?_⟩
   ·show Ending.returned (.tuple #[_, .int .i64 (putHO room H2 t).2.1]) = _
    rw [hE.1]
   ·exact ⟨_, B2, _, v2, hV3 _ _ hH3 (hE.2.1 hz).1, by have := (hE.2.1 hz).2; omega, rfl, hGt⟩
   ·rw [hE.2.2 hz] at hH3 ⊢
    exact ⟨_, B2, _, v2, hV3 _ _ hH3 (by rw [List.append_nil]; exact HPH2.out), by omega, rfl, hGt⟩
  ·have hne6 : (putHO room H t).2.1 ≠ 6 := by
    rcases hrest with h | h
    ·exact h.2.2.1
    ·rw [h.1]; decide
   have qe : ((putHO room H t).2.1 == 6) = false := by simpa using hne6
   have HRS := Lib.hid hrest
   clear hrest hne6
   go_wp2_with (first | (refine store_blk 31 2 szWord _ _ rfl rfl rfl rfl rfl HX4w.out rfl rfl rfl ?_; intro W3 hF3 hs3 hBW3 hoth3; have HF3 := Lib.hid hF3; have HBW3 := Lib.hid hBW3; have HO3 := Lib.hid hoth3; have HS3 := Lib.hid hs3; clear hF3 hs3 hBW3 hoth3))
   have hsz := HKW.out.size
   have hkeep : Keep G w W3 := by
    have hb0 := HBW3.out 0 wc (Nat.zero_le _) (Below.refl _ _)
    exact ⟨hb0.os.trans HKW.out.os, hb0.tape.trans HKW.out.tape, hb0.output.trans HKW.out.output, by rw [HS3.out]; exact hsz, fun k hk hn => (HO3.out k (by have := HG3.out; omega)).trans (HKW.out.block k hk fun hf => hn (HG.out.1 k hf))⟩
   have hH3 : HeapR F1 W3 B room (putHO room H t).2.2 := HH1.out.to (by rw [HS3.out]; exact Nat.le_refl _) (fun _ h => h) fun b hb _ => HO3.out b fun e => by
    subst e
    rcases (HF1.out _ hb).1 with h1 | h1
    ·have := HVO.out.fl _ h1; have := HG3.out; omega
    ·have := HG3.out; omega
   have hF3 : ∀ b, F1 b → (F b ∨ w.heap.size ≤ b) ∧ b < W3.heap.size := fun b hb => ⟨(HF1.out b hb).1.imp id fun h => by have := HG3.out; omega, by rw [HS3.out]; exact (HF1.out b hb).2.2⟩
   have hGt : (∀ b, F1 b → G b ∨ w.heap.size ≤ b) ∧ (G pb ∨ w.heap.size ≤ pb) ∧ ∀ b, vw.ownBlock = some b → G b ∨ w.heap.size ≤ b := ⟨fun b hb => (hF3 b hb).1.imp (HG.out.1 b) id, .inl HG.out.2.1, fun b hb => .inl (HG.out.2.2 b hb)⟩
   have hc3 : ∀ b, b < w.heap.size → ¬ F b → W3.heap[b]? = w.heap[b]? := fun b hb hn => (HO3.out b (by have := HG3.out; omega)).trans (HKW.out.block b hb hn)
   refine bodyPost_ret (results_blk Try.results64 szWord _ Try.underlying31 rfl rfl HF3.out rfl) rfl ⟨hkeep, (putHO room H t).1, L, (putHO room H t).2.2.ws.length, ?_, rfl, fun hz => ?_, fun hz => ?_⟩
   ·rcases HRS.out with h | h
    ·show Ending.returned (.tuple #[_, .int .i64 (putHO room H t).2.1]) = _; rw [h.1]
    ·show Ending.returned (.tuple #[_, .int .i64 (putHO room H t).2.1]) = _; rw [h.1, h.2.1]
   ·rcases HRS.out with h | h
    ·exact absurd (h.1.trans hz) h.2.1
    ·exact ⟨F1, B, _, vw, HVO.out.after (by rw [HS3.out]; exact hsz) hc3 hH3 hF3 h.2.2.1 rfl, by have := h.2.2.2; omega, rfl, hGt⟩
   ·rcases HRS.out with h | h
    ·rw [h.2.2.2] at hH3 ⊢
     exact ⟨F1, B, _, vw, HVO.out.after (by rw [HS3.out]; exact hsz) hc3 hH3 hF3 (by rw [List.append_nil]; exact HPH.out) rfl, hnb, rfl, hGt⟩
    ·exact absurd h.2.1 hz
end Go.Proofs.Ytedfepnekjjmnab

/-
 A process: Deliver. Conditions: it lies as PrR says; few names, few words.
-/
namespace Go.Proofs.Ytedfepnekjjmnab
open Go.RowKit
set_option linter.unusedSimpArgs false
set_option linter.unusedVariables false
set_option maxRecDepth 100000

/-- What Deliver answers, where the terms of us stand (the state's first). -/
def delE (room : Int) (us : List T) (t : T) : Int := if 20 < us.length then 2 else pputE room us t
/-- What stands behind a Deliver. -/
def DelP (G : Nat → Prop) (w : World) (pb : Nat) (name : ByteArray) (room : Int) (nb : Nat) (us : List T) (t : T) (e : Ending) (w' : World) : Prop :=
 e = .returned (.int .i64 (delE room us t)) ∧ Keep G w w' ∧ ∃ (L' : TW) (u' : Nat), tmsL L' = (if delE room us t = 0 then us ++ [t] else us) ∧ PrR (fun b => G b ∨ w.heap.size ≤ b) w' pb name room (nb + bulkL [t]) u' L' []
set_option maxHeartbeats 4000000 in
theorem pdel_c (G : Nat → Prop) (w : World) (pb : Nat) (name : ByteArray) (room : Int) (nb u : Nat) (L : TW) (t : T) (S : Nat → Prop) (v : Value) (h : PrR G w pb name room nb u L []) (hv : RT S w t v) (hS : ∀ b, S b → b < w.heap.size ∧ ¬ G b) (hbt : bulkL [t] ≤ 4294967296) (hl : L.length ≤ 900) (hr : room ≤ 1000) (hn : nb ≤ 4294967296) :
  Calls Try.prog 33 #[.pointer (some ⟨pb, 0, none⟩), v] w (DelP G w pb name room nb (tmsL L) t) := by
 obtain ⟨a, cap, rfl, hcap, hrt⟩ := hv
 obtain ⟨W0, hW0⟩ : ∃ W : World, W = w.alloc (.cells #[.int .i64 t.kind, .int .i64 t.n, .string t.name, .slice a t.args.length cap] 24) := ⟨_, rfl⟩
 obtain ⟨g3, hg3⟩ : ∃ g, g = w.heap.size := ⟨_, rfl⟩
 have HB0 : Hid (Below w.heap.size w W0) := Lib.hid (by rw [hW0]; exact below_alloc _ _)
 have HX3 : Hid (Blk W0 g3 [.int .i64 t.kind, .int .i64 t.n, .string t.name, .slice a t.args.length cap]) := Lib.hid (by rw [hW0, hg3]; exact Blk.new _ _ _ _ rfl)
 have hs0 : W0.heap.size = w.heap.size + 1 := by rw [hW0]; simp
 have HH0 := Lib.hid (h.below HB0.out); have HHW := Lib.hid h
 have HT0 : Hid (RT S W0 t (.agg #[.int .i64 t.kind, .int .i64 t.n, .string t.name, .slice a t.args.length cap])) := Lib.hid (RT.below ⟨a, cap, rfl, hcap, hrt⟩ HB0.out)
 have HS0 : Hid (∀ b, S b → b < W0.heap.size ∧ ¬ G b) := Lib.hid fun b hb => ⟨by have := (hS b hb).1; omega, (hS b hb).2⟩
 have HG : Hid ((∃ F : Nat → Prop, ∀ b, F b → G b) ∧ G pb ∧ pb < w.heap.size) := Lib.hid (by
  obtain ⟨F, B, H, v, hV, -, -, h1, h2, h3⟩ := h
  exact ⟨⟨F, h1⟩, h2, hV.blk.lt⟩)
 obtain ⟨F0, B0, H0, v0, hV0, -⟩ := HH0.out
 obtain ⟨a0, c0, e0, -⟩ := hV0.rx.form
 rw [wdsL_len] at e0
 subst e0
 have HVV := Lib.hid hV0
 have z2 := hV0.blk.cell 2 _ rfl
 have x0 := HX3.out.cell 0 _ rfl
 have x1 := HX3.out.cell 1 _ rfl
 have x2 := HX3.out.cell 2 _ rfl
 have x3 := HX3.out.cell 3 _ rfl
 have HG3 : Hid (g3 = w.heap.size) := Lib.hid hg3
 clear h hcap hrt hS hV0
 go_enter Try.func33, Try.ntmps33
 go_upto_region 1 with fail
 rw [← hW0, ← hg3]
 clear hW0 hg3
 by_cases h20 : 20 < L.length
 ·have q20 : (20 : Int) < (L.length : Int) := by omega
  have hde : delE room (tmsL L) t = 2 := by unfold delE; rw [if_pos (by rw [tmsL_len]; exact h20)]
  have HD := Lib.hid hde
  clear hde
  go_wp2_with fail
  go_ret
  rw [DelP, HD.out]
  exact ⟨rfl, Keep.of HB0.out, L, u, by rw [if_neg (by decide)], ((HHW.out.below HB0.out).mono fun b hb _ => .inl hb).names (by omega)⟩
 ·have q20 : ¬ (20 : Int) < (L.length : Int) := by omega
  have HDE : Hid (delE room (tmsL L) t = pputE room (tmsL L) t) := Lib.hid (by unfold delE; rw [if_neg (by rw [tmsL_len]; exact h20)])
  go_wp2_with fail
  refine (pput_c G W0 pb name room nb u L t S _ HH0.out HT0.out HS0.out hbt (by omega) hr hn).mono ?_
  rintro e w1 ⟨hK, y, L1, u1, rfl, eL, h0, h1⟩
  have HK0 := Lib.hid hK; have HEL := Lib.hid eL; have H0' := Lib.hid h0; have H1' := Lib.hid h1
  have hs1 := hK.size
  clear hK eL h0 h1 x0 x1 x2 x3 z2
  go_upto_region 4 with fail
  obtain ⟨W5, hW5⟩ : ∃ W : World, W = w1.alloc (.cells #[.int .i64 y.kind, .int .i64 y.n] 31) := ⟨_, rfl⟩
  obtain ⟨g5, hg5⟩ : ∃ g, g = w1.heap.size := ⟨_, rfl⟩
  have HB5 : Hid (Below w1.heap.size w1 W5) := Lib.hid (by rw [hW5]; exact below_alloc _ _)
  have HX5 : Hid (Blk W5 g5 [.int .i64 y.kind, .int .i64 y.n]) := Lib.hid (by rw [hW5]; exact Blk.new _ _ _ _ hg5)
  have HG5 : Hid (g5 = w1.heap.size) := Lib.hid hg5
  have HK5 : Hid (Keep G w W5) := Lib.hid (((Keep.of HB0.out).trans HK0.out).then HB5.out)
  rw [← hW5, ← hg5]
  clear hW5 hg5
  by_cases hz : pputE room (tmsL L) t = 0
  ·have qz : (pputE room (tmsL L) t != 0) = false := by simp [hz]
   have hde : delE room (tmsL L) t = 0 := HDE.out.trans hz
   have HDZ := Lib.hid hde
   obtain ⟨F1, B1, H1, v1, hV1, hn1, hu1, hG1⟩ := H0'.out hz
   have hV5 := hV1.below HB5.out
   obtain ⟨a1, c1, e1, -⟩ := hV5.rx.form
   rw [wdsL_len] at e1
   subst e1
   have HV5 := Lib.hid hV5; have HN1 := Lib.hid hn1; have HU1 := Lib.hid hu1
   have HGO : Hid ((∀ b, F1 b → G b ∨ w.heap.size ≤ b) ∧ (G pb ∨ w.heap.size ≤ pb) ∧ ∀ b, (Value.slice a1 L1.length c1).ownBlock = some b → G b ∨ w.heap.size ≤ b) := Lib.hid ⟨fun b hb => (hG1.1 b hb).imp id fun h => by omega, .inl HG.out.2.1, fun b hb => (hG1.2.2 b hb).imp id fun h => by omega⟩
   have HN5 : Hid (∀ b, (Value.slice a1 L1.length c1).ownBlock = some b → b ≠ g5) := Lib.hid fun b hb e => by have := (hV1.ow.block b hb).2; have := HG5.out; omega
   have hL1 : L1.length ≤ 900 := by have h := congrArg List.length HEL.out; rw [tmsL_len, tmsL_len] at h; omega
   clear hV1 hV5 hn1 hu1 hG1 hz hde
   go_upto_region 6 with fail
   refine rg_start (fun w' => w'.cell? ⟨g5, 0, none⟩ = some (.int .i64 y.kind) ∧ w'.cell? ⟨g5, 1, none⟩ = some (.int .i64 y.n)) (by as_aux_lemma => kernel_rfl) (fun Wd h => ⟨(HX5.out.step h).cell 0 _ rfl, (HX5.out.step h).cell 1 _ rfl⟩) ?_
   intro Wd hB hWd hWd' hHeld
   have HVd := Lib.hid (HV5.out.below hB)
   have HX5d := Lib.hid (HX5.out.step hB)
   have HK1 := Lib.hid (HK5.out.then hB)
   have bWd := HVd.out.blk.cell 2 _ rfl
   have hBd := HVd.out.blk.lt
   clear hB
   refine rg_tk 0 ?_ rfl (by as_aux_lemma => kernel_rfl) (by rfl) ?_ hHeld ?_
   rotate_left 1
   ·intro w hSw; (try dsimp only at hSw); go_simp; try (with_reducible rfl)
   (try simp only [Act.put, pA, pB, pC])
   refine rg_tk 1 ?_ rfl (by as_aux_lemma => kernel_rfl) (by rfl) ?_ hHeld ?_
   rotate_left 1
   ·intro w hSw; (try dsimp only at hSw); go_simp; try (with_reducible rfl)
   (try simp only [Act.put, pA, pB, pC])
   refine rg_tk 2 ?_ rfl (by as_aux_lemma => kernel_rfl) (by rfl) ?_ hHeld ?_
   rotate_left 1
   ·intro w hSw; (try dsimp only at hSw); go_simp; try (with_reducible rfl)
   (try simp only [Act.put, pA, pB, pC])
   refine rg_tk 3 ?_ rfl (by as_aux_lemma => kernel_rfl) (by rfl) ?_ hHeld ?_
   rotate_left 1
   ·intro w hSw; (try dsimp only at hSw); go_simp; try (with_reducible rfl)
   (try simp only [Act.put, pA, pB, pC])
   refine rg_tk 5 ?_ rfl (by as_aux_lemma => kernel_rfl) (by rfl) ?_ hHeld ?_
   rotate_left 1
   ·intro w hSw; (try dsimp only at hSw); go_simp; try (with_reducible rfl)
   (try simp only [Act.put, pA, pB, pC])
   refine rg_two (i := 4) (j := 6) rfl rfl (by as_aux_lemma => kernel_rfl) (by rfl) (by rfl) (fun K hK => ?_) (fun K hK => ?_)
   ·skip
    go_simp
    skip
    refine hK.out _ _ (hHeld) (fun _ => ?_)
    clear hK K hHeld
    rename_i hHeld
    (try simp only [Act.put, pA, pB, pC])
    refine rg_only (i := 6) rfl (by as_aux_lemma => kernel_rfl) (by rfl) (fun K hK => ?_)
    refine buildW1 _ rfl (by rfl) ?_
    have b9 : (Wd.alloc (.cells #[.int .i64 y.kind, .int .i64 y.n] 31)).cell? ⟨pb, 2, none⟩ = some (.slice a1 L1.length c1) := ((below_alloc Wd _).cell (p := ⟨pb, 2, none⟩) hBd).trans bWd
    refine hK.out _ _ (⟨(HX5d.out.alloc _).cell 0 _ rfl, (HX5d.out.alloc _).cell 1 _ rfl⟩) (fun _ => ?_)
    clear hK K hHeld
    rename_i hHeld
    (try simp only [Act.put, pA, pB, pC])
    refine rg_only (i := 7) rfl (by as_aux_lemma => kernel_rfl) (by rfl) (fun K hK => ?_)
    refine wp_growW (v := .slice a1 L1.length c1) (y := y) (g0 := Wd.heap.size) _ _ rfl rfl (by rfl) (by rfl) rfl HVd.out.ow (wdsL_len _) (by omega) ?_
    intro gg cg w3 hO3 hB3 hG3 hP3
    have hl3 := hB3.size
    have hgb := (hG3.block pb (by simp; omega) (fun he => (HVd.out.fv pb he.symm).2 rfl)).trans (Below.heap_alloc Wd _ _ hBd)
    have hg5 := (hG3.block g5 (by simp; have := HX5d.out.lt; omega) (fun he => HN5.out g5 he.symm rfl)).trans (Below.heap_alloc Wd _ _ HX5d.out.lt)
    have b3 := (World.cell?_of_block (w := Wd) (a := ⟨pb, 2, none⟩) hgb).trans bWd
    have bf3 := fun o => (World.frozen?_of_block (w := Wd) (a := ⟨pb, o, none⟩) hgb).trans (HVd.out.blk.fr o)
    have HX53 : Hid (Blk w3 g5 [.int .i64 y.kind, .int .i64 y.n]) := Lib.hid (HX5d.out.heap hg5)
    have HO3 := Lib.hid hO3; have HB3 := Lib.hid hB3; have HG3 := Lib.hid hG3; have HP3 := Lib.hid hP3
    clear hO3 hB3 hG3 hP3 hgb hg5
    refine hK.out _ _ (⟨HX53.out.cell 0 _ rfl, HX53.out.cell 1 _ rfl⟩) (fun _ => ?_)
    clear hK K hHeld
    rename_i hHeld
    (try simp only [Act.put, pA, pB, pC])
    refine rg_tk 8 ?_ rfl (by as_aux_lemma => kernel_rfl) (by rfl) ?_ hHeld ?_
    rotate_left 1
    ·intro w hSw; (try dsimp only at hSw); go_simp; try (with_reducible rfl)
    (try simp only [Act.put, pA, pB, pC])
    refine rg_tk 9 ?_ rfl (by as_aux_lemma => kernel_rfl) (by rfl) ?_ hHeld ?_
    rotate_left 1
    ·intro w hSw; (try dsimp only at hSw); go_simp; try (with_reducible rfl)
    (try simp only [Act.put, pA, pB, pC])
    refine rg_only (i := 10) rfl (by as_aux_lemma => kernel_rfl) (by rfl) (fun K hK => ?_)
    go_simp
    skip
    refine hK.out _ _ (⟨(HX53.out.heap (setCell_other w3 pb 2 _ g5 (by have := HG5.out; have := HG.out.2.2; omega))).cell 0 _ rfl, (HX53.out.heap (setCell_other w3 pb 2 _ g5 (by have := HG5.out; have := HG.out.2.2; omega))).cell 1 _ rfl⟩) (fun _ => ?_)
    clear hK K hHeld
    rename_i hHeld
    (try simp only [Act.put, pA, pB, pC])
    refine rg_done (by as_aux_lemma => kernel_rfl) ?_
    clear hHeld
    go_wp2_with fail
    go_ret
    have hkp : Keep G w (w3.setCell ⟨pb, 2, none⟩ (.slice (some ⟨gg, 0, none⟩) (L1.length + 1) cg)) := by
     refine Keep.setCell ?_ _ (.inl HG.out.2.1)
     have k1 : Keep G w Wd := HK1.out
     have k2 := keep_grown (F := fun b => G b ∨ w.heap.size ≤ b) HB3.out HG3.out fun b hb => HGO.out.2.2 b hb
     exact ⟨k2.os.trans k1.os, k2.tape.trans k1.tape, k2.output.trans k1.output, by have := k1.size; have := k2.size; omega, fun k hk hn => (k2.block k (by have := k1.size; omega) fun h => h.elim hn (by omega)).trans (k1.block k hk hn)⟩
    refine ⟨by rw [HDZ.out]; rfl, hkp, L1 ++ [(t, y)], u1, ?_, F1, B1, H1, .slice (some ⟨gg, 0, none⟩) (L1.length + 1) cg, ?_, HN1.out, HU1.out, HGO.out.1, HGO.out.2.1, fun b hb => ?_⟩
    ·rw [if_pos HDZ.out]
     rw [show tmsL (L1 ++ [(t, y)]) = tmsL L1 ++ [t] by simp [tmsL], HEL.out]
    ·refine HVd.out.words' HB3.out.size (fun b hb hn => (HG3.out.block b (by simp; omega) (fun e => hn e.symm)).trans (Below.heap_alloc Wd _ _ hb)) (by have h := HO3.out; rw [show wdsL (L1 ++ [(t, y)]) = wdsL L1 ++ [y] by simp [wdsL]]; exact h) (fun b hb => ?_) (by rw [List.append_nil]; exact HVd.out.ph)
     obtain rfl : gg = b := by simpa [Value.ownBlock] using hb
     exact HP3.out.imp id (by omega)
    ·obtain rfl : gg = b := by simpa [Value.ownBlock] using hb
     exact HP3.out.elim (fun h => HGO.out.2.2 _ h) fun h => .inr (by have := HK1.out.size; omega)
   ·skip
    refine buildW1 _ rfl (by rfl) ?_
    have b9 : (Wd.alloc (.cells #[.int .i64 y.kind, .int .i64 y.n] 31)).cell? ⟨pb, 2, none⟩ = some (.slice a1 L1.length c1) := ((below_alloc Wd _).cell (p := ⟨pb, 2, none⟩) hBd).trans bWd
    refine hK.out _ _ (⟨(HX5d.out.alloc _).cell 0 _ rfl, (HX5d.out.alloc _).cell 1 _ rfl⟩) (fun _ => ?_)
    clear hK K hHeld
    rename_i hHeld
    (try simp only [Act.put, pA, pB, pC])
    refine rg_only (i := 4) rfl (by as_aux_lemma => kernel_rfl) (by rfl) (fun K hK => ?_)
    go_simp
    skip
    refine hK.out _ _ (hHeld) (fun _ => ?_)
    clear hK K hHeld
    rename_i hHeld
    (try simp only [Act.put, pA, pB, pC])
    refine rg_only (i := 7) rfl (by as_aux_lemma => kernel_rfl) (by rfl) (fun K hK => ?_)
    refine wp_growW (v := .slice a1 L1.length c1) (y := y) (g0 := Wd.heap.size) _ _ rfl rfl (by rfl) (by rfl) rfl HVd.out.ow (wdsL_len _) (by omega) ?_
    intro gg cg w3 hO3 hB3 hG3 hP3
    have hl3 := hB3.size
    have hgb := (hG3.block pb (by simp; omega) (fun he => (HVd.out.fv pb he.symm).2 rfl)).trans (Below.heap_alloc Wd _ _ hBd)
    have hg5 := (hG3.block g5 (by simp; have := HX5d.out.lt; omega) (fun he => HN5.out g5 he.symm rfl)).trans (Below.heap_alloc Wd _ _ HX5d.out.lt)
    have b3 := (World.cell?_of_block (w := Wd) (a := ⟨pb, 2, none⟩) hgb).trans bWd
    have bf3 := fun o => (World.frozen?_of_block (w := Wd) (a := ⟨pb, o, none⟩) hgb).trans (HVd.out.blk.fr o)
    have HX53 : Hid (Blk w3 g5 [.int .i64 y.kind, .int .i64 y.n]) := Lib.hid (HX5d.out.heap hg5)
    have HO3 := Lib.hid hO3; have HB3 := Lib.hid hB3; have HG3 := Lib.hid hG3; have HP3 := Lib.hid hP3
    clear hO3 hB3 hG3 hP3 hgb hg5
    refine hK.out _ _ (⟨HX53.out.cell 0 _ rfl, HX53.out.cell 1 _ rfl⟩) (fun _ => ?_)
    clear hK K hHeld
    rename_i hHeld
    (try simp only [Act.put, pA, pB, pC])
    refine rg_tk 8 ?_ rfl (by as_aux_lemma => kernel_rfl) (by rfl) ?_ hHeld ?_
    rotate_left 1
    ·intro w hSw; (try dsimp only at hSw); go_simp; try (with_reducible rfl)
    (try simp only [Act.put, pA, pB, pC])
    refine rg_tk 9 ?_ rfl (by as_aux_lemma => kernel_rfl) (by rfl) ?_ hHeld ?_
    rotate_left 1
    ·intro w hSw; (try dsimp only at hSw); go_simp; try (with_reducible rfl)
    (try simp only [Act.put, pA, pB, pC])
    refine rg_only (i := 10) rfl (by as_aux_lemma => kernel_rfl) (by rfl) (fun K hK => ?_)
    go_simp
    skip
    refine hK.out _ _ (⟨(HX53.out.heap (setCell_other w3 pb 2 _ g5 (by have := HG5.out; have := HG.out.2.2; omega))).cell 0 _ rfl, (HX53.out.heap (setCell_other w3 pb 2 _ g5 (by have := HG5.out; have := HG.out.2.2; omega))).cell 1 _ rfl⟩) (fun _ => ?_)
    clear hK K hHeld
    rename_i hHeld
    (try simp only [Act.put, pA, pB, pC])
    refine rg_done (by as_aux_lemma => kernel_rfl) ?_
    clear hHeld
    go_wp2_with fail
    go_ret
    have hkp : Keep G w (w3.setCell ⟨pb, 2, none⟩ (.slice (some ⟨gg, 0, none⟩) (L1.length + 1) cg)) := by
     refine Keep.setCell ?_ _ (.inl HG.out.2.1)
     have k1 : Keep G w Wd := HK1.out
     have k2 := keep_grown (F := fun b => G b ∨ w.heap.size ≤ b) HB3.out HG3.out fun b hb => HGO.out.2.2 b hb
     exact ⟨k2.os.trans k1.os, k2.tape.trans k1.tape, k2.output.trans k1.output, by have := k1.size; have := k2.size; omega, fun k hk hn => (k2.block k (by have := k1.size; omega) fun h => h.elim hn (by omega)).trans (k1.block k hk hn)⟩
    refine ⟨by rw [HDZ.out]; rfl, hkp, L1 ++ [(t, y)], u1, ?_, F1, B1, H1, .slice (some ⟨gg, 0, none⟩) (L1.length + 1) cg, ?_, HN1.out, HU1.out, HGO.out.1, HGO.out.2.1, fun b hb => ?_⟩
    ·rw [if_pos HDZ.out]
     rw [show tmsL (L1 ++ [(t, y)]) = tmsL L1 ++ [t] by simp [tmsL], HEL.out]
    ·refine HVd.out.words' HB3.out.size (fun b hb hn => (HG3.out.block b (by simp; omega) (fun e => hn e.symm)).trans (Below.heap_alloc Wd _ _ hb)) (by have h := HO3.out; rw [show wdsL (L1 ++ [(t, y)]) = wdsL L1 ++ [y] by simp [wdsL]]; exact h) (fun b hb => ?_) (by rw [List.append_nil]; exact HVd.out.ph)
     obtain rfl : gg = b := by simpa [Value.ownBlock] using hb
     exact HP3.out.imp id (by omega)
    ·obtain rfl : gg = b := by simpa [Value.ownBlock] using hb
     exact HP3.out.elim (fun h => HGO.out.2.2 _ h) fun h => .inr (by have := HK1.out.size; omega)
  ·have qz : (pputE room (tmsL L) t != 0) = true := by simpa using hz
   have hde : delE room (tmsL L) t ≠ 0 := by rw [HDE.out]; exact hz
   have HZ := Lib.hid hz; have HDZ := Lib.hid hde
   clear hz hde
   go_wp2_with fail
   go_ret
   exact ⟨by rw [HDE.out]; rfl, HK5.out, L1, u1, by rw [if_neg HDZ.out]; exact HEL.out, (((H1'.out HZ.out).below HB5.out).mono fun b hb _ => hb.imp id fun h => by omega).names (by omega)⟩
end Go.Proofs.Ytedfepnekjjmnab

/-
 proc.New. Conditions: the term and the name are no larger than any memory.
-/
namespace Go.Proofs.Ytedfepnekjjmnab
open Go.RowKit
set_option linter.unusedSimpArgs false
set_option linter.unusedVariables false
set_option maxRecDepth 100000

/-- What New answers. -/
def newE (name : ByteArray) (room : Int) (t : T) : Int := if nameB name = false then 5 else if room < 0 ∨ 1000 < room then 1 else pputE room [] t
theorem OwnW.one (w : World) (y : Wrd) : OwnW (w.alloc (.cells #[.int .i64 y.kind, .int .i64 y.n] 31)) (.slice (some ⟨w.heap.size, 0, none⟩) 1 1) [y] := by
 refine ⟨[.int .i64 y.kind, .int .i64 y.n], ⟨by simp [wrdE], .inr ⟨w.heap.size, 1, #[.int .i64 y.kind, .int .i64 y.n], rfl, Nat.zero_le _, heap_alloc_new _ _, by simp, by decide, by simp [wrdE], by simp [wrdE]⟩⟩, ⟨[.int .i64 y.kind, .int .i64 y.n], [], rfl, rfl, rfl⟩⟩
/-- What stands behind New. -/
def NewP (w : World) (name : ByteArray) (room : Int) (t : T) (e : Ending) (w' : World) : Prop :=
 Below w.heap.size w w' ∧ ((newE name room t ≠ 0 ∧ e = .returned (.tuple #[.pointer none, .int .i64 (newE name room t)])) ∨
  (newE name room t = 0 ∧ ∃ pb y, e = .returned (.tuple #[.pointer (some ⟨pb, 0, none⟩), .int .i64 0]) ∧ PrR (fun b => w.heap.size ≤ b) w' pb name room (bulkL [t]) (szL [t]) [(t, y)] []))
set_option maxHeartbeats 4000000 in
theorem pnew_c (name : ByteArray) (room : Int) (t : T) (S : Nat → Prop) (w : World) (v : Value) (hv : RT S w t v) (hS : ∀ b, S b → b < w.heap.size) (hb : bulkL [t] ≤ 4294967296) (hs : name.size ≤ 1099511627776) :
  Calls Try.prog 32 #[.string name, v, .int .i64 room] w (NewP w name room t) := by
 obtain ⟨a, cap, rfl, hcap, hrt⟩ := hv
 obtain ⟨W0, hW0⟩ : ∃ W : World, W = w.alloc (.cells #[.int .i64 t.kind, .int .i64 t.n, .string t.name, .slice a t.args.length cap] 24) := ⟨_, rfl⟩
 obtain ⟨g4, hg4⟩ : ∃ g, g = w.heap.size := ⟨_, rfl⟩
 have HB0 : Hid (Below w.heap.size w W0) := Lib.hid (by rw [hW0]; exact below_alloc _ _)
 have HX4 : Hid (Blk W0 g4 [.int .i64 t.kind, .int .i64 t.n, .string t.name, .slice a t.args.length cap]) := Lib.hid (by rw [hW0]; exact Blk.new _ _ _ _ hg4)
 have hs0 : w.heap.size < W0.heap.size := by rw [hW0]; simp
 have HT0 : Hid (RT S W0 t (.agg #[.int .i64 t.kind, .int .i64 t.n, .string t.name, .slice a t.args.length cap])) := Lib.hid (RT.below ⟨a, cap, rfl, hcap, hrt⟩ HB0.out)
 have HSS := Lib.hid hS
 clear hcap hrt hS
 go_enter Try.func32, Try.ntmps32
 go_upto_region 1 with fail
 rw [← hW0, ← hg4]
 clear hW0 hg4
 go_wp2_with fail
 refine (name_c name W0 hs).mono ?_
 rintro e wn ⟨rfl, rfl⟩
 by_cases hn : nameB name = false
 ·have HE : Hid (newE name room t = 5) := Lib.hid (by unfold newE; rw [if_pos hn])
  rw [hn]
  clear hn
  go_wp2_with fail
  go_ret2
  exact ⟨HB0.out, .inl ⟨by rw [HE.out]; decide, by rw [HE.out]; rfl⟩⟩
 ·have hn' : nameB name = true := by simpa using hn
  rw [hn']
  by_cases hr : room < 0 ∨ 1000 < room
  ·have HE : Hid (newE name room t = 1) := Lib.hid (by unfold newE; rw [if_neg hn, if_pos hr])
   clear hn hn'
   go_wp2_with fail
   refine (hnew_bad room W0 hr).mono ?_
   rintro e w1 ⟨rfl, rfl⟩
   go_wp2_with fail
   go_ret2
   exact ⟨HB0.out, .inl ⟨by rw [HE.out]; decide, by rw [HE.out]; rfl⟩⟩
  ·have HE : Hid (newE name room t = pputE room [] t) := Lib.hid (by unfold newE; rw [if_neg hn, if_neg hr])
   have h0 : 0 ≤ room := by omega
   have h1 : room ≤ 1000 := by omega
   clear hn hn' hr
   go_wp2_with fail
   refine (hnew_ok room W0 h0 h1).mono ?_
   rintro e w1 ⟨rfl, hB1, hR1, hz1⟩
   obtain ⟨B, hBe⟩ : ∃ B, B = W0.heap.size := ⟨_, rfl⟩
   rw [← hBe] at hR1 hz1
   have HB1 := Lib.hid hB1; have HR1 := Lib.hid hR1
   have HBE : Hid (B = W0.heap.size ∧ w1.heap.size = W0.heap.size + 1) := Lib.hid ⟨hBe, by omega⟩
   rw [← hBe]
   have HX41 := Lib.hid (HX4.out.step hB1)
   have HT1 := Lib.hid (HT0.out.below hB1)
   clear hB1 hR1 hz1 hBe
   have x0 := HX41.out.cell 0 _ rfl
   have x1 := HX41.out.cell 1 _ rfl
   have x2 := HX41.out.cell 2 _ rfl
   have x3 := HX41.out.cell 3 _ rfl
   go_wp2_with fail
   refine (hPut_c t (fun b => b = B) S w1 B room ⟨[], []⟩ _ HR1.out HT1.out (fun b hb => by have := HSS.out b hb; have := HBE.out; omega) (by omega) (by simp) (by simp)).mono ?_
   rintro e w2 ⟨rfl, hK, hH⟩
   have hP := (PH.new h0).putHO t
   obtain ⟨K, hKe⟩ : ∃ K, K = putHO room ⟨[], []⟩ t := ⟨_, rfl⟩
   rw [← hKe] at hH hP
   rw [← hKe]
   have HB2 : Hid (Below w.heap.size w w2) := Lib.hid (HB0.out.trans ((HB1.out.trans (hK.below (B := W0.heap.size) (by have := HBE.out; omega) fun b hb => by have := HBE.out; omega)).mono (by omega)))
   have HH2 := Lib.hid hH; have HP2 := Lib.hid hP; have HK2 := Lib.hid hK
   have HKE := Lib.hid hKe
   clear hK hH hP hKe x0 x1 x2 x3
   go_upto_region 7 with fail
   obtain ⟨W8, hW8⟩ : ∃ W : World, W = w2.alloc (.cells #[.int .i64 K.1.kind, .int .i64 K.1.n] 31) := ⟨_, rfl⟩
   obtain ⟨g10, hg10⟩ : ∃ g, g = w2.heap.size := ⟨_, rfl⟩
   have HB8 : Hid (Below w2.heap.size w2 W8) := Lib.hid (by rw [hW8]; exact below_alloc _ _)
   have HX10 : Hid (Blk W8 g10 [.int .i64 K.1.kind, .int .i64 K.1.n]) := Lib.hid (by rw [hW8]; exact Blk.new _ _ _ _ hg10)
   rw [← hW8, ← hg10]
   clear hW8 hg10
   have HBW : Hid (Below w.heap.size w W8) := Lib.hid (HB2.out.trans (HB8.out.mono HB2.out.size))
   by_cases hz : K.2.1 = 0
   ·have qz : (K.2.1 != 0) = false := by simp [hz]
    have hok : newE name room t = 0 ∧ PH room K.2.2 [(t, K.1)] ∧ K.2.2.names.length ≤ bulkL [t] := by
     rw [HE.out]
     rcases HP2.out with ⟨f1, -⟩ | ⟨-, f2, -⟩ | ⟨-, f2, f3, f4⟩
     ·rw [f1] at hz; exact absurd hz (by decide)
     ·exact absurd hz f2
     ·exact ⟨f2, f3, by simpa using f4⟩
    have HOK := Lib.hid hok
    have HZ := Lib.hid hz
    have x0 := HX10.out.cell 0 _ rfl
    have x1 := HX10.out.cell 1 _ rfl
    clear hz hok
    go_wp2_with fail
    have hw0 := HBW.out.size
    have hw1 := HBE.out
    have hw2 := HK2.out.size
    have hw8 := HB8.out.size
    have hB : B < w2.heap.size := by omega
    obtain ⟨W9, hW9⟩ : ∃ W : World, W = (W8.alloc (.cells #[.int .i64 K.1.kind, .int .i64 K.1.n] 31)).alloc (.cells #[.string name, .pointer (some ⟨B, 0, none⟩), .slice (some ⟨W8.heap.size, 0, none⟩) 1 1] 123) := ⟨_, rfl⟩
    have hs9 : W9.heap.size = W8.heap.size + 2 := by rw [hW9]; simp
    have hb9 : Below W8.heap.size W8 W9 := by rw [hW9]; exact (below_alloc _ _).trans ((below_alloc _ _).mono (by simp))
    have hX9 : Blk W9 (W8.heap.size + 1) [.string name, .pointer (some ⟨B, 0, none⟩), .slice (some ⟨W8.heap.size, 0, none⟩) 1 1] := by rw [hW9]; exact Blk.new _ _ _ _ (by simp)
    have hO9 : OwnW W9 (.slice (some ⟨W8.heap.size, 0, none⟩) 1 1) [K.1] := by
     rw [hW9]
     exact (OwnW.one W8 K.1).to (by simp) fun b hb => by
      obtain rfl : W8.heap.size = b := by simpa [Value.ownBlock] using hb
      exact Below.heap_alloc _ _ _ (by simp)
    have hus : K.2.2.ws.length = szL [t] := by
     have h := HKE.out
     obtain ⟨h1, h2⟩ := putE_yes (t := t) (by
      have := HOK.out.1
      rw [HE.out] at this
      unfold pputE at this
      by_cases hp : putE t ≠ 0
      ·rw [if_pos hp] at this; exact absurd this hp
      ·simpa using hp)
     by_cases h3 : room < ((⟨[], []⟩ : HS).ws.length : Int) + szL [t]
     ·rw [putHO_full h1 h2 h3] at h
      have := HZ.out
      rw [h] at this
      exact absurd this (by decide)
     ·rw [putHO_ok h1 h2 h3] at h
      rw [h]
      have := (putW_len ⟨[], []⟩ t).1
      simpa using this
    rw [← hW9]
    go_ret2
    refine ⟨HBW.out.trans (hb9.mono hw0), .inr ⟨HOK.out.1, W8.heap.size + 1, K.1, by rw [HZ.out]; rfl, fun b => (b = B ∨ w1.heap.size ≤ b) ∧ b < w2.heap.size, B, K.2.2, .slice (some ⟨W8.heap.size, 0, none⟩) 1 1, ⟨hX9, (HH2.out.low.below HB8.out).below hb9, hO9, HOK.out.2.1, fun hf => by omega, fun b hb => by omega, fun b hb => ?_⟩, HOK.out.2.2, hus, fun b hb => ?_, ?_, fun b hb => ?_⟩⟩
    ·obtain rfl : W8.heap.size = b := by simpa [Value.ownBlock] using hb
     exact ⟨fun hf => by omega, by omega⟩
    ·show w.heap.size ≤ b
     omega
    ·show w.heap.size ≤ _
     omega
    ·obtain rfl : W8.heap.size = b := by simpa [Value.ownBlock] using hb
     exact hw0
   ·have qz : (K.2.1 != 0) = true := by simpa using hz
    have hbad : newE name room t = K.2.1 := by
     rw [HE.out]
     rcases HP2.out with ⟨f1, f2, f3, f4⟩ | ⟨f1, -⟩ | ⟨f1, -⟩
     ·rw [f1]; unfold pputE; rw [if_neg (by simp [f3]), if_pos (by simpa [szL] using f4)]
     ·exact f1.symm
     ·exact absurd f1 hz
    have HZ := Lib.hid hz; have HBD := Lib.hid hbad
    clear hz hbad
    go_wp2_with fail
    go_ret2
    exact ⟨HBW.out, .inl ⟨by rw [HBD.out]; exact HZ.out, by rw [HBD.out]; rfl⟩⟩
end Go.Proofs.Ytedfepnekjjmnab

/-
 slices.Delete of one word of a row of one's own. No condition but the row's place.
-/
namespace Go.Proofs.Ytedfepnekjjmnab
open Go.RowKit
set_option linter.unusedSimpArgs false
set_option linter.unusedVariables false
set_option maxRecDepth 100000

/-! ### Cells of words -/
def wcs (l : List Wrd) : List Value := l.flatMap fun x => [.int .i64 x.kind, .int .i64 x.n]
theorem cells_wrdE {S : Nat → Prop} {w : World} : ∀ {l : List Wrd} {cs : List Value}, CellsX wrdE S w l cs ↔ cs = wcs l
 | [], cs => Iff.rfl
 | x :: l, cs => by
  constructor
  ·rintro ⟨c, cs', rfl, rfl, h⟩
   rw [cells_wrdE.1 h]; rfl
  ·rintro rfl
   exact ⟨[.int .i64 x.kind, .int .i64 x.n], wcs l, rfl, rfl, cells_wrdE.2 rfl⟩
theorem wcs_len : ∀ l : List Wrd, (wcs l).length = l.length * 2
 | [] => rfl
 | x :: l => by
  have := wcs_len l
  show (([.int .i64 x.kind, .int .i64 x.n] : List Value) ++ wcs l).length = _
  rw [List.length_append, this, List.length_cons]; simp; omega
theorem wcs_get : ∀ (l : List Wrd) (j : Nat), (wcs l)[j]? = (l[j / 2]?).map fun x => if j % 2 = 0 then Value.int .i64 x.kind else Value.int .i64 x.n
 | [], j => by simp [wcs]
 | x :: l, 0 => rfl
 | x :: l, 1 => rfl
 | x :: l, j + 2 => by
  have h := wcs_get l j
  show (([.int .i64 x.kind, .int .i64 x.n] : List Value) ++ wcs l)[j + 2]? = _
  rw [List.getElem?_append_right (by simp), show (j + 2) / 2 = j / 2 + 1 by omega, List.getElem?_cons_succ, show (j + 2) % 2 = j % 2 by omega]
  simpa using h
theorem setAll_cells (g : Nat) (e : TypeId) : ∀ (cs : List Value) (i : Nat) (w : World) (cur : Array Value), w.heap[g]? = some (.cells cur e (0, 0)) → ∃ cur', (setAll w g i cs).heap[g]? = some (.cells cur' e (0, 0)) ∧ cur'.size = cur.size ∧
  ∀ j, cur'[j]? = if i ≤ j ∧ j < i + cs.length ∧ j < cur.size then cs[j - i]? else cur[j]?
 | [], i, w, cur, h => ⟨cur, h, rfl, fun j => by rw [if_neg (by simp only [List.length_nil]; omega)]⟩
 | c :: cs, i, w, cur, h => by
  obtain ⟨cur', h1, h2, h3⟩ := setAll_cells g e cs (i + 1) _ _ (heap_setCell_same w g i cur e c h)
  refine ⟨cur', h1, by simpa using h2, fun j => ?_⟩
  rw [h3 j]
  simp only [Array.size_setIfInBounds, List.length_cons]
  by_cases hj : j = i
  ·subst hj
   rw [if_neg (by omega)]
   by_cases hl : j < cur.size
   ·rw [if_pos (by omega), Array.getElem?_setIfInBounds]; simp [hl]
   ·rw [if_neg (by omega), Array.getElem?_setIfInBounds]; simp [hl]
  ·by_cases hc : i ≤ j ∧ j < i + (cs.length + 1) ∧ j < cur.size
   ·rw [if_pos (by omega), if_pos hc, show j - i = (j - (i + 1)) + 1 by omega, List.getElem?_cons_succ]
   ·rw [if_neg (by omega), if_neg hc, Array.getElem?_setIfInBounds_ne (by omega)]
/-- A word's row, its cells. -/
theorem OwnW.cur {w : World} {g n cap : Nat} {l : List Wrd} (h : OwnW w (.slice (some ⟨g, 0, none⟩) n cap) l) : n = l.length ∧ n ≤ cap ∧ cap ≤ maxLen ∧ ∃ cur, w.heap[g]? = some (.cells cur 31 (0, 0)) ∧ cur.size = cap * 2 ∧ ∀ j, j < n * 2 → cur[j]? = (wcs l)[j]? := by
 obtain ⟨cs, ⟨h1, h2⟩, hC⟩ := h
 rw [cells_wrdE.1 hC] at h1 h2
 rcases h2 with ⟨h2, -⟩ | ⟨g', cap', cur, ev, hg, hh, hn, hm, hcs, htk⟩
 ·cases h2
 simp only [Value.slice.injEq, Option.some.injEq, Addr.mk.injEq, and_true] at ev
 obtain ⟨rfl, rfl, rfl⟩ := ev
 refine ⟨rfl, hn, hm, cur, hh, hcs, fun j hj => ?_⟩
 rw [← htk, List.getElem?_take_of_lt (by exact hj), Array.getElem?_toList]
theorem OwnW.mk {w : World} {g cap : Nat} {l : List Wrd} {cur : Array Value} (hh : w.heap[g]? = some (.cells cur 31 (0, 0))) (hn : l.length ≤ cap) (hm : cap ≤ maxLen) (hcs : cur.size = cap * 2) (hj : ∀ j, j < l.length * 2 → cur[j]? = (wcs l)[j]?) : OwnW w (.slice (some ⟨g, 0, none⟩) l.length cap) l := by
 refine ⟨wcs l, ⟨wcs_len l, .inr ⟨g, cap, cur, rfl, Nat.zero_le _, hh, hn, hm, hcs, ?_⟩⟩, cells_wrdE.2 rfl⟩
 refine List.ext_getElem? fun j => ?_
 by_cases h : j < l.length * 2
 ·rw [List.getElem?_take_of_lt (by exact h), Array.getElem?_toList, hj j h]
 ·rw [List.getElem?_eq_none (by rw [List.length_take]; show min (l.length * 2) _ ≤ j; omega), List.getElem?_eq_none (by rw [wcs_len]; omega)]
/-- A word that is left out. -/
theorem wcs_erase (l : List Wrd) (i j : Nat) (hi : i < l.length) (hj : j < (l.length - 1) * 2) : (wcs (l.eraseIdx i))[j]? = if j < i * 2 then (wcs l)[j]? else (wcs l)[j + 2]? := by
 rw [wcs_get, wcs_get, wcs_get, List.getElem?_eraseIdx, show (j + 2) / 2 = j / 2 + 1 by omega, show (j + 2) % 2 = j % 2 by omega]
 by_cases h : j < i * 2
 ·rw [if_pos (by omega), if_pos h]
 ·rw [if_neg (by omega), if_neg h]

theorem cell_cur {w : World} {g : Nat} {cur : Array Value} {e : TypeId} (h : w.heap[g]? = some (.cells cur e (0, 0))) (j : Nat) : w.cell? ⟨g, j, none⟩ = cur[j]? := by simp [World.cell?, h]
theorem fr_cur {w : World} {g : Nat} {cur : Array Value} {e : TypeId} (h : w.heap[g]? = some (.cells cur e (0, 0))) (j : Nat) : w.frozen? ⟨g, j, none⟩ = false := by simp [World.frozen?, h]
theorem wcs_one {l : List Wrd} {u : Value} (h : u ∈ wcs l) : u.oneCell' = true := by
 obtain ⟨x, -, hx⟩ := List.mem_flatMap.1 h
 rcases List.mem_cons.1 hx with rfl | hx
 ·rfl
 ·rw [List.mem_singleton.1 hx]; rfl
theorem run_clear_word (w : World) (g n c : Nat) (ty : TypeId) (cur : Array Value) (h : w.heap[g]? = some (.cells cur 31 (0, 0))) (hl : n * 2 + 2 ≤ cur.size) : (Builtin.clear_ #[37] ty #[.slice (some ⟨g, n * 2, none⟩) 1 c]).run Try.prog w = .ok (.tuple #[]) (setAll w g (n * 2) [.int .i64 0, .int .i64 0]) := by
 obtain ⟨i0, hi, hz0, hs2, hb⟩ := info_parts infoWord
 have hst := run_storeCells_cells (P := Try.prog) g (n * 2) [.int .i64 0, .int .i64 0] 0 w (fun j hj => by
  have hj : j < 2 := hj
  rw [show n * 2 + 0 + j = n * 2 + j by omega, cell_cur h, Array.getElem?_eq_getElem (by omega)]; rfl) (fun j hj => fr_cur h _) (by
  intro u hu
  rcases List.mem_cons.1 hu with rfl | hu
  ·rfl
  ·rw [List.mem_singleton.1 hu]; rfl)
 simp only [Nat.add_zero] at hst
 rw [setCells_all] at hst
 have hv : ∀ w, (zeroValue 31).run Try.prog w = .ok (.agg #[.int .i64 0, .int .i64 0]) w := fun w => by
  simp [zeroValue, typeInfo, hi, hz0]
 have hzc : (Builtin.zeroCells (Value.agg #[.int .i64 0, .int .i64 0]).cells 1).toList = [.int .i64 0, .int .i64 0] := by
  simp [Builtin.zeroCells, Value.cells]
  rfl
 simp [Builtin.clear_, run_underlying Try.underlying37, hv, hzc, hst]
section
variable {o : Oper} {a : Act} {Q : Exit → Act → World → Prop} {K : Act → World → Prop} {w : World}
/-- 'append(s, x...)' of words within the room. -/
theorem wp_append_room {s x : Nat} (ho : o.op = .call { callee := .builtin .append, args := #[.tmp s, .tmp x], argTypes := #[37, 37] }) {g n cap m c : Nat} (hs : a.eval (.tmp s) = .slice (some ⟨g, 0, none⟩) n cap) {A : Addr} {news : List Value} (hx : a.eval (.tmp x) = .slice (some A) m c)
  (hl : news.length = m * 2) (hc : ∀ j u, news[j]? = some u → w.cell? (A.add j) = some u) (hroom : n + m ≤ cap) (h1 : ∀ u ∈ news, u.oneCell' = true) (hsp : ∀ j, j < news.length → (w.cell? ⟨g, n * 2 + j, none⟩).isSome = true ∧ w.frozen? ⟨g, n * 2 + j, none⟩ = false)
  (hK : K (a.put o.dst (.slice (some ⟨g, 0, none⟩) (n + m) cap)) (setAll w g (n * 2) news)) : Oper.wp Try.prog o a w K Q := by
 obtain ⟨i0, hi, hz, hs2, hb⟩ := info_parts infoWord
 have hs2' : i0.size = 2 := hs2
 have h2 := run_append_room_cells (P := Try.prog) (w := w) 37 o.type 31 i0 Try.underlying37 hi g 0 n cap A m c news (by rw [hs2', hl]) hc h1 hroom (fun j hj => by rw [hs2', Nat.zero_add]; exact (hsp j hj).1) (fun j hj => by rw [hs2', Nat.zero_add]; exact (hsp j hj).2)
 rw [hs2', Nat.zero_add, setCells_all] at h2
 unfold Oper.wp
 simp [execOp, ho, resolve, invoke, builtin, hs, hx, h2, Result.andThen]
 exact hK
end
set_option maxHeartbeats 2000000 in
theorem delW_c (w : World) (g cap : Nat) (l : List Wrd) (i : Nat) (h : OwnW w (.slice (some ⟨g, 0, none⟩) l.length cap) l) (hi : i < l.length) (hl : l.length ≤ 1000) :
  Calls Try.prog 69 #[.slice (some ⟨g, 0, none⟩) l.length cap, .int .i64 (i : Int), .int .i64 ((i : Int) + 1)] w fun e w' => e = .returned (.slice (some ⟨g, 0, none⟩) (l.length - 1) cap) ∧ OwnW w' (.slice (some ⟨g, 0, none⟩) (l.length - 1) cap) (l.eraseIdx i) ∧ Keep (fun b => b = g) w w' := by
 obtain ⟨-, hnc, hcm, cur, hh, hsz, hj⟩ := h.cur
 have HH := Lib.hid hh; have HJ := Lib.hid hj
 clear h hh hj
 go_enter Try.func69, Try.ntmps69
 go_upto_region 5 with fail
 have hic : i ≤ cap := by omega
 have hjc : i + 1 ≤ cap := by omega
 have hjn : i + 1 ≤ l.length := by omega
 obtain ⟨A, hA, hAc⟩ : ∃ A : Addr, (if cap = i + 1 then some (⟨g, 0, none⟩ : Addr) else some ⟨g, (i + 1) * 2, none⟩) = some A ∧ (cap ≠ i + 1 → A = ⟨g, (i + 1) * 2, none⟩) := by
  by_cases hc : cap = i + 1
  ·exact ⟨_, if_pos hc, fun h => absurd hc h⟩
  ·exact ⟨_, if_neg hc, fun _ => rfl⟩
 have HAC := Lib.hid hAc
 clear hAc
 refine rg_start (fun _ => True) (by as_aux_lemma => kernel_rfl) (fun _ _ => trivial) ?_
 intro Wd hB hWd hWd' hHeld
 have HBd := Lib.hid hB
 have HHd : Hid (Wd.heap[g]? = some (.cells cur 31 (0, 0))) := Lib.hid ((hB.block g (by have := (Array.getElem?_eq_some_iff.1 HH.out).1; omega)).trans HH.out)
 clear hB
 refine rg_tk 0 ?_ rfl (by as_aux_lemma => kernel_rfl) (by rfl) ?_ hHeld ?_
 rotate_left 1
 ·intro w hSw; (try dsimp only at hSw); go_simp; try (with_reducible rfl)
 (try simp only [Act.put, pA, pB, pC])
 refine rg_tk 1 ?_ rfl (by as_aux_lemma => kernel_rfl) (by rfl) ?_ hHeld ?_
 rotate_left 1
 ·intro w hSw; (try dsimp only at hSw); go_simp; try (with_reducible rfl)
 (try simp only [Act.put, pA, pB, pC])
 refine rg_tk 2 ?_ rfl (by as_aux_lemma => kernel_rfl) (by rfl) ?_ hHeld ?_
 rotate_left 1
 ·intro w hSw; (try dsimp only at hSw); go_simp; try (with_reducible rfl)
 (try simp only [Act.put, pA, pB, pC])
 refine rg_tk 3 ?_ rfl (by as_aux_lemma => kernel_rfl) (by rfl) ?_ hHeld ?_
 rotate_left 1
 ·intro w hSw; (try dsimp only at hSw); go_simp; try (with_reducible rfl)
 (try simp only [Act.put, pA, pB, pC])
 refine rg_tk 4 ?_ rfl (by as_aux_lemma => kernel_rfl) (by rfl) ?_ hHeld ?_
 rotate_left 1
 ·intro w hSw; (try dsimp only at hSw); go_simp; try (with_reducible rfl)
 (try simp only [Act.put, pA, pB, pC])
 refine rg_tk 5 ?_ rfl (by as_aux_lemma => kernel_rfl) (by rfl) ?_ hHeld ?_
 rotate_left 1
 ·intro w hSw; (try dsimp only at hSw); go_simp; (try rw [if_pos (by omega)]); try (with_reducible rfl)
 (try simp only [Act.put, pA, pB, pC])
 refine rg_only (i := 6) rfl (by as_aux_lemma => kernel_rfl) (by rfl) (fun K hK => ?_)
 refine wp_append_room (s := 22) (x := 25) rfl (g := g) (n := i) (cap := cap) (by rfl) (A := A) (m := l.length - (i + 1)) (c := cap - (i + 1)) (news := (wcs l).drop ((i + 1) * 2)) (by rfl) (by rw [List.length_drop, wcs_len]; omega) (fun j u hu => ?_) (by omega) (fun u hu => wcs_one (List.mem_of_mem_drop hu)) (fun j hj => ?_) ?_
 ·have hj := (List.getElem?_eq_some_iff.1 hu).1
  rw [List.length_drop, wcs_len] at hj
  rw [List.getElem?_drop] at hu
  rw [HAC.out (by omega)]
  rw [Addr.add_lit]
  rw [cell_cur HHd.out, HJ.out _ (by omega), hu]
 ·rw [List.length_drop, wcs_len] at hj
  refine ⟨?_, fr_cur HHd.out _⟩
  rw [cell_cur HHd.out, HJ.out _ (by omega), wcs_get, List.getElem?_eq_getElem (by omega)]
  rfl
 obtain ⟨W1, hW1⟩ : ∃ W : World, W = setAll Wd g (i * 2) ((wcs l).drop ((i + 1) * 2)) := ⟨_, rfl⟩
 rw [← hW1]
 have HW1 := Lib.hid hW1
 clear hW1
 refine hK.out _ _ (trivial) (fun _ => ?_)
 clear hK K hHeld
 rename_i hHeld
 (try simp only [Act.put, pA, pB, pC])
 refine rg_tk 7 ?_ rfl (by as_aux_lemma => kernel_rfl) (by rfl) ?_ hHeld ?_
 rotate_left 1
 ·intro w hSw; (try dsimp only at hSw); go_simp; try (with_reducible rfl)
 (try simp only [Act.put, pA, pB, pC])
 refine rg_done (by as_aux_lemma => kernel_rfl) ?_
 clear hHeld
 go_upto_region 6 with fail
 obtain ⟨N, hN⟩ : ∃ N, l.length = N + 1 := ⟨l.length - 1, by omega⟩
 obtain ⟨cur1, h1, h2, h3⟩ := setAll_cells g 31 ((wcs l).drop ((i + 1) * 2)) (i * 2) Wd cur HHd.out
 rw [← HW1.out] at h1
 obtain ⟨W2, hW2⟩ : ∃ W : World, W = setAll W1 g (N * 2) [.int .i64 0, .int .i64 0] := ⟨_, rfl⟩
 obtain ⟨cur2, k1, k2, k3⟩ := setAll_cells g 31 [.int .i64 0, .int .i64 0] (N * 2) W1 cur1 h1
 rw [← hW2] at k1
 have hcl : ∀ ty, (Builtin.clear_ #[37] ty #[.slice (some ⟨g, N * 2, none⟩) 1 (cap - N)]).run Try.prog W1 = .ok (.tuple #[]) W2 := fun ty => by
  rw [hW2]
  exact run_clear_word W1 g N (cap - N) ty cur1 h1 (by rw [h2]; omega)
 have hfin : OwnW W2 (.slice (some ⟨g, 0, none⟩) N cap) (l.eraseIdx i) ∧ Keep (fun b => b = g) w W2 := by
  have el : (l.eraseIdx i).length = N := by rw [List.length_eraseIdx_of_lt hi]; omega
  refine ⟨?_, ?_⟩
  ·have := OwnW.mk (l := l.eraseIdx i) (cap := cap) k1 (by omega) hcm (by omega) fun j hj => ?_
   ·rwa [el] at this
   ·rw [el] at hj
    rw [k3 j, if_neg (by omega), h3 j, List.length_drop, wcs_len, wcs_erase l i j hi (by omega)]
    by_cases hji : j < i * 2
    ·rw [if_neg (by omega), if_pos hji, HJ.out j (by omega)]
    ·rw [if_pos (by omega), if_neg hji, List.getElem?_drop, show (i + 1) * 2 + (j - i * 2) = j + 2 by omega]
  ·have a1 := setAll_heap Wd g ((wcs l).drop ((i + 1) * 2)) (i * 2)
   have a2 := setAll_heap W1 g [.int .i64 0, .int .i64 0] (N * 2)
   have b1 := setAll_below (Below.refl 0 Wd) g (Nat.zero_le _) ((wcs l).drop ((i + 1) * 2)) (i * 2)
   have b2 := setAll_below (Below.refl 0 W1) g (Nat.zero_le _) [.int .i64 0, .int .i64 0] (N * 2)
   rw [← HW1.out] at a1 b1
   rw [← hW2] at a2 b2
   have k0 := HBd.out
   exact ⟨b2.os.trans (b1.os.trans k0.os), b2.tape.trans (b1.tape.trans k0.tape), b2.output.trans (b1.output.trans k0.output), by have := k0.size; omega, fun k hk hn => (a2.2 k hn).trans ((a1.2 k hn).trans (k0.block k hk))⟩
 have HFIN := Lib.hid hfin
 have hcN : ¬ cap = N := by omega
 have hN1 : N ≤ N + 1 := by omega
 have hN2 : N + 1 ≤ cap := by omega
 have HN := Lib.hid hN
 rw [show i + (l.length - (i + 1)) = N by omega, hN]
 clear hN hW2 k1 k2 k3 h1 h2 h3 hfin hic hjc hjn hA hi hl hnc
 go_wp2_with fail
 go_ret
 have e : l.length - 1 = N := by have := HN.out; omega
 rw [e]
 exact ⟨rfl, HFIN.out.1, HFIN.out.2⟩
end Go.Proofs.Ytedfepnekjjmnab

/-
 A process: become. Conditions: it lies as PrR says; few names, few words.
-/
namespace Go.Proofs.Ytedfepnekjjmnab
open Go.RowKit
set_option linter.unusedSimpArgs false
set_option linter.unusedVariables false
set_option maxRecDepth 100000

/-- The first word is another one. -/
theorem PrV.set0 {F : Nat → Prop} {w : World} {pb : Nat} {name : ByteArray} {room : Int} {p p' : T × Wrd} {L Z Z' : TW} {B : Nat} {H : HS} {g n cap : Nat} (h : PrV F w pb name room (p :: L) Z B H (.slice (some ⟨g, 0, none⟩) n cap)) (hp : PH room H ((p' :: L) ++ Z')) :
  PrV F (setAll w g 0 [.int .i64 p'.2.kind, .int .i64 p'.2.n]) pb name room (p' :: L) Z' B H (.slice (some ⟨g, 0, none⟩) n cap) := by
 have hg := h.fv g rfl
 have ho := (h.ow).set (i := 0) (by simp [wdsL]) p'.2
 have hs : ∀ b, b ≠ g → (setAll w g 0 [.int .i64 p'.2.kind, .int .i64 p'.2.n]).heap[b]? = w.heap[b]? := (setAll_heap w g _ 0).2
 have hz := (setAll_heap w g [.int .i64 p'.2.kind, .int .i64 p'.2.n] 0).1
 exact ⟨h.blk.heap (hs pb fun e => hg.2 e.symm), h.hp.to (by omega) (fun _ h => h) fun b hb _ => hs b fun e => hg.1 (e ▸ hb), ho, hp, h.fp, fun b hb => by rw [hz]; exact h.fl b hb, h.fv⟩
theorem pputE_num (room : Int) (us : List T) (t : T) : pputE room (numT 0 :: us) t = pputE room us t := by
 unfold pputE
 rw [szL_cons]
 simp [numT, szL]
/-- What stands behind become. -/
def BecP (G : Nat → Prop) (w : World) (pb : Nat) (name : ByteArray) (room : Int) (nb : Nat) (st : T) (us : List T) (t : T) (e : Ending) (w' : World) : Prop :=
 e = .returned (.bool (pputE room us t == 0)) ∧ Keep G w w' ∧ ∃ (y : Wrd) (L' : TW) (u' : Nat), tmsL L' = us ∧ PrR (fun b => G b ∨ w.heap.size ≤ b) w' pb name room (nb + bulkL [t] + bulkL [st]) u' ((if pputE room us t = 0 then t else st, y) :: L') []
set_option maxHeartbeats 4000000 in
theorem pbec_c (G : Nat → Prop) (w : World) (pb : Nat) (name : ByteArray) (room : Int) (nb u : Nat) (st : T) (x : Wrd) (L : TW) (t : T) (S : Nat → Prop) (v : Value) (h : PrR G w pb name room nb u ((st, x) :: L) []) (hv : RT S w t v) (hGl : ∀ b, G b → b < w.heap.size) (hS : ∀ b, S b → b < w.heap.size ∧ ¬ G b) (hbt : bulkL [t] ≤ 4294967296) (hl : L.length ≤ 800) (hr : room ≤ 1000) (hn : nb + bulkL [t] ≤ 4294967296) :
  Calls Try.prog 72 #[.pointer (some ⟨pb, 0, none⟩), v] w (BecP G w pb name room nb st (tmsL L) t) := by
 obtain ⟨a, cap, rfl, hcap, hrt⟩ := hv
 obtain ⟨W0, hW0⟩ : ∃ W : World, W = w.alloc (.cells #[.int .i64 t.kind, .int .i64 t.n, .string t.name, .slice a t.args.length cap] 24) := ⟨_, rfl⟩
 obtain ⟨g3, hg3⟩ : ∃ g, g = w.heap.size := ⟨_, rfl⟩
 have HB0 : Hid (Below w.heap.size w W0) := Lib.hid (by rw [hW0]; exact below_alloc _ _)
 have HX3 : Hid (Blk W0 g3 [.int .i64 t.kind, .int .i64 t.n, .string t.name, .slice a t.args.length cap]) := Lib.hid (by rw [hW0, hg3]; exact Blk.new _ _ _ _ rfl)
 have hs0 : W0.heap.size = w.heap.size + 1 := by rw [hW0]; simp
 have HH0 := Lib.hid (h.below HB0.out)
 have HOK : Hid (putE st = 0 ∧ (szL (tmsL L) : Int) + szL [st] ≤ room ∧ bulkL [st] ≤ 4294967296) := Lib.hid (by
  have h1 := h.le
  have e : szL (tmsL ((st, x) :: L)) = szL [st] + szL (tmsL L) := by
   show szL (st :: tmsL L) = _
   rw [szL_cons, szL_cons]; simp [szL]
  obtain ⟨F, B, H, v, hV, -⟩ := h
  have hok := hV.ph.ok (st, x) (by simp)
  refine ⟨?_, by omega, Nat.le_trans (chk_bulk hok.1) (by decide)⟩
  unfold putE
  rw [if_neg (by simp [hok.1]), if_neg (by simp [hok.2])])
 obtain ⟨F, B, H, vv, hV, hnb, hu, hG⟩ := h
 obtain ⟨gw, cw, ev⟩ := hV.ow.form0 (by simp [wdsL])
 rw [wdsL_len] at ev
 subst ev
 have HVW := Lib.hid hV; have HG := Lib.hid hG; have HNB := Lib.hid hnb
 have HGW : Hid (gw < w.heap.size ∧ gw ≠ pb ∧ pb < w.heap.size) := Lib.hid ⟨(hV.ow.block gw rfl).2, (hV.fv gw rfl).2, hV.blk.lt⟩
 clear hV hG hnb hu
 have HT0 : Hid (RT S W0 t (.agg #[.int .i64 t.kind, .int .i64 t.n, .string t.name, .slice a t.args.length cap])) := Lib.hid (RT.below ⟨a, cap, rfl, hcap, hrt⟩ HB0.out)
 have HS0 : Hid (∀ b, S b → b < w.heap.size ∧ ¬ G b) := Lib.hid hS
 have HG3 : Hid (g3 = w.heap.size ∧ W0.heap.size = w.heap.size + 1) := Lib.hid ⟨hg3, hs0⟩
 have HGL := Lib.hid hGl
 clear hcap hrt hS hGl
 go_enter Try.func72, Try.ntmps72
 go_upto_region 1 with fail
 rw [← hW0, ← hg3]
 clear hW0 hg3
 go_wp2_with fail
 refine (pstate_c G W0 pb name room nb u st x L [] HH0.out (by omega) hr (by omega)).mono ?_
 rintro e W1 ⟨ar, cr, rfl, hB1, hT1⟩
 have HB1 := Lib.hid hB1; have HTS := Lib.hid hT1
 clear hB1 hT1
 go_upto_region 2 with fail
 obtain ⟨W2, hW2⟩ : ∃ W : World, W = W1.alloc (.cells #[.int .i64 st.kind, .int .i64 st.n, .string st.name, .slice ar st.args.length cr] 24) := ⟨_, rfl⟩
 obtain ⟨g5, hg5⟩ : ∃ g, g = W1.heap.size := ⟨_, rfl⟩
 have HB2 : Hid (Below W0.heap.size W0 W2) := Lib.hid (by rw [hW2]; exact below_step HB1.out HB1.out.size (below_alloc _ _))
 have HX5 : Hid (Blk W2 g5 [.int .i64 st.kind, .int .i64 st.n, .string st.name, .slice ar st.args.length cr]) := Lib.hid (by rw [hW2]; exact Blk.new _ _ _ _ hg5)
 have HTS2 : Hid (RT (fun b => W0.heap.size ≤ b) W2 st (.agg #[.int .i64 st.kind, .int .i64 st.n, .string st.name, .slice ar st.args.length cr])) := Lib.hid (by rw [hW2]; exact HTS.out.below (below_alloc _ _))
 have HG5 : Hid (W0.heap.size ≤ g5) := Lib.hid (by have := HB1.out.size; omega)
 rw [← hW2, ← hg5]
 clear hW2 hg5 HTS
 have HV2 := Lib.hid ((HVW.out.below HB0.out).below HB2.out)
 have y2 := HV2.out.blk.cell 2 _ rfl
 obtain ⟨-, hnc, -, cur, hh, hsz, -⟩ := HV2.out.ow.cur
 have hnc' : L.length + 1 ≤ cw := by simpa using hnc
 obtain ⟨c0, q0⟩ : ∃ c, W2.cell? ⟨gw, 0, none⟩ = some c := ⟨_, by rw [cell_cur hh, Array.getElem?_eq_getElem (by omega)]⟩
 obtain ⟨c1, q1⟩ : ∃ c, W2.cell? ⟨gw, 1, none⟩ = some c := ⟨_, by rw [cell_cur hh, Array.getElem?_eq_getElem (by omega)]⟩
 have qf : ∀ o, W2.frozen? ⟨gw, o, none⟩ = false := fun o => fr_cur hh o
 clear hh hsz hnc hnc'
 go_upto_region 3 with fail
 obtain ⟨W3, hW3⟩ : ∃ W : World, W = (W2.setCell ⟨gw, 0, none⟩ (.int .i64 1)).setCell ⟨gw, 1, none⟩ (.int .i64 0) := ⟨_, rfl⟩
 have hW3' : W3 = setAll W2 gw 0 [.int .i64 1, .int .i64 0] := hW3
 have HS3 : Hid (W3.heap.size = W2.heap.size ∧ ∀ b, b ≠ gw → W3.heap[b]? = W2.heap[b]?) := Lib.hid (by rw [hW3']; exact setAll_heap W2 gw _ 0)
 have HV3 : Hid (PrV F W3 pb name room ((numT 0, ⟨1, 0⟩) :: L) [] B H (.slice (some ⟨gw, 0, none⟩) (L.length + 1) cw)) := Lib.hid (by
  rw [hW3']
  have hp : PH room H (((numT 0, ⟨1, 0⟩) :: L) ++ []) := by
   rw [List.append_nil]
   have := HV2.out.ph
   rw [List.append_nil] at this
   exact (this.sub (List.sublist_cons_self _ _)).num
  exact HV2.out.set0 (p' := (numT 0, ⟨1, 0⟩)) hp)
 have HPR3 : Hid (PrR G W3 pb name room nb H.ws.length ((numT 0, ⟨1, 0⟩) :: L) []) := Lib.hid ⟨F, B, H, _, HV3.out, HNB.out, rfl, HG.out⟩
 have HK3 : Hid (Keep G w W3) := Lib.hid (by
  have b1 := setAll_below (Below.refl 0 W2) gw (Nat.zero_le _) [.int .i64 1, .int .i64 0] 0
  rw [← hW3'] at b1
  have k0 : Keep G w W2 := (Keep.of HB0.out).then HB2.out
  refine ⟨b1.os.trans k0.os, b1.tape.trans k0.tape, b1.output.trans k0.output, by have := k0.size; have := HS3.out.1; omega, fun k hk hn => (HS3.out.2 k fun e => hn (e ▸ HG.out.2.2 _ rfl)).trans (k0.block k hk hn)⟩)
 have HX33 : Hid (Blk W3 g3 [.int .i64 t.kind, .int .i64 t.n, .string t.name, .slice a t.args.length cap]) := Lib.hid ((HX3.out.step HB2.out).heap (HS3.out.2 g3 (by have := HG3.out; have := HGW.out; omega)))
 have HX53 : Hid (Blk W3 g5 [.int .i64 st.kind, .int .i64 st.n, .string st.name, .slice ar st.args.length cr]) := Lib.hid (HX5.out.heap (HS3.out.2 g5 (by have := HG3.out; have := HGW.out; have := HG5.out; omega)))
 have HT3 : Hid (RT S W3 t (.agg #[.int .i64 t.kind, .int .i64 t.n, .string t.name, .slice a t.args.length cap])) := Lib.hid ((HT0.out.below HB2.out).to (fun _ h _ => h) fun b hb _ => HS3.out.2 b fun e => (HS0.out b hb).2 (e ▸ HG.out.2.2 _ rfl))
 have HTS3 : Hid (RT (fun b => W0.heap.size ≤ b) W3 st (.agg #[.int .i64 st.kind, .int .i64 st.n, .string st.name, .slice ar st.args.length cr])) := Lib.hid (HTS2.out.to (fun _ h _ => h) fun b hb _ => HS3.out.2 b (by have := HG3.out; have := HGW.out; omega))
 have x0 := HX33.out.cell 0 _ rfl
 have x1 := HX33.out.cell 1 _ rfl
 have x2 := HX33.out.cell 2 _ rfl
 have x3 := HX33.out.cell 3 _ rfl
 rw [← hW3]
 clear hW3 hW3' q0 q1 qf y2
 go_wp2_with fail
 refine (pput_c G W3 pb name room nb _ ((numT 0, ⟨1, 0⟩) :: L) t S _ HPR3.out HT3.out (fun b hb => ⟨by have := (HS0.out b hb).1; have := HK3.out.size; omega, (HS0.out b hb).2⟩) hbt (by simp; omega) hr (by omega)).mono ?_
 rintro e W4 ⟨hK4, y, L1, u1, rfl, eL, h0, h1⟩
 have ez : pputE room (tmsL ((numT 0, ⟨1, 0⟩) :: L)) t = pputE room (tmsL L) t := pputE_num room (tmsL L) t
 rw [ez] at h0 h1
 rw [ez]
 obtain ⟨p6, L6, rfl, eL6, ep6⟩ : ∃ p6 L6, L1 = p6 :: L6 ∧ tmsL L6 = tmsL L ∧ p6.1 = numT 0 := by
  match L1, eL with
  | p6 :: L6, eL => exact ⟨p6, L6, rfl, (List.cons.inj eL).2, (List.cons.inj eL).1⟩
 have HEL6 := Lib.hid eL6; have HP6 := Lib.hid ep6; have HK4 := Lib.hid hK4; have H0' := Lib.hid h0; have H1' := Lib.hid h1
 clear eL eL6 ep6 hK4 h0 h1 ez x0 x1 x2 x3
 go_upto_region 4 with fail
 obtain ⟨W5, hW5⟩ : ∃ W : World, W = W4.alloc (.cells #[.int .i64 y.kind, .int .i64 y.n] 31) := ⟨_, rfl⟩
 obtain ⟨g6, hg6⟩ : ∃ g, g = W4.heap.size := ⟨_, rfl⟩
 have HB5 : Hid (Below W4.heap.size W4 W5) := Lib.hid (by rw [hW5]; exact below_alloc _ _)
 have HX6a : Hid (Blk W5 g6 [.int .i64 y.kind, .int .i64 y.n]) := Lib.hid (by rw [hW5]; exact Blk.new _ _ _ _ hg6)
 have HG6a : Hid (g6 = W4.heap.size) := Lib.hid hg6
 have HK5 : Hid (Keep G w W5) := Lib.hid ((HK3.out.trans (HK4.out.mono fun _ _ h => h)).then HB5.out)
 rw [← hW5, ← hg6]
 clear hW5 hg6
 have hL6 : L6.length ≤ 800 := by have h := congrArg List.length HEL6.out; rw [tmsL_len, tmsL_len] at h; omega
 by_cases hz : pputE room (tmsL L) t = 0
 ·have qz : (pputE room (tmsL L) t != 0) = false := by simp [hz]
  have qz2 : (pputE room (tmsL L) t == 0) = true := by simp [hz]
  have HPZ := Lib.hid hz
  obtain ⟨y6, hy6⟩ : ∃ y6, y6 = y := ⟨_, rfl⟩
  obtain ⟨F6, B6, H6, v6, hV6, hn6, hu6, hG6⟩ := H0'.out hz
  obtain ⟨gv, c6, ev⟩ := hV6.ow.form0 (by simp [wdsL])
  rw [wdsL_len] at ev
  subst ev
  have HNG : Hid (g6 ≠ gv) := Lib.hid (by have := (hV6.ow.block gv rfl).2; have := HG6a.out; omega)
  have HV6 := Lib.hid (hV6.below HB5.out)
  have HNM6 : Hid (H6.names.length ≤ nb + bulkL [t] + bulkL [st]) := Lib.hid (by omega)
  have HG6 : Hid ((∀ b, F6 b → G b ∨ w.heap.size ≤ b) ∧ (G pb ∨ w.heap.size ≤ pb) ∧ ∀ b, (Value.slice (some ⟨gv, 0, none⟩) (p6 :: L6).length c6).ownBlock = some b → G b ∨ w.heap.size ≤ b) := Lib.hid ⟨fun b hb => (hG6.1 b hb).imp id fun h => by have := HK3.out.size; omega, .inl HG.out.2.1, fun b hb => (hG6.2.2 b hb).imp id fun h => by have := HK3.out.size; omega⟩
  have HX6 := HX6a
  have HK6 := HK5
  rw [← hy6] at HV6 HX6
  clear hz hy6 hV6 hn6 hu6 hG6
  go_upto_region 6 with fail
  refine rg_start (fun w' => w'.cell? ⟨g6, 0, none⟩ = some (.int .i64 y6.kind) ∧ w'.cell? ⟨g6, 1, none⟩ = some (.int .i64 y6.n)) (by as_aux_lemma => kernel_rfl) (fun Wd h => ⟨(HX6.out.step h).cell 0 _ rfl, (HX6.out.step h).cell 1 _ rfl⟩) ?_
  intro Wd hB hWd hWd' hHeld
  have HVd := Lib.hid (HV6.out.below hB)
  have HX6d := Lib.hid (HX6.out.step hB)
  have HKd := Lib.hid (HK6.out.then hB)
  have bWd := HVd.out.blk.cell 2 _ rfl
  clear hB
  refine rg_tk 0 ?_ rfl (by as_aux_lemma => kernel_rfl) (by rfl) ?_ hHeld ?_
  rotate_left 1
  ·intro w hSw; (try dsimp only at hSw); go_simp; try (with_reducible rfl)
  (try simp only [Act.put, pA, pB, pC])
  refine rg_tk 1 ?_ rfl (by as_aux_lemma => kernel_rfl) (by rfl) ?_ hHeld ?_
  rotate_left 1
  ·intro w hSw; (try dsimp only at hSw); go_simp; try (with_reducible rfl)
  (try simp only [Act.put, pA, pB, pC])
  refine rg_tk 2 ?_ rfl (by as_aux_lemma => kernel_rfl) (by rfl) ?_ hHeld ?_
  rotate_left 1
  ·intro w hSw; (try dsimp only at hSw); go_simp; try (with_reducible rfl)
  (try simp only [Act.put, pA, pB, pC])
  refine rg_tk 4 ?_ rfl (by as_aux_lemma => kernel_rfl) (by rfl) ?_ hHeld ?_
  rotate_left 1
  ·intro w hSw; (try dsimp only at hSw); go_simp; try (with_reducible rfl)
  (try simp only [Act.put, pA, pB, pC])
  refine rg_only (i := 3) rfl (by as_aux_lemma => kernel_rfl) (by rfl) (fun K hK => ?_)
  go_simp
  skip
  refine hK.out _ _ (hHeld) (fun _ => ?_)
  clear hK K hHeld
  rename_i hHeld
  (try simp only [Act.put, pA, pB, pC])
  refine rg_tk 5 ?_ rfl (by as_aux_lemma => kernel_rfl) (by rfl) ?_ hHeld ?_
  rotate_left 1
  ·intro w hSw; (try dsimp only at hSw); go_simp; try (with_reducible rfl)
  (try simp only [Act.put, pA, pB, pC])
  refine rg_only (i := 6) rfl (by as_aux_lemma => kernel_rfl) (by rfl) (fun K hK => ?_)
  refine wp_store_mid 31 _ _ (by rfl) gv 0 #[.int .i64 y6.kind, .int .i64 y6.n] (by rfl) (by rfl) (HVd.out.ow.there (i := 0) (by simp [wdsL])) (by kernel_rfl) (by simp [Value.oneCell']) ?_
  rw [setCells_all]
  obtain ⟨W7, hW7⟩ : ∃ W : World, W = setAll Wd gv 0 [.int .i64 y6.kind, .int .i64 y6.n] := ⟨_, rfl⟩
  have HS7 : Hid (W7.heap.size = Wd.heap.size ∧ ∀ b, b ≠ gv → W7.heap[b]? = Wd.heap[b]?) := Lib.hid (by rw [hW7]; exact setAll_heap Wd gv _ 0)
  have HW7 := Lib.hid hW7
  rw [← hW7]
  clear hW7
  refine hK.out _ _ (⟨(HX6d.out.heap (HS7.out.2 g6 HNG.out)).cell 0 _ rfl, (HX6d.out.heap (HS7.out.2 g6 HNG.out)).cell 1 _ rfl⟩) (fun _ => ?_)
  clear hK K hHeld
  rename_i hHeld
  (try simp only [Act.put, pA, pB, pC])
  refine rg_done (by as_aux_lemma => kernel_rfl) ?_
  clear hHeld
  go_wp2_with fail
  go_ret
  have hp6 : PH room H6 (((t, y6) :: L6) ++ []) := by
   rw [List.append_nil]
   exact (HVd.out.ph.perm (L' := (t, y6) :: p6 :: L6) (List.perm_append_comm (l₁ := p6 :: L6) (l₂ := [(t, y6)]))).sub (.cons_cons _ (.cons _ (List.Sublist.refl _)))
  have hV7 := HVd.out.set0 (p' := (t, y6)) hp6
  rw [← HW7.out] at hV7
  have hk7 : Keep G w W7 := by
   have b1 := setAll_below (Below.refl 0 Wd) gv (Nat.zero_le _) [.int .i64 y6.kind, .int .i64 y6.n] 0
   rw [← HW7.out] at b1
   have k0 := HKd.out
   refine ⟨b1.os.trans k0.os, b1.tape.trans k0.tape, b1.output.trans k0.output, by have := k0.size; have := HS7.out.1; omega, fun k hk hn => (HS7.out.2 k fun e => ?_).trans (k0.block k hk hn)⟩
   rw [e] at hk hn
   rcases HG6.out.2.2 gv rfl with h1 | h1
   ·exact hn h1
   ·omega
  exact ⟨by rw [show (pputE room (tmsL L) t == 0) = true by simp [HPZ.out]]; rfl, hk7, y6, L6, H6.ws.length, HEL6.out, F6, B6, H6, _, by rw [if_pos HPZ.out]; exact hV7, HNM6.out, rfl, HG6.out⟩
 ·have qz : (pputE room (tmsL L) t != 0) = true := by simpa using hz
  have qz2 : (pputE room (tmsL L) t == 0) = false := by simpa using hz
  have HPZ := Lib.hid hz
  obtain ⟨G5, hG5⟩ : ∃ G5 : Nat → Prop, G5 = fun b => (G b ∨ W3.heap.size ≤ b) ∧ b < W4.heap.size := ⟨_, rfl⟩
  have HG5' : Hid (∀ b, G5 b ↔ ((G b ∨ W3.heap.size ≤ b) ∧ b < W4.heap.size)) := Lib.hid (by rw [hG5]; exact fun _ => Iff.rfl)
  have HPR5 : Hid (PrR G5 W5 pb name room nb u1 (p6 :: L6) []) := Lib.hid (by rw [hG5]; exact (H1'.out hz).low.below HB5.out)
  clear hG5
  have hsz := HK3.out.size
  have hsz4 := HK4.out.size
  have HNS : Hid (∀ b, (W0.heap.size ≤ b ∧ b < W3.heap.size) → ¬ G b ∧ ¬ G5 b) := Lib.hid fun b hb => by
   have h1 : ¬ G b := fun hg => by have := HGL.out b hg; have := HG3.out; omega
   exact ⟨h1, fun hg => by rcases ((HG5'.out b).1 hg).1 with h | h; exact h1 h; omega⟩
  have HTS5 : Hid (RT (fun b => W0.heap.size ≤ b ∧ b < W3.heap.size) W5 st (.agg #[.int .i64 st.kind, .int .i64 st.n, .string st.name, .slice ar st.args.length cr])) := Lib.hid ((HTS3.out.to (S' := fun b => W0.heap.size ≤ b ∧ b < W3.heap.size) (fun b hb hl => ⟨hb, hl⟩) fun _ _ _ => rfl).to (fun _ h _ => h) fun b hb hl => (HB5.out.block b (by omega)).trans (HK4.out.block b hl (HNS.out b hb).1))
  have HX55 : Hid (Blk W5 g5 [.int .i64 st.kind, .int .i64 st.n, .string st.name, .slice ar st.args.length cr]) := Lib.hid ((HX53.out.heap (HK4.out.block g5 HX53.out.lt (HNS.out g5 ⟨HG5.out, HX53.out.lt⟩).1)).step HB5.out)
  have z0 := HX55.out.cell 0 _ rfl
  have z1 := HX55.out.cell 1 _ rfl
  have z2 := HX55.out.cell 2 _ rfl
  have z3 := HX55.out.cell 3 _ rfl
  clear hz
  go_wp2_with fail
  refine (pput_c G5 W5 pb name room nb u1 (p6 :: L6) st _ _ HPR5.out HTS5.out (fun b hb => ⟨by have := HB5.out.size; omega, (HNS.out b hb).2⟩) HOK.out.2.2 (by simp; omega) hr (by omega)).mono ?_
  rintro e W6 ⟨hKp, yb, L7, u7, rfl, eL7, hA, -⟩
  have epz : pputE room (tmsL (p6 :: L6)) st = 0 := by
   rw [show tmsL (p6 :: L6) = numT 0 :: tmsL L by show p6.1 :: tmsL L6 = _; rw [HP6.out, HEL6.out], pputE_num]
   unfold pputE
   rw [if_neg (by simp [HOK.out.1]), if_neg (by have := HOK.out.2.1; omega)]
  rw [epz]
  obtain ⟨p7, L8, rfl, eL8⟩ : ∃ p7 L8, L7 = p7 :: L8 ∧ tmsL L8 = tmsL L := by
   match L7, eL7 with
   | p7 :: L8, eL7 => exact ⟨p7, L8, rfl, ((List.cons.inj eL7).2).trans HEL6.out⟩
  have HA := Lib.hid (hA epz)
  have HKp := Lib.hid hKp
  have HEL8 := Lib.hid eL8
  have hl8 : L8.length ≤ 800 := by have h := congrArg List.length eL8; rw [tmsL_len, tmsL_len] at h; omega
  have HX6p : Hid (Blk W6 g6 [.int .i64 y.kind, .int .i64 y.n]) := Lib.hid (HX6a.out.heap (hKp.block g6 HX6a.out.lt fun hg => by have := ((HG5'.out g6).1 hg).2; have := HG6a.out; omega))
  clear hA hKp eL7 eL8 epz z0 z1 z2 z3
  go_wp2_with (first | (refine store_blk 31 2 szWord _ _ rfl rfl rfl rfl rfl HX6p.out rfl rfl rfl ?_; intro Wt hFt hst hBWt hotht; have HXt := Lib.hid hFt; have HSt := Lib.hid hst; have HBWt := Lib.hid hBWt; have HOt := Lib.hid hotht; clear hFt hst hBWt hotht; go_upto_region 6 with fail))
  obtain ⟨F6, B6, H6, v6, hV6, hn6, hu6, hG6⟩ := HA.out
  obtain ⟨gv, c6, ev⟩ := hV6.ow.form0 (by simp [wdsL])
  rw [wdsL_len] at ev
  subst ev
  have hn6g : ∀ b, (G5 b ∨ W5.heap.size ≤ b) → b ≠ g6 ∧ (G b ∨ w.heap.size ≤ b) := fun b hb => by
   have h1 := HG6a.out
   have h2 := HB5.out.size
   have h3 := HX6a.out.lt
   rcases hb with hb | hb
   ·have h4 := (HG5'.out b).1 hb
    exact ⟨by omega, h4.1.imp id fun h => by omega⟩
   ·exact ⟨by omega, .inr (by omega)⟩
  have HNG : Hid (g6 ≠ gv) := Lib.hid fun e => (hn6g gv (hG6.2.2 gv rfl)).1 e.symm
  have HV6 : Hid (PrV F6 Wt pb name room (p7 :: L8) [(st, yb)] B6 H6 (.slice (some ⟨gv, 0, none⟩) (p7 :: L8).length c6)) := Lib.hid (hV6.to (by rw [HSt.out]; exact Nat.le_refl _) fun b hb _ => HOt.out b (by
   rcases hb with hb | rfl | hb
   ·exact (hn6g b (hG6.1 b hb)).1
   ·exact (hn6g b hG6.2.1).1
   ·exact (hn6g b (hG6.2.2 b hb)).1))
  have HX6 := HXt
  have HNM6 : Hid (H6.names.length ≤ nb + bulkL [t] + bulkL [st]) := Lib.hid (by omega)
  have HG6 : Hid ((∀ b, F6 b → G b ∨ w.heap.size ≤ b) ∧ (G pb ∨ w.heap.size ≤ pb) ∧ ∀ b, (Value.slice (some ⟨gv, 0, none⟩) (p7 :: L8).length c6).ownBlock = some b → G b ∨ w.heap.size ≤ b) := Lib.hid ⟨fun b hb => (hn6g b (hG6.1 b hb)).2, (hn6g pb hG6.2.1).2, fun b hb => (hn6g b (hG6.2.2 b hb)).2⟩
  have HK6 : Hid (Keep G w Wt) := Lib.hid (by
   have k5 := HK5.out
   have kp := HKp.out
   have b0 := HBWt.out 0 W6 (Nat.zero_le _) (Below.refl _ _)
   have h5 := HK5.out.size
   have h6 := HKp.out.size
   refine ⟨b0.os.trans (kp.os.trans k5.os), b0.tape.trans (kp.tape.trans k5.tape), b0.output.trans (kp.output.trans k5.output), by rw [HSt.out]; omega, fun k hk hn => ?_⟩
   rw [HOt.out k (by have := HG6a.out; omega), kp.block k (by omega) (fun hg => ?_), k5.block k hk hn]
   rcases ((HG5'.out k).1 hg).1 with h | h
   ·exact hn h
   ·omega)
  clear hn6g hV6 hn6 hu6 hG6
  refine rg_start (fun w' => w'.cell? ⟨g6, 0, none⟩ = some (.int .i64 yb.kind) ∧ w'.cell? ⟨g6, 1, none⟩ = some (.int .i64 yb.n)) (by as_aux_lemma => kernel_rfl) (fun Wd h => ⟨(HX6.out.step h).cell 0 _ rfl, (HX6.out.step h).cell 1 _ rfl⟩) ?_
  intro Wd hB hWd hWd' hHeld
  have HVd := Lib.hid (HV6.out.below hB)
  have HX6d := Lib.hid (HX6.out.step hB)
  have HKd := Lib.hid (HK6.out.then hB)
  have bWd := HVd.out.blk.cell 2 _ rfl
  clear hB
  refine rg_tk 0 ?_ rfl (by as_aux_lemma => kernel_rfl) (by rfl) ?_ hHeld ?_
  rotate_left 1
  ·intro w hSw; (try dsimp only at hSw); go_simp; try (with_reducible rfl)
  (try simp only [Act.put, pA, pB, pC])
  refine rg_tk 1 ?_ rfl (by as_aux_lemma => kernel_rfl) (by rfl) ?_ hHeld ?_
  rotate_left 1
  ·intro w hSw; (try dsimp only at hSw); go_simp; try (with_reducible rfl)
  (try simp only [Act.put, pA, pB, pC])
  refine rg_tk 2 ?_ rfl (by as_aux_lemma => kernel_rfl) (by rfl) ?_ hHeld ?_
  rotate_left 1
  ·intro w hSw; (try dsimp only at hSw); go_simp; try (with_reducible rfl)
  (try simp only [Act.put, pA, pB, pC])
  refine rg_tk 4 ?_ rfl (by as_aux_lemma => kernel_rfl) (by rfl) ?_ hHeld ?_
  rotate_left 1
  ·intro w hSw; (try dsimp only at hSw); go_simp; try (with_reducible rfl)
  (try simp only [Act.put, pA, pB, pC])
  refine rg_only (i := 3) rfl (by as_aux_lemma => kernel_rfl) (by rfl) (fun K hK => ?_)
  go_simp
  skip
  refine hK.out _ _ (hHeld) (fun _ => ?_)
  clear hK K hHeld
  rename_i hHeld
  (try simp only [Act.put, pA, pB, pC])
  refine rg_tk 5 ?_ rfl (by as_aux_lemma => kernel_rfl) (by rfl) ?_ hHeld ?_
  rotate_left 1
  ·intro w hSw; (try dsimp only at hSw); go_simp; try (with_reducible rfl)
  (try simp only [Act.put, pA, pB, pC])
  refine rg_only (i := 6) rfl (by as_aux_lemma => kernel_rfl) (by rfl) (fun K hK => ?_)
  refine wp_store_mid 31 _ _ (by rfl) gv 0 #[.int .i64 yb.kind, .int .i64 yb.n] (by rfl) (by rfl) (HVd.out.ow.there (i := 0) (by simp [wdsL])) (by kernel_rfl) (by simp [Value.oneCell']) ?_
  rw [setCells_all]
  obtain ⟨W7, hW7⟩ : ∃ W : World, W = setAll Wd gv 0 [.int .i64 yb.kind, .int .i64 yb.n] := ⟨_, rfl⟩
  have HS7 : Hid (W7.heap.size = Wd.heap.size ∧ ∀ b, b ≠ gv → W7.heap[b]? = Wd.heap[b]?) := Lib.hid (by rw [hW7]; exact setAll_heap Wd gv _ 0)
  have HW7 := Lib.hid hW7
  rw [← hW7]
  clear hW7
  refine hK.out _ _ (⟨(HX6d.out.heap (HS7.out.2 g6 HNG.out)).cell 0 _ rfl, (HX6d.out.heap (HS7.out.2 g6 HNG.out)).cell 1 _ rfl⟩) (fun _ => ?_)
  clear hK K hHeld
  rename_i hHeld
  (try simp only [Act.put, pA, pB, pC])
  refine rg_done (by as_aux_lemma => kernel_rfl) ?_
  clear hHeld
  go_wp2_with fail
  go_ret
  have hp7 : PH room H6 (((st, yb) :: L8) ++ []) := by
   rw [List.append_nil]
   exact (HVd.out.ph.perm (L' := (st, yb) :: p7 :: L8) (List.perm_append_comm (l₁ := p7 :: L8) (l₂ := [(st, yb)]))).sub (.cons_cons _ (.cons _ (List.Sublist.refl _)))
  have hV7 := HVd.out.set0 (p' := (st, yb)) hp7
  rw [← HW7.out] at hV7
  have hk7 : Keep G w W7 := by
   have b1 := setAll_below (Below.refl 0 Wd) gv (Nat.zero_le _) [.int .i64 yb.kind, .int .i64 yb.n] 0
   rw [← HW7.out] at b1
   have k0 := HKd.out
   refine ⟨b1.os.trans k0.os, b1.tape.trans k0.tape, b1.output.trans k0.output, by have := k0.size; have := HS7.out.1; omega, fun k hk hn => (HS7.out.2 k fun e => ?_).trans (k0.block k hk hn)⟩
   rw [e] at hk hn
   rcases HG6.out.2.2 gv rfl with h1 | h1
   ·exact hn h1
   ·omega
  exact ⟨by rw [show (pputE room (tmsL L) t == 0) = false by simpa using HPZ.out]; rfl, hk7, yb, L8, H6.ws.length, HEL8.out, F6, B6, H6, _, by rw [if_neg HPZ.out]; exact hV7, HNM6.out, rfl, HG6.out⟩
end Go.Proofs.Ytedfepnekjjmnab

/-
 proc.free. No condition.
-/
namespace Go.Proofs.Ytedfepnekjjmnab
open Go.RowKit
set_option linter.unusedSimpArgs false
set_option linter.unusedVariables false

set_option maxHeartbeats 1000000 in
theorem pfree_c (w : World) : Calls Try.prog 99 #[] w fun e w' => ∃ v, e = .returned v ∧ Below w.heap.size w w' ∧ RSl (fun b => w.heap.size ≤ b) w' freeL v := by
 go_enter Try.func99, Try.ntmps99
 go_wp2_with fail
 refine (repeat_c _ w.heap.size (by go_simp) (by go_simp) (by go_simp) (by go_simp)).mono ?_
 rintro e w1 ⟨v, rfl, hB, hr⟩
 go_wp2_with fail
 go_ret
 exact ⟨_, rfl, (below_alloc _ _).trans (hB.mono (by simp)), hr.mono fun b hb => by simp at hb; omega⟩
end Go.Proofs.Ytedfepnekjjmnab
