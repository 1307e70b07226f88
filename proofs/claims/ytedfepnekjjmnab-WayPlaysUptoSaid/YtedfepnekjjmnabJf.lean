/-
  Contracts and plain laws, joined: Heap8 Heap9 Heap10 PutR JoinP KeptP Kept AgainP AgainI ShareP ShareR Side SideQ WayP Way AllQ WayQ WayI SortQ WayT. Conditions stand in each.
-/
import Derived.Carry
import Derived.Test.YtedfepnekjjmnabHeap7
import Derived.Test.YtedfepnekjjmnabForm
import Derived.Test.YtedfepnekjjmnabJe
import Derived.Test.YtedfepnekjjmnabJb
import Derived.Test.YtedfepnekjjmnabJc
import Derived.Test.YtedfepnekjjmnabRCheck
import Derived.Test.YtedfepnekjjmnabRepC
import Derived.Test.YtedfepnekjjmnabJd
import Derived.Test.YtedfepnekjjmnabJa
import Derived.Test.YtedfepnekjjmnabSeqQ
import Derived.Test.YtedfepnekjjmnabSortP
/-
  heap.all: whether all words stand for something. No condition but a bound.
-/
namespace Go.Proofs.Ytedfepnekjjmnab
open Go.RowKit
set_option linter.unusedSimpArgs false
set_option linter.unusedVariables false
set_option maxRecDepth 100000

set_option maxHeartbeats 400000 in
theorem indexFuncW (p : Wrd → Bool) (R S : Nat → Prop) (ts : List Wrd) (w : World) (v c : Value) (hv : RX wrdE R S w ts v) (hlen : ts.length ≤ 1099511627776)
    (hf : ∀ x ∈ ts, ∀ W : World, Below w.heap.size w W → Calls Try.prog 83 #[.agg #[.int .i64 x.kind, .int .i64 x.n], c] W fun e w' => e = .returned (.bool (p x)) ∧ Below W.heap.size W w') :
    Calls Try.prog 107 #[v, .func (.func 83) #[] #[c]] w fun e w' => e = .returned (.int .i64 (idxI p ts 0)) ∧ Below w.heap.size w w' := by
  obtain ⟨a, cap, cs, rfl, hcap, hC, hj⟩ := hv
  have HV : Hid (RX wrdE R S w ts (.slice a ts.length cap)) := Lib.hid ⟨a, cap, cs, rfl, hcap, hC, hj⟩
  have HF := Lib.hid hf; clear hf hC hj hcap
  go_enter Try.func107, Try.ntmps107
  go_wp2_with fail
  go_loopw [8] (fun i wr => ∃ k : Nat, k ≤ ts.length ∧ i = .int .i64 k ∧ (ts.take k).any p = false ∧ Below w.heap.size w wr) (fun i _ => ts.length - (intOf i).toNat)
  case atStart => exact ⟨0, Nat.zero_le _, rfl, rfl, Below.refl _ _⟩
  case round =>
    obtain ⟨k, hkl, rfl, hany, hB⟩ := hrel
    have HA := Lib.hid hany; clear hany
    have hsz' := hB.size
    by_cases hlt : k < ts.length
    · obtain ⟨b, o, rfl⟩ := HV.out.addr (by decide) (by omega)
      obtain ⟨-, d0, d1⟩ := (RX.wto HV.out fun b _ hl => hB.block b hl).wrd k hlt
      have HS := Lib.hid (any_take_succ p ts k hlt)
      go_wp2_with fail
      refine (HF.out _ (List.getElem_mem hlt) _ hB).mono ?_
      cases hp : p ts[k]
      · have HP := Lib.hid hp; clear hp
        rintro e w1 ⟨rfl, hB1⟩
        go_wp2_with fail
        go_roundw
        case rel => exact ⟨k + 1, by omega, by go_num, by rw [HS.out, HA.out, HP.out]; rfl, below_step hB (by omega) hB1⟩
        case measure => simp [intOf]; omega
      · have HP := Lib.hid hp; clear hp
        rintro e w1 ⟨rfl, hB1⟩
        go_wp2_with fail
        go_ret
        exact ⟨ret_int (by rw [idxI_take p ts k 0 hlt HA.out HP.out]; omega), below_step hB (by omega) hB1⟩
    · have hkk : k = ts.length := by omega
      subst hkk
      go_wp2_with fail
      go_ret
      exact ⟨ret_int (by rw [idxI_none p ts 0 (by simpa using HA.out)]), hB⟩

set_option maxHeartbeats 400000 in
theorem containsFuncW (p : Wrd → Bool) (R S : Nat → Prop) (ts : List Wrd) (w : World) (v c : Value) (hv : RX wrdE R S w ts v) (hlen : ts.length ≤ 1099511627776)
    (hf : ∀ x ∈ ts, ∀ W : World, Below w.heap.size w W → Calls Try.prog 83 #[.agg #[.int .i64 x.kind, .int .i64 x.n], c] W fun e w' => e = .returned (.bool (p x)) ∧ Below W.heap.size W w') :
    Calls Try.prog 82 #[v, .func (.func 83) #[] #[c]] w fun e w' => e = .returned (.bool (ts.any p)) ∧ Below w.heap.size w w' := by
  have HF := Lib.hid hf; clear hf
  have HV := Lib.hid hv; clear hv
  go_enter Try.func82, Try.ntmps82
  go_wp2_with fail
  refine (indexFuncW p R S ts _ v c HV.out hlen HF.out).mono ?_
  rintro e w1 ⟨rfl, hB1⟩
  go_wp2_with fail
  go_ret
  exact ⟨ret_bool (idxI_any p ts 0 (by omega)), hB1⟩

set_option maxHeartbeats 400000 in
theorem hall1_c (F : Nat → Prop) (w : World) (B : Nat) (room : Int) (H : HS) (x : Wrd) (g : Nat) (hc : w.cell? ⟨g, 0, none⟩ = some (.pointer (some ⟨B, 0, none⟩))) (hR : HeapR F w B room H) (hH : HeadsOk H) (hl : H.ws.length ≤ 137438953472) :
    Calls Try.prog 83 #[.agg #[.int .i64 x.kind, .int .i64 x.n], .pointer (some ⟨g, 0, none⟩)] w fun e w' => e = .returned (.bool (!standsB H x)) ∧ Below w.heap.size w w' := by
  have hgl := World.block_lt_of_cell? w _ hc
  go_enter Try.func83, Try.ntmps83
  go_wp2_with fail
  refine (hstands_c F _ B room H x (hR.below (below_alloc _ _)) hH hl).mono ?_
  rintro e w1 ⟨rfl, hB1⟩
  go_wp2_with fail
  go_ret
  exact ⟨rfl, (below_alloc _ _).trans (hB1.mono (by simp))⟩

set_option maxHeartbeats 400000 in
theorem hall_c (F R S : Nat → Prop) (w : World) (B : Nat) (room : Int) (H : HS) (ts : List Wrd) (v : Value) (hv : RX wrdE R S w ts v) (hlen : ts.length ≤ 1099511627776) (hR : HeapR F w B room H) (hH : HeadsOk H) (hl : H.ws.length ≤ 137438953472) :
    Calls Try.prog 50 #[.pointer (some ⟨B, 0, none⟩), v] w fun e w' => e = .returned (.bool (ts.all (standsB H))) ∧ Below w.heap.size w w' := by
  have hmf : ∀ (fn : Fn) (first cap : Array Value) (w : World), (Instr.makeFunc fn first cap).run Try.prog w = .ok (.func fn first cap) w := fun _ _ _ _ => rfl
  have HV := Lib.hid hv; clear hv
  obtain ⟨W0, hW0⟩ : ∃ W : World, W = w.alloc (.cells #[.pointer (some ⟨B, 0, none⟩)] 26) := ⟨_, rfl⟩
  have HB0 : Hid (Below w.heap.size w W0) := Lib.hid (by rw [hW0]; exact below_alloc _ _)
  have HX0 : Hid (Blk W0 w.heap.size [.pointer (some ⟨B, 0, none⟩)]) := Lib.hid (by rw [hW0]; exact Blk.new _ _ _ _ rfl)
  have hs0 := HB0.out.size
  have HR0 := Lib.hid (hR.below HB0.out)
  have HW0 := Lib.hid hW0
  clear hR hW0
  go_enter Try.func50, Try.ntmps50
  go_upto_region 1 with fail
  rw [← HW0.out]
  go_wp2_with fail
  refine (containsFuncW (fun x => !standsB H x) R S ts W0 v _ (RX.wto HV.out fun b _ hb => HB0.out.block b hb) hlen (fun x _ W hB => hall1_c F W B room H x w.heap.size ((HX0.out.step hB).cell 0 _ rfl) (HR0.out.below hB) hH hl)).mono ?_
  rintro e w1 ⟨rfl, hB1⟩
  go_wp2_with fail
  go_ret
  exact ⟨ret_bool (by rw [List.all_eq_not_any_not]), HB0.out.trans (hB1.mono (by omega))⟩
end Go.Proofs.Ytedfepnekjjmnab

/-
  heap.Live, heap.Collect. No condition but a bound.
-/
namespace Go.Proofs.Ytedfepnekjjmnab
open Go.RowKit
set_option linter.unusedSimpArgs false
set_option linter.unusedVariables false
set_option maxRecDepth 100000

theorem stands_good {H : HS} (hH : HeadsOk H) {x : Wrd} (h : standsB H x = true) : GoodW H x := fun e => by
  unfold standsB at h
  rw [if_neg (by omega), if_neg (by omega), if_neg (by omega), if_pos e] at h
  obtain ⟨n, hn⟩ := Option.isSome_iff_exists.1 h
  obtain ⟨i, k, hi, h1, rfl, h2, h3⟩ := headN_some hH hn
  exact ⟨i, k, h1, by rw [List.getElem?_eq_getElem hi, h2], h3⟩
theorem Rep.good {H : HS} {t : T} {x : Wrd} (h : Rep H t x) : GoodW H x := fun e => by
  have hk := h.kinds
  obtain ⟨-, -, i, rfl, h1, h2, -⟩ := h.tup (by omega)
  exact ⟨i, _, rfl, h1, h2⟩
def LeafOk (t : T) : Prop := (t.kind = 1 → -1099511627776 ≤ t.n ∧ t.n ≤ 1099511627776) ∧ (t.kind = 3 → 1 ≤ t.n ∧ t.n ≤ 99)
theorem Rep.stands {H : HS} {t : T} {x : Wrd} (h : Rep H t x) (hb : LeafOk t) : standsB H x = true := by
  have hk := h.kinds
  unfold standsB
  by_cases h4 : t.kind = 4
  · rw [if_neg (by omega), if_neg (by omega), if_neg (by omega), if_pos (by omega)]
    obtain ⟨i, k, h1, h2⟩ := h.good (by omega)
    rw [h1, h2.headN]; rfl
  · by_cases h2 : t.kind = 2
    · rw [if_neg (by omega), if_neg (by omega), if_pos (by omega)]
      obtain ⟨-, -, i, rfl, h1⟩ := h.atom h2
      have := (List.getElem?_eq_some_iff.1 h1).1
      simp; omega
    · obtain ⟨h1, -, -, hx⟩ := h.leaf h4 h2
      have hn : x.n = t.n := by rw [hx]
      rcases h1 with h1 | h1
      · have := hb.1 h1
        rw [if_pos (by omega), hn]; simp; omega
      · have := hb.2 h1
        rw [if_neg (by omega), if_pos (by omega), hn]; simp; omega

/-- What Live answers. -/
def LiveP (w : World) (H : HS) (rs : List Wrd) (e : Ending) (w' : World) : Prop := ∃ tw out ks, e = .returned (.tuple #[.int .i64 (tw.length : Nat), .int .i64 0]) ∧ Below w.heap.size w w' ∧ Col H rs ks tw out
set_option maxHeartbeats 1000000 in
theorem hlive_c (F R S : Nat → Prop) (w : World) (B : Nat) (room : Int) (H : HS) (ts : List Wrd) (v : Value) (hv : RX wrdE R S w ts v) (hlen : ts.length ≤ 4294967296) (hR : HeapR F w B room H) (hW : WF H) (hl : H.ws.length ≤ 4294967296) (hs : ∀ x ∈ ts, standsB H x = true) :
    Calls Try.prog 14 #[.pointer (some ⟨B, 0, none⟩), v] w (LiveP w H ts) := by
  have hall : ts.all (standsB H) = true := List.all_eq_true.2 hs
  have hgood : ∀ x ∈ ts, GoodW H x := fun x hx => stands_good hW.heads (hs x hx)
  have HA := Lib.hid hall
  have HG := Lib.hid hgood
  have HV := Lib.hid hv
  have HR := Lib.hid hR
  have HW := Lib.hid hW
  clear hall hgood hv hR hW hs
  go_enter Try.func14, Try.ntmps14
  go_wp2_with fail
  refine (hall_c F R S w B room H ts v HV.out (by omega) HR.out HW.out.heads (by omega)).mono ?_
  rintro e w1 ⟨rfl, hB1⟩
  rw [HA.out]
  have hs1 := hB1.size
  have HB1 := Lib.hid hB1
  clear hB1
  go_wp2_with fail
  refine (hcopied_c H ts F R S w1 B room v (HR.out.below HB1.out) HW.out (RX.wto HV.out fun b _ hb => HB1.out.block b hb) HG.out hl hlen).mono ?_
  rintro e w2 ⟨v1, v2, tw, out, ks, rfl, hB2, hCol, hO1, hO2, h1, h2⟩
  obtain ⟨a1, c1, rfl⟩ := hO1.form
  have HCol := Lib.hid hCol
  have HB2 := Lib.hid hB2
  clear hCol hB2 hO1 hO2 h1 h2
  go_wp2_with fail
  go_ret2
  exact ⟨tw, out, ks, rfl, HB1.out.trans (HB2.out.mono (by omega)), HCol.out⟩

/-- What Collect answers. -/
def CollectP (F : Nat → Prop) (w : World) (B : Nat) (room : Int) (H : HS) (rs : List Wrd) (e : Ending) (w' : World) : Prop := ∃ v2 tw out ks, e = .returned (.tuple #[v2, .int .i64 0]) ∧ Keep F w w' ∧ Col H rs ks tw out ∧
  HeapR (fun b => F b ∨ (w.heap.size ≤ b ∧ v2.ownBlock ≠ some b)) w' B room ⟨tw, H.names⟩ ∧ OwnW w' v2 out ∧ ∀ b, v2.ownBlock = some b → w.heap.size ≤ b
set_option maxHeartbeats 1000000 in
theorem hcollect_c (F R S : Nat → Prop) (w : World) (B : Nat) (room : Int) (H : HS) (ts : List Wrd) (v : Value) (hv : RX wrdE R S w ts v) (hlen : ts.length ≤ 4294967296) (hR : HeapR F w B room H) (hW : WF H) (hl : H.ws.length ≤ 4294967296) (hs : ∀ x ∈ ts, standsB H x = true) :
    Calls Try.prog 15 #[.pointer (some ⟨B, 0, none⟩), v] w (CollectP F w B room H ts) := by
  have hall : ts.all (standsB H) = true := List.all_eq_true.2 hs
  have hgood : ∀ x ∈ ts, GoodW H x := fun x hx => stands_good hW.heads (hs x hx)
  have HA := Lib.hid hall
  have HG := Lib.hid hgood
  have HV := Lib.hid hv
  have HR := Lib.hid hR
  have HW := Lib.hid hW
  clear hall hgood hv hR hW hs
  go_enter Try.func15, Try.ntmps15
  go_wp2_with fail
  refine (hall_c F R S w B room H ts v HV.out (by omega) HR.out HW.out.heads (by omega)).mono ?_
  rintro e w1 ⟨rfl, hB1⟩
  rw [HA.out]
  have hs1 := hB1.size
  have HB1 := Lib.hid hB1
  clear hB1
  go_wp2_with fail
  refine (hcopied_c H ts F R S w1 B room v (HR.out.below HB1.out) HW.out (RX.wto HV.out fun b _ hb => HB1.out.block b hb) HG.out hl hlen).mono ?_
  rintro e w2 ⟨v1, v2, tw, out, ks, rfl, hB2, hCol, hO1, hO2, h1, h2⟩
  obtain ⟨a1, c1, rfl⟩ := hO1.form
  have hs2 := hB2.size
  have hB12 : Below w.heap.size w w2 := HB1.out.trans (hB2.mono (by omega))
  obtain ⟨vw, vn, hV⟩ := HR.out
  have hV2 := hV.below hB12
  have b1 := hV2.blk.cell 1 _ rfl
  have bf := hV2.blk.fr
  have hnb : ∀ b, v2.ownBlock = some b → b ≠ B := fun b hb e => by have := h2 b hb; have := hV.blk.lt; omega
  have hh := hV.words' (w3 := w2) (v' := .slice a1 tw.length c1) (l := tw) (by omega) (fun b hb _ => hB12.block b hb) hO1 (fun b hb => .inr (by have := (h1 b hb).1; omega))
  have HH := Lib.hid hh
  have HVV := Lib.hid hV
  have HCol := Lib.hid hCol
  have HB12 := Lib.hid hB12
  have HO2 := Lib.hid hO2
  have H1 := Lib.hid h1
  have H2 := Lib.hid h2
  have HNB := Lib.hid hnb
  clear hCol hB2 hO1 hO2 h1 h2 hV hV2 hh hB12 hnb
  go_wp2_with fail
  go_ret2
  refine ⟨v2, tw, out, ks, rfl, ?_, HCol.out, ⟨_, _, ⟨HH.out.blk, HH.out.ws, HH.out.nm, HH.out.nw, HH.out.nn, HH.out.ne, .inl HVV.out.fb, fun b hb => .inr ⟨by have := (H1.out b hb).1; omega, (H1.out b hb).2⟩, fun b hb => .inl (HVV.out.fn b hb)⟩⟩, ?_, fun b hb => by have := H2.out b hb; omega⟩
  · exact (Keep.of HB12.out).setCell _ (.inl HVV.out.fb)
  · exact OwnW.to HO2.out (by simp) fun b hb => setCell_other w2 B 1 _ b (HNB.out b hb)
end Go.Proofs.Ytedfepnekjjmnab

/-
  heap.Get of a word that stands for a term. No condition but a bound.
-/
namespace Go.Proofs.Ytedfepnekjjmnab
open Go.RowKit
set_option linter.unusedSimpArgs false
set_option linter.unusedVariables false
set_option maxRecDepth 100000

def HGetP (w : World) (t : T) (e : Ending) (w' : World) : Prop :=
  ∃ a cap, e = .returned (.tuple #[.agg #[.int .i64 t.kind, .int .i64 t.n, .string t.name, .slice a t.args.length cap], .int .i64 0]) ∧ Below w.heap.size w w' ∧ RT (fun b => w.heap.size ≤ b) w' t (.agg #[.int .i64 t.kind, .int .i64 t.n, .string t.name, .slice a t.args.length cap])
set_option maxHeartbeats 1000000 in
theorem hGet_c (t : T) (F : Nat → Prop) (w : World) (B : Nat) (room : Int) (H : HS) (x : Wrd) (hR : HeapR F w B room H) (hr : Rep H t x) (hb : LeafOk t) (hH : HeadsOk H) (hl : H.ws.length ≤ 137438953472) (hn : H.names.length ≤ 137438953472) :
    Calls Try.prog 18 #[.pointer (some ⟨B, 0, none⟩), .agg #[.int .i64 x.kind, .int .i64 x.n]] w (HGetP w t) := by
  obtain ⟨W0, hW0⟩ : ∃ W : World, W = (w.alloc (.cells #[.int .i64 x.kind, .int .i64 x.n] 31)).alloc (.cells #[.int .i64 0, .int .i64 0, .string ⟨#[]⟩, .slice none 0 0] 24) := ⟨_, rfl⟩
  have HX3 : Hid (Blk W0 w.heap.size [.int .i64 x.kind, .int .i64 x.n]) := Lib.hid (by rw [hW0]; exact (Blk.new _ _ _ _ rfl).alloc _)
  have HX4 : Hid (Blk W0 (w.heap.size + 1) [.int .i64 0, .int .i64 0, .string ⟨#[]⟩, .slice none 0 0]) := Lib.hid (by rw [hW0]; exact Blk.new _ _ _ _ (by simp))
  have HB0 : Hid (Below w.heap.size w W0) := Lib.hid (by rw [hW0]; exact (below_alloc _ _).trans ((below_alloc _ _).mono (by simp)))
  have hs0 : W0.heap.size = w.heap.size + 2 := by rw [hW0]; simp
  have hs0a : w.heap.size + 2 ≤ W0.heap.size := by omega
  have HR0 := Lib.hid (hR.below HB0.out)
  have HST := Lib.hid (hr.stands hb)
  have HREP := Lib.hid hr
  have HH := Lib.hid hH
  have HW0 := Lib.hid hW0
  clear hR hr hb hH hW0 hs0
  go_enter Try.func18, Try.ntmps18
  go_upto_region 1 with fail
  rw [← HW0.out]
  have y0 := HX3.out.cell 0 _ rfl
  have y1 := HX3.out.cell 1 _ rfl
  go_wp2_with fail
  refine (hstands_c F W0 B room H x HR0.out HH.out hl).mono ?_
  rintro e w1 ⟨rfl, hB⟩
  rw [HST.out]
  have hs1 := hB.size
  have HB1 := Lib.hid hB
  have HX31 := Lib.hid (HX3.out.step hB)
  have HX41 := Lib.hid (HX4.out.step hB)
  have HR1 := Lib.hid (HR0.out.below hB)
  clear hB y0 y1
  have y0 := HX31.out.cell 0 _ rfl
  have y1 := HX31.out.cell 1 _ rfl
  go_wp2_with fail
  refine (hget_c t F w1 B room H x HR1.out HREP.out hl hn).mono ?_
  rintro e w2 ⟨a, cap, rfl, hB, hT⟩
  have hs2 := hB.size
  have HB2 := Lib.hid hB
  have HT := Lib.hid hT
  have HX42 := Lib.hid (HX41.out.step hB)
  clear hB hT y0 y1
  go_wp2_with (refine store_blk 24 4 szTerm _ _ rfl rfl rfl rfl rfl HX42.out rfl rfl rfl ?_; intro W' hF hs' hBW hoth; have HF := Lib.hid hF; have HSZ := Lib.hid hs'; have HBW := Lib.hid hBW; have HOTH := Lib.hid hoth; clear hF hBW hoth hs')
  refine bodyPost_ret (results_blk Try.results18 szTerm _ Try.underlying24 rfl rfl HF.out rfl) rfl ⟨a, cap, rfl, ?_, ?_⟩
  · have h1 := HBW.out (w.heap.size) w (by omega) (HB0.out.trans ((HB1.out.mono (by omega)).trans (HB2.out.mono (by omega))))
    exact h1
  · exact RT.to HT.out (fun b hb _ => by omega) fun b hb hl => HOTH.out b (by omega)
end Go.Proofs.Ytedfepnekjjmnab

/-
  A term that Put takes. No condition.
-/
namespace Go.Proofs.Ytedfepnekjjmnab
open Go.RowKit
set_option linter.unusedSimpArgs false
set_option linter.unusedVariables false

theorem name_nil {s : ByteArray} (h : s.toList.isEmpty = true) : s = ⟨#[]⟩ := by
  have h1 : s.toList = [] := List.isEmpty_iff.1 h
  have h2 : s.data.toList = [] := by rw [← ByteArray.toList_eq]; exact h1
  have h3 : s.data = #[] := by rw [← Array.toList_inj]; simpa using h2
  cases s; simp only at h3; rw [h3]
theorem bare_nil {t : T} (h : bareB t = true) : t.name = ⟨#[]⟩ ∧ t.args = [] := by
  unfold bareB at h
  rw [Bool.and_eq_true] at h
  exact ⟨name_nil h.1, List.eq_nil_of_length_eq_zero (by simpa using h.2)⟩
theorem head_leaf {t : T} (h : headB t = true) : LeafOk t := by
  refine ⟨fun e => ?_, fun e => ?_⟩
  · unfold headB at h; rw [if_pos e, Bool.and_eq_true] at h
    have := h.2; simp [inB] at this; exact this
  · unfold headB at h; rw [if_neg (by omega), if_neg (by omega), if_pos e, Bool.and_eq_true] at h
    have := h.2; simp [inB] at this; exact this
theorem head_ok {t : T} (h : headB t = true) (h5 : t.kind ≠ 5) (h6 : t.kind ≠ 6) (hl : t.kind = 4 → OkL t.args) : OkT t := by
  unfold headB at h
  unfold OkT
  by_cases h4 : t.kind = 4
  · rw [if_neg (by omega), if_neg (by omega), if_neg (by omega), if_neg (by omega), if_neg (by omega), if_pos h4] at h
    rw [if_pos h4]
    simp only [Bool.and_eq_true, decide_eq_true_eq] at h
    exact ⟨h.1.1, name_nil h.1.2, hl h4⟩
  · by_cases h2 : t.kind = 2
    · rw [if_neg (by omega), if_pos h2] at h
      rw [if_neg h4, if_pos h2]
      simp only [Bool.and_eq_true, decide_eq_true_eq] at h
      exact ⟨h.1.1, List.eq_nil_of_length_eq_zero h.1.2⟩
    · rw [if_neg h4, if_neg h2]
      by_cases h1 : t.kind = 1
      · rw [if_pos h1, Bool.and_eq_true] at h
        exact ⟨.inl h1, bare_nil h.1⟩
      · rw [if_neg h1, if_neg h2] at h
        by_cases h3 : t.kind = 3
        · rw [if_pos h3, Bool.and_eq_true] at h
          exact ⟨.inr h3, bare_nil h.1⟩
        · rw [if_neg h3, if_neg h5, if_neg h6, if_neg h4] at h; cases h
theorem okL_of : ∀ (m : Nat) (ts : List T), bulkL ts ≤ m → formL ts = true → closedL ts = true → OkL ts
  | 0, ts, hb, _, _ => by
    cases ts with
    | nil => rw [OkL]; trivial
    | cons t ts => rw [bulkL_cons] at hb; omega
  | m + 1, ts, hb, hf, hc => by
    cases ts with
    | nil => rw [OkL]; trivial
    | cons t ts =>
      rw [bulkL_cons] at hb
      rw [formL_cons] at hf
      rw [closedL_cons] at hc
      simp only [Bool.and_eq_true] at hf hc
      have h5 : t.kind ≠ 5 := by simpa using hc.1.1.1
      have h6 : t.kind ≠ 6 := by simpa using hc.1.1.2
      exact (OkL_cons t ts).2 ⟨head_ok hf.1.1 h5 h6 fun _ => okL_of m t.args (by omega) hf.1.2 hc.1.2, okL_of m ts (by omega) hf.2 hc.2⟩
theorem check_ok {t : T} (h : checkE t = 0) (hc : closedL [t] = true) : OkT t ∧ LeafOk t ∧ szL [t] ≤ 200 := by
  unfold checkE at h
  by_cases hf : formL [t] = true
  · rw [if_pos hf] at h
    have h1 := okL_of _ [t] (Nat.le_refl _) hf hc
    rw [formL_cons] at hf
    simp only [Bool.and_eq_true] at hf
    by_cases hd : dpL [t] ≤ 12 ∧ szL [t] ≤ 200
    · exact ⟨((OkL_cons t []).1 h1).1, head_leaf hf.1.1, hd.2⟩
    · rw [if_neg hd] at h; omega
  · rw [if_neg hf] at h; omega
/-- What Put makes of a heap in order. -/
theorem putHO_R {H : HS} (hW : WF H) (room : Int) (t : T) : ((putHO room H t).2.1 = 0 ∧ LeafOk t ∧ PutR H t (putHO room H t).1 (putHO room H t).2.2 ∧ (putHO room H t).2.2.ws.length ≤ H.ws.length + 200 ∧ ((putHO room H t).2.2.ws.length : Int) ≤ max room H.ws.length) ∨ ((putHO room H t).2.1 ≠ 0 ∧ (putHO room H t).2.2 = H) := by
  by_cases h1 : checkE t = 0
  · by_cases h2 : closedL [t] = true
    · by_cases h3 : room < H.ws.length + szL [t]
      · rw [putHO_full h1 h2 h3]; exact .inr ⟨by show (6 : Int) ≠ 0; decide, rfl⟩
      · rw [putHO_ok h1 h2 h3]
        obtain ⟨ho, hl, hs⟩ := check_ok h1 h2
        have h4 := (putW_len H t).1
        exact .inl ⟨rfl, hl, putW_R hW ho, by show (putW H t).2.ws.length ≤ _; omega, by show ((putW H t).2.ws.length : Int) ≤ _; omega⟩
    · have h2' : closedL [t] = false := by simpa using h2
      rw [putHO_form h1 h2']; exact .inr ⟨by show (5 : Int) ≠ 0; decide, rfl⟩
  · rw [putHO_check h1]; exact .inr ⟨h1, rfl⟩
end Go.Proofs.Ytedfepnekjjmnab

/-
  What Join makes of a heap: plain words. No condition.
-/
namespace Go.Proofs.Ytedfepnekjjmnab
open Go.RowKit
set_option linter.unusedSimpArgs false
set_option linter.unusedVariables false

def joinH (H : HS) (xs : List Wrd) : HS := ⟨H.ws ++ ((⟨0, (xs.length : Int)⟩ : Wrd) :: xs), H.names⟩
/-- Join of as many words as a tuple may have, all of which stand. -/
def joinHO (room : Int) (H : HS) (ts : List T) (xs : List Wrd) : Wrd × Int × HS :=
  if room < H.ws.length + 1 + xs.length then (⟨0, 0⟩, 6, H) else if checkE (tupT ts) = 0 then (⟨4, (H.ws.length : Int)⟩, 0, joinH H xs) else (⟨0, 0⟩, 2, H)
theorem joinH_len (H : HS) (xs : List Wrd) : (joinH H xs).ws.length = H.ws.length + (1 + xs.length) := by
  show (H.ws ++ _).length = _
  rw [List.length_append, List.length_cons]; omega
theorem join_parts (H : HS) (xs : List Wrd) : partsL (joinH H xs) H.ws.length xs.length = xs := by
  unfold partsL
  show ((H.ws ++ (_ :: xs)).drop (H.ws.length + 1)).take xs.length = xs
  rw [List.append_cons, List.drop_append_of_le_length (by simp), List.drop_of_length_le (by simp), List.nil_append, List.take_length]
theorem RepL.app {H : HS} (new : List Wrd) (more : List ByteArray) {ts : List T} {xs : List Wrd} (h : RepL H ts xs) : RepL ⟨H.ws ++ new, H.names ++ more⟩ ts xs :=
  RepL.of h.length fun i h1 h2 => (h.at i h1 h2).app new more
theorem RepL.kind {H : HS} {ts : List T} {xs : List Wrd} (h : RepL H ts xs) (hk : ∀ t ∈ ts, t.kind ≠ 0) : ∀ x ∈ xs, x.kind ≠ 0 := fun x hx => by
  obtain ⟨i, hi, e⟩ := List.getElem_of_mem hx
  have hl := h.length
  have h1 := h.at i (by omega) hi
  rw [e] at h1
  rw [h1.kinds]
  exact hk _ (List.getElem_mem _)
theorem Rep.kind0 {H : HS} {t : T} {x : Wrd} (h : Rep H t x) : t.kind ≠ 0 := fun e => by
  have h1 := (h.leaf (by omega) (by omega)).1
  omega
theorem Rep.goodW {H : HS} {t : T} {x : Wrd} (h : Rep H t x) : GoodW H x := fun e => by
  obtain ⟨i, rfl, hd, -⟩ := h.hd (by rw [← h.kinds]; exact e)
  exact ⟨i, _, rfl, hd⟩
structure JoinR (H : HS) (ts : List T) (xs : List Wrd) : Prop where
  wf : WF (joinH H xs)
  rep : Rep (joinH H xs) (tupT ts) ⟨4, (H.ws.length : Int)⟩
  good : GoodW (joinH H xs) ⟨4, (H.ws.length : Int)⟩
  old : ∀ u y, Rep H u y → Rep (joinH H xs) u y
  hd : hd1 (joinH H xs) (tupT ts) ⟨4, (H.ws.length : Int)⟩ = H.ws.length :: hdL H ts xs
  hdo : ∀ us ys, RepL H us ys → hdL (joinH H xs) us ys = hdL H us ys ∧ ∀ i ∈ hdL H us ys, i < H.ws.length
  kn : kN (joinH H xs) H.ws.length = xs.length
theorem join_app (H : HS) (xs : List Wrd) : joinH H xs = ⟨H.ws ++ ((⟨0, (xs.length : Int)⟩ : Wrd) :: xs), H.names ++ []⟩ := by rw [List.append_nil]; rfl
theorem join_hd (H : HS) (xs : List Wrd) : Hd (joinH H xs) H.ws.length xs.length :=
  ⟨by show (H.ws ++ _)[H.ws.length]? = _; rw [List.getElem?_append_right (Nat.le_refl _), Nat.sub_self]; rfl, by rw [joinH_len]; omega⟩
theorem join_R {H : HS} (hW : WF H) {ts : List T} {xs : List Wrd} (h : RepL H ts xs) : JoinR H ts xs := by
  have hl := h.length
  have hn0 : ∀ x ∈ xs, x.kind ≠ 0 ∧ GoodW H x := fun x hx => by
    obtain ⟨i, hi, e⟩ := List.getElem_of_mem hx
    have h1 := h.at i (by omega) hi
    rw [e] at h1
    exact ⟨by rw [h1.kinds]; exact h1.kind0, h1.goodW⟩
  have hwf : WF (joinH H xs) := by
    refine WF.of (hW.lay.app (Lay.block fun x hx => (hn0 x hx).1)) fun x hx => ?_
    rcases List.mem_append.1 hx with hx | hx
    · exact (hW.goodAt (hW.good x hx)).left _
    · rcases List.mem_cons.1 hx with rfl | hx
      · intro e; cases e
      · exact (hW.goodAt (hn0 x hx).2).left _
  have hrl : RepL (joinH H xs) ts xs := by rw [join_app]; exact h.app _ _
  have hd := join_hd H xs
  have hho : ∀ us ys, RepL H us ys → hdL (joinH H xs) us ys = hdL H us ys ∧ ∀ i ∈ hdL H us ys, i < H.ws.length := fun us ys hr => hdL_app _ H.names _ us (Nat.le_refl _) ys hr
  refine ⟨hwf, ?_, fun _ => ⟨_, _, rfl, hd⟩, fun u y hr => by rw [join_app]; exact hr.app _ _, ?_, hho, hd.kN⟩
  · unfold Rep
    rw [if_pos (show (tupT ts).kind = 4 from rfl)]
    refine ⟨rfl, rfl, H.ws.length, rfl, ?_, ?_, ?_⟩
    · rw [show (tupT ts).args.length = xs.length from hl.symm]; exact hd.1
    · rw [show (tupT ts).args.length = xs.length from hl.symm]; exact hd.2
    · rw [show (tupT ts).args.length = xs.length from hl.symm, join_parts]; exact hrl
  · rw [hd1_tup rfl, show (tupT ts).args.length = xs.length from hl.symm, join_parts]
    rw [show (tupT ts).args = ts from rfl, (hho ts xs h).1]
/-- What one word, as often as one likes, takes: its own words, once. -/
theorem hdL_rep {H : HS} {t : T} {x : Wrd} (k : Nat) : ∀ i ∈ hdL H (List.replicate k t) (List.replicate k x), i ∈ hd1 H t x := by
  induction k with
  | zero => intro i hi; rw [List.replicate_zero, hdL_nil] at hi; cases hi
  | succ k ih =>
    intro i hi
    rw [List.replicate_succ, List.replicate_succ, hdL_cons] at hi
    rcases List.mem_append.1 hi with hi | hi
    · exact hi
    · exact ih i hi
theorem RepL.rep {H : HS} {t : T} {x : Wrd} (h : Rep H t x) (k : Nat) : RepL H (List.replicate k t) (List.replicate k x) :=
  RepL.of (by simp) fun i h1 h2 => by simpa using h
/-- Shared: the joined one's words and the part's, each once. -/
theorem col_shares {H : HS} (hW : WF H) {t : T} {x : Wrd} {k : Nat} (hr : Rep H t x) (hn : (hd1 H t x).Nodup) {rs tw out : List Wrd} {ks : List Nat} (hm : (⟨4, (H.ws.length : Int)⟩ : Wrd) ∈ rs) (hx : x ∈ rs) (ha : ∀ y ∈ rs, y = ⟨4, (H.ws.length : Int)⟩ ∨ y = x) (h : Col (joinH H (List.replicate k x)) rs ks tw out) : tw.length = szL [t] + (1 + k) := by
  have hj := join_R hW (RepL.rep hr k)
  obtain ⟨h1, h2⟩ := hj.hdo [t] [x] ((RepL_cons _ _ _ _).2 ⟨x, [], rfl, hr, by rw [RepL_nil]⟩)
  rw [hdL_one, hdL_one] at h1
  rw [hdL_one] at h2
  have hrr : RepL (joinH H (List.replicate k x)) [t] [x] := (RepL_cons _ _ _ _).2 ⟨x, [], rfl, hj.old _ _ hr, by rw [RepL_nil]⟩
  have hjj : RepL (joinH H (List.replicate k x)) [tupT (List.replicate k t)] [⟨4, (H.ws.length : Int)⟩] := (RepL_cons _ _ _ _).2 ⟨_, [], rfl, hj.rep, by rw [RepL_nil]⟩
  have hb := (RepL_cons _ _ _ _).2 ⟨_, [x], rfl, hj.rep, hrr⟩
  have hsum := hdL_sum _ _ [t] (Nat.le_refl _) [x] hrr
  rw [hdL_one, h1] at hsum
  rw [h.count (L := H.ws.length :: hd1 H t x) (List.nodup_cons.2 ⟨fun hm => Nat.lt_irrefl _ (h2 _ hm), hn⟩) ?_ ?_]
  · rw [List.map_cons, List.sum_cons, hsum, hj.kn]; simp; omega
  · intro i hi
    rcases List.mem_cons.1 hi with rfl | hi
    · exact Reach.root _ hm
    · refine (hdL_reach (joinH H (List.replicate k x)) rs _ [t] (Nat.le_refl _) [x] hrr (fun j hj => ?_) i (by rw [hdL_one, h1]; exact hi)).1
      have e : (⟨4, (j : Int)⟩ : Wrd) = x := by simpa using hj
      exact Reach.root j (by rw [e]; exact hx)
  · intro i hi
    have h3 : i ∈ hdL (joinH H (List.replicate k x)) [tupT (List.replicate k t), t] [⟨4, (H.ws.length : Int)⟩, x] := by
      refine reach_hdL hb ?_
      induction hi with
      | root i hm => 
        rcases ha _ hm with e | e
        · exact Reach.root i (by rw [e]; simp)
        · exact Reach.root i (by rw [e]; simp)
      | part j i hj hm ih => exact Reach.part j i ih hm
    rw [hdL_cons, hdL_one, h1, hj.hd] at h3
    rcases List.mem_append.1 h3 with h3 | h3
    · rcases List.mem_cons.1 h3 with rfl | h3
      · simp
      · exact List.mem_cons_of_mem _ (hdL_rep k i h3)
    · exact List.mem_cons_of_mem _ h3
end Go.Proofs.Ytedfepnekjjmnab

/-
  What kept's heap comes to. No condition.
-/
namespace Go.Proofs.Ytedfepnekjjmnab
open Go.RowKit
set_option linter.unusedSimpArgs false
set_option linter.unusedVariables false

def sevenT : T := tupT [numT 7]
theorem seven_reach {H : HS} {i j : Nat} (hp : partsL H i (kN H i) = [⟨1, 7⟩]) (h : Reach H [⟨4, (i : Nat)⟩] j) : j = i := by
  induction h with
  | root j hm =>
    have h1 := congrArg Wrd.n (List.mem_singleton.1 hm)
    exact Int.ofNat.inj h1
  | part m j _ hm ih =>
    rw [ih, hp] at hm
    exact absurd (congrArg Wrd.kind (List.mem_singleton.1 hm)) (show ¬ ((4 : Int) = 1) by decide)
theorem seven_col {H : HS} {x : Wrd} {ks : List Nat} {tw out : List Wrd} (hr : Rep H sevenT x) (h : Col H [x] ks tw out) : tw.length = 2 ∧ ∃ y, out = [y] ∧ Rep ⟨tw, H.names⟩ sevenT y := by
  obtain ⟨-, -, i, rfl, h1, h2, h3⟩ := hr.tup rfl
  have hd : Hd H i 1 := ⟨h1, h2⟩
  have h3' : RepL H [numT 7] (partsL H i 1) := h3
  obtain ⟨y, r, hy, h4, h5⟩ := (RepL_cons H (numT 7) [] _).1 h3'
  rw [RepL_nil] at h5
  obtain ⟨-, -, -, h6⟩ := h4.leaf (show ¬ ((1 : Int) = 4) by decide) (show ¬ ((1 : Int) = 2) by decide)
  have hp : partsL H i (kN H i) = [⟨1, 7⟩] := by rw [hd.kN, hy, h5, h6]; rfl
  have hi : i ∈ ks := by
    obtain ⟨j, hj, he⟩ := h.rk _ (List.mem_singleton.2 rfl) rfl
    have : i = j := Int.ofNat.inj he
    exact this ▸ hj
  have hks : ks = [i] := by
    have hall : ∀ j ∈ ks, j = i := fun j hj => seven_reach hp (h.rc j hj)
    have hn := h.nd
    cases ks with
    | nil => simp at hi
    | cons a l =>
      have ha := hall a (by simp)
      cases l with
      | nil => rw [ha]
      | cons b l =>
        have hb := hall b (by simp)
        exact absurd (by rw [ha, hb]; simp : a ∈ b :: l) (List.nodup_cons.1 hn).1
  refine ⟨?_, _, h.out, h.rep _ _ hr (h.rk _ (List.mem_singleton.2 rfl))⟩
  rw [h.tw, List.length_map, raw_len ks h.hd, hks]
  simp [hd.kN]
theorem RT.low {S : Nat → Prop} {w : World} {t : T} {v : Value} (h : RT S w t v) : RT (fun b => S b ∧ b < w.heap.size) w t v := h.to (fun b h hl => ⟨h, hl⟩) fun _ _ _ => rfl
theorem putHO_len (room : Int) (H : HS) (t : T) : (putHO room H t).2.2.ws.length ≤ H.ws.length + szL [t] ∧ (putHO room H t).2.2.names.length ≤ H.names.length + bulkL [t] := by
  have h := putW_len H t
  unfold putHO
  split
  · exact ⟨by show H.ws.length ≤ _; omega, by show H.names.length ≤ _; omega⟩
  · split
    · exact ⟨by show H.ws.length ≤ _; omega, by show H.names.length ≤ _; omega⟩
    · split
      · exact ⟨by show H.ws.length ≤ _; omega, by show H.names.length ≤ _; omega⟩
      · exact ⟨by show (putW H t).2.ws.length ≤ _; omega, h.2⟩
theorem two_sz : szL [twoT] = 3 ∧ bulkL [twoT] ≤ 10 := by (simp [twoT, tupT, numT, wordT, szL_cons, szL, bulkL_cons, bulkL]; decide)
theorem seven_sz : szL [sevenT] = 2 ∧ bulkL [sevenT] ≤ 10 ∧ closedL [sevenT] = true := by (simp [sevenT, tupT, numT, szL_cons, szL, bulkL_cons, bulkL, closedL_cons, closedL]; decide)
theorem seven_check : checkE sevenT = 0 := by simp [sevenT, tupT, numT, checkE, formL_cons, formL, headB, bareB, dpL_cons, dpL, szL_cons, szL, inB]
theorem putHO_wf {H : HS} (hW : WF H) (room : Int) (t : T) : WF (putHO room H t).2.2 := by
  rcases putHO_R hW room t with ⟨-, -, h, -, -⟩ | ⟨-, h⟩
  · exact h.wf
  · rw [h]; exact hW
theorem seven_put {H : HS} (hW : WF H) (hl : H.ws.length ≤ 8) : (putHO 10 H sevenT).2.1 = 0 ∧ Rep (putHO 10 H sevenT).2.2 sevenT (putHO 10 H sevenT).1 ∧ WF (putHO 10 H sevenT).2.2 := by
  have h1 : ¬ (10 : Int) < H.ws.length + szL [sevenT] := by rw [seven_sz.1]; omega
  have h2 := putW_R hW (check_ok seven_check seven_sz.2.2).1
  rw [putHO_ok seven_check seven_sz.2.2 h1]
  exact ⟨rfl, h2.rep, h2.wf⟩
end Go.Proofs.Ytedfepnekjjmnab

/-
  kept: the heap's first words. No condition.
-/
namespace Go.Proofs.Ytedfepnekjjmnab
open Go.RowKit
set_option linter.unusedSimpArgs false
set_option linter.unusedVariables false
set_option maxRecDepth 100000

set_option maxHeartbeats 8000000 in
theorem kept_c (w : World) : Calls Try.prog 7 #[] w fun e w' => e = .returned (.bool true) ∧ Below w.heap.size w w' := by
  go_enter Try.func7, Try.ntmps7
  go_wp2_with fail
  refine (hnew_ok 10 w (by omega) (by omega)).mono ?_
  rintro e w1 ⟨rfl, hB1, hR1, hs1⟩
  have HB1 := Lib.hid hB1
  have HR1 := Lib.hid hR1
  have hs1a : w.heap.size + 1 ≤ w1.heap.size := by omega
  clear hB1 hR1 hs1
  go_wp2_with fail
  refine (two_c w1).mono ?_
  rintro e w2 ⟨v, rfl, hB2, hT2⟩
  have hs2 := hB2.size
  have HB2 := Lib.hid hB2
  have HT2 := Lib.hid hT2
  clear hB2 hT2
  go_wp2_with fail
  refine (hPut_c twoT _ _ w2 w.heap.size 10 ⟨[], []⟩ v (HR1.out.below HB2.out) HT2.out.low (fun b hb => ⟨hb.2, fun e => by have := hb.1; omega⟩) (by have := two_sz.2; omega) (by simp) (by simp)).mono ?_
  rintro e w3 ⟨rfl, hK3, hR3⟩
  obtain ⟨K1, hK1⟩ : ∃ K, K = putHO 10 ⟨[], []⟩ twoT := ⟨_, rfl⟩
  have hwf1 : WF K1.2.2 := by rw [hK1]; exact putHO_wf (WF.new []) _ _
  have hln1 := putHO_len 10 ⟨[], []⟩ twoT
  rw [← hK1] at hR3 hln1
  rw [← hK1]
  have hl1 : K1.2.2.ws.length ≤ 3 := by have := hln1.1; rw [two_sz.1] at this; simpa using this
  have hn1 : K1.2.2.names.length ≤ 10 := by have := hln1.2; have := two_sz.2; simp at *; omega
  have hs3 := hK3.size
  have HW1 := Lib.hid hwf1
  have HK3 := Lib.hid hK3
  have HR3 := Lib.hid hR3.low
  clear hK3 hR3 hK1 hwf1 hln1
  go_wp2_with fail
  refine (num_c _ _).mono ?_
  rintro e w4 ⟨rfl, hB4⟩
  have hs4 := hB4.size
  have HR4 := Lib.hid (HR3.out.below hB4)
  have HB4 := Lib.hid hB4
  clear hB4
  go_wp2_with fail
  refine (tuple_c _ _ _ _).mono ?_
  rintro e w5 ⟨rfl, hB5⟩
  have hs5 := hB5.size
  simp only [World.size_alloc] at hs5
  have HB5 : Hid (Below w4.heap.size w4 w5) := Lib.hid ((below_alloc _ _).trans (hB5.mono (by simp)))
  have HT5 : Hid (RT (fun b => w4.heap.size ≤ b) w5 sevenT (.agg #[.int .i64 4, .int .i64 0, .string ⟨#[]⟩, .slice (some ⟨w4.heap.size, 0, none⟩) 1 1])) := Lib.hid (by
    have hC : CellsT (fun _ => False) w4 [numT 7] [.int .i64 1, .int .i64 7, .string ⟨#[]⟩, .slice none 0 0] := ⟨none, 0, [], rfl, ⟨Nat.le_refl _, fun _ => rfl⟩, by simp [numT, RTs], rfl⟩
    refine tupT_rt ?_
    exact ((RSl2.lit hC 24).below hB5).rsl.mono fun b hb => by
      rcases hb with hb | hb
      · omega
      · exact hb.elim)
  have HR5 := Lib.hid (HR4.out.below HB5.out)
  clear hB5
  go_wp2_with fail
  refine (hPut_c sevenT _ _ w5 w.heap.size 10 K1.2.2 _ HR5.out HT5.out.low (fun b hb => ⟨hb.2, fun e => by have := hb.1; have := e.2; omega⟩) (by have := seven_sz.2.1; omega) (by omega) (by omega)).mono ?_
  rintro e w6 ⟨rfl, hK6, hR6⟩
  obtain ⟨P2, hP2⟩ : ∃ P, P = putHO 10 K1.2.2 sevenT := ⟨_, rfl⟩
  obtain ⟨q1, q2, q3⟩ := seven_put HW1.out (by omega)
  have hln2 := putHO_len 10 K1.2.2 sevenT
  rw [← hP2] at q1 q2 q3 hR6 hln2
  rw [← hP2, q1]
  have hl2 : P2.2.2.ws.length ≤ 5 := by have := hln2.1; rw [seven_sz.1] at this; omega
  have hn2 : P2.2.2.names.length ≤ 20 := by have := hln2.2; have := seven_sz.2.1; omega
  have hs6 := hK6.size
  have HK6 := Lib.hid hK6
  have HR6 := Lib.hid hR6.low
  have HQ2 := Lib.hid q2
  have HW2 := Lib.hid q3
  clear hK6 hR6 q1 q2 q3 hln2 hP2
  go_wp2_with fail
  have hRX : RX wrdE (fun b => b = w6.heap.size + 1) (fun _ => True) ((w6.alloc (.cells #[.int .i64 P2.1.kind, .int .i64 P2.1.n] 31)).alloc (.cells #[.int .i64 P2.1.kind, .int .i64 P2.1.n] 31)) [P2.1] (.slice (some ⟨w6.heap.size + 1, 0, none⟩) 1 1) :=
    ⟨_, _, [.int .i64 P2.1.kind, .int .i64 P2.1.n], rfl, ⟨Nat.le_refl _, by simp⟩, ⟨[.int .i64 P2.1.kind, .int .i64 P2.1.n], [], rfl, rfl, rfl⟩, fun j u hu => ⟨_, _, rfl, rfl, by
      rw [Nat.zero_add, show w6.heap.size + 1 = (w6.alloc (.cells #[.int .i64 P2.1.kind, .int .i64 P2.1.n] 31)).heap.size by simp, World.cell?_alloc_new]; simpa using hu⟩⟩
  have hB7 : Below w6.heap.size w6 ((w6.alloc (.cells #[.int .i64 P2.1.kind, .int .i64 P2.1.n] 31)).alloc (.cells #[.int .i64 P2.1.kind, .int .i64 P2.1.n] 31)) := (below_alloc _ _).trans ((below_alloc _ _).mono (by simp))
  have hls : LeafOk sevenT := ⟨fun e => absurd e (show ¬ ((4 : Int) = 1) by decide), fun e => absurd e (show ¬ ((4 : Int) = 3) by decide)⟩
  refine (hcollect_c _ _ _ _ w.heap.size 10 P2.2.2 [P2.1] _ hRX (by simp) (HR6.out.below hB7) HW2.out (by omega) (fun x hx => by rw [List.mem_singleton.1 hx]; exact HQ2.out.stands hls)).mono ?_
  rintro e w8 ⟨v2, tw, out, ks, rfl, hK8, hCol, hR8, hO8, hb8⟩
  obtain ⟨htw, y, hout, hy⟩ := seven_col HQ2.out hCol
  subst hout
  obtain ⟨g8, c8, rfl⟩ := hO8.form0 (by simp)
  obtain ⟨-, d0, d1⟩ := (hO8.rx).wrd 0 (by simp)
  simp only [Nat.zero_mul, Nat.add_zero, Nat.zero_add, List.getElem_cons_zero] at d0 d1
  have hs8 := hK8.size
  simp only [World.size_alloc] at hs8
  have HB7 := Lib.hid hB7
  have HK8 := Lib.hid hK8
  have HR8 := Lib.hid hR8
  have HO8 := Lib.hid hO8
  have HY := Lib.hid hy
  have HTW := Lib.hid htw
  have HLS := Lib.hid hls
  have HWF := Lib.hid (hCol.wf HW2.out P2.2.2.names)
  clear hB7 hK8 hR8 hO8 hy htw hls hCol hRX hb8
  go_wp2_with fail
  refine (hused_c _ w8 w.heap.size 10 _ HR8.out).mono ?_
  rintro e w9 ⟨rfl, rfl⟩
  rw [HTW.out]
  go_wp2_with fail
  refine (hGet_c sevenT _ w8 w.heap.size 10 _ y HR8.out HY.out HLS.out HWF.out.heads (by show tw.length ≤ _; rw [HTW.out]; omega) (by show P2.2.2.names.length ≤ _; omega)).mono ?_
  rintro e w9 ⟨a9, c9, rfl, hB9, hT9⟩
  have hs9 := hB9.size
  have HB9 := Lib.hid hB9
  have HT9 := Lib.hid hT9
  clear hB9 hT9 d0 d1
  go_upto_region 10 with fail
  obtain ⟨W10, hW10⟩ : ∃ W : World, W = w9.alloc (.cells #[.int .i64 4, .int .i64 0, .string ⟨#[]⟩, .slice a9 1 c9] 24) := ⟨_, rfl⟩
  obtain ⟨g9, hg9⟩ : ∃ g, g = w9.heap.size := ⟨_, rfl⟩
  have HX10 : Hid (Blk W10 g9 [.int .i64 4, .int .i64 0, .string ⟨#[]⟩, .slice a9 1 c9]) := Lib.hid (by rw [hW10]; exact Blk.new _ _ _ _ hg9)
  have HB10 : Hid (Below w9.heap.size w9 W10) := Lib.hid (by rw [hW10]; exact below_alloc _ _)
  have hs10 := HB10.out.size
  have hg10 : g9 < W10.heap.size := HX10.out.lt
  have HT10 : Hid (RT (fun b => w8.heap.size ≤ b) W10 sevenT (.agg #[.int .i64 4, .int .i64 0, .string ⟨#[]⟩, .slice a9 1 c9])) := Lib.hid (HT9.out.below HB10.out)
  have HQ10 : Hid (∀ w' : World, Below W10.heap.size W10 w' → w'.cell? ⟨g9, 0, none⟩ = some (.int .i64 4) ∧ w'.cell? ⟨g9, 1, none⟩ = some (.int .i64 0) ∧ w'.cell? ⟨g9, 2, none⟩ = some (.string ⟨#[]⟩) ∧ w'.cell? ⟨g9, 3, none⟩ = some (.slice a9 1 c9)) := Lib.hid fun w' h => ⟨(HX10.out.step h).cell 0 _ rfl, (HX10.out.step h).cell 1 _ rfl, (HX10.out.step h).cell 2 _ rfl, (HX10.out.step h).cell 3 _ rfl⟩
  show Code.wp _ _ _ _ (w9.alloc (.cells #[.int .i64 4, .int .i64 0, .string ⟨#[]⟩, .slice a9 1 c9] 24))
  rw [← hW10, ← hg9]
  clear hW10 hg9
  refine rg_start (fun w' => w'.cell? ⟨g9, 0, none⟩ = some (.int .i64 4) ∧ w'.cell? ⟨g9, 1, none⟩ = some (.int .i64 0) ∧ w'.cell? ⟨g9, 2, none⟩ = some (.string ⟨#[]⟩) ∧ w'.cell? ⟨g9, 3, none⟩ = some (.slice a9 1 c9)) (by as_aux_lemma => kernel_rfl) (fun Wd h => HQ10.out _ h) ?_
  intro Wd hB hWd hWd' hHeld
  have HBd := Lib.hid hB
  clear hB
  refine rg_take (i := 0) (v := ?_) rfl (by as_aux_lemma => kernel_rfl) (by as_aux_lemma => kernel_rfl) (by as_aux_lemma => kernel_rfl) (by rfl) ?_ hHeld ?_
  rotate_left 1
  · intro w hSw; (try dsimp only at hSw); go_simp; try (with_reducible rfl)
  (try simp only [Act.put, List.setIfInBounds_toArray, List.set_cons_zero, List.set_cons_succ])
  refine rg_take (i := 1) (v := ?_) rfl (by as_aux_lemma => kernel_rfl) (by as_aux_lemma => kernel_rfl) (by as_aux_lemma => kernel_rfl) (by rfl) ?_ hHeld ?_
  rotate_left 1
  · intro w hSw; (try dsimp only at hSw); go_simp; try (with_reducible rfl)
  (try simp only [Act.put, List.setIfInBounds_toArray, List.set_cons_zero, List.set_cons_succ])
  refine rg_take (i := 2) (v := ?_) rfl (by as_aux_lemma => kernel_rfl) (by as_aux_lemma => kernel_rfl) (by as_aux_lemma => kernel_rfl) (by rfl) ?_ hHeld ?_
  rotate_left 1
  · intro w hSw; (try dsimp only at hSw); go_simp; try (with_reducible rfl)
  (try simp only [Act.put, List.setIfInBounds_toArray, List.set_cons_zero, List.set_cons_succ])
  refine rg_take (i := 3) (v := ?_) rfl (by as_aux_lemma => kernel_rfl) (by as_aux_lemma => kernel_rfl) (by as_aux_lemma => kernel_rfl) (by rfl) ?_ hHeld ?_
  rotate_left 1
  · intro w hSw; (try dsimp only at hSw); go_simp; try (with_reducible rfl)
  (try simp only [Act.put, List.setIfInBounds_toArray, List.set_cons_zero, List.set_cons_succ])
  refine rg_only (i := 4) rfl (by as_aux_lemma => kernel_rfl) (by rfl) (fun K hK => ?_)
  go_simp
  go_at_call 23
  refine (num_c _ _).mono ?_
  rintro e wa ⟨rfl, hB⟩
  have hsa := hB.size
  have HBa : Hid (Below W10.heap.size W10 wa) := Lib.hid (below_step HBd.out (by omega) hB)
  clear hB
  refine hK.out _ _ (HQ10.out _ HBa.out) (fun hHeld1 => ?_)
  clear hK K hHeld
  have hHeld := hHeld1
  clear hHeld1
  (try simp only [Act.put, List.setIfInBounds_toArray, List.set_cons_zero, List.set_cons_succ])
  refine rg_only (i := 5) rfl (by as_aux_lemma => kernel_rfl) (by rfl) (fun K hK => ?_)
  refine build1 _ rfl (by rfl) ?_
  have HBb : Hid (Below W10.heap.size W10 (wa.alloc (.cells #[.int .i64 1, .int .i64 7, .string ⟨#[]⟩, .slice none 0 0] 24))) := Lib.hid (HBa.out.trans ((below_alloc _ _).mono (by omega)))
  refine hK.out _ _ (HQ10.out _ HBb.out) (fun hHeld1 => ?_)
  clear hK K hHeld
  have hHeld := hHeld1
  clear hHeld1
  (try simp only [Act.put, List.setIfInBounds_toArray, List.set_cons_zero, List.set_cons_succ])
  refine rg_only (i := 6) rfl (by as_aux_lemma => kernel_rfl) (by rfl) (fun K hK => ?_)
  go_simp
  go_at_call 34
  refine (tuple_c _ _ _ _).mono ?_
  rintro e wc ⟨rfl, hB⟩
  have hsc := hB.size
  simp only [World.size_alloc] at hsc
  have HBc : Hid (Below W10.heap.size W10 wc) := Lib.hid (below_step HBb.out (by simp; omega) hB)
  have HTc : Hid (RT (fun b => wa.heap.size ≤ b) wc sevenT (.agg #[.int .i64 4, .int .i64 0, .string ⟨#[]⟩, .slice (some ⟨wa.heap.size, 0, none⟩) 1 1])) := Lib.hid (by
    have hC : CellsT (fun _ => False) wa [numT 7] [.int .i64 1, .int .i64 7, .string ⟨#[]⟩, .slice none 0 0] := ⟨none, 0, [], rfl, ⟨Nat.le_refl _, fun _ => rfl⟩, by simp [numT, RTs], rfl⟩
    refine tupT_rt ?_
    exact ((RSl2.lit hC 24).below hB).rsl.mono fun b hb => by
      rcases hb with hb | hb
      · omega
      · exact hb.elim)
  clear hB
  refine hK.out _ _ (HQ10.out _ HBc.out) (fun hHeld1 => ?_)
  clear hK K hHeld
  have hHeld := hHeld1
  clear hHeld1
  (try simp only [Act.put, List.setIfInBounds_toArray, List.set_cons_zero, List.set_cons_succ])
  refine rg_only (i := 7) rfl (by as_aux_lemma => kernel_rfl) (by rfl) (fun K hK => ?_)
  go_simp
  go_at_call 19
  refine (same_c sevenT sevenT (fun _ => True) wc _ _ ((HT10.out.below HBc.out).mono fun _ _ => trivial) (HTc.out.mono fun _ _ => trivial) (by have := seven_sz.2.1; omega) (by have := seven_sz.2.1; omega)).mono ?_
  rintro e wd ⟨rfl, hB⟩
  have hsd := hB.size
  have HBe : Hid (Below W10.heap.size W10 wd) := Lib.hid (below_step HBc.out (by omega) hB)
  clear hB
  rw [(sameT_iff sevenT sevenT).2 rfl]
  refine hK.out _ _ (HQ10.out _ HBe.out) (fun hHeld1 => ?_)
  clear hK K hHeld
  have hHeld := hHeld1
  clear hHeld1
  (try simp only [Act.put, List.setIfInBounds_toArray, List.set_cons_zero, List.set_cons_succ])
  refine rg_take (i := 8) (v := ?_) rfl (by as_aux_lemma => kernel_rfl) (by as_aux_lemma => kernel_rfl) (by as_aux_lemma => kernel_rfl) (by rfl) ?_ hHeld ?_
  rotate_left 1
  · intro w hSw; (try dsimp only at hSw); go_simp; try (with_reducible rfl)
  (try simp only [Act.put, List.setIfInBounds_toArray, List.set_cons_zero, List.set_cons_succ])
  refine rg_take (i := 9) (v := ?_) rfl (by as_aux_lemma => kernel_rfl) (by as_aux_lemma => kernel_rfl) (by as_aux_lemma => kernel_rfl) (by rfl) ?_ hHeld ?_
  rotate_left 1
  · intro w hSw; (try dsimp only at hSw); go_simp; try (with_reducible rfl)
  (try simp only [Act.put, List.setIfInBounds_toArray, List.set_cons_zero, List.set_cons_succ])
  refine rg_done (by as_aux_lemma => kernel_rfl) ?_
  clear hHeld
  go_wp2_with fail
  go_ret
  refine ⟨rfl, ?_⟩
  have hz7 := HB7.out.size
  simp only [World.size_alloc] at hz7
  have b3 : Below w.heap.size w w3 := (HB1.out.trans (HB2.out.mono (by omega))).trans (HK3.out.below (by omega) fun b hb => by rcases hb with rfl; omega)
  have b6 : Below w.heap.size w w6 := ((b3.trans (HB4.out.mono (by omega))).trans (HB5.out.mono (by omega))).trans (HK6.out.below (by omega) fun b hb => by rcases hb with ⟨h | h, -⟩ <;> omega)
  have b8 : Below w.heap.size w w8 := (b6.trans (HB7.out.mono (by omega))).trans (HK8.out.below (by simp only [World.size_alloc]; omega) fun b hb => by rcases hb with ⟨⟨h | h, -⟩ | h, -⟩ <;> omega)
  exact ((b8.trans (HB9.out.mono (by omega))).trans (HB10.out.mono (by omega))).trans (HBe.out.mono (by omega))
end Go.Proofs.Ytedfepnekjjmnab

/-
  HeapAgain's plain law: words and the terms that they stand for. No condition.
-/
namespace Go.Proofs.Ytedfepnekjjmnab
open Go.RowKit
set_option linter.unusedSimpArgs false
set_option linter.unusedVariables false

/-- Words that stand for terms, one by one. -/
def Stand (H : HS) (ts : List T) (xs : List Wrd) : Prop := RepL H ts xs ∧ ∀ t ∈ ts, LeafOk t
theorem Stand.nil (H : HS) : Stand H [] [] := ⟨by rw [RepL_nil], by simp⟩
theorem Stand.length {H : HS} {ts : List T} {xs : List Wrd} (h : Stand H ts xs) : xs.length = ts.length := h.1.length
theorem RepL.map {H H' : HS} (f : Wrd → Wrd) : ∀ {ts : List T} {xs : List Wrd}, RepL H ts xs → (∀ t x, t ∈ ts → x ∈ xs → Rep H t x → Rep H' t (f x)) → RepL H' ts (xs.map f)
  | [], xs, h, _ => by rw [RepL_nil] at h ⊢; rw [h]; rfl
  | t :: ts, xs, h, hf => by
    obtain ⟨x, r, rfl, h1, h2⟩ := (RepL_cons H t ts xs).1 h
    exact (RepL_cons H' t ts _).2 ⟨f x, r.map f, rfl, hf t x (by simp) (by simp) h1, h2.map f fun u y hu hy => hf u y (by simp [hu]) (by simp [hy])⟩
theorem RepL.snoc {H : HS} {t : T} {x : Wrd} (hx : Rep H t x) : ∀ {ts : List T} {xs : List Wrd}, RepL H ts xs → RepL H (ts ++ [t]) (xs ++ [x])
  | [], xs, h => by rw [RepL_nil] at h; rw [h]; exact (RepL_cons H t [] _).2 ⟨x, [], rfl, hx, by rw [RepL_nil]⟩
  | u :: ts, xs, h => by
    obtain ⟨y, r, rfl, h1, h2⟩ := (RepL_cons H u ts xs).1 h
    exact (RepL_cons H u _ _).2 ⟨y, r ++ [x], rfl, h1, h2.snoc hx⟩
/-- A put. -/
theorem Stand.put {H : HS} (hW : WF H) {ts : List T} {xs : List Wrd} (h : Stand H ts xs) (room : Int) (t : T) :
    ((putHO room H t).2.1 = 0 ∧ Stand (putHO room H t).2.2 (ts ++ [t]) (xs ++ [(putHO room H t).1])) ∨ ((putHO room H t).2.1 ≠ 0 ∧ Stand (putHO room H t).2.2 ts xs) := by
  rcases putHO_R hW room t with ⟨h0, hl, hr, -, -⟩ | ⟨h0, hH⟩
  · refine .inl ⟨h0, ?_, fun u hu => ?_⟩
    · have h1 := h.1.map id fun u y _ _ hy => hr.old u y hy
      rw [List.map_id] at h1
      exact h1.snoc hr.rep
    · rcases List.mem_append.1 hu with hu | hu
      · exact h.2 u hu
      · rw [List.mem_singleton.1 hu]; exact hl
  · rw [hH]; exact .inr ⟨h0, h⟩
theorem Stand.at {H : HS} {ts : List T} {xs : List Wrd} (h : Stand H ts xs) (i : Nat) (h1 : i < ts.length) (h2 : i < xs.length) : Rep H ts[i] xs[i] ∧ LeafOk ts[i] := ⟨h.1.at i h1 h2, h.2 _ (List.getElem_mem h1)⟩
/-- One picked. -/
theorem Stand.pick {H : HS} {ts us : List T} {xs ys : List Wrd} (h : Stand H ts xs) (g : Stand H us ys) (i : Nat) (h1 : i < ts.length) (h2 : i < xs.length) : Stand H (us ++ [ts[i]]) (ys ++ [xs[i]]) :=
  ⟨g.1.snoc (h.at i h1 h2).1, fun u hu => by
    rcases List.mem_append.1 hu with hu | hu
    · exact g.2 u hu
    · rw [List.mem_singleton.1 hu]; exact (h.at i h1 h2).2⟩
theorem Stand.stands {H : HS} {ts : List T} {xs : List Wrd} (h : Stand H ts xs) : ∀ x ∈ xs, standsB H x = true := fun x hx => by
  obtain ⟨i, hi, rfl⟩ := List.getElem_of_mem hx
  have hl := h.length
  obtain ⟨h1, h2⟩ := h.at i (by omega) hi
  exact h1.stands h2
/-- A collection. -/
theorem Stand.col {H : HS} {ts : List T} {xs : List Wrd} {ks : List Nat} {tw out : List Wrd} (h : Stand H ts xs) (hC : Col H xs ks tw out) : Stand ⟨tw, H.names⟩ ts out := by
  refine ⟨?_, h.2⟩
  rw [hC.out]
  exact h.1.map _ fun u y _ hy hr => hC.rep u y hr (hC.rk y hy)
theorem Col.le {H : HS} (hW : WF H) {rs : List Wrd} {ks : List Nat} {tw out : List Wrd} (h : Col H rs ks tw out) : tw.length ≤ H.ws.length := by
  rw [h.tw, List.length_map]; exact raw_le hW ks h.hd h.nd
end Go.Proofs.Ytedfepnekjjmnab

/-
  Slices of numbers, as read. No condition.
-/
namespace Go.Proofs.Ytedfepnekjjmnab
open Go.RowKit
set_option linter.unusedSimpArgs false
set_option linter.unusedVariables false

def intE : El Int where
  k := 1
  C := fun _ _ x cs => cs = [.int .i64 x]
  len := by rintro S w x cs rfl; rfl
  one := by rintro S w x cs rfl; simp [Value.oneCell']
  «to» := by rintro S S' w w' x cs rfl _ _; rfl
theorem RX.int {R S : Nat → Prop} {w : World} {l : List Int} {b o n cap : Nat} (h : RX intE R S w l (.slice (some ⟨b, o, none⟩) n cap)) (j : Nat) (hj : j < l.length) :
    R b ∧ w.cell? ⟨b, o + j, none⟩ = some (.int .i64 l[j]) := by
  obtain ⟨c, rfl, hc⟩ := h.elem j hj
  have h0 := hc 0 _ rfl
  exact ⟨h0.1, by have := h0.2; simpa [intE] using this⟩
theorem cellsI {S S' : Nat → Prop} {w w' : World} : ∀ {l : List Int} {cs : List Value}, CellsX intE S w l cs → CellsX intE S' w' l cs
  | [], cs, h => h
  | x :: l, cs, h => by
    obtain ⟨c, cs', rfl, h1, h2⟩ := h
    exact ⟨c, cs', rfl, h1, cellsI h2⟩
theorem RX.ito {R S : Nat → Prop} {w w' : World} {l : List Int} {v : Value} (h : RX intE R S w l v) (hc : ∀ b, R b → b < w.heap.size → w'.heap[b]? = w.heap[b]?) : RX intE R S w' l v := by
  obtain ⟨a, cap, cs, rfl, hl, hC, hj⟩ := h
  refine ⟨a, cap, cs, rfl, hl, cellsI hC, fun j u hu => ?_⟩
  obtain ⟨b, o, rfl, hR, hcell⟩ := hj j u hu
  exact ⟨b, o, rfl, hR, by rw [World.cell?_of_block (w := w) (hc b hR (World.block_lt_of_cell? w _ hcell))]; exact hcell⟩
end Go.Proofs.Ytedfepnekjjmnab

/-
  HeapShares: plain facts about what it joins and collects; clerkref.Putable. No condition but bounds.
-/
namespace Go.Proofs.Ytedfepnekjjmnab
open Go.RowKit
set_option linter.unusedSimpArgs false
set_option linter.unusedVariables false
set_option maxRecDepth 100000

/-- What Putable answers. -/
def putE (t : T) : Int := if checkE t ≠ 0 then checkE t else if closedL [t] = false then 5 else 0
set_option maxHeartbeats 1000000 in
theorem rputable_c (t : T) (S : Nat → Prop) (w : World) (v : Value) (hv : RT S w t v) (hS : ∀ b, S b → b < w.heap.size) (hb : bulkL [t] ≤ 1099511627776) :
    Calls Try.prog 10 #[v] w fun e w' => e = .returned (.int .i64 (putE t)) ∧ Below w.heap.size w w' := by
  obtain ⟨a, cap, rfl, hcap, hr⟩ := hv
  obtain ⟨W0, hW0⟩ : ∃ W : World, W = w.alloc (.cells #[.int .i64 t.kind, .int .i64 t.n, .string t.name, .slice a t.args.length cap] 24) := ⟨_, rfl⟩
  have HX0 : Hid (Blk W0 w.heap.size [.int .i64 t.kind, .int .i64 t.n, .string t.name, .slice a t.args.length cap]) := Lib.hid (by rw [hW0]; exact Blk.new _ _ _ _ rfl)
  have HB0 : Hid (Below w.heap.size w W0) := Lib.hid (by rw [hW0]; exact below_alloc _ _)
  have hs0 := HB0.out.size
  have HT0 : Hid (RT S W0 t (.agg #[.int .i64 t.kind, .int .i64 t.n, .string t.name, .slice a t.args.length cap])) := Lib.hid (RT.below ⟨a, cap, rfl, hcap, hr⟩ HB0.out)
  have HS := Lib.hid hS
  have HW0 := Lib.hid hW0
  clear hr hcap hW0 hS
  go_enter Try.func10, Try.ntmps10
  go_upto_region 1 with fail
  rw [← HW0.out]
  have y0 := HX0.out.cell 0 _ rfl
  have y1 := HX0.out.cell 1 _ rfl
  have y2 := HX0.out.cell 2 _ rfl
  have y3 := HX0.out.cell 3 _ rfl
  go_wp2_with fail
  refine (rcheck_c t S _ _ HT0.out (fun b hb => by have := HS.out b hb; omega) hb).mono ?_
  rintro e w1 ⟨rfl, hB⟩
  have hs1 := hB.size
  have HB1 : Hid (Below w.heap.size w w1) := Lib.hid (below_step HB0.out (by omega) hB)
  have HT1 := Lib.hid (HT0.out.below hB)
  have HX1 := Lib.hid (HX0.out.step hB)
  clear hB y0 y1 y2 y3
  by_cases hck : checkE t = 0
  · have hckb : (checkE t != 0) = false := by simp [hck]
    have y0 := HX1.out.cell 0 _ rfl
    have y1 := HX1.out.cell 1 _ rfl
    have y2 := HX1.out.cell 2 _ rfl
    have y3 := HX1.out.cell 3 _ rfl
    go_wp2_with fail
    refine (rclosed_c t S _ _ HT1.out (fun b hb => by have := HS.out b hb; omega) hb).mono ?_
    rintro e w2 ⟨he, hB⟩
    have HB2 : Hid (Below w.heap.size w w2) := Lib.hid (below_step HB1.out (by omega) hB)
    clear hB
    cases hc : closedL [t]
    · rw [hc] at he
      subst he
      go_wp2_with fail
      go_ret
      exact ⟨by unfold putE; rw [if_neg (by simp [hck]), if_pos hc] <;> rfl, HB2.out⟩
    · rw [hc] at he
      subst he
      go_wp2_with fail
      go_ret
      exact ⟨by unfold putE; rw [if_neg (by simp [hck]), if_neg (by simp [hc])] <;> rfl, HB2.out⟩
  · have hckb : (checkE t != 0) = true := by simp [hck]
    go_wp2_with fail
    go_ret
    exact ⟨by unfold putE; rw [if_pos hck] <;> rfl, HB1.out⟩
theorem WF.empty : WF ⟨[], []⟩ := WF.new []
/-- Put into a new heap. -/
theorem putHO_new (t : T) : ((putHO 1000 ⟨[], []⟩ t).2.1 = 0 ∧ LeafOk t ∧ PutR ⟨[], []⟩ t (putHO 1000 ⟨[], []⟩ t).1 (putHO 1000 ⟨[], []⟩ t).2.2 ∧ (putHO 1000 ⟨[], []⟩ t).2.2.ws.length ≤ 200 ∧ (putHO 1000 ⟨[], []⟩ t).2.2.names.length ≤ bulkL [t]) ∨
    ((putHO 1000 ⟨[], []⟩ t).2.1 ≠ 0 ∧ (putHO 1000 ⟨[], []⟩ t).2.1 = putE t) := by
  by_cases h1 : checkE t = 0
  · by_cases h2 : closedL [t] = true
    · obtain ⟨ho, hl, hs⟩ := check_ok h1 h2
      have h4 := putW_len ⟨[], []⟩ t
      have h3 : ¬ (1000 : Int) < ((⟨[], []⟩ : HS).ws.length : Int) + szL [t] := by simp; omega
      rw [putHO_ok h1 h2 h3]
      exact .inl ⟨rfl, hl, putW_R WF.empty ho, by rw [h4.1]; simpa using hs, by simpa using h4.2⟩
    · have h2' : closedL [t] = false := by simpa using h2
      rw [putHO_form h1 h2']
      exact .inr ⟨by decide, by unfold putE; rw [if_neg (by simp [h1]), if_pos h2']⟩
  · rw [putHO_check h1]
    exact .inr ⟨h1, by unfold putE; rw [if_pos h1]⟩
theorem bulkL_rep (t : T) : ∀ k, bulkL (List.replicate k t) = k * bulkL [t]
  | 0 => by simp [bulkL]
  | k + 1 => by
    rw [List.replicate_succ, bulkL_cons, bulkL_rep t k, Nat.succ_mul, bulkL_cons]
    simp [bulkL]; omega
theorem join_leaf {ts : List T} : LeafOk (tupT ts) := by unfold LeafOk; exact ⟨fun h => absurd (show (4 : Int) = 1 from h) (by decide), fun h => absurd (show (4 : Int) = 3 from h) (by decide)⟩
theorem mem2 {α : Type} {a b : α} : ∀ y ∈ [a, b], y = a ∨ y = b := fun y hy => by
  rcases List.mem_cons.1 hy with h | hy
  · exact .inl h
  · exact .inr (List.mem_singleton.1 hy)
theorem mem3 {α : Type} {a b : α} : ∀ y ∈ [a, b, a], y = a ∨ y = b := fun y hy => by
  rcases List.mem_cons.1 hy with h | hy
  · exact .inl h
  · rcases List.mem_cons.1 hy with h | hy
    · exact .inr h
    · exact .inl (List.mem_singleton.1 hy)
/-- Both words stand in the heap that Join makes. -/
theorem share_stand {H : HS} (hW : WF H) {t : T} {x : Wrd} (hr : Rep H t x) (hl : LeafOk t) (k : Nat) : Stand (joinH H (List.replicate k x)) [tupT (List.replicate k t), t] [⟨4, (H.ws.length : Int)⟩, x] := by
  have hj := join_R hW (RepL.rep hr k)
  refine ⟨(RepL_cons _ _ _ _).2 ⟨_, [x], rfl, hj.rep, (RepL_cons _ _ _ _).2 ⟨x, [], rfl, hj.old _ _ hr, by rw [RepL_nil]⟩⟩, fun u hu => ?_⟩
  simp at hu
  rcases hu with rfl | rfl
  · exact join_leaf
  · exact hl
theorem share_live {H : HS} (hW : WF H) {t : T} {x : Wrd} {k : Nat} (hr : Rep H t x) (hn : (hd1 H t x).Nodup) {tw out : List Wrd} {ks : List Nat} (h : Col (joinH H (List.replicate k x)) [⟨4, (H.ws.length : Int)⟩, x, ⟨4, (H.ws.length : Int)⟩] ks tw out) : (tw.length : Int) = szL [t] + 1 + k := by
  have := col_shares (rs := [⟨4, (H.ws.length : Int)⟩, x, ⟨4, (H.ws.length : Int)⟩]) hW hr hn (List.mem_cons_self ..) (List.mem_cons_of_mem _ (List.mem_cons_self ..)) mem3 h
  omega
theorem share_col {H : HS} (hW : WF H) {t : T} {x : Wrd} {k : Nat} (hr : Rep H t x) (hl : LeafOk t) (hn : (hd1 H t x).Nodup) {tw out : List Wrd} {ks : List Nat} (h : Col (joinH H (List.replicate k x)) [⟨4, (H.ws.length : Int)⟩, x] ks tw out) :
    (tw.length : Int) = szL [t] + 1 + k ∧ ∃ y z, out = [y, z] ∧ Rep ⟨tw, H.names⟩ (tupT (List.replicate k t)) y ∧ Rep ⟨tw, H.names⟩ t z := by
  have h1 := col_shares (rs := [⟨4, (H.ws.length : Int)⟩, x]) hW hr hn (List.mem_cons_self ..) (List.mem_cons_of_mem _ (List.mem_cons_self ..)) mem2 h
  have h2 := ((share_stand hW hr hl k).col h).1
  obtain ⟨y, r, rfl, h3, h4⟩ := (RepL_cons _ _ _ _).1 h2
  obtain ⟨z, r', rfl, h5, h6⟩ := (RepL_cons _ _ _ _).1 h4
  rw [RepL_nil] at h6
  subst h6
  exact ⟨by omega, y, z, rfl, h3, h5⟩
end Go.Proofs.Ytedfepnekjjmnab

/-
  HeapShares: rows as they lie. No condition.
-/
namespace Go.Proofs.Ytedfepnekjjmnab
open Go.RowKit
set_option linter.unusedSimpArgs false
set_option linter.unusedVariables false
set_option maxRecDepth 100000

theorem sameT_ok (x : T) : sameT x x = true := (sameT_iff x x).2 rfl
theorem bulk_join {t : T} {k : Nat} (hk : k ≤ 8) (hb : bulkL [t] ≤ 1048576) : bulkL [tupT (List.replicate k t)] ≤ 1099511627776 := by
  have h := bulkL_rep t k
  have h2 := Nat.mul_le_mul hk hb
  rw [bulkL_cons]
  show 1 + (⟨#[]⟩ : ByteArray).size + bulkL (List.replicate k t) + bulkL [] ≤ _
  have h3 : (⟨#[]⟩ : ByteArray).size = 0 := rfl
  have h4 : bulkL [] = 0 := by simp [bulkL]
  omega
theorem share_join {H : HS} (hl : H.ws.length ≤ 200) {k : Nat} (hk : k ≤ 8) (t : T) (x : Wrd) : joinHO 1000 H (List.replicate k t) (List.replicate k x) = (⟨4, (H.ws.length : Int)⟩, 0, joinH H (List.replicate k x)) ∨ joinHO 1000 H (List.replicate k t) (List.replicate k x) = (⟨0, 0⟩, 2, H) := by
  have h : ¬ (1000 : Int) < (H.ws.length : Int) + 1 + ((List.replicate k x).length : Nat) := by rw [List.length_replicate]; omega
  unfold joinHO
  rw [if_neg h]
  by_cases hc : checkE (tupT (List.replicate k t)) = 0
  · rw [if_pos hc]; exact .inl rfl
  · rw [if_neg hc]; exact .inr rfl
theorem copL_at (c : List Value) : ∀ (k j i : Nat), j < k → i < c.length → (copL c k)[j * c.length + i]? = c[i]?
  | 0, j, i, hj, _ => by omega
  | k + 1, j, i, hj, hi => by
    rw [show copL c (k + 1) = c ++ copL c k by unfold copL; rw [List.replicate_succ, List.flatten_cons]]
    cases j with
    | zero => rw [Nat.zero_mul, Nat.zero_add, List.getElem?_append_left hi]
    | succ j =>
      rw [Nat.succ_mul, List.getElem?_append_right (by omega), show j * c.length + c.length + i - c.length = j * c.length + i by omega]
      exact copL_at c k j i (by omega) hi
/-- A slice of one term, as often as one likes. -/
theorem rsl_rep {S : Nat → Prop} {w : World} {t : T} {a : Option Addr} {cap g k : Nat} {e : TypeId} (hg : w.heap[g]? = some (.cells (copL [.int .i64 t.kind, .int .i64 t.n, .string t.name, .slice a t.args.length cap] k).toArray e)) (hcap : CapOk a t.args.length cap) (hr : RTs S w t.args a 0) (hS : S g) :
    RSl S w (List.replicate k t) (.slice (some ⟨g, 0, none⟩) k k) := by
  refine ⟨some ⟨g, 0, none⟩, k, by rw [List.length_replicate], ⟨by rw [List.length_replicate]; exact Nat.le_refl _, fun h => by cases h⟩, RTs_of _ _ _ _ _ fun j hj => ?_⟩
  have hjk : j < k := by simpa using hj
  have ht : (List.replicate k t)[j] = t := by simp
  rw [ht]
  have hc := fun (i : Nat) (hi : i < 4) => copL_at [.int .i64 t.kind, .int .i64 t.n, .string t.name, .slice a t.args.length cap] k j i hjk hi
  have hx : ∀ (i : Nat) (u : Value), i < 4 → [Value.int .i64 t.kind, .int .i64 t.n, .string t.name, .slice a t.args.length cap][i]? = some u → w.cell? ⟨g, 0 + (0 + j) * 4 + i, none⟩ = some u := fun i u hi hu => by
    rw [show 0 + (0 + j) * 4 + i = j * 4 + i by omega]
    exact copL_cells hg _ u ((hc i hi).trans hu)
  exact ⟨g, 0, a, cap, rfl, hS, hx 0 _ (by omega) rfl, hx 1 _ (by omega) rfl, hx 2 _ (by omega) rfl, hx 3 _ (by omega) rfl, hcap, hr⟩
/-- Words that lie in a block. -/
theorem rx_two {S : Nat → Prop} {w : World} {g : Nat} {x y : Wrd} (h : ∀ j u, [Value.int .i64 x.kind, .int .i64 x.n, .int .i64 y.kind, .int .i64 y.n][j]? = some u → w.cell? ⟨g, j, none⟩ = some u) : RX wrdE (fun b => b = g) S w [x, y] (.slice (some ⟨g, 0, none⟩) 2 2) :=
  ⟨some ⟨g, 0, none⟩, 2, _, rfl, ⟨Nat.le_refl _, fun h => by cases h⟩, ⟨[.int .i64 x.kind, .int .i64 x.n], [.int .i64 y.kind, .int .i64 y.n], rfl, rfl, [.int .i64 y.kind, .int .i64 y.n], [], rfl, rfl, rfl⟩, fun j u hu => ⟨g, 0, rfl, rfl, by rw [Nat.zero_add]; exact h j u hu⟩⟩
theorem rx_three {S : Nat → Prop} {w : World} {g : Nat} {x y z : Wrd} (h : ∀ j u, [Value.int .i64 x.kind, .int .i64 x.n, .int .i64 y.kind, .int .i64 y.n, .int .i64 z.kind, .int .i64 z.n][j]? = some u → w.cell? ⟨g, j, none⟩ = some u) : RX wrdE (fun b => b = g) S w [x, y, z] (.slice (some ⟨g, 0, none⟩) 3 3) :=
  ⟨some ⟨g, 0, none⟩, 3, _, rfl, ⟨Nat.le_refl _, fun h => by cases h⟩, ⟨[.int .i64 x.kind, .int .i64 x.n], [.int .i64 y.kind, .int .i64 y.n, .int .i64 z.kind, .int .i64 z.n], rfl, rfl, [.int .i64 y.kind, .int .i64 y.n], [.int .i64 z.kind, .int .i64 z.n], rfl, rfl, [.int .i64 z.kind, .int .i64 z.n], [], rfl, rfl, rfl⟩, fun j u hu => ⟨g, 0, rfl, rfl, by rw [Nat.zero_add]; exact h j u hu⟩⟩
end Go.Proofs.Ytedfepnekjjmnab

/-
  Rows of a call's own side by side, what they hold, and blocks that they leave alone: allocated, grown, kept. No condition.
-/
namespace Go.Proofs.Ytedfepnekjjmnab
open Go.RowKit
set_option linter.unusedSimpArgs false
set_option linter.unusedVariables false

/-! ### Terms as elements -/
def termE : El T where
  k := 4
  C := fun S w t cs => ∃ a cap, cs = [.int .i64 t.kind, .int .i64 t.n, .string t.name, .slice a t.args.length cap] ∧ CapOk a t.args.length cap ∧ RTs S w t.args a 0
  len := by rintro S w x cs ⟨a, cap, rfl, -⟩; rfl
  one := by rintro S w x cs ⟨a, cap, rfl, -⟩; simp [Value.oneCell']
  «to» := by rintro S S' w w' x cs ⟨a, cap, rfl, h1, h2⟩ hs hc; exact ⟨a, cap, rfl, h1, h2.to hs hc⟩
def termF : ElT termE where
  e := 24
  sl := 22
  bytes := 56
  z := .agg #[.int .i64 0, .int .i64 0, .string ⟨#[]⟩, .slice none 0 0]
  hund := Try.underlying22
  info := info24
  hzs := rfl
  hk := by decide
  hb := by decide
theorem cells_termE {S : Nat → Prop} {w : World} : ∀ {ts : List T} {cs : List Value}, CellsX termE S w ts cs ↔ CellsT S w ts cs
  | [], cs => Iff.rfl
  | t :: ts, cs => by
    constructor
    · rintro ⟨c, cs', rfl, ⟨a, cap, rfl, h1, h2⟩, h3⟩
      exact ⟨a, cap, cs', rfl, h1, h2, cells_termE.1 h3⟩
    · rintro ⟨a, cap, cs', rfl, h1, h2, h3⟩
      exact ⟨_, cs', rfl, ⟨a, cap, rfl, h1, h2⟩, cells_termE.2 h3⟩
theorem own_termE {P : Nat → Prop} {base : Nat} {w : World} {v : Value} {ts : List T} (h : OwnXG termE termF.e P base w v ts) : OwnG P base w v ts := by
  obtain ⟨cs, h1, h2⟩ := h
  exact ⟨cs, h1, cells_termE.1 h2⟩
theorem termE_of {S : Nat → Prop} {w : World} {t : T} {c : Array Value} (h : RT S w t (.agg c)) : termE.C S w t c.toList := by
  obtain ⟨a, cap, e, h1, h2⟩ := h
  simp only [Value.agg.injEq] at e
  exact ⟨a, cap, by rw [e], h1, h2⟩

/-! ### Rows side by side -/
structure Rw where
  X : Type
  E : El X
  F : ElT E
  v : Value
  l : List X
def rW (v : Value) (l : List Wrd) : Rw := ⟨Wrd, wrdE, wrdF, v, l⟩
def rT (v : Value) (l : List T) : Rw := ⟨T, termE, termF, v, l⟩
/-- Rows of one's own (rs) since w0, that lead into P; blocks apart from them: F, and bs, which are known whole. -/
structure RS (P F : Nat → Prop) (w0 : World) (bs : List (Nat × List Value)) (w : World) (rs : List Rw) : Prop where
  bel : Below w0.heap.size w0 w
  pb : ∀ b, P b → b < w.heap.size ∧ ¬ F b ∧ ∀ r ∈ rs, r.v.ownBlock ≠ some b
  ok : ∀ r ∈ rs, OwnXG r.E r.F.e P w0.heap.size w r.v r.l
  ap : rs.Pairwise fun r s => ∀ b, r.v.ownBlock = some b → s.v.ownBlock ≠ some b
  fh : ∀ b, F b → w0.heap.size ≤ b ∧ b < w.heap.size ∧ ∀ r ∈ rs, r.v.ownBlock ≠ some b
  bk : ∀ p ∈ bs, Blk w p.1 p.2 ∧ ¬ F p.1 ∧ ∀ r ∈ rs, r.v.ownBlock ≠ some p.1
section
variable {P F : Nat → Prop} {w0 w : World} {bs : List (Nat × List Value)} {rs : List Rw}
theorem RS.start (P : Nat → Prop) (w : World) (hP : ∀ b, P b → b < w.heap.size) : RS P (fun _ => False) w [] w [] :=
  ⟨Below.refl _ _, fun b hb => ⟨hP b hb, not_false, by simp⟩, by simp, List.Pairwise.nil, fun b h => h.elim, by simp⟩
theorem RS.lt (h : RS P F w0 bs w rs) {r : Rw} (hr : r ∈ rs) (b : Nat) (hb : r.v.ownBlock = some b) : w0.heap.size ≤ b ∧ b < w.heap.size := OwnXG.block (h.ok r hr) b hb
theorem RS.sub (h : RS P F w0 bs w rs) {bs' : List (Nat × List Value)} (hs : ∀ p ∈ bs', p ∈ bs) : RS P F w0 bs' w rs := ⟨h.bel, h.pb, h.ok, h.ap, h.fh, fun p hp => h.bk p (hs p hp)⟩
theorem RS.rows (h : RS P F w0 bs w rs) {rs' : List Rw} (hs : rs'.Sublist rs) : RS P F w0 bs w rs' :=
  ⟨h.bel, fun b hb => ⟨(h.pb b hb).1, (h.pb b hb).2.1, fun r hr => (h.pb b hb).2.2 r (hs.subset hr)⟩, fun r hr => h.ok r (hs.subset hr), h.ap.sublist hs,
    fun b hb => ⟨(h.fh b hb).1, (h.fh b hb).2.1, fun r hr => (h.fh b hb).2.2 r (hs.subset hr)⟩, fun p hp => ⟨(h.bk p hp).1, (h.bk p hp).2.1, fun r hr => (h.bk p hp).2.2 r (hs.subset hr)⟩⟩
/-- Something that leaves all that is tracked as it was. -/
theorem RS.step (h : RS P F w0 bs w rs) {w' : World} {F' : Nat → Prop} (hb0 : Below w0.heap.size w0 w') (hl : w.heap.size ≤ w'.heap.size) (hF : ∀ b, F' b → (F b ∨ w.heap.size ≤ b) ∧ b < w'.heap.size) (hc : ∀ b, b < w.heap.size → ¬ F b → w'.heap[b]? = w.heap[b]?) : RS P F' w0 bs w' rs := by
  have hnF : ∀ b, b < w.heap.size → ¬ F b → ¬ F' b := fun b hb hn hf => by
    rcases (hF b hf).1 with h1 | h1
    · exact hn h1
    · omega
  refine ⟨hb0, fun b hb => ⟨by have := (h.pb b hb).1; omega, hnF b (h.pb b hb).1 (h.pb b hb).2.1, (h.pb b hb).2.2⟩, fun r hr => ?_, h.ap, fun b hb => ?_, fun p hp => ?_⟩
  · refine OwnXG.to (h.ok r hr) hl fun b hb hlt => hc b hlt fun hf => ?_
    rcases hb with hb | hb
    · exact (h.pb b hb).2.1 hf
    · exact (h.fh b hf).2.2 r hr hb
  · obtain ⟨h1, h2⟩ := hF b hb
    have hw := h.bel.size
    rcases h1 with h1 | h1
    · exact ⟨(h.fh b h1).1, h2, (h.fh b h1).2.2⟩
    · exact ⟨by omega, h2, fun r hr e => by have := (h.lt hr b e).2; omega⟩
  · obtain ⟨h1, h2, h3⟩ := h.bk p hp
    exact ⟨h1.heap (hc p.1 h1.lt h2), hnF p.1 h1.lt h2, h3⟩
theorem RS.below (h : RS P F w0 bs w rs) {w' : World} (hB : Below w.heap.size w w') : RS P F w0 bs w' rs :=
  h.step (below_step h.bel h.bel.size hB) hB.size (fun b hb => ⟨.inl hb, by have := (h.fh b hb).2.1; have := hB.size; omega⟩) fun b hb _ => hB.block b hb
theorem RS.keep (h : RS P F w0 bs w rs) {w' : World} {F' : Nat → Prop} (hK : Keep F w w') (hF : ∀ b, F' b → (F b ∨ w.heap.size ≤ b) ∧ b < w'.heap.size) : RS P F' w0 bs w' rs :=
  h.step (h.bel.trans (hK.below h.bel.size fun b hb => (h.fh b hb).1)) hK.size hF fun b hb hn => hK.block b hb hn
/-- A block is made. -/
theorem RS.alloc (h : RS P F w0 bs w rs) (c : Array Value) (e : TypeId) {g : Nat} (hg : g = w.heap.size) : RS P F w0 ((g, c.toList) :: bs) (w.alloc (.cells c e)) rs := by
  subst hg
  have h1 := h.below (below_alloc w (.cells c e))
  refine ⟨h1.bel, h1.pb, h1.ok, h1.ap, h1.fh, fun p hp => ?_⟩
  rcases List.mem_cons.1 hp with rfl | hp
  · exact ⟨Blk.new w c e _ rfl, fun hf => by have := (h.fh _ hf).2.1; omega, fun r hr e => by have := (h.lt hr _ e).2; omega⟩
  · exact h1.bk p hp
/-- A block that is known whole. -/
theorem RS.blk (h : RS P F w0 bs w rs) {g : Nat} {c : List Value} (hB : Blk w g c) (hF : ¬ F g) (hr : ∀ r ∈ rs, r.v.ownBlock ≠ some g) : RS P F w0 ((g, c) :: bs) w rs :=
  ⟨h.bel, h.pb, h.ok, h.ap, h.fh, fun p hp => by
    rcases List.mem_cons.1 hp with rfl | hp
    · exact ⟨hB, hF, hr⟩
    · exact h.bk p hp⟩
/-- A new row. -/
theorem RS.nil (h : RS P F w0 bs w rs) {X : Type} {E : El X} (Fe : ElT E) : RS P F w0 bs w (⟨X, E, Fe, .slice none 0 0, []⟩ :: rs) := by
  have hn : ∀ b, (Value.slice none 0 0).ownBlock ≠ some b := fun b => by simp [Value.ownBlock]
  refine ⟨h.bel, fun b hb => ⟨(h.pb b hb).1, (h.pb b hb).2.1, fun r hr => ?_⟩, fun r hr => ?_, List.pairwise_cons.2 ⟨fun s _ b hb => absurd hb (hn b), h.ap⟩, fun b hb => ⟨(h.fh b hb).1, (h.fh b hb).2.1, fun r hr => ?_⟩, fun p hp => ⟨(h.bk p hp).1, (h.bk p hp).2.1, fun r hr => ?_⟩⟩
  · rcases List.mem_cons.1 hr with rfl | hr
    · exact hn b
    · exact (h.pb b hb).2.2 r hr
  · rcases List.mem_cons.1 hr with rfl | hr
    · exact OwnXG.nil _ _ _ _
    · exact h.ok r hr
  · rcases List.mem_cons.1 hr with rfl | hr
    · exact hn b
    · exact (h.fh b hb).2.2 r hr
  · rcases List.mem_cons.1 hr with rfl | hr
    · exact hn _
    · exact (h.bk p hp).2.2 r hr
/-- Only the places matter. -/
theorem RS.perm (h : RS P F w0 bs w rs) {rs' : List Rw} (hp : rs.Perm rs') : RS P F w0 bs w rs' := by
  have hm : ∀ r, r ∈ rs' → r ∈ rs := fun r hr => hp.mem_iff.2 hr
  refine ⟨h.bel, fun b hb => ⟨(h.pb b hb).1, (h.pb b hb).2.1, fun r hr => (h.pb b hb).2.2 r (hm r hr)⟩, fun r hr => h.ok r (hm r hr), ?_, fun b hb => ⟨(h.fh b hb).1, (h.fh b hb).2.1, fun r hr => (h.fh b hb).2.2 r (hm r hr)⟩, fun p hp' => ⟨(h.bk p hp').1, (h.bk p hp').2.1, fun r hr => (h.bk p hp').2.2 r (hm r hr)⟩⟩
  exact hp.pairwise h.ap fun {r s} hrs b hb e => hrs b e hb
/-- One row is grown. -/
theorem RS.grown {l1 l2 : List Rw} {X : Type} {E : El X} {Fe : ElT E} {v v' : Value} {xs xs' : List X} (h : RS P F w0 bs w (l1 ++ ⟨X, E, Fe, v, xs⟩ :: l2)) {w' : World} (hg : w.grownBy w' v.ownBlock)
    (ho : OwnXG E Fe.e P w0.heap.size w' v' xs') (hv : ∀ b, v'.ownBlock = some b → v.ownBlock = some b ∨ w.heap.size ≤ b) : RS P F w0 bs w' (l1 ++ ⟨X, E, Fe, v', xs'⟩ :: l2) := by
  have hmr : (⟨X, E, Fe, v, xs⟩ : Rw) ∈ l1 ++ ⟨X, E, Fe, v, xs⟩ :: l2 := by simp
  have hmo : ∀ r, (r ∈ l1 ∨ r ∈ l2) → r ∈ l1 ++ (⟨X, E, Fe, v, xs⟩ : Rw) :: l2 := fun r hr => by
    rcases hr with hr | hr <;> simp [hr]
  have hsp : ∀ r, r ∈ l1 ++ (⟨X, E, Fe, v', xs'⟩ : Rw) :: l2 → r = ⟨X, E, Fe, v', xs'⟩ ∨ (r ∈ l1 ∨ r ∈ l2) := fun r hr => by
    rcases List.mem_append.1 hr with hr | hr
    · exact .inr (.inl hr)
    · rcases List.mem_cons.1 hr with hr | hr
      · exact .inl hr
      · exact .inr (.inr hr)
  obtain ⟨a1, a2, a3⟩ := List.pairwise_append.1 h.ap
  obtain ⟨a4, a5⟩ := List.pairwise_cons.1 a2
  have hother : ∀ r, (r ∈ l1 ∨ r ∈ l2) → ∀ b, r.v.ownBlock = some b → v.ownBlock ≠ some b := fun r hr b hb e => by
    rcases hr with hr | hr
    · exact a3 r hr _ (List.mem_cons_self ..) b hb e
    · exact a4 r hr b e hb
  have hnew : ∀ b, b < w.heap.size → v.ownBlock ≠ some b → v'.ownBlock ≠ some b := fun b hb hn e => by
    rcases hv b e with h1 | h1
    · exact hn h1
    · omega
  have hrowl := fun b hb => (h.lt hmr b hb).1
  have hsz := hg.size
  refine ⟨grown_below h.bel hg h.bel.size hrowl, fun b hb => ⟨by have := (h.pb b hb).1; omega, (h.pb b hb).2.1, fun r hr => ?_⟩, fun r hr => ?_, ?_, fun b hb => ⟨(h.fh b hb).1, by have := (h.fh b hb).2.1; omega, fun r hr => ?_⟩, fun p hp => ⟨?_, (h.bk p hp).2.1, fun r hr => ?_⟩⟩
  · rcases hsp r hr with rfl | hr
    · exact hnew b (h.pb b hb).1 ((h.pb b hb).2.2 _ hmr)
    · exact (h.pb b hb).2.2 r (hmo r hr)
  · rcases hsp r hr with rfl | hr
    · exact ho
    · refine OwnXG.to (h.ok r (hmo r hr)) hg.size fun b hb hlt => hg.block b hlt fun e => ?_
      rcases hb with hb | hb
      · exact (h.pb b hb).2.2 _ hmr e.symm
      · exact hother r hr b hb e.symm
  · refine List.pairwise_append.2 ⟨a1, List.pairwise_cons.2 ⟨fun s hs b hb e => ?_, a5⟩, fun r hr s hs b hb e => ?_⟩
    · rcases hv b hb with h1 | h1
      · exact a4 s hs b h1 e
      · have := (h.lt (hmo s (.inr hs)) b e).2; omega
    · rcases List.mem_cons.1 hs with rfl | hs
      · rcases hv b e with h1 | h1
        · exact a3 r hr _ (List.mem_cons_self ..) b hb h1
        · have := (h.lt (hmo r (.inl hr)) b hb).2; omega
      · exact a3 r hr s (List.mem_cons_of_mem _ hs) b hb e
  · rcases hsp r hr with rfl | hr
    · exact hnew b (h.fh b hb).2.1 ((h.fh b hb).2.2 _ hmr)
    · exact (h.fh b hb).2.2 r (hmo r hr)
  · have h1 := h.bk p hp
    exact h1.1.heap (hg.block p.1 h1.1.lt fun e => h1.2.2 _ hmr e.symm)
  · rcases hsp r hr with rfl | hr
    · exact hnew p.1 (h.bk p hp).1.lt ((h.bk p hp).2.2 _ hmr)
    · exact (h.bk p hp).2.2 r (hmo r hr)
/-- What stays when a row is grown. -/
theorem RS.stay {l1 l2 : List Rw} {r : Rw} (h : RS P F w0 bs w (l1 ++ r :: l2)) {w' : World} (hg : w.grownBy w' r.v.ownBlock) (b : Nat) (hb : P b ∨ F b) : w'.heap[b]? = w.heap[b]? := by
  have hmr : r ∈ l1 ++ r :: l2 := by simp
  rcases hb with hb | hb
  · exact hg.block b (h.pb b hb).1 fun e => (h.pb b hb).2.2 _ hmr e.symm
  · exact hg.block b (h.fh b hb).2.1 fun e => (h.fh b hb).2.2 _ hmr e.symm
theorem RS.stayR {l1 l2 : List Rw} {r : Rw} (h : RS P F w0 bs w (l1 ++ r :: l2)) {w' : World} (hg : w.grownBy w' r.v.ownBlock) {B : Nat} {room : Int} {H : HS} (hR : HeapR F w B room H) : HeapR F w' B room H :=
  hR.to hg.size (fun _ h => h) fun b hb _ => h.stay hg b (.inr hb)
/-- A new block doesn't touch what is tracked. -/
theorem RS.heapR {B : Nat} {room : Int} {H : HS} (h : RS P F w0 bs w rs) (hR : HeapR F w B room H) {w' : World} (hl : w.heap.size ≤ w'.heap.size) (hc : ∀ b, F b → w'.heap[b]? = w.heap[b]?) : HeapR F w' B room H := hR.to hl (fun _ h => h) fun b hb _ => hc b hb
theorem RS.rx {r : Rw} (h : RS P F w0 bs w rs) (hr : r ∈ rs) : RX r.E (fun b => r.v.ownBlock = some b) P w r.l r.v := (OwnX.rx (h.ok r hr)).mono (fun _ h => h) fun b hb => hb.1
theorem RS.own {r : Rw} (h : RS P F w0 bs w rs) (hr : r ∈ rs) : OwnXG r.E r.F.e P w0.heap.size w r.v r.l := h.ok r hr
theorem RS.cell {g : Nat} {c : List Value} (h : RS P F w0 bs w rs) (hg : (g, c) ∈ bs) (j : Nat) (u : Value) (hu : c[j]? = some u) : w.cell? ⟨g, j, none⟩ = some u := (h.bk _ hg).1.cell j u hu
end
section
variable {o : Oper} {a : Act} {Q : Exit → Act → World → Prop} {K : Act → World → Prop} {w : World}
/-- 'append(s, x)' of one element that lies in a block of its own. -/
theorem wp_growR (s x : Operand) {X : Type} {E : El X} (Fe : ElT E) (ho : o.op = .call { callee := .builtin .append, args := #[s, x], argTypes := #[Fe.sl, Fe.sl] })
    {P F : Nat → Prop} {w0 : World} {bs : List (Nat × List Value)} (l1 l2 : List Rw) {v : Value} {xs : List X} {y : X} {g0 n : Nat} {c : List Value}
    (hs : a.eval s = v) (hx : a.eval x = .slice (some ⟨g0, 0, none⟩) 1 1) (h : RS P F w0 bs w (l1 ++ ⟨X, E, Fe, v, xs⟩ :: l2)) (hg : (g0, c) ∈ bs) (ht : E.C P w y c) (hnl : xs.length = n) (hn : n + 1 ≤ 274877906944)
    (hK : ∀ g cap w', RS P F w0 bs w' (l1 ++ ⟨X, E, Fe, .slice (some ⟨g, 0, none⟩) (n + 1) cap, xs ++ [y]⟩ :: l2) → w.grownBy w' v.ownBlock → K (a.put o.dst (.slice (some ⟨g, 0, none⟩) (n + 1) cap)) w') :
    Oper.wp Try.prog o a w K Q := by
  subst hnl
  have hmr : (⟨X, E, Fe, v, xs⟩ : Rw) ∈ l1 ++ ⟨X, E, Fe, v, xs⟩ :: l2 := by simp
  obtain ⟨i, hi, hiz, his, hib⟩ := info_parts Fe.info
  have hb := Fe.hb
  have hown : OwnXG E Fe.e P w0.heap.size w v xs := h.ok _ hmr
  have hpb := h.pb
  have hbel := h.bel.size
  obtain ⟨cs, ho1, hC⟩ := hown
  have hx1 : E.C (fun b => P b ∧ b < w.heap.size ∧ v.ownBlock ≠ some b) w y c := E.to ht (fun b hb hl => ⟨hb, hl, (hpb b hb).2.2 _ hmr⟩) fun _ _ _ => rfl
  refine wp_append_lies w s x Fe.sl ho w0.heap.size Fe.e i Fe.z E.k Fe.bytes Fe.hund hi hiz his hib Fe.hzs Fe.hk v _ cs hs ho1 ⟨g0, 0, none⟩ 1 1 c hx (by rw [E.len ht]; simp) ?_ (E.one ht) (by decide) (by unfold maxLen; omega) ?_ hbel _ rfl ?_
  · intro j u hu
    have := (h.bk _ hg).1.cell j u hu
    unfold Addr.add
    split
    · rename_i h0; subst h0; exact this
    · simpa using this
  · exact Nat.le_trans (Nat.mul_le_mul hn hb) (by decide)
  · intro g cap w' h1 h2 h3 h4
    have hsz := h2.size
    have hblk : ∀ b, (P b ∧ b < w.heap.size ∧ v.ownBlock ≠ some b) → b < w.heap.size → w'.heap[b]? = w.heap[b]? := fun b hb hlt => h2.block b hlt fun e => hb.2.2 e.symm
    have hO : OwnXG E Fe.e P w0.heap.size w' (.slice (some ⟨g, 0, none⟩) (xs.length + 1) cap) (xs ++ [y]) := by
      refine ⟨cs ++ c, by simpa using h1, ?_⟩
      have hcc : CellsX E (fun b => P b ∧ b < w.heap.size ∧ v.ownBlock ≠ some b) w' (xs ++ [y]) (cs ++ c) := (hC.to (fun _ h _ => h) hblk).append (CellsX.single (E.to hx1 (fun _ h _ => h) hblk))
      refine hcc.to (fun b hb _ => ⟨hb.1, by have := hb.2.1; omega, fun e => ?_⟩) fun _ _ _ => rfl
      have e1 : g = b := by simpa [Value.ownBlock] using e
      subst e1
      rcases h3 with h5 | h5
      · exact hb.2.2 h5
      · have := hb.2.1; omega
    refine hK g cap w' (h.grown h2 hO fun b hb => ?_) h2
    have e1 : g = b := by simpa [Value.ownBlock] using hb
    subst e1
    rcases h3 with h5 | h5
    · exact .inl h5
    · exact .inr (by omega)
/-- The same in a plain region. -/
theorem append_growR {ops : Array Oper} {rest : List Oper} (s x : Operand) (hgd : o.guard = none) {X : Type} {E : El X} (Fe : ElT E) (ho : o.op = .call { callee := .builtin .append, args := #[s, x], argTypes := #[Fe.sl, Fe.sl] })
    {P F : Nat → Prop} {w0 : World} {bs : List (Nat × List Value)} (l1 l2 : List Rw) {v : Value} {xs : List X} {y : X} {g0 n : Nat} {c : List Value}
    (hs : a.eval s = v) (hx : a.eval x = .slice (some ⟨g0, 0, none⟩) 1 1) (h : RS P F w0 bs w (l1 ++ ⟨X, E, Fe, v, xs⟩ :: l2)) (hg : (g0, c) ∈ bs) (ht : E.C P w y c) (hnl : xs.length = n) (hn : n + 1 ≤ 274877906944)
    (hK : ∀ g cap w', RS P F w0 bs w' (l1 ++ ⟨X, E, Fe, .slice (some ⟨g, 0, none⟩) (n + 1) cap, xs ++ [y]⟩ :: l2) → w.grownBy w' v.ownBlock → wpList Try.prog ops Q rest (a.put o.dst (.slice (some ⟨g, 0, none⟩) (n + 1) cap)) w') :
    wpList Try.prog ops Q (o :: rest) a w :=
  wpList_plain hgd fun _ hK' => wp_growR s x Fe ho l1 l2 hs hx h hg ht hnl hn fun g cap w' h1 h2 => hK' _ _ (hK g cap w' h1 h2)
end
end Go.Proofs.Ytedfepnekjjmnab

/-
  Rows of one's own side by side, each of which may have lost heads. Printed out of XSide by sideq.py. No condition.
-/
namespace Go.Proofs.Ytedfepnekjjmnab
open Go.RowKit
set_option linter.unusedSimpArgs false
set_option linter.unusedVariables false

section
variable {X : Type} {E : El X} {e : TypeId} {P : Nat → Prop} {base : Nat} {w : World} {v : Value} {xs : List X}
def OwnXQ (E : El X) (e : TypeId) (P : Nat → Prop) (base : Nat) (w : World) (v : Value) (xs : List X) : Prop := ∃ cs, ownsQ w base e E.k v xs.length cs ∧ CellsX E (fun b => P b ∧ b < w.heap.size ∧ v.ownBlock ≠ some b) w xs cs
theorem OwnXQ.nil (e : TypeId) (P : Nat → Prop) (base : Nat) (w : World) : OwnXQ E e P base w (.slice none 0 0) [] := ⟨[], ⟨by simp, .inl ⟨rfl, rfl⟩⟩, rfl⟩
theorem OwnXQ.to {w' : World} (h : OwnXQ E e P base w v xs) (hl : w.heap.size ≤ w'.heap.size) (hc : ∀ b, (P b ∨ v.ownBlock = some b) → b < w.heap.size → w'.heap[b]? = w.heap[b]?) : OwnXQ E e P base w' v xs := by
  obtain ⟨cs, h1, h2⟩ := h
  exact ⟨cs, h1.to fun b hb => hc b (.inr hb) (h1.lt b hb).2, h2.to (fun b hb _ => ⟨hb.1, by have := hb.2.1; omega, hb.2.2⟩) fun b hb hlt => hc b (.inl hb.1) hlt⟩
theorem OwnXQ.block (h : OwnXQ E e P base w v xs) : ∀ b, v.ownBlock = some b → base ≤ b ∧ b < w.heap.size := by obtain ⟨cs, h1, -⟩ := h; exact h1.lt
theorem OwnXQ.of (h : OwnXG E e P base w v xs) : OwnXQ E e P base w v xs := by obtain ⟨cs, h1, h2⟩ := h; exact ⟨cs, ownsQ_of h1, h2⟩
theorem OwnXQ.rx (h : OwnXQ E e P base w v xs) : RX E (fun b => v.ownBlock = some b) (fun b => P b ∧ b < w.heap.size ∧ v.ownBlock ≠ some b) w xs v := by
  obtain ⟨cs, h1, h2⟩ := h
  rcases h1.2 with ⟨rfl, h0⟩ | ⟨g, o, cap, cur, rfl, -, -, hn, -⟩
  · obtain rfl : xs = [] := List.eq_nil_of_length_eq_zero h0
    exact ⟨none, 0, cs, rfl, ⟨Nat.le_refl _, fun _ => rfl⟩, h2, fun j u hu => by
      obtain rfl : cs = [] := h2
      simp at hu⟩
  · exact ⟨some ⟨g, o * E.k, none⟩, cap, cs, rfl, ⟨hn, fun h => by cases h⟩, h2, fun j u hu => ⟨g, o * E.k, rfl, rfl, by have := h1.cells rfl j u hu; rwa [Addr.add_lit] at this⟩⟩
/-- The tail. -/
theorem OwnXQ.tailQ {g o cap m : Nat} {x : X} (h : OwnXQ E e P base w (.slice (some ⟨g, o, none⟩) (m + 1) cap) (x :: xs)) (hm : xs.length = m) : OwnXQ E e P base w (.slice (some ⟨g, o + E.k, none⟩) m (cap - 1)) xs := by
  obtain ⟨cs, h1, c, cs', rfl, h2, h3⟩ := h
  subst hm
  exact ⟨cs', h1.tail (E.len h2), h3⟩
theorem OwnXQ.zeroQ {g o cap m : Nat} (h : OwnXQ E e P base w (.slice (some ⟨g, o, none⟩) (m + 1) cap) xs) (hm : xs.length = m + 1) : OwnXQ E e P base w (.slice (some ⟨g, o, none⟩) 0 0) [] := by
  obtain ⟨cs, h1, -⟩ := h
  rw [hm] at h1
  exact ⟨[], h1.zero, rfl⟩
end
/-- Rows of one's own (rs) since w0, that lead into P; blocks apart from them: F, and bs, which are known whole. -/
structure RQ (P F : Nat → Prop) (w0 : World) (bs : List (Nat × List Value)) (w : World) (rs : List Rw) : Prop where
  bel : Below w0.heap.size w0 w
  pb : ∀ b, P b → b < w.heap.size ∧ ¬ F b ∧ ∀ r ∈ rs, r.v.ownBlock ≠ some b
  ok : ∀ r ∈ rs, OwnXQ r.E r.F.e P w0.heap.size w r.v r.l
  ap : rs.Pairwise fun r s => ∀ b, r.v.ownBlock = some b → s.v.ownBlock ≠ some b
  fh : ∀ b, F b → w0.heap.size ≤ b ∧ b < w.heap.size ∧ ∀ r ∈ rs, r.v.ownBlock ≠ some b
  bk : ∀ p ∈ bs, Blk w p.1 p.2 ∧ ¬ F p.1 ∧ ∀ r ∈ rs, r.v.ownBlock ≠ some p.1
section
variable {P F : Nat → Prop} {w0 w : World} {bs : List (Nat × List Value)} {rs : List Rw}
theorem RQ.start (P : Nat → Prop) (w : World) (hP : ∀ b, P b → b < w.heap.size) : RQ P (fun _ => False) w [] w [] :=
  ⟨Below.refl _ _, fun b hb => ⟨hP b hb, not_false, by simp⟩, by simp, List.Pairwise.nil, fun b h => h.elim, by simp⟩
theorem RQ.lt (h : RQ P F w0 bs w rs) {r : Rw} (hr : r ∈ rs) (b : Nat) (hb : r.v.ownBlock = some b) : w0.heap.size ≤ b ∧ b < w.heap.size := OwnXQ.block (h.ok r hr) b hb
theorem RQ.sub (h : RQ P F w0 bs w rs) {bs' : List (Nat × List Value)} (hs : ∀ p ∈ bs', p ∈ bs) : RQ P F w0 bs' w rs := ⟨h.bel, h.pb, h.ok, h.ap, h.fh, fun p hp => h.bk p (hs p hp)⟩
theorem RQ.rows (h : RQ P F w0 bs w rs) {rs' : List Rw} (hs : rs'.Sublist rs) : RQ P F w0 bs w rs' :=
  ⟨h.bel, fun b hb => ⟨(h.pb b hb).1, (h.pb b hb).2.1, fun r hr => (h.pb b hb).2.2 r (hs.subset hr)⟩, fun r hr => h.ok r (hs.subset hr), h.ap.sublist hs,
    fun b hb => ⟨(h.fh b hb).1, (h.fh b hb).2.1, fun r hr => (h.fh b hb).2.2 r (hs.subset hr)⟩, fun p hp => ⟨(h.bk p hp).1, (h.bk p hp).2.1, fun r hr => (h.bk p hp).2.2 r (hs.subset hr)⟩⟩
/-- Something that leaves all that is tracked as it was. -/
theorem RQ.step (h : RQ P F w0 bs w rs) {w' : World} {F' : Nat → Prop} (hb0 : Below w0.heap.size w0 w') (hl : w.heap.size ≤ w'.heap.size) (hF : ∀ b, F' b → (F b ∨ w.heap.size ≤ b) ∧ b < w'.heap.size) (hc : ∀ b, b < w.heap.size → ¬ F b → w'.heap[b]? = w.heap[b]?) : RQ P F' w0 bs w' rs := by
  have hnF : ∀ b, b < w.heap.size → ¬ F b → ¬ F' b := fun b hb hn hf => by
    rcases (hF b hf).1 with h1 | h1
    · exact hn h1
    · omega
  refine ⟨hb0, fun b hb => ⟨by have := (h.pb b hb).1; omega, hnF b (h.pb b hb).1 (h.pb b hb).2.1, (h.pb b hb).2.2⟩, fun r hr => ?_, h.ap, fun b hb => ?_, fun p hp => ?_⟩
  · refine OwnXQ.to (h.ok r hr) hl fun b hb hlt => hc b hlt fun hf => ?_
    rcases hb with hb | hb
    · exact (h.pb b hb).2.1 hf
    · exact (h.fh b hf).2.2 r hr hb
  · obtain ⟨h1, h2⟩ := hF b hb
    have hw := h.bel.size
    rcases h1 with h1 | h1
    · exact ⟨(h.fh b h1).1, h2, (h.fh b h1).2.2⟩
    · exact ⟨by omega, h2, fun r hr e => by have := (h.lt hr b e).2; omega⟩
  · obtain ⟨h1, h2, h3⟩ := h.bk p hp
    exact ⟨h1.heap (hc p.1 h1.lt h2), hnF p.1 h1.lt h2, h3⟩
theorem RQ.below (h : RQ P F w0 bs w rs) {w' : World} (hB : Below w.heap.size w w') : RQ P F w0 bs w' rs :=
  h.step (below_step h.bel h.bel.size hB) hB.size (fun b hb => ⟨.inl hb, by have := (h.fh b hb).2.1; have := hB.size; omega⟩) fun b hb _ => hB.block b hb
theorem RQ.keep (h : RQ P F w0 bs w rs) {w' : World} {F' : Nat → Prop} (hK : Keep F w w') (hF : ∀ b, F' b → (F b ∨ w.heap.size ≤ b) ∧ b < w'.heap.size) : RQ P F' w0 bs w' rs :=
  h.step (h.bel.trans (hK.below h.bel.size fun b hb => (h.fh b hb).1)) hK.size hF fun b hb hn => hK.block b hb hn
/-- A block is made. -/
theorem RQ.alloc (h : RQ P F w0 bs w rs) (c : Array Value) (e : TypeId) {g : Nat} (hg : g = w.heap.size) : RQ P F w0 ((g, c.toList) :: bs) (w.alloc (.cells c e)) rs := by
  subst hg
  have h1 := h.below (below_alloc w (.cells c e))
  refine ⟨h1.bel, h1.pb, h1.ok, h1.ap, h1.fh, fun p hp => ?_⟩
  rcases List.mem_cons.1 hp with rfl | hp
  · exact ⟨Blk.new w c e _ rfl, fun hf => by have := (h.fh _ hf).2.1; omega, fun r hr e => by have := (h.lt hr _ e).2; omega⟩
  · exact h1.bk p hp
/-- A block that is known whole. -/
theorem RQ.blk (h : RQ P F w0 bs w rs) {g : Nat} {c : List Value} (hB : Blk w g c) (hF : ¬ F g) (hr : ∀ r ∈ rs, r.v.ownBlock ≠ some g) : RQ P F w0 ((g, c) :: bs) w rs :=
  ⟨h.bel, h.pb, h.ok, h.ap, h.fh, fun p hp => by
    rcases List.mem_cons.1 hp with rfl | hp
    · exact ⟨hB, hF, hr⟩
    · exact h.bk p hp⟩
/-- A new row. -/
theorem RQ.nil (h : RQ P F w0 bs w rs) {X : Type} {E : El X} (Fe : ElT E) : RQ P F w0 bs w (⟨X, E, Fe, .slice none 0 0, []⟩ :: rs) := by
  have hn : ∀ b, (Value.slice none 0 0).ownBlock ≠ some b := fun b => by simp [Value.ownBlock]
  refine ⟨h.bel, fun b hb => ⟨(h.pb b hb).1, (h.pb b hb).2.1, fun r hr => ?_⟩, fun r hr => ?_, List.pairwise_cons.2 ⟨fun s _ b hb => absurd hb (hn b), h.ap⟩, fun b hb => ⟨(h.fh b hb).1, (h.fh b hb).2.1, fun r hr => ?_⟩, fun p hp => ⟨(h.bk p hp).1, (h.bk p hp).2.1, fun r hr => ?_⟩⟩
  · rcases List.mem_cons.1 hr with rfl | hr
    · exact hn b
    · exact (h.pb b hb).2.2 r hr
  · rcases List.mem_cons.1 hr with rfl | hr
    · exact OwnXQ.nil _ _ _ _
    · exact h.ok r hr
  · rcases List.mem_cons.1 hr with rfl | hr
    · exact hn b
    · exact (h.fh b hb).2.2 r hr
  · rcases List.mem_cons.1 hr with rfl | hr
    · exact hn _
    · exact (h.bk p hp).2.2 r hr
/-- Only the places matter. -/
theorem RQ.perm (h : RQ P F w0 bs w rs) {rs' : List Rw} (hp : rs.Perm rs') : RQ P F w0 bs w rs' := by
  have hm : ∀ r, r ∈ rs' → r ∈ rs := fun r hr => hp.mem_iff.2 hr
  refine ⟨h.bel, fun b hb => ⟨(h.pb b hb).1, (h.pb b hb).2.1, fun r hr => (h.pb b hb).2.2 r (hm r hr)⟩, fun r hr => h.ok r (hm r hr), ?_, fun b hb => ⟨(h.fh b hb).1, (h.fh b hb).2.1, fun r hr => (h.fh b hb).2.2 r (hm r hr)⟩, fun p hp' => ⟨(h.bk p hp').1, (h.bk p hp').2.1, fun r hr => (h.bk p hp').2.2 r (hm r hr)⟩⟩
  exact hp.pairwise h.ap fun {r s} hrs b hb e => hrs b e hb
/-- One row is grown. -/
theorem RQ.grown {l1 l2 : List Rw} {X : Type} {E : El X} {Fe : ElT E} {v v' : Value} {xs xs' : List X} (h : RQ P F w0 bs w (l1 ++ ⟨X, E, Fe, v, xs⟩ :: l2)) {w' : World} (hg : w.grownBy w' v.ownBlock)
    (ho : OwnXQ E Fe.e P w0.heap.size w' v' xs') (hv : ∀ b, v'.ownBlock = some b → v.ownBlock = some b ∨ w.heap.size ≤ b) : RQ P F w0 bs w' (l1 ++ ⟨X, E, Fe, v', xs'⟩ :: l2) := by
  have hmr : (⟨X, E, Fe, v, xs⟩ : Rw) ∈ l1 ++ ⟨X, E, Fe, v, xs⟩ :: l2 := by simp
  have hmo : ∀ r, (r ∈ l1 ∨ r ∈ l2) → r ∈ l1 ++ (⟨X, E, Fe, v, xs⟩ : Rw) :: l2 := fun r hr => by
    rcases hr with hr | hr <;> simp [hr]
  have hsp : ∀ r, r ∈ l1 ++ (⟨X, E, Fe, v', xs'⟩ : Rw) :: l2 → r = ⟨X, E, Fe, v', xs'⟩ ∨ (r ∈ l1 ∨ r ∈ l2) := fun r hr => by
    rcases List.mem_append.1 hr with hr | hr
    · exact .inr (.inl hr)
    · rcases List.mem_cons.1 hr with hr | hr
      · exact .inl hr
      · exact .inr (.inr hr)
  obtain ⟨a1, a2, a3⟩ := List.pairwise_append.1 h.ap
  obtain ⟨a4, a5⟩ := List.pairwise_cons.1 a2
  have hother : ∀ r, (r ∈ l1 ∨ r ∈ l2) → ∀ b, r.v.ownBlock = some b → v.ownBlock ≠ some b := fun r hr b hb e => by
    rcases hr with hr | hr
    · exact a3 r hr _ (List.mem_cons_self ..) b hb e
    · exact a4 r hr b e hb
  have hnew : ∀ b, b < w.heap.size → v.ownBlock ≠ some b → v'.ownBlock ≠ some b := fun b hb hn e => by
    rcases hv b e with h1 | h1
    · exact hn h1
    · omega
  have hrowl := fun b hb => (h.lt hmr b hb).1
  have hsz := hg.size
  refine ⟨grown_below h.bel hg h.bel.size hrowl, fun b hb => ⟨by have := (h.pb b hb).1; omega, (h.pb b hb).2.1, fun r hr => ?_⟩, fun r hr => ?_, ?_, fun b hb => ⟨(h.fh b hb).1, by have := (h.fh b hb).2.1; omega, fun r hr => ?_⟩, fun p hp => ⟨?_, (h.bk p hp).2.1, fun r hr => ?_⟩⟩
  · rcases hsp r hr with rfl | hr
    · exact hnew b (h.pb b hb).1 ((h.pb b hb).2.2 _ hmr)
    · exact (h.pb b hb).2.2 r (hmo r hr)
  · rcases hsp r hr with rfl | hr
    · exact ho
    · refine OwnXQ.to (h.ok r (hmo r hr)) hg.size fun b hb hlt => hg.block b hlt fun e => ?_
      rcases hb with hb | hb
      · exact (h.pb b hb).2.2 _ hmr e.symm
      · exact hother r hr b hb e.symm
  · refine List.pairwise_append.2 ⟨a1, List.pairwise_cons.2 ⟨fun s hs b hb e => ?_, a5⟩, fun r hr s hs b hb e => ?_⟩
    · rcases hv b hb with h1 | h1
      · exact a4 s hs b h1 e
      · have := (h.lt (hmo s (.inr hs)) b e).2; omega
    · rcases List.mem_cons.1 hs with rfl | hs
      · rcases hv b e with h1 | h1
        · exact a3 r hr _ (List.mem_cons_self ..) b hb h1
        · have := (h.lt (hmo r (.inl hr)) b hb).2; omega
      · exact a3 r hr s (List.mem_cons_of_mem _ hs) b hb e
  · rcases hsp r hr with rfl | hr
    · exact hnew b (h.fh b hb).2.1 ((h.fh b hb).2.2 _ hmr)
    · exact (h.fh b hb).2.2 r (hmo r hr)
  · have h1 := h.bk p hp
    exact h1.1.heap (hg.block p.1 h1.1.lt fun e => h1.2.2 _ hmr e.symm)
  · rcases hsp r hr with rfl | hr
    · exact hnew p.1 (h.bk p hp).1.lt ((h.bk p hp).2.2 _ hmr)
    · exact (h.bk p hp).2.2 r (hmo r hr)
/-- What stays when a row is grown. -/
theorem RQ.stay {l1 l2 : List Rw} {r : Rw} (h : RQ P F w0 bs w (l1 ++ r :: l2)) {w' : World} (hg : w.grownBy w' r.v.ownBlock) (b : Nat) (hb : P b ∨ F b) : w'.heap[b]? = w.heap[b]? := by
  have hmr : r ∈ l1 ++ r :: l2 := by simp
  rcases hb with hb | hb
  · exact hg.block b (h.pb b hb).1 fun e => (h.pb b hb).2.2 _ hmr e.symm
  · exact hg.block b (h.fh b hb).2.1 fun e => (h.fh b hb).2.2 _ hmr e.symm
theorem RQ.stayR {l1 l2 : List Rw} {r : Rw} (h : RQ P F w0 bs w (l1 ++ r :: l2)) {w' : World} (hg : w.grownBy w' r.v.ownBlock) {B : Nat} {room : Int} {H : HS} (hR : HeapR F w B room H) : HeapR F w' B room H :=
  hR.to hg.size (fun _ h => h) fun b hb _ => h.stay hg b (.inr hb)
/-- A new block doesn't touch what is tracked. -/
theorem RQ.heapR {B : Nat} {room : Int} {H : HS} (h : RQ P F w0 bs w rs) (hR : HeapR F w B room H) {w' : World} (hl : w.heap.size ≤ w'.heap.size) (hc : ∀ b, F b → w'.heap[b]? = w.heap[b]?) : HeapR F w' B room H := hR.to hl (fun _ h => h) fun b hb _ => hc b hb
theorem RQ.rx {r : Rw} (h : RQ P F w0 bs w rs) (hr : r ∈ rs) : RX r.E (fun b => r.v.ownBlock = some b) P w r.l r.v := (OwnXQ.rx (h.ok r hr)).mono (fun _ h => h) fun b hb => hb.1
theorem RQ.own {r : Rw} (h : RQ P F w0 bs w rs) (hr : r ∈ rs) : OwnXQ r.E r.F.e P w0.heap.size w r.v r.l := h.ok r hr
theorem RQ.cell {g : Nat} {c : List Value} (h : RQ P F w0 bs w rs) (hg : (g, c) ∈ bs) (j : Nat) (u : Value) (hu : c[j]? = some u) : w.cell? ⟨g, j, none⟩ = some u := (h.bk _ hg).1.cell j u hu
end
section
variable {o : Oper} {a : Act} {Q : Exit → Act → World → Prop} {K : Act → World → Prop} {w : World}
/-- 'append(s, x)' of one element that lies in a block of its own. -/
theorem wp_growQ (s x : Operand) {X : Type} {E : El X} (Fe : ElT E) (ho : o.op = .call { callee := .builtin .append, args := #[s, x], argTypes := #[Fe.sl, Fe.sl] })
    {P F : Nat → Prop} {w0 : World} {bs : List (Nat × List Value)} (l1 l2 : List Rw) {v : Value} {xs : List X} {y : X} {g0 n : Nat} {c : List Value}
    (hs : a.eval s = v) (hx : a.eval x = .slice (some ⟨g0, 0, none⟩) 1 1) (h : RQ P F w0 bs w (l1 ++ ⟨X, E, Fe, v, xs⟩ :: l2)) (hg : (g0, c) ∈ bs) (ht : E.C P w y c) (hnl : xs.length = n) (hn : n + 1 ≤ 274877906944)
    (hK : ∀ g o' cap w', RQ P F w0 bs w' (l1 ++ ⟨X, E, Fe, .slice (some ⟨g, o', none⟩) (n + 1) cap, xs ++ [y]⟩ :: l2) → w.grownBy w' v.ownBlock → K (a.put o.dst (.slice (some ⟨g, o', none⟩) (n + 1) cap)) w') :
    Oper.wp Try.prog o a w K Q := by
  subst hnl
  have hmr : (⟨X, E, Fe, v, xs⟩ : Rw) ∈ l1 ++ ⟨X, E, Fe, v, xs⟩ :: l2 := by simp
  obtain ⟨i, hi, hiz, his, hib⟩ := info_parts Fe.info
  have hb := Fe.hb
  have hown : OwnXQ E Fe.e P w0.heap.size w v xs := h.ok _ hmr
  have hpb := h.pb
  have hbel := h.bel.size
  obtain ⟨cs, ho1, hC⟩ := hown
  have hx1 : E.C (fun b => P b ∧ b < w.heap.size ∧ v.ownBlock ≠ some b) w y c := E.to ht (fun b hb hl => ⟨hb, hl, (hpb b hb).2.2 _ hmr⟩) fun _ _ _ => rfl
  obtain ⟨g, o', cap, w', hr, h1, h2, h3⟩ := run_append_q (P := Try.prog) w Fe.sl o.type w0.heap.size Fe.e i Fe.z E.k Fe.bytes Fe.hund hi hiz his hib Fe.hzs Fe.hk v _ cs ho1 ⟨g0, 0, none⟩ 1 1 c (by rw [E.len ht]; simp) (fun j u hu => by
    have := (h.bk _ hg).1.cell j u hu
    rw [Addr.add_lit, Nat.zero_add]; exact this) (E.one ht) (by decide) (by unfold maxLen; omega) (Nat.le_trans (Nat.mul_le_mul hn hb) (by decide)) hbel
  have hsz := h2.size
  have hblk : ∀ b, (P b ∧ b < w.heap.size ∧ v.ownBlock ≠ some b) → b < w.heap.size → w'.heap[b]? = w.heap[b]? := fun b hb hlt => h2.block b hlt fun e => hb.2.2 e.symm
  have hO : OwnXQ E Fe.e P w0.heap.size w' (.slice (some ⟨g, o', none⟩) (xs.length + 1) cap) (xs ++ [y]) := by
    refine ⟨cs ++ c, by simpa using h1, ?_⟩
    have hcc : CellsX E (fun b => P b ∧ b < w.heap.size ∧ v.ownBlock ≠ some b) w' (xs ++ [y]) (cs ++ c) := (hC.to (fun _ h _ => h) hblk).append (CellsX.single (E.to hx1 (fun _ h _ => h) hblk))
    refine hcc.to (fun b hb _ => ⟨hb.1, by have := hb.2.1; omega, fun e => ?_⟩) fun _ _ _ => rfl
    have e1 : g = b := by simpa [Value.ownBlock] using e
    subst e1
    rcases h3 with h5 | h5
    · exact hb.2.2 h5
    · have := hb.2.1; omega
  have hv : ∀ b, (Value.slice (some ⟨g, o', none⟩) (xs.length + 1) cap).ownBlock = some b → v.ownBlock = some b ∨ w.heap.size ≤ b := fun b hb => by
    have e1 : g = b := by simpa [Value.ownBlock] using hb
    subst e1
    rcases h3 with h5 | h5
    · exact .inl h5
    · exact .inr (by omega)
  unfold Oper.wp execOp
  simp only [ho, resolve, invoke, builtin, Sem.run_bind, Sem.run_pure, Result.andThen_ok, List.map_toArray, List.map_cons, List.map_nil, hs, hx, hr]
  exact hK g o' cap w' (h.grown h2 hO hv) h2
/-- The same in a plain region. -/
theorem append_growQ {ops : Array Oper} {rest : List Oper} (s x : Operand) (hgd : o.guard = none) {X : Type} {E : El X} (Fe : ElT E) (ho : o.op = .call { callee := .builtin .append, args := #[s, x], argTypes := #[Fe.sl, Fe.sl] })
    {P F : Nat → Prop} {w0 : World} {bs : List (Nat × List Value)} (l1 l2 : List Rw) {v : Value} {xs : List X} {y : X} {g0 n : Nat} {c : List Value}
    (hs : a.eval s = v) (hx : a.eval x = .slice (some ⟨g0, 0, none⟩) 1 1) (h : RQ P F w0 bs w (l1 ++ ⟨X, E, Fe, v, xs⟩ :: l2)) (hg : (g0, c) ∈ bs) (ht : E.C P w y c) (hnl : xs.length = n) (hn : n + 1 ≤ 274877906944)
    (hK : ∀ g o' cap w', RQ P F w0 bs w' (l1 ++ ⟨X, E, Fe, .slice (some ⟨g, o', none⟩) (n + 1) cap, xs ++ [y]⟩ :: l2) → w.grownBy w' v.ownBlock → wpList Try.prog ops Q rest (a.put o.dst (.slice (some ⟨g, o', none⟩) (n + 1) cap)) w') :
    wpList Try.prog ops Q (o :: rest) a w :=
  wpList_plain hgd fun _ hK' => wp_growQ s x Fe ho l1 l2 hs hx h hg ht hnl hn fun g o' cap w' h1 h2 => hK' _ _ (hK g o' cap w' h1 h2)
end
end Go.Proofs.Ytedfepnekjjmnab

/-
  Ways: entries of a map as a list: pair, raw slice, terms. Plain facts. No condition.
-/
namespace Go.Proofs.Ytedfepnekjjmnab
open Go.RowKit Go.Maps
set_option linter.unusedSimpArgs false
set_option linter.unusedVariables false

abbrev Ent := (Int × Int) × Value × List T
def keyE (A : List Ent) : List (Int × Int) := A.map (·.1)
def rowsE (A : List Ent) : List Rw := A.map fun q => rT q.2.1 q.2.2
def entF : List Ent → Int × Int → Option (Value × List T)
  | [], _ => none
  | q :: A, k => if q.1 = k then some q.2 else entF A k
def rawF (A : List Ent) (a c : Int) : Option Value := (entF A (a, c)).map (·.1)
def listF (A : List Ent) (k : Int × Int) : List T := ((entF A k).map (·.2)).getD []
theorem entF_app (k : Int × Int) : ∀ (X Y : List Ent), entF (X ++ Y) k = (entF X k).or (entF Y k)
  | [], Y => by simp [entF]
  | q :: X, Y => by
    rw [List.cons_append, entF, entF]
    by_cases e : q.1 = k
    · rw [if_pos e, if_pos e]; rfl
    · rw [if_neg e, if_neg e]; exact entF_app k X Y
theorem entF_none {k : Int × Int} : ∀ {A : List Ent}, k ∉ keyE A → entF A k = none
  | [], _ => rfl
  | q :: A, h => by
    have h1 : ¬ (k = q.1 ∨ k ∈ keyE A) := by simpa [keyE] using h
    rw [entF, if_neg fun e => h1 (.inl e.symm)]
    exact entF_none fun hm => h1 (.inr hm)
theorem entF_some {k : Int × Int} {y : Value × List T} : ∀ {A : List Ent}, entF A k = some y → ∃ X Y, A = X ++ (k, y) :: Y ∧ k ∉ keyE X
  | [], h => by cases h
  | q :: A, h => by
    rw [entF] at h
    by_cases e : q.1 = k
    · rw [if_pos e] at h
      obtain rfl := Option.some.inj h
      exact ⟨[], A, by rw [← e]; rfl, by simp [keyE]⟩
    · rw [if_neg e] at h
      obtain ⟨X, Y, rfl, hX⟩ := entF_some h
      exact ⟨q :: X, Y, rfl, by
        intro hm
        rcases List.mem_cons.1 (show k ∈ q.1 :: keyE X from hm) with h1 | h1
        · exact e h1.symm
        · exact hX h1⟩
theorem keyE_app (X Y : List Ent) : keyE (X ++ Y) = keyE X ++ keyE Y := List.map_append
theorem rawF_cons (k : Int × Int) (v : Value) (l : List T) (A : List Ent) : rawF ((k, v, l) :: A) = updF (rawF A) k.1 k.2 (some v) := by
  funext a c
  obtain ⟨x, y⟩ := k
  unfold rawF updF
  rw [entF]
  by_cases e : a = x ∧ c = y
  · obtain ⟨rfl, rfl⟩ := e
    rw [if_pos rfl, if_pos ⟨rfl, rfl⟩]; rfl
  · rw [if_neg (fun h => e (by have h1 : (x, y) = (a, c) := h; simp only [Prod.mk.injEq] at h1; exact ⟨h1.1.symm, h1.2.symm⟩)), if_neg e]
theorem rawF_app (X Y : List Ent) (a c : Int) : rawF (X ++ Y) a c = (rawF X a c).or (rawF Y a c) := by
  unfold rawF
  rw [entF_app]
  cases entF X (a, c) <;> rfl
theorem rawF_none {A : List Ent} {a c : Int} (h : (a, c) ∉ keyE A) : rawF A a c = none := by unfold rawF; rw [entF_none h]; rfl
theorem rawF_mid {X Y : List Ent} {k : Int × Int} {v v' : Value} {l l' : List T} (h : k ∉ keyE X) : rawF (X ++ (k, v', l') :: Y) = updF (rawF (X ++ (k, v, l) :: Y)) k.1 k.2 (some v') := by
  funext a c
  rw [rawF_app, rawF_cons]
  unfold updF
  by_cases e : a = k.1 ∧ c = k.2
  · obtain ⟨rfl, rfl⟩ := e
    rw [if_pos ⟨rfl, rfl⟩, if_pos ⟨rfl, rfl⟩, rawF_none h]; rfl
  · rw [if_neg e, if_neg e, rawF_app, rawF_cons]
    unfold updF
    rw [if_neg e]
theorem rawF_del {X Y : List Ent} {k : Int × Int} {v : Value} {l : List T} (h : k ∉ keyE X) (hY : k ∉ keyE Y) : rawF (X ++ Y) = updF (rawF (X ++ (k, v, l) :: Y)) k.1 k.2 none := by
  funext a c
  rw [rawF_app]
  unfold updF
  by_cases e : a = k.1 ∧ c = k.2
  · obtain ⟨rfl, rfl⟩ := e
    rw [if_pos ⟨rfl, rfl⟩, rawF_none h, rawF_none hY]; rfl
  · rw [if_neg e, rawF_app, rawF_cons]
    unfold updF
    rw [if_neg e]
theorem updF_updF (f : Int → Int → Option Value) (a c : Int) (u v : Option Value) : updF (updF f a c u) a c v = updF f a c v := by
  funext x y
  unfold updF
  by_cases e : x = a ∧ y = c
  · rw [if_pos e, if_pos e]
  · rw [if_neg e, if_neg e, if_neg e]
/-- Block b is a map whose entries are A. -/
structure MapE (w : World) (b n : Nat) (A : List Ent) : Prop where
  mp : ∃ D, MapF w b n D (rawF A) ∧ Maps.size D = A.length
  nd : (keyE A).Nodup
  wf : ∀ q ∈ A, wf64 q.1.1 ∧ wf64 q.1.2 ∧ q.2.2 ≠ []
theorem MapE.toQ {w w' : World} {b n : Nat} {A : List Ent} (h : MapE w b n A) (he : w'.heap[b]? = w.heap[b]?) : MapE w' b n A := by
  obtain ⟨⟨D, h1, h2⟩, h3, h4⟩ := h
  exact ⟨⟨D, h1.toQ he, h2⟩, h3, h4⟩
theorem MapE.newQ (w : World) : MapE (w.alloc (.map #[] 0)) w.heap.size 0 [] := ⟨⟨_, MapF.newQ w, rfl⟩, by simp [keyE], by simp⟩
theorem MapE.lookQ {w : World} {b n : Nat} {A : List Ent} (h : MapE w b n A) {a c : Int} (ha : wf64 a) (hc : wf64 c) : (Instr.lookup 59 (.map (some b)) (pk a c) false).run Try.prog w = .ok ((rawF A a c).getD (.slice none 0 0)) w := by
  obtain ⟨⟨D, h1, -⟩, -⟩ := h
  exact h1.lookQ ha hc
theorem entF_mid {X Y : List Ent} {k : Int × Int} {y : Value × List T} (h : k ∉ keyE X) : entF (X ++ (k, y) :: Y) k = some y := by
  rw [entF_app, entF_none h, entF, if_pos rfl]; rfl
theorem rawF_at {X Y : List Ent} {k : Int × Int} {v : Value} {l : List T} (h : k ∉ keyE X) : rawF (X ++ (k, v, l) :: Y) k.1 k.2 = some v := by
  show (entF (X ++ (k, v, l) :: Y) k).map (·.1) = _
  rw [entF_mid h]; rfl
theorem rawF_new {A : List Ent} {k : Int × Int} (h : k ∉ keyE A) : rawF A k.1 k.2 = none := rawF_none h
theorem nodup_mid {X Y : List Ent} {k : Int × Int} {y : Value × List T} (h : (keyE (X ++ (k, y) :: Y)).Nodup) : k ∉ keyE X ∧ k ∉ keyE Y ∧ (keyE (X ++ Y)).Nodup := by
  rw [keyE_app] at h ⊢
  obtain ⟨h1, h2, h3⟩ := List.nodup_append.1 h
  have h4 := List.nodup_cons.1 (show (k :: keyE Y).Nodup from h2)
  refine ⟨fun hm => h3 k hm k (List.mem_cons_self ..) rfl, h4.1, List.nodup_append.2 ⟨h1, h4.2, fun a ha b hb => h3 a ha b (List.mem_cons_of_mem _ hb)⟩⟩
/-- 'm[k] = append(m[k], ..)': where there was an entry. -/
theorem MapE.entryMid {w : World} {b n : Nat} {X Y : List Ent} {k : Int × Int} {v : Value} {l : List T} (h : MapE w b n (X ++ (k, v, l) :: Y)) (hn : n < maxLen) :
    ∃ (st : Nat) (w1 : World), (Instr.mapEntry 59 (.map (some b)) (pk k.1 k.2)).run Try.prog w = .ok (.tuple #[v, goInt st]) w1 ∧ w.grownBy w1 (some b) ∧ w1.heap.size = w.heap.size ∧
      ∀ (w2 : World) (v' : Value) (l' : List T), l' ≠ [] → w2.heap[b]? = w1.heap[b]? → ∃ w3, (Instr.entryStore 59 (.map (some b)) (goInt st) v').run Try.prog w2 = .ok () w3 ∧ MapE w3 b (n + 1) (X ++ (k, v', l') :: Y) ∧ w2.grownBy w3 (some b) ∧ w3.heap.size = w2.heap.size := by
  obtain ⟨⟨D, h1, h2⟩, h3, h4⟩ := h
  obtain ⟨hX, hY, -⟩ := nodup_mid h3
  have hw := h4 (k, v, l) (by simp)
  obtain ⟨st, w1, hr, hg, hs, hb⟩ := h1.entryQ hn hw.1 hw.2.1
  rw [rawF_at hX] at hr hb
  refine ⟨st, w1, hr, hg, hs, fun w2 v' l' hl' he => ?_⟩
  obtain ⟨w3, D', hr3, hm3, hg3, hs3, hz⟩ := hb w2 v' he
  rw [← rawF_mid (v' := v') (l' := l') hX] at hm3
  refine ⟨w3, hr3, ⟨⟨D', hm3, by rw [hz, h2]; simp⟩, by rw [keyE_app] at h3 ⊢; exact h3, fun q hq => ?_⟩, hg3, hs3⟩
  rcases List.mem_append.1 hq with hq | hq
  · exact h4 q (by simp [hq])
  · rcases List.mem_cons.1 hq with rfl | hq
    · exact ⟨hw.1, hw.2.1, hl'⟩
    · exact h4 q (by simp [hq])
/-- Where there was none. -/
theorem MapE.entryNew {w : World} {b n : Nat} {A : List Ent} {k : Int × Int} (h : MapE w b n A) (hk : k ∉ keyE A) (ha : wf64 k.1) (hc : wf64 k.2) (hn : n < maxLen) :
    ∃ (st : Nat) (w1 : World), (Instr.mapEntry 59 (.map (some b)) (pk k.1 k.2)).run Try.prog w = .ok (.tuple #[.slice none 0 0, goInt st]) w1 ∧ w.grownBy w1 (some b) ∧ w1.heap.size = w.heap.size ∧
      ∀ (w2 : World) (v' : Value) (l' : List T), l' ≠ [] → w2.heap[b]? = w1.heap[b]? → ∃ w3, (Instr.entryStore 59 (.map (some b)) (goInt st) v').run Try.prog w2 = .ok () w3 ∧ MapE w3 b (n + 1) ((k, v', l') :: A) ∧ w2.grownBy w3 (some b) ∧ w3.heap.size = w2.heap.size := by
  obtain ⟨⟨D, h1, h2⟩, h3, h4⟩ := h
  obtain ⟨st, w1, hr, hg, hs, hb⟩ := h1.entryQ hn ha hc
  rw [rawF_new hk] at hr hb
  refine ⟨st, w1, hr, hg, hs, fun w2 v' l' hl' he => ?_⟩
  obtain ⟨w3, D', hr3, hm3, hg3, hs3, hz⟩ := hb w2 v' he
  rw [← rawF_cons k v' l'] at hm3
  refine ⟨w3, hr3, ⟨⟨D', hm3, by rw [hz, h2]; simp⟩, List.nodup_cons.2 ⟨hk, h3⟩, fun q hq => ?_⟩, hg3, hs3⟩
  rcases List.mem_cons.1 hq with rfl | hq
  · exact ⟨ha, hc, hl'⟩
  · exact h4 q hq
end Go.Proofs.Ytedfepnekjjmnab

/-
  way: New, pid, Many. No condition.
-/
namespace Go.Proofs.Ytedfepnekjjmnab
open Go.RowKit Go.Maps
set_option linter.unusedSimpArgs false
set_option linter.unusedVariables false
set_option maxRecDepth 100000

def pidW (a : Int) : Bool := decide (1 ≤ a) && decide (a ≤ 99)
theorem pidW_wf {a : Int} (h : pidW a = true) : wf64 a := by
  unfold pidW at h
  simp only [Bool.and_eq_true, decide_eq_true_eq] at h
  unfold wf64
  simp only [Lit.wf, Bool.and_eq_true, decide_eq_true_eq]
  exact ⟨Int.le_trans (b := 0) (by decide) (by omega), Int.le_trans (b := 99) (by omega) (by decide)⟩
set_option maxHeartbeats 1000000 in
theorem wpid_c (a : Int) (w : World) : Calls Try.prog 55 #[.int .i64 a] w fun e w' => e = .returned (.bool (pidW a)) ∧ w = w' := by
  by_cases h1 : 1 ≤ a
  · have b1 : decide (1 ≤ a) = true := by simp [h1]
    go_enter Try.func55, Try.ntmps55
    go_wp2_with fail
    go_ret
    exact ⟨by unfold pidW; rw [b1]; rfl, rfl⟩
  · have b1 : decide (1 ≤ a) = false := by simp; omega
    go_enter Try.func55, Try.ntmps55
    go_wp2_with fail
    go_ret
    exact ⟨by unfold pidW; rw [b1]; rfl, rfl⟩
set_option maxHeartbeats 1000000 in
theorem wnew_c (w : World) : Calls Try.prog 21 #[] w fun e w' => e = .returned (.pointer (some ⟨w.heap.size + 1, 0, none⟩)) ∧ Below w.heap.size w w' ∧ MapE w' w.heap.size 0 [] ∧ Blk w' (w.heap.size + 1) [.map (some w.heap.size)] ∧ w'.heap.size = w.heap.size + 2 := by
  have hmm := @run_makeMap Try.prog
  go_enter Try.func21, Try.ntmps21
  go_wp2_with fail
  go_ret
  refine ⟨by simp, (below_alloc _ _).trans ((below_alloc _ _).mono (by simp)), (MapE.newQ w).toQ (Below.heap_alloc _ _ _ (by simp)), ?_, by simp⟩
  have := fun e => Blk.new (w.alloc (.map #[] 0)) #[.map (some w.heap.size)] e _ rfl
  simpa using this _
set_option maxHeartbeats 1000000 in
theorem wmany_c (B bm n : Nat) (A : List Ent) (a c : Int) (w : World) (ha : wf64 a) (hc : wf64 c) (hB : Blk w B [.map (some bm)]) (hm : MapE w bm n A) (hl : ∀ q ∈ A, ∃ x cap, q.2.1 = .slice x q.2.2.length cap) :
    Calls Try.prog 24 #[.pointer (some ⟨B, 0, none⟩), .int .i64 a, .int .i64 c] w fun e w' => e = .returned (.int .i64 (listF A (a, c)).length) ∧ w = w' := by
  have y0 := hB.cell 0 _ rfl
  have hk := hm.lookQ ha hc
  have hv : ∃ x cap, (rawF A a c).getD (.slice none 0 0) = .slice x (listF A (a, c)).length cap := by
    unfold rawF listF
    cases he : entF A (a, c) with
    | none => exact ⟨none, 0, rfl⟩
    | some y =>
      obtain ⟨X, Y, rfl, -⟩ := entF_some he
      exact hl ((a, c), y) (by simp)
  obtain ⟨x, cap, hv⟩ := hv
  rw [hv] at hk
  unfold pk at hk
  clear hv
  go_enter Try.func24, Try.ntmps24
  go_wp2_with fail
  go_ret
  exact ⟨rfl, rfl⟩
end Go.Proofs.Ytedfepnekjjmnab

/-
  way.All where there is no way. No condition.
-/
namespace Go.Proofs.Ytedfepnekjjmnab
open Go.RowKit Go.Maps Go.Sort Go.Shelf
set_option linter.unusedSimpArgs false
set_option linter.unusedVariables false
set_option maxRecDepth 100000

set_option maxHeartbeats 1000000 in
/-- slices.SortedFunc(seq, cmp) of a sequence that gives nothing. -/
theorem sortedNone_in (n : Nat) (hn : 4 ≤ n) (g : Nat) (lb : Array Value) (fv : Value) (eg : ∀ args w, (callFunc g args).run Try.prog w = .ok (.enter g args) w)
    (w : World) (hseq : SeqGives Fence.wide (n - 1 - 1 - 1) Try.prog g lb pkE (fun ks => ks = []) 0 w) :
    CallsIn Fence.wide n Try.prog 57 #[.func (.func g) #[] lb, fv] w fun e w' => e = .returned (.slice none 0 0) ∧ Below w.heap.size w w' := by
  have h1 : 1 ≤ n := by omega
  have e8 : ∀ args w, (callFunc 88 args).run Try.prog w = .ok (.enter 88 args) w := enters_of Try.func88 (by kernel_rfl) rfl
  have e9 : ∀ args w, (callFunc 89 args).run Try.prog w = .ok (.enter 89 args) w := enters_of Try.func89 (by kernel_rfl) rfl
  have cS : ∀ W, CallsIn Fence.wide (n - 1) Try.prog 89 #[.slice none 0 0, fv] W fun e w' => e = .returned (.tuple #[]) ∧ w' = W := fun W => by
    have h := AnyF.slices_SortFunc_none Try.sortPairs none 0 fv W
    exact (callsIn_wide (n := n - 1)).2 h
  have t8 : Fence.wide.fn 88 := trivial
  have t9 : Fence.wide.fn 89 := trivial
  refine callsIn_of_wp Try.func57 rfl trivial ?_ rfl
  simp only [Try.ntmps57, List.size_toArray, List.length_cons, List.length_nil, Nat.reduceAdd, Nat.reduceSub, Array.replicate_succ, Array.replicate_zero, List.push_toArray, List.append_toArray, List.nil_append, List.cons_append]
  gi_wp2_with (gi_at_fn 88; refine (collectQ_in Fence.wide (n - 1) trivial trivial rfl (by omega) g lb trivial eg _ 0 (Nat.zero_le _) (Nat.zero_le _) _ hseq).mono ?_; rintro e W ⟨v, ks, rfl, rfl, hrow, hnil, hb⟩; obtain rfl := hnil.2 rfl)
  gi_wp2_with (gi_at_fn 89; refine (cS _).mono ?_; rintro e w' ⟨rfl, rfl⟩)
  go_ret
  exact ⟨rfl, hb⟩
set_option maxHeartbeats 1000000 in
/-- way.All of an empty map. -/
theorem wall_none (B bm n : Nat) (w : World) (hB : Blk w B [.map (some bm)]) (hm : MapE w bm n []) : Calls Try.prog 26 #[.pointer (some ⟨B, 0, none⟩)] w fun e w' => e = .returned (.slice none 0 0) ∧ Below w.heap.size w w' := by
  obtain ⟨⟨D, hD, hz⟩, -, -⟩ := hm
  have y0 := hB.cell 0 _ rfl
  have z0 : Maps.size D = 0 := by rw [hz]; rfl
  refine (callsIn_wide (n := 6)).1 ?_
  have t8 : Fence.wide.fn 58 := trivial
  have t9 : Fence.wide.fn 57 := trivial
  have e8 : ∀ args w, (callFunc 58 args).run Try.prog w = .ok (.enter 58 args) w := enters_of Try.func58 (by kernel_rfl) rfl
  have e9 : ∀ args w, (callFunc 57 args).run Try.prog w = .ok (.enter 57 args) w := enters_of Try.func57 (by kernel_rfl) rfl
  have e10 : ∀ args w, (callFunc 90 args).run Try.prog w = .ok (.enter 90 args) w := enters_of Try.func90 (by kernel_rfl) rfl
  have hbl := hD.1.lt
  obtain ⟨W1, hW1⟩ : ∃ W1, w.alloc (.cells #[.map (some bm)] 59) = W1 := ⟨_, rfl⟩
  have hs1 : W1.heap.size = w.heap.size + 1 := by rw [← hW1]; simp
  have hB1 : Below w.heap.size w W1 := by rw [← hW1]; exact below_alloc _ _
  have hseq : SeqGives Fence.wide 2 Try.prog 90 #[.pointer (some ⟨w.heap.size, 0, none⟩)] pkE (fun ks => ks = []) 0 W1 := by
    have hc : W1.cell? ⟨w.heap.size, 0, none⟩ = some (.map (some bm)) := by rw [← hW1]; simp only [World.cell?, World.alloc_heap_new]; rfl
    have h := mkeys_gives Fence.wide 2 trivial rfl (by omega) w.heap.size bm n D W1 (by omega) hc (hD.toQ (hB1.block _ hbl)).1
    rw [z0] at h
    intro l J W hW hJ hY h0
    refine (h l J W hW hJ hY h0).mono ?_
    rintro e W' ⟨h1, ks, hC, hJ'⟩
    refine ⟨h1, ks, ?_, hJ'⟩
    cases ks with
    | nil => rfl
    | cons x ks =>
      obtain ⟨-, -, kl, h3, h4, -⟩ := hC.mem x (List.mem_cons_self ..)
      unfold Maps.size at z0
      obtain ⟨es, rfl, -⟩ := (hD.1.entries pair_keyed)
      simp at z0
      subst z0
      simp [has] at h4
  refine callsIn_of_wp Try.func26 rfl trivial ?_ rfl
  simp only [Try.ntmps26, List.size_toArray, List.length_cons, List.length_nil, Nat.reduceAdd, Nat.reduceSub, Array.replicate_succ, Array.replicate_zero, List.push_toArray, List.append_toArray, List.nil_append, List.cons_append]
  gi_wp2_with (first | (gi_at_fn 58; refine (mkeys_in Fence.wide 5 trivial rfl (some bm) _).mono ?_; rintro e W ⟨rfl, rfl⟩; rw [hW1]) | (gi_at_fn 57; refine (sortedNone_in 5 (by omega) 90 _ _ e10 W1 hseq).mono ?_; rintro e W2 ⟨rfl, hB2⟩))
  go_ret
  exact ⟨rfl, hB1.trans (hB2.mono (by omega))⟩
end Go.Proofs.Ytedfepnekjjmnab

/-
  Ways: what Send and Take make of the entries; what rows lead to may grow. No condition.
-/
namespace Go.Proofs.Ytedfepnekjjmnab
open Go.RowKit Go.Maps
set_option linter.unusedSimpArgs false
set_option linter.unusedVariables false

/-- Behind a step that leaves all below as it was: what rows lead to may lie in the new blocks, too. -/
theorem RQ.more {P F : Nat → Prop} {w0 w w' : World} {bs : List (Nat × List Value)} {rs : List Rw} (h : RQ P F w0 bs w rs) (hB : Below w.heap.size w w') :
    RQ (fun b => P b ∨ (w.heap.size ≤ b ∧ b < w'.heap.size)) F w0 bs w' rs := by
  have h1 := h.below hB
  have hs := hB.size
  refine ⟨h1.bel, fun b hb => ?_, fun r hr => ?_, h1.ap, h1.fh, h1.bk⟩
  · rcases hb with hb | hb
    · exact h1.pb b hb
    · exact ⟨hb.2, fun hf => by have := (h.fh b hf).2.1; omega, fun r hr e => by have := (h.lt hr b e).2; omega⟩
  · obtain ⟨cs, h2, h3⟩ := h1.ok r hr
    exact ⟨cs, h2, h3.to (fun b hb _ => ⟨.inl hb.1, hb.2⟩) fun _ _ _ => rfl⟩
theorem RQ.form {P F : Nat → Prop} {w0 w : World} {bs : List (Nat × List Value)} {A : List Ent} {rs : List Rw} (h : RQ P F w0 bs w (rowsE A ++ rs)) : ∀ q ∈ A, ∃ x cap, q.2.1 = .slice x q.2.2.length cap := fun q hq => by
  have h1 := (h.ok (rT q.2.1 q.2.2) (List.mem_append.2 (.inl (List.mem_map.2 ⟨q, hq, rfl⟩)))).rx
  obtain ⟨x, cap, cs, e, -⟩ := h1
  exact ⟨x, cap, e⟩
/-- What Send answers. -/
def sendE (A : List Ent) (a c : Int) (t : T) : Int :=
  if pidW a = false ∨ pidW c = false then 1 else if checkE t ≠ 0 then checkE t else if closedL [t] = false then 5 else if (listF A (a, c)).length = 20 then 2 else 0
/-- The entries behind a Send that answers 0. -/
def SentTo (A : List Ent) (k : Int × Int) (t : T) (A' : List Ent) : Prop :=
  (∃ X Y v v' l, A = X ++ (k, v, l) :: Y ∧ k ∉ keyE X ∧ A' = X ++ (k, v', l ++ [t]) :: Y) ∨ (k ∉ keyE A ∧ ∃ v', A' = (k, v', [t]) :: A)
theorem listF_mid {X Y : List Ent} {k : Int × Int} {v : Value} {l : List T} (h : k ∉ keyE X) : listF (X ++ (k, v, l) :: Y) k = l := by unfold listF; rw [entF_mid h]; rfl
theorem listF_none {A : List Ent} {k : Int × Int} (h : k ∉ keyE A) : listF A k = [] := by unfold listF; rw [entF_none h]; rfl
theorem entF_other {X Y : List Ent} {k m : Int × Int} {y y' : Value × List T} (h : m ≠ k) : entF (X ++ (k, y) :: Y) m = entF (X ++ (k, y') :: Y) m := by
  rw [entF_app, entF_app, entF, entF, if_neg (fun e => h e.symm), if_neg (fun e => h e.symm)]
theorem SentTo.list {A A' : List Ent} {k : Int × Int} {t : T} (h : SentTo A k t A') (m : Int × Int) : listF A' m = if m = k then listF A k ++ [t] else listF A m := by
  rcases h with ⟨X, Y, v, v', l, rfl, hX, rfl⟩ | ⟨hk, v', rfl⟩
  · by_cases e : m = k
    · subst e; rw [if_pos rfl, listF_mid hX, listF_mid hX]
    · rw [if_neg e]; unfold listF; rw [entF_other (y := (v', l ++ [t])) (y' := (v, l)) e]
  · by_cases e : m = k
    · subst e
      rw [if_pos rfl, listF_none hk]
      unfold listF; rw [entF, if_pos rfl]; rfl
    · rw [if_neg e]
      unfold listF; rw [entF, if_neg (fun h => e h.symm)]
/-- The entries behind a Take of the first. -/
def TookTo (A : List Ent) (k : Int × Int) (t : T) (A' : List Ent) : Prop :=
  ∃ X Y v l, A = X ++ (k, v, t :: l) :: Y ∧ k ∉ keyE X ∧ k ∉ keyE Y ∧ ((l = [] ∧ A' = X ++ Y) ∨ (l ≠ [] ∧ ∃ v', A' = X ++ (k, v', l) :: Y))
theorem TookTo.list {A A' : List Ent} {k : Int × Int} {t : T} (h : TookTo A k t A') : listF A k = t :: listF A' k ∧ ∀ m, m ≠ k → listF A' m = listF A m := by
  obtain ⟨X, Y, v, l, rfl, hX, hY, h⟩ := h
  rcases h with ⟨rfl, rfl⟩ | ⟨hl, v', rfl⟩
  · refine ⟨by rw [listF_mid hX, listF_none]; rw [keyE_app]; exact fun hm => (List.mem_append.1 hm).elim hX hY, fun m hm => ?_⟩
    unfold listF
    rw [entF_app, entF_app, entF, if_neg (fun e => hm e.symm)]
  · refine ⟨by rw [listF_mid hX, listF_mid hX], fun m hm => ?_⟩
    unfold listF
    rw [entF_other (y := (v', l)) (y' := (v, t :: l)) hm]
/-- What a Send that answers 0 grows: one row, old or new; what the map's entry gives, and takes back. -/
theorem send_split {F : Nat → Prop} {w0 w : World} {rs : List Rw} {A : List Ent} {bm n : Nat} {a c : Int} (t : T) (hm : MapE w bm n A) (hn : n < maxLen) (ha : wf64 a) (hc : wf64 c) :
    ∃ (l1 l2 : List Rw) (v0 : Value) (l0 : List T) (A' : Value → List Ent), (∀ P bs w', RQ P F w0 bs w' (rowsE A ++ rs) → RQ P F w0 bs w' (l1 ++ rT v0 l0 :: l2)) ∧ (∀ v', SentTo A (a, c) t (A' v')) ∧ (∀ v', rowsE (A' v') ++ rs = l1 ++ rT v' (l0 ++ [t]) :: l2) ∧ l0 = listF A (a, c) ∧
      ∀ w' : World, w'.heap[bm]? = w.heap[bm]? → ∃ (st : Nat) (w1 : World), (Instr.mapEntry 59 (.map (some bm)) (.agg #[.int .i64 a, .int .i64 c])).run Try.prog w' = .ok (.tuple #[v0, goInt st]) w1 ∧ w'.grownBy w1 (some bm) ∧ w1.heap.size = w'.heap.size ∧
        ∀ (w2 : World) (v' : Value), w2.heap[bm]? = w1.heap[bm]? → ∃ w3, (Instr.entryStore 59 (.map (some bm)) (goInt st) v').run Try.prog w2 = .ok () w3 ∧ MapE w3 bm (n + 1) (A' v') ∧ w2.grownBy w3 (some bm) ∧ w3.heap.size = w2.heap.size := by
  cases he : entF A (a, c) with
  | some y =>
    obtain ⟨X, Y, rfl, hX⟩ := entF_some he
    obtain ⟨v, l⟩ := y
    refine ⟨rowsE X, rowsE Y ++ rs, v, l, fun v' => X ++ ((a, c), v', l ++ [t]) :: Y, fun P bs w' h => ?_, fun v' => .inl ⟨X, Y, v, v', l, rfl, hX, rfl⟩, fun v' => ?_, (listF_mid hX).symm, fun w' hw => ?_⟩
    · have e : rowsE (X ++ ((a, c), v, l) :: Y) ++ rs = rowsE X ++ rT v l :: (rowsE Y ++ rs) := by simp [rowsE]
      rwa [e] at h
    · simp [rowsE]
    · obtain ⟨st, w1, h1, h2, h3, h4⟩ := (hm.toQ hw).entryMid hn
      exact ⟨st, w1, h1, h2, h3, fun w2 v' h5 => h4 w2 v' (l ++ [t]) (by simp) h5⟩
  | none =>
    have hk : (a, c) ∉ keyE A := fun hmem => by
      obtain ⟨q, hq, e⟩ := List.mem_map.1 hmem
      obtain ⟨X, Y, rfl⟩ := List.append_of_mem hq
      obtain ⟨k, y⟩ := q
      obtain rfl : k = (a, c) := e
      rw [entF_mid (nodup_mid hm.nd).1] at he
      cases he
    refine ⟨[], rowsE A ++ rs, .slice none 0 0, [], fun v' => ((a, c), v', [t]) :: A, fun P bs w' h => h.nil termF, fun v' => .inr ⟨hk, v', rfl⟩, fun v' => rfl, (listF_none hk).symm, fun w' hw => ?_⟩
    obtain ⟨st, w1, h1, h2, h3, h4⟩ := (hm.toQ hw).entryNew (k := (a, c)) hk ha hc hn
    exact ⟨st, w1, h1, h2, h3, fun w2 v' h5 => h4 w2 v' [t] (by simp) h5⟩
theorem RQ.entry {P F : Nat → Prop} {w0 w w' : World} {bs : List (Nat × List Value)} {rs : List Rw} {bm : Nat} (h : RQ P F w0 bs w rs) (fm : F bm) (hg : w.grownBy w' (some bm)) : RQ P F w0 bs w' rs :=
  h.keep ⟨hg.os, hg.tape, hg.output, hg.size, fun b hb hn => hg.block b hb fun e => hn (by have e1 : b = bm := Option.some.inj e; rw [e1]; exact fm)⟩ fun b hb => ⟨.inl hb, by have := (h.fh b hb).2.1; have := hg.size; omega⟩
end Go.Proofs.Ytedfepnekjjmnab

/-
  WayRows: what was sent is what was taken and what is still on its way. Plain lists. No condition.
-/
namespace Go.Proofs.Ytedfepnekjjmnab
open Go.RowKit
set_option linter.unusedSimpArgs false
set_option linter.unusedVariables false

/-- A1: on the way; A2: sent; A3: taken. -/
structure InvW (A1 A2 A3 : List Ent) : Prop where
  ls : ∀ k, listF A2 k = listF A3 k ++ listF A1 k
  ks : ∀ k ∈ keyE A3, k ∈ keyE A2
theorem InvW.start : InvW [] [] [] := ⟨fun k => rfl, fun k h => h⟩
theorem SentTo.keys {A A' : List Ent} {k : Int × Int} {t : T} (h : SentTo A k t A') : k ∈ keyE A' ∧ (∀ m ∈ keyE A, m ∈ keyE A') ∧ ∀ m ∈ keyE A', m = k ∨ m ∈ keyE A := by
  rcases h with ⟨X, Y, v, v', l, rfl, hX, rfl⟩ | ⟨hk, v', rfl⟩
  · have e : keyE (X ++ (k, v', l ++ [t]) :: Y) = keyE (X ++ (k, v, l) :: Y) := by rw [keyE_app, keyE_app]; rfl
    rw [e]
    exact ⟨by rw [keyE_app]; exact List.mem_append.2 (.inr (List.mem_cons_self ..)), fun m h => h, fun m h => .inr h⟩
  · exact ⟨List.mem_cons_self .., fun m h => List.mem_cons_of_mem _ h, fun m h => List.mem_cons.1 h⟩
theorem InvW.send {A1 A2 A3 B1 B2 : List Ent} {k : Int × Int} {t : T} (h : InvW A1 A2 A3) (h1 : SentTo A1 k t B1) (h2 : SentTo A2 k t B2) : InvW B1 B2 A3 := by
  refine ⟨fun m => ?_, fun m hm => h2.keys.2.1 m (h.ks m hm)⟩
  rw [h1.list, h2.list]
  by_cases e : m = k
  · rw [if_pos e, if_pos e, e, h.ls, List.append_assoc]
  · rw [if_neg e, if_neg e, h.ls]
theorem InvW.take {A1 A2 A3 B1 B3 : List Ent} {k : Int × Int} {t : T} (h : InvW A1 A2 A3) (h1 : TookTo A1 k t B1) (h3 : SentTo A3 k t B3) : InvW B1 A2 B3 := by
  obtain ⟨e1, e2⟩ := h1.list
  refine ⟨fun m => ?_, fun m hm => ?_⟩
  · rw [h3.list]
    by_cases e : m = k
    · rw [if_pos e, e, h.ls, e1, List.append_assoc]; rfl
    · rw [if_neg e, h.ls, e2 m e]
  · rcases h3.keys.2.2 m hm with rfl | hm
    · exact Classical.byContradiction fun hn => by
        have := h.ls m
        rw [listF_none hn, e1] at this
        simp at this
    · exact h.ks m hm
/-- No more pairs were taken from than sent to. -/
theorem keys_le {α : Type} [DecidableEq α] : ∀ {l m : List α}, l.Nodup → (∀ x ∈ l, x ∈ m) → l.length ≤ m.length
  | [], m, _, _ => Nat.zero_le _
  | x :: l, m, hn, hs => by
    obtain ⟨h1, h2⟩ := List.nodup_cons.1 hn
    obtain ⟨a, b, rfl⟩ := List.append_of_mem (hs x (List.mem_cons_self ..))
    have := keys_le (m := a ++ b) h2 fun y hy => by
      have h3 := hs y (List.mem_cons_of_mem _ hy)
      simp only [List.mem_append, List.mem_cons] at h3 ⊢
      rcases h3 with h3 | rfl | h3
      · exact .inl h3
      · exact absurd hy h1
      · exact .inr h3
    simp only [List.length_append, List.length_cons] at this ⊢
    omega
theorem InvW.le {A1 A2 A3 : List Ent} (h : InvW A1 A2 A3) (hn : (keyE A3).Nodup) : A3.length ≤ A2.length := by
  have := keys_le hn h.ks
  simpa [keyE] using this
end Go.Proofs.Ytedfepnekjjmnab

/-
  way.All: the pairs, rising. Condition: not more than the model's bounds.
-/
namespace Go.Proofs.Ytedfepnekjjmnab
open Go.RowKit Go.Maps Go.Sort Go.Shelf
set_option linter.unusedSimpArgs false
set_option linter.unusedVariables false
set_option maxRecDepth 100000

def encP (x : Int × Int) : List Value := [.int .i64 x.1, .int .i64 x.2]
theorem fl2_len (ks : List (Int × Int)) : (fl2 ks).length = ks.length * 2 := by
  induction ks with
  | nil => rfl
  | cons x ks ih => rw [show x :: ks = [x] ++ ks from rfl, fl2_app, List.length_append, ih, fl2_one]; simp; omega
theorem fl2_get : ∀ (ks : List (Int × Int)) (t : Nat), t < ks.length * 2 → (fl2 ks)[t]? = some ((encP ks[t / 2]!)[t % 2]!)
  | [], t, h => by simp at h
  | x :: ks, 0, h => rfl
  | x :: ks, 1, h => rfl
  | x :: ks, t + 2, h => by
    have h1 := fl2_get ks t (by simp at h; omega)
    have e1 : (t + 2) / 2 = t / 2 + 1 := by omega
    have e2 : (t + 2) % 2 = t % 2 := by omega
    rw [e1, e2, show (x :: ks)[t / 2 + 1]! = ks[t / 2]! by simp [List.getElem!_cons_succ], ← h1]
    rfl
theorem flatK_fl2 (ks : List (Int × Int)) : flatK encP 2 ks.toArray = (fl2 ks).toArray := by
  apply Array.ext'
  apply List.ext_getElem?
  intro t
  by_cases h : t < ks.length * 2
  · rw [fl2_get ks t h]
    simp [flatK, h]
  · rw [List.getElem?_eq_none (by simp; omega), List.getElem?_eq_none (by rw [fl2_len]; omega)]
theorem holds_idV {w : World} {g : Nat} {cur : Array Value} {e : TypeId} {vs : List Value} (hb : w.heap[g]? = some (.cells cur e (0, 0))) (ht : cur.toList.take vs.length = vs) : Holds id w g 0 vs.toArray := by
  intro j hj
  have hj' : j < vs.length := by simpa using hj
  refine ⟨?_, by simp [World.frozen?, hb]⟩
  have h1 : (cur.toList.take vs.length)[j]? = vs[j]? := by rw [ht]
  rw [List.getElem?_take_of_lt hj'] at h1
  simp only [World.cell?, hb, Nat.zero_add]
  simp only [Option.isSome_none, Bool.false_eq_true, if_false]
  rw [← Array.getElem?_toList, h1]
  simp [hj']
theorem heap_sortedV {w : World} {g n : Nat} {os : Array Obj} {cur : Array Value} {e : TypeId} {fr : Nat × Nat} (d : Array Value) (hb : w.heap[g]? = some (.cells cur e fr)) :
    (grow (putRow id (Sort.ahead w n) g 0 d) os).heap[g]? = some (.cells (putCells id 0 d cur) e fr) := by
  have hg : g < w.heap.size := (Array.getElem?_eq_some_iff.1 hb).1
  rw [heap_grow_old _ _ (by simpa using hg)]
  simp [putRow, mapBlock, Sort.ahead, Array.getElem?_modify, hb, onCells]
theorem grownBy_sortedV {w : World} {g n : Nat} {os : Array Obj} (d : Array Value) : w.grownBy (grow (putRow id (Sort.ahead w n) g 0 d) os) (some g) := by
  refine ⟨rfl, rfl, rfl, by simp, fun k hk hne => ?_⟩
  rw [heap_grow_old _ _ (by simpa using hk)]
  have : g ≠ k := fun e => hne (by rw [e])
  simp [putRow, mapBlock, Sort.ahead, Array.getElem?_modify, this]
theorem take_putCellsV (cur : Array Value) (ts : List Value) (h : ts.length ≤ cur.size) : (putCells id 0 ts.toArray cur).toList.take ts.length = ts := by
  apply List.ext_getElem?
  intro j
  by_cases hj : j < ts.length
  · rw [List.getElem?_take_of_lt hj, Array.getElem?_toList]
    simp [putCells, hj, show j < cur.size by omega]
  · rw [List.getElem?_take_eq_none (by omega), List.getElem?_eq_none (by omega)]
/-! ### The order -/
def ltP (x y : Int × Int) : Prop := x.1 < y.1 ∨ (x.1 = y.1 ∧ x.2 < y.2)
theorem cmpI_lt {a b : Int} (h : a < b) : cmpI a b = -1 := by unfold cmpI; rw [if_pos h]
theorem cmpI_gt {a b : Int} (h : b < a) : cmpI a b = 1 := by unfold cmpI; rw [if_neg (by omega), if_pos h]
theorem cmpI_eq (a : Int) : cmpI a a = 0 := by unfold cmpI; rw [if_neg (by omega), if_neg (by omega)]
theorem ltP_iff (x y : Int × Int) : ltOf cmpP x y = true ↔ ltP x y := by
  obtain ⟨a, b⟩ := x
  obtain ⟨c, d⟩ := y
  unfold ltOf cmpP ltP
  rcases Int.lt_trichotomy a c with h | rfl | h
  · simp only [cmpI_lt h, orI]; simp; omega
  · rcases Int.lt_trichotomy b d with h2 | rfl | h2
    · simp only [cmpI_eq, cmpI_lt h2, orI]; simp; omega
    · simp only [cmpI_eq, orI]; simp
    · simp only [cmpI_eq, cmpI_gt h2, orI]; simp; omega
  · simp only [cmpI_gt h, orI]; simp; omega
theorem swoP : SWO (ltOf cmpP) where
  irrefl x := by
    cases h : ltOf cmpP x x
    · rfl
    · have := (ltP_iff x x).1 h; unfold ltP at this; omega
  trans x y z h1 h2 := by
    rw [ltP_iff] at *
    unfold ltP at *
    omega
  ntrans x y z h1 h2 := by
    cases h : ltOf cmpP x z
    · rfl
    · have h3 := (ltP_iff x z).1 h
      have h4 : ¬ ltP x y := fun e => by rw [(ltP_iff x y).2 e] at h1; cases h1
      have h5 : ¬ ltP y z := fun e => by rw [(ltP_iff y z).2 e] at h2; cases h2
      unfold ltP at h3 h4 h5
      omega
theorem cmpLaysP (blk off size : Nat) (w : World) : CmpLays Try.prog 59 #[] encP 2 cmpP blk off size w := fun _ _ _ _ x y => wallF_c x y _
/-- Sorted, and no pair twice: each ahead of those behind it. -/
theorem strictP {ks : List (Int × Int)} {d : Array (Int × Int)} (hnd : ks.Nodup) (hp : PermIn 0 ks.toArray.size ks.toArray d) (hs : SortedIn (ltOf cmpP) 0 ks.toArray.size d) : d.size = ks.length ∧ d.toList.Pairwise ltP ∧ ∀ x, x ∈ d.toList ↔ x ∈ ks := by
  obtain ⟨h1, -, h3⟩ := hp
  have h1' : d.size = ks.length := by simpa using h1
  have e1 : (d.extract 0 ks.toArray.size).toList = d.toList := by simp [← h1']
  have e2 : (ks.toArray.extract 0 ks.toArray.size).toList = ks := by simp
  rw [e1, e2] at h3
  have hnd2 : d.toList.Nodup := h3.nodup_iff.2 hnd
  refine ⟨h1', ?_, fun x => h3.mem_iff⟩
  rw [List.pairwise_iff_getElem]
  intro i j hi hj hij
  have hi' : i < d.size := by simpa using hi
  have hj' : j < d.size := by simpa using hj
  have h4 := hs i j (Nat.zero_le _) hij (by simp; omega)
  have hne : d[i] ≠ d[j] := fun e => by
    have := List.pairwise_iff_getElem.1 hnd2 i j hi hj hij
    simp at this
    exact this e
  rw [getElem!_pos d j hj', getElem!_pos d i hi'] at h4
  have h5 : ¬ ltP d[j] d[i] := fun e => by rw [(ltP_iff _ _).2 e] at h4; cases h4
  simp only [Array.getElem_toList]
  unfold ltP at *
  have h6 : ¬ (d[i].1 = d[j].1 ∧ d[i].2 = d[j].2) := fun e => hne (Prod.ext e.1 e.2)
  omega
/-! ### slices.SortedFunc, way.All -/
set_option maxHeartbeats 2000000 in
theorem sortF_c (base g cap : Nat) (ks : List (Int × Int)) (w : World) (cur : Array Value) (hbase : base ≤ g) (hb : w.heap[g]? = some (.cells cur 62 (0, 0))) (h1 : ks.length ≤ cap) (h2 : cap ≤ maxLen) (h3 : cur.size = cap * 2) (h4 : cur.toList.take (ks.length * 2) = fl2 ks) (hnd : ks.Nodup) (hl : ks.length ≤ 1099511627776) :
    Calls Try.prog 89 #[.slice (some ⟨g, 0, none⟩) ks.length cap, .func (.func 59) #[] #[]] w fun e w' => e = .returned (.tuple #[]) ∧
      ∃ ts : List (Int × Int), ts.length = ks.length ∧ ts.Pairwise ltP ∧ (∀ x, x ∈ ts ↔ x ∈ ks) ∧ w'.ownsRow base 62 2 (.slice (some ⟨g, 0, none⟩) ks.length cap) ks.length (fl2 ts) ∧ w.grownBy w' (some g) := by
  have hgl : g < w.heap.size := (Array.getElem?_eq_some_iff.1 hb).1
  have hH : HoldsK encP 2 w g 0 ks.toArray := by
    unfold HoldsK
    rw [flatK_fl2]
    exact holds_idV hb (by rw [fl2_len]; exact h4)
  have e13 : ∀ args w, (callFunc 59 args).run Try.prog w = .ok (.enter 59 args) w := enters_of Try.func59 (by kernel_rfl) rfl
  have hcon := AnyQ.slices_SortFunc Try.sortPairs 2 Try.isAgg62 Try.sizeOf62 encP (fun _ => rfl) (fun x v hv => by simp [encP] at hv; rcases hv with rfl | rfl <;> rfl) cmpP swoP 59 #[] g 0 cap ks.toArray w e13 (cmpLaysP g 0 ks.toArray.size w) hH hgl (by simp; omega)
  refine hcon.mono ?_
  rintro e w' ⟨rfl, d, n, os, hp, hs, rfl⟩
  obtain ⟨q1, q2, q3⟩ := strictP hnd hp hs
  have hd : d = d.toList.toArray := by simp
  unfold sortWorldK putRowK
  rw [hd, flatK_fl2]
  refine ⟨rfl, d.toList, by simpa using q1, q2, q3, ⟨by rw [fl2_len]; simp [q1], .inr ⟨g, cap, _, rfl, hbase, heap_sortedV _ hb, h1, h2, by simp [putCells, h3], ?_⟩⟩, grownBy_sortedV _⟩
  have hlen : (fl2 d.toList).length = ks.length * 2 := by rw [fl2_len]; simp [q1]
  rw [← hlen]
  exact take_putCellsV cur _ (by rw [hlen, h3]; exact Nat.mul_le_mul_right _ h1)
set_option maxHeartbeats 1000000 in
theorem sortedF_in (n : Nat) (hn : 4 ≤ n) (g : Nat) (lb : Array Value) (eg : ∀ args w, (callFunc g args).run Try.prog w = .ok (.enter g args) w)
    (S : List (Int × Int) → Prop) (hS : ∀ ks, S ks → ks.Nodup ∧ ks.length ≤ 1099511627776) (N : Nat) (hN : N ≤ maxLen) (hNb : N * 16 ≤ 140737488355328) (w : World) (hseq : SeqGives Fence.wide (n - 1 - 1 - 1) Try.prog g lb pkE S N w) :
    CallsIn Fence.wide n Try.prog 57 #[.func (.func g) #[] lb, .func (.func 59) #[] #[]] w fun e w' => ∃ (v : Value) (ks ts : List (Int × Int)), e = .returned v ∧ S ks ∧ ts.length = ks.length ∧ ts.Pairwise ltP ∧ (∀ x, x ∈ ts ↔ x ∈ ks) ∧ w'.ownsRow w.heap.size 62 2 v ts.length (fl2 ts) ∧ Below w.heap.size w w' := by
  have h1 : 1 ≤ n := by omega
  have e8 : ∀ args w, (callFunc 88 args).run Try.prog w = .ok (.enter 88 args) w := enters_of Try.func88 (by kernel_rfl) rfl
  have e9 : ∀ args w, (callFunc 89 args).run Try.prog w = .ok (.enter 89 args) w := enters_of Try.func89 (by kernel_rfl) rfl
  have t8 : Fence.wide.fn 88 := trivial
  have t9 : Fence.wide.fn 89 := trivial
  refine callsIn_of_wp Try.func57 rfl trivial ?_ rfl
  simp only [Try.ntmps57, List.size_toArray, List.length_cons, List.length_nil, Nat.reduceAdd, Nat.reduceSub, Array.replicate_succ, Array.replicate_zero, List.push_toArray, List.append_toArray, List.nil_append, List.cons_append]
  gi_wp2_with (gi_at_fn 88; refine (collectQ_in Fence.wide (n - 1) trivial trivial rfl (by omega) g lb trivial eg _ N hN hNb _ hseq).mono ?_; rintro e W ⟨v, ks, rfl, hSk, hrow, hnil, hb⟩)
  obtain ⟨hnd, hkl⟩ := hS ks hSk
  rcases hrow.2 with ⟨rfl, hz⟩ | ⟨gb, cap, cur, rfl, hbase, hgb, r1, r2, r3, r4⟩
  · have hks : ks = [] := List.eq_nil_of_length_eq_zero hz
    subst hks
    have cS : ∀ W, CallsIn Fence.wide (n - 1) Try.prog 89 #[.slice none 0 0, .func (.func 59) #[] #[]] W fun e w' => e = .returned (.tuple #[]) ∧ w' = W := fun W => by
      have h := AnyF.slices_SortFunc_none Try.sortPairs none 0 (.func (.func 59) #[] #[]) W
      exact (callsIn_wide (n := n - 1)).2 h
    gi_wp2_with (gi_at_fn 89; refine (cS _).mono ?_; rintro e w' ⟨rfl, rfl⟩)
    go_ret
    exact ⟨.slice none 0 0, [], [], rfl, hSk, rfl, List.Pairwise.nil, fun x => Iff.rfl, by simpa using hrow, hb⟩
  · have cS : CallsIn Fence.wide (n - 1) Try.prog 89 #[.slice (some ⟨gb, 0, none⟩) ks.length cap, .func (.func 59) #[] #[]] W _ := (callsIn_wide (n := n - 1)).2 (sortF_c w.heap.size gb cap ks W cur hbase hgb r1 r2 r3 (by simpa using r4) hnd hkl)
    clear hrow hnil r4
    gi_wp2_with (gi_at_fn 89; refine cS.mono ?_; rintro e w' ⟨rfl, ts, q1, q2, q3, q4, q5⟩)
    go_ret
    exact ⟨_, ks, ts, rfl, hSk, q1, q2, q3, by rw [q1]; exact q4, hb.grown q5 hb.size (fun j hj => by cases hj; exact hbase)⟩
set_option maxHeartbeats 1000000 in
/-- way.All. -/
theorem wall_c (B bm n : Nat) (A : List Ent) (w : World) (hB : Blk w B [.map (some bm)]) (hm : MapE w bm n A) (hl : A.length ≤ 1000000) :
    Calls Try.prog 26 #[.pointer (some ⟨B, 0, none⟩)] w fun e w' => ∃ (v : Value) (ts : List (Int × Int)), e = .returned v ∧ ts.Pairwise ltP ∧ (∀ x, x ∈ ts ↔ x ∈ keyE A) ∧ w'.ownsRow w.heap.size 62 2 v ts.length (fl2 ts) ∧ Below w.heap.size w w' := by
  obtain ⟨⟨D, hD, hz⟩, hnd, hwf⟩ := hm
  have y0 := hB.cell 0 _ rfl
  refine (callsIn_wide (n := 6)).1 ?_
  have t8 : Fence.wide.fn 58 := trivial
  have t9 : Fence.wide.fn 57 := trivial
  have e8 : ∀ args w, (callFunc 58 args).run Try.prog w = .ok (.enter 58 args) w := enters_of Try.func58 (by kernel_rfl) rfl
  have e9 : ∀ args w, (callFunc 57 args).run Try.prog w = .ok (.enter 57 args) w := enters_of Try.func57 (by kernel_rfl) rfl
  have e10 : ∀ args w, (callFunc 90 args).run Try.prog w = .ok (.enter 90 args) w := enters_of Try.func90 (by kernel_rfl) rfl
  have hbl := hD.1.lt
  obtain ⟨W1, hW1⟩ : ∃ W1, w.alloc (.cells #[.map (some bm)] 59) = W1 := ⟨_, rfl⟩
  have hs1 : W1.heap.size = w.heap.size + 1 := by rw [← hW1]; simp
  have hB1 : Below w.heap.size w W1 := by rw [← hW1]; exact below_alloc _ _
  have hmem : ∀ ks, ColQ D (fun _ => false) ks → ∀ x, x ∈ ks ↔ x ∈ keyE A := fun ks hC x => by
    have key : ∀ kl, keyOf Try.prog 62 (pk x.1 x.2) = some kl → wf64 x.1 → wf64 x.2 → (has D kl = true ↔ x ∈ keyE A) := fun kl hk h1 h2 => by
      rw [(hD.2 x.1 x.2 kl h1 h2 hk).1]
      constructor
      · intro h
        refine Classical.byContradiction fun hn => ?_
        rw [rawF_none (show (x.1, x.2) ∉ keyE A from hn)] at h
        cases h
      · intro h
        obtain ⟨q, hq, e⟩ := List.mem_map.1 h
        obtain ⟨X, Y, rfl⟩ := List.append_of_mem hq
        obtain ⟨k, y⟩ := q
        obtain rfl : k = x := e
        obtain ⟨v, l⟩ := y
        rw [rawF_at (nodup_mid hnd).1]; rfl
    constructor
    · intro h
      obtain ⟨h1, h2, kl, h3, h4, -⟩ := hC.mem x h
      exact (key kl h3 h1 h2).1 h4
    · intro h
      obtain ⟨q, hq, e⟩ := List.mem_map.1 h
      have hw := hwf q hq
      rw [e] at hw
      obtain ⟨kl, hk⟩ := pk_key x.1 x.2 hw.1 hw.2.1
      exact hC.all x kl hk ((key kl hk hw.1 hw.2.1).2 h) rfl
  have hcnt : ∀ ks, ColQ D (fun _ => false) ks → ks.Nodup ∧ ks.length ≤ 1099511627776 := fun ks hC => by
    refine ⟨hC.nd, ?_⟩
    have := keys_le hC.nd fun x hx => (hmem ks hC x).1 hx
    simp [keyE] at this
    omega
  have hseq : SeqGives Fence.wide 2 Try.prog 90 #[.pointer (some ⟨w.heap.size, 0, none⟩)] pkE (fun ks => ColQ D (fun _ => false) ks) (Maps.size D) W1 := by
    have hc : W1.cell? ⟨w.heap.size, 0, none⟩ = some (.map (some bm)) := by rw [← hW1]; simp only [World.cell?, World.alloc_heap_new]; rfl
    exact mkeys_gives Fence.wide 2 trivial rfl (by omega) w.heap.size bm n D W1 (by omega) hc (hD.toQ (hB1.block _ hbl)).1
  have z1 : Maps.size D ≤ maxLen := by rw [hz]; unfold maxLen; omega
  have z2 : Maps.size D * 16 ≤ 140737488355328 := by rw [hz]; omega
  refine callsIn_of_wp Try.func26 rfl trivial ?_ rfl
  simp only [Try.ntmps26, List.size_toArray, List.length_cons, List.length_nil, Nat.reduceAdd, Nat.reduceSub, Array.replicate_succ, Array.replicate_zero, List.push_toArray, List.append_toArray, List.nil_append, List.cons_append]
  gi_wp2_with (first | (gi_at_fn 58; refine (mkeys_in Fence.wide 5 trivial rfl (some bm) _).mono ?_; rintro e W ⟨rfl, rfl⟩; rw [hW1]) | (gi_at_fn 57; refine (sortedF_in 5 (by omega) 90 _ e10 _ hcnt _ z1 z2 W1 hseq).mono ?_; rintro e W2 ⟨v, ks, ts, rfl, q1, q2, q3, q4, q5, hB2⟩))
  go_ret
  exact ⟨v, ts, rfl, q3, fun x => (q4 x).trans (hmem ks q1 x), ownsRow_base_a q5 (by omega), hB1.trans (hB2.mono (by omega))⟩
end Go.Proofs.Ytedfepnekjjmnab

/-
  Ways: what Take does to the map and to the rows. No condition.
-/
namespace Go.Proofs.Ytedfepnekjjmnab
open Go.RowKit Go.Maps
set_option linter.unusedSimpArgs false
set_option linter.unusedVariables false

theorem turned_grown {w w' : World} {b : Nat} (h : w.mapTurned w' b) : w.grownBy w' (some b) := by
  obtain ⟨es, clock, es', clock', hb, rfl⟩ := h
  exact ⟨rfl, rfl, rfl, by simp [Go.ChangeMaps.setBlock], fun i _ hi => Go.ChangeMaps.heap_setBlock_other hb _ (fun e => hi (by rw [e]))⟩
/-- 'm[k] = l[1:]', and 'delete(m, k)' behind it. -/
theorem MapE.takeQ {w : World} {b n : Nat} {X Y : List Ent} {k : Int × Int} {v : Value} {l : List T} (h : MapE w b n (X ++ (k, v, l) :: Y)) (hn : n < maxLen) (v' : Value) :
    ∃ w1, (Instr.mapUpdate 59 (.map (some b)) (pk k.1 k.2) v').run Try.prog w = .ok () w1 ∧ w.grownBy w1 (some b) ∧ (∀ l', l' ≠ [] → MapE w1 b (n + 1) (X ++ (k, v', l') :: Y)) ∧
      ∀ (w2 : World) (ty : TypeId), w2.heap[b]? = w1.heap[b]? → ∃ w3, (Builtin.delete_ #[59, 62] ty #[.map (some b), pk k.1 k.2]).run Try.prog w2 = .ok (.tuple #[]) w3 ∧ MapE w3 b (n + 1) (X ++ Y) ∧ w2.grownBy w3 (some b) := by
  obtain ⟨⟨D, h1, h2⟩, h3, h4⟩ := h
  obtain ⟨hX, hY, hXY⟩ := nodup_mid h3
  have hw := h4 (k, v, l) (by simp)
  obtain ⟨w1, D1, hr, hm1, hg, hz⟩ := h1.storeQ hn hw.1 hw.2.1 v'
  rw [rawF_at hX] at hz
  refine ⟨w1, hr, hg, fun l' hl' => ?_, fun w2 ty he => ?_⟩
  · have hm2 := hm1
    rw [← rawF_mid (v' := v') (l' := l') hX] at hm2
    refine ⟨⟨D1, hm2, by rw [hz, h2]; simp⟩, by rw [keyE_app] at h3 ⊢; exact h3, fun q hq => ?_⟩
    rcases List.mem_append.1 hq with hq | hq
    · exact h4 q (by simp [hq])
    · rcases List.mem_cons.1 hq with rfl | hq
      · exact ⟨hw.1, hw.2.1, hl'⟩
      · exact h4 q (by simp [hq])
  · obtain ⟨w3, D3, hr3, hm3, ht3, hz3⟩ := (hm1.toQ he).dropQ hw.1 hw.2.1 ty
    have e0 : updF (rawF (X ++ (k, v, l) :: Y)) k.1 k.2 (some v') k.1 k.2 = some v' := by unfold updF; rw [if_pos ⟨rfl, rfl⟩]
    rw [e0] at hz3
    rw [updF_updF, ← rawF_del hX hY] at hm3
    refine ⟨w3, hr3, ⟨⟨D3, hm3, ?_⟩, hXY, fun q hq => h4 q ?_⟩, turned_grown ht3⟩
    · rw [hz, h2] at hz3
      simp at hz3
      rw [List.length_append]; omega
    · rcases List.mem_append.1 hq with hq | hq
      · simp [hq]
      · simp [hq]
/-- A row loses its head. -/
theorem RQ.tailR {P F : Nat → Prop} {w0 w : World} {bs : List (Nat × List Value)} {l1 l2 : List Rw} {g o cap m : Nat} {t : T} {l : List T} (h : RQ P F w0 bs w (l1 ++ rT (.slice (some ⟨g, o, none⟩) (m + 1) cap) (t :: l) :: l2)) (hm : l.length = m) :
    RQ P F w0 bs w (l1 ++ rT (.slice (some ⟨g, o + 4, none⟩) m (cap - 1)) l :: l2) := by
  have hmr : rT (.slice (some ⟨g, o, none⟩) (m + 1) cap) (t :: l) ∈ l1 ++ rT (.slice (some ⟨g, o, none⟩) (m + 1) cap) (t :: l) :: l2 := by simp
  have ho : OwnXQ termE termF.e P w0.heap.size w (.slice (some ⟨g, o, none⟩) (m + 1) cap) (t :: l) := h.ok _ hmr
  exact h.grown (l1 := l1) (l2 := l2) (w' := w) (v' := .slice (some ⟨g, o + 4, none⟩) m (cap - 1)) (xs' := l) ⟨rfl, rfl, rfl, Nat.le_refl _, fun _ _ _ => rfl⟩ (ho.tailQ hm) fun b hb => .inl hb
theorem RQ.zeroR {P F : Nat → Prop} {w0 w : World} {bs : List (Nat × List Value)} {l1 l2 : List Rw} {g o cap m : Nat} {l : List T} (h : RQ P F w0 bs w (l1 ++ rT (.slice (some ⟨g, o, none⟩) (m + 1) cap) l :: l2)) (hm : l.length = m + 1) :
    RQ P F w0 bs w (l1 ++ rT (.slice (some ⟨g, o, none⟩) 0 0) [] :: l2) := by
  have hmr : rT (.slice (some ⟨g, o, none⟩) (m + 1) cap) l ∈ l1 ++ rT (.slice (some ⟨g, o, none⟩) (m + 1) cap) l :: l2 := by simp
  have ho : OwnXQ termE termF.e P w0.heap.size w (.slice (some ⟨g, o, none⟩) (m + 1) cap) l := h.ok _ hmr
  exact h.grown (l1 := l1) (l2 := l2) (w' := w) (v' := .slice (some ⟨g, o, none⟩) 0 0) (xs' := []) ⟨rfl, rfl, rfl, Nat.le_refl _, fun _ _ _ => rfl⟩ (ho.zeroQ hm) fun b hb => .inl hb
theorem RQ.dropR {P F : Nat → Prop} {w0 w : World} {bs : List (Nat × List Value)} {l1 l2 : List Rw} {r : Rw} (h : RQ P F w0 bs w (l1 ++ r :: l2)) : RQ P F w0 bs w (l1 ++ l2) :=
  h.rows (List.Sublist.append (List.Sublist.refl _) (List.sublist_cons_self _ _))
/-- The head's cells. -/
theorem RQ.headR {P F : Nat → Prop} {w0 w : World} {bs : List (Nat × List Value)} {l1 l2 : List Rw} {v : Value} {t : T} {l : List T} (h : RQ P F w0 bs w (l1 ++ rT v (t :: l) :: l2)) :
    ∃ g o cap a' cap', v = .slice (some ⟨g, o, none⟩) (l.length + 1) cap ∧ l.length + 1 ≤ cap ∧ w.cell? ⟨g, o, none⟩ = some (.int .i64 t.kind) ∧ w.cell? ⟨g, o + 1, none⟩ = some (.int .i64 t.n) ∧ w.cell? ⟨g, o + 2, none⟩ = some (.string t.name) ∧ w.cell? ⟨g, o + 3, none⟩ = some (.slice a' t.args.length cap') ∧
      RT P w t (.agg #[.int .i64 t.kind, .int .i64 t.n, .string t.name, .slice a' t.args.length cap']) := by
  have hmr : rT v (t :: l) ∈ l1 ++ rT v (t :: l) :: l2 := by simp
  have ho : OwnXQ termE termF.e P w0.heap.size w v (t :: l) := h.ok _ hmr
  obtain ⟨x, cap, cs, rfl, hcap, ⟨c, cs', rfl, ⟨a', cap', rfl, hca, hrt⟩, -⟩, hj⟩ := ho.rx
  obtain ⟨g, o, rfl, -, h0⟩ := hj 0 _ rfl
  obtain ⟨g1, o1, e1, -, h1⟩ := hj 1 _ rfl
  obtain ⟨g2, o2, e2, -, h2⟩ := hj 2 _ rfl
  obtain ⟨g3, o3, e3, -, h3⟩ := hj 3 _ rfl
  cases e1; cases e2; cases e3
  exact ⟨g, o, cap, a', cap', rfl, hcap.1, h0, h1, h2, h3, a', cap', rfl, hca, hrt.to (fun b hb _ => hb.1) fun _ _ _ => rfl⟩
/-- A block of one's own is written whole. -/
theorem RQ.otherQ {P F : Nat → Prop} {w0 w w' : World} {bs : List (Nat × List Value)} {rs : List Rw} {g : Nat} {cs : List Value} (h : RQ P F w0 ((g, cs) :: bs) w rs) (hbs : ∀ p ∈ bs, p.1 < g) (hP : ∀ b, P b → b < g) (hw0 : w0.heap.size ≤ g) (hs : w.heap.size ≤ w'.heap.size)
    (hB : Below w0.heap.size w0 w') (ho : ∀ b, b ≠ g → w'.heap[b]? = w.heap[b]?) : RQ P F w0 bs w' rs := by
  have hg := h.bk (g, cs) (List.mem_cons_self ..)
  refine ⟨hB, fun b hb => ⟨by have := (h.pb b hb).1; omega, (h.pb b hb).2⟩, fun r hr => OwnXQ.to (h.ok r hr) hs fun b hb _ => ho b fun e => ?_, h.ap, fun b hb => ⟨(h.fh b hb).1, by have := (h.fh b hb).2.1; omega, (h.fh b hb).2.2⟩, fun p hp => ?_⟩
  · rcases hb with hb | hb
    · have := hP b hb; omega
    · exact hg.2.2 r hr (by rw [← e]; exact hb)
  · have h1 := h.bk p (List.mem_cons_of_mem _ hp)
    exact ⟨h1.1.heap (ho _ (by have := hbs p hp; omega)), h1.2⟩
end Go.Proofs.Ytedfepnekjjmnab
