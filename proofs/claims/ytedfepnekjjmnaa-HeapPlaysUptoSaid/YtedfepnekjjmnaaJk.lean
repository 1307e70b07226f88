/-
  Contracts and plain laws, joined: Heap8 Heap9 Heap10 PutR JoinP GraphP Heap11 KeptP Kept AgainP AgainI JoinLong ShareP Side SideQ NodeM CloneQ LiveP GrowP HPlayP HPlayR. Conditions stand in each.
-/
import Derived.Deep.Upon
import Derived.Test.YtedfepnekjjmnaaHeap7
import Derived.Test.YtedfepnekjjmnaaForm
import Derived.Test.YtedfepnekjjmnaaJj
import Derived.Test.YtedfepnekjjmnaaJb
import Derived.Test.YtedfepnekjjmnaaJc
import Derived.Test.YtedfepnekjjmnaaRCheck
import Derived.Test.YtedfepnekjjmnaaJe
import Derived.Test.YtedfepnekjjmnaaJh
import Derived.Test.YtedfepnekjjmnaaJa
/-
  heap.all: whether all words stand for something. No condition but a bound.
-/
namespace Go.Proofs.Ytedfepnekjjmnaa
open Go.RowKit
set_option linter.unusedSimpArgs false
set_option linter.unusedVariables false
set_option maxRecDepth 100000

set_option maxHeartbeats 400000 in
theorem indexFuncW (p : Wrd → Bool) (R S : Nat → Prop) (ts : List Wrd) (w : World) (v c : Value) (hv : RX wrdE R S w ts v) (hlen : ts.length ≤ 1099511627776)
    (hf : ∀ x ∈ ts, ∀ W : World, Below w.heap.size w W → Calls Try.prog 110 #[.agg #[.int .i64 x.kind, .int .i64 x.n], c] W fun e w' => e = .returned (.bool (p x)) ∧ Below W.heap.size W w') :
    Calls Try.prog 122 #[v, .func (.func 110) #[] #[c]] w fun e w' => e = .returned (.int .i64 (idxI p ts 0)) ∧ Below w.heap.size w w' := by
  obtain ⟨a, cap, cs, rfl, hcap, hC, hj⟩ := hv
  have HV : Hid (RX wrdE R S w ts (.slice a ts.length cap)) := Lib.hid ⟨a, cap, cs, rfl, hcap, hC, hj⟩
  have HF := Lib.hid hf; clear hf hC hj hcap
  go_enter Try.func122, Try.ntmps122
  go_wp2_with fail
  go_loopw [8] (fun i wr => ∃ k : Nat, k ≤ ts.length ∧ i = .int .i64 k ∧ (ts.take k).any p = false ∧ Below w.heap.size w wr) (fun i _ => ts.length - (intOf i).toNat)
  case atStart => exact ⟨0, Nat.zero_le _, rfl, rfl, Below.refl _ _⟩
  case round =>
    obtain ⟨k, hkl, rfl, hany, hB⟩ := hrel
    have HA := Lib.hid hany; clear hany
    have hsz' := hB.size
    by_cases hlt : k < ts.length
    · obtain ⟨b, o, rfl⟩ := HV.out.addr (by decide) (by omega)
      obtain ⟨-, d0, d1⟩ := (RX.wto HV.out fun b _ hl => hB.block b hl).wrd k hlt
      have HS := Lib.hid (any_take_succ p ts k hlt)
      go_wp2_with fail
      refine (HF.out _ (List.getElem_mem hlt) _ hB).mono ?_
      cases hp : p ts[k]
      · have HP := Lib.hid hp; clear hp
        rintro e w1 ⟨rfl, hB1⟩
        go_wp2_with fail
        go_roundw
        case rel => exact ⟨k + 1, by omega, by go_num, by rw [HS.out, HA.out, HP.out]; rfl, below_step hB (by omega) hB1⟩
        case measure => simp [intOf]; omega
      · have HP := Lib.hid hp; clear hp
        rintro e w1 ⟨rfl, hB1⟩
        go_wp2_with fail
        go_ret
        exact ⟨ret_int (by rw [idxI_take p ts k 0 hlt HA.out HP.out]; omega), below_step hB (by omega) hB1⟩
    · have hkk : k = ts.length := by omega
      subst hkk
      go_wp2_with fail
      go_ret
      exact ⟨ret_int (by rw [idxI_none p ts 0 (by simpa using HA.out)]), hB⟩

set_option maxHeartbeats 400000 in
theorem containsFuncW (p : Wrd → Bool) (R S : Nat → Prop) (ts : List Wrd) (w : World) (v c : Value) (hv : RX wrdE R S w ts v) (hlen : ts.length ≤ 1099511627776)
    (hf : ∀ x ∈ ts, ∀ W : World, Below w.heap.size w W → Calls Try.prog 110 #[.agg #[.int .i64 x.kind, .int .i64 x.n], c] W fun e w' => e = .returned (.bool (p x)) ∧ Below W.heap.size W w') :
    Calls Try.prog 109 #[v, .func (.func 110) #[] #[c]] w fun e w' => e = .returned (.bool (ts.any p)) ∧ Below w.heap.size w w' := by
  have HF := Lib.hid hf; clear hf
  have HV := Lib.hid hv; clear hv
  go_enter Try.func109, Try.ntmps109
  go_wp2_with fail
  refine (indexFuncW p R S ts _ v c HV.out hlen HF.out).mono ?_
  rintro e w1 ⟨rfl, hB1⟩
  go_wp2_with fail
  go_ret
  exact ⟨ret_bool (idxI_any p ts 0 (by omega)), hB1⟩

set_option maxHeartbeats 400000 in
theorem hall1_c (F : Nat → Prop) (w : World) (B : Nat) (room : Int) (H : HS) (x : Wrd) (g : Nat) (hc : w.cell? ⟨g, 0, none⟩ = some (.pointer (some ⟨B, 0, none⟩))) (hR : HeapR F w B room H) (hH : HeadsOk H) (hl : H.ws.length ≤ 137438953472) :
    Calls Try.prog 110 #[.agg #[.int .i64 x.kind, .int .i64 x.n], .pointer (some ⟨g, 0, none⟩)] w fun e w' => e = .returned (.bool (!standsB H x)) ∧ Below w.heap.size w w' := by
  have hgl := World.block_lt_of_cell? w _ hc
  go_enter Try.func110, Try.ntmps110
  go_wp2_with fail
  refine (hstands_c F _ B room H x (hR.below (below_alloc _ _)) hH hl).mono ?_
  rintro e w1 ⟨rfl, hB1⟩
  go_wp2_with fail
  go_ret
  exact ⟨rfl, (below_alloc _ _).trans (hB1.mono (by simp))⟩

set_option maxHeartbeats 400000 in
theorem hall_c (F R S : Nat → Prop) (w : World) (B : Nat) (room : Int) (H : HS) (ts : List Wrd) (v : Value) (hv : RX wrdE R S w ts v) (hlen : ts.length ≤ 1099511627776) (hR : HeapR F w B room H) (hH : HeadsOk H) (hl : H.ws.length ≤ 137438953472) :
    Calls Try.prog 86 #[.pointer (some ⟨B, 0, none⟩), v] w fun e w' => e = .returned (.bool (ts.all (standsB H))) ∧ Below w.heap.size w w' := by
  have hmf : ∀ (fn : Fn) (first cap : Array Value) (w : World), (Instr.makeFunc fn first cap).run Try.prog w = .ok (.func fn first cap) w := fun _ _ _ _ => rfl
  have HV := Lib.hid hv; clear hv
  obtain ⟨W0, hW0⟩ : ∃ W : World, W = w.alloc (.cells #[.pointer (some ⟨B, 0, none⟩)] 64) := ⟨_, rfl⟩
  have HB0 : Hid (Below w.heap.size w W0) := Lib.hid (by rw [hW0]; exact below_alloc _ _)
  have HX0 : Hid (Blk W0 w.heap.size [.pointer (some ⟨B, 0, none⟩)]) := Lib.hid (by rw [hW0]; exact Blk.new _ _ _ _ rfl)
  have hs0 := HB0.out.size
  have HR0 := Lib.hid (hR.below HB0.out)
  have HW0 := Lib.hid hW0
  clear hR hW0
  go_enter Try.func86, Try.ntmps86
  go_upto_region 1 with fail
  rw [← HW0.out]
  go_wp2_with fail
  refine (containsFuncW (fun x => !standsB H x) R S ts W0 v _ (RX.wto HV.out fun b _ hb => HB0.out.block b hb) hlen (fun x _ W hB => hall1_c F W B room H x w.heap.size ((HX0.out.step hB).cell 0 _ rfl) (HR0.out.below hB) hH hl)).mono ?_
  rintro e w1 ⟨rfl, hB1⟩
  go_wp2_with fail
  go_ret
  exact ⟨ret_bool (by rw [List.all_eq_not_any_not]), HB0.out.trans (hB1.mono (by omega))⟩
end Go.Proofs.Ytedfepnekjjmnaa

/-
  heap.Live, heap.Collect. No condition but a bound.
-/
namespace Go.Proofs.Ytedfepnekjjmnaa
open Go.RowKit
set_option linter.unusedSimpArgs false
set_option linter.unusedVariables false
set_option maxRecDepth 100000

theorem stands_good {H : HS} (hH : HeadsOk H) {x : Wrd} (h : standsB H x = true) : GoodW H x := fun e => by
  unfold standsB at h
  rw [if_neg (by omega), if_neg (by omega), if_neg (by omega), if_pos e] at h
  obtain ⟨n, hn⟩ := Option.isSome_iff_exists.1 h
  obtain ⟨i, k, hi, h1, rfl, h2, h3⟩ := headN_some hH hn
  exact ⟨i, k, h1, by rw [List.getElem?_eq_getElem hi, h2], h3⟩
theorem Rep.good {H : HS} {t : T} {x : Wrd} (h : Rep H t x) : GoodW H x := fun e => by
  have hk := h.kinds
  obtain ⟨-, -, i, rfl, h1, h2, -⟩ := h.tup (by omega)
  exact ⟨i, _, rfl, h1, h2⟩
def LeafOk (t : T) : Prop := (t.kind = 1 → -1099511627776 ≤ t.n ∧ t.n ≤ 1099511627776) ∧ (t.kind = 3 → 1 ≤ t.n ∧ t.n ≤ 99)
theorem Rep.stands {H : HS} {t : T} {x : Wrd} (h : Rep H t x) (hb : LeafOk t) : standsB H x = true := by
  have hk := h.kinds
  unfold standsB
  by_cases h4 : t.kind = 4
  · rw [if_neg (by omega), if_neg (by omega), if_neg (by omega), if_pos (by omega)]
    obtain ⟨i, k, h1, h2⟩ := h.good (by omega)
    rw [h1, h2.headN]; rfl
  · by_cases h2 : t.kind = 2
    · rw [if_neg (by omega), if_neg (by omega), if_pos (by omega)]
      obtain ⟨-, -, i, rfl, h1⟩ := h.atom h2
      have := (List.getElem?_eq_some_iff.1 h1).1
      simp; omega
    · obtain ⟨h1, -, -, hx⟩ := h.leaf h4 h2
      have hn : x.n = t.n := by rw [hx]
      rcases h1 with h1 | h1
      · have := hb.1 h1
        rw [if_pos (by omega), hn]; simp; omega
      · have := hb.2 h1
        rw [if_neg (by omega), if_pos (by omega), hn]; simp; omega

/-- What Live answers. -/
def LiveP (w : World) (H : HS) (rs : List Wrd) (e : Ending) (w' : World) : Prop := ∃ tw out ks, e = .returned (.tuple #[.int .i64 (tw.length : Nat), .int .i64 0]) ∧ Below w.heap.size w w' ∧ Col H rs ks tw out
set_option maxHeartbeats 1000000 in
theorem hlive_c (F R S : Nat → Prop) (w : World) (B : Nat) (room : Int) (H : HS) (ts : List Wrd) (v : Value) (hv : RX wrdE R S w ts v) (hlen : ts.length ≤ 4294967296) (hR : HeapR F w B room H) (hW : WF H) (hl : H.ws.length ≤ 4294967296) (hs : ∀ x ∈ ts, standsB H x = true) :
    Calls Try.prog 52 #[.pointer (some ⟨B, 0, none⟩), v] w (LiveP w H ts) := by
  have hall : ts.all (standsB H) = true := List.all_eq_true.2 hs
  have hgood : ∀ x ∈ ts, GoodW H x := fun x hx => stands_good hW.heads (hs x hx)
  have HA := Lib.hid hall
  have HG := Lib.hid hgood
  have HV := Lib.hid hv
  have HR := Lib.hid hR
  have HW := Lib.hid hW
  clear hall hgood hv hR hW hs
  go_enter Try.func52, Try.ntmps52
  go_wp2_with fail
  refine (hall_c F R S w B room H ts v HV.out (by omega) HR.out HW.out.heads (by omega)).mono ?_
  rintro e w1 ⟨rfl, hB1⟩
  rw [HA.out]
  have hs1 := hB1.size
  have HB1 := Lib.hid hB1
  clear hB1
  go_wp2_with fail
  refine (hcopied_c H ts F R S w1 B room v (HR.out.below HB1.out) HW.out (RX.wto HV.out fun b _ hb => HB1.out.block b hb) HG.out hl hlen).mono ?_
  rintro e w2 ⟨v1, v2, tw, out, ks, rfl, hB2, hCol, hO1, hO2, h1, h2⟩
  obtain ⟨a1, c1, rfl⟩ := hO1.form
  have HCol := Lib.hid hCol
  have HB2 := Lib.hid hB2
  clear hCol hB2 hO1 hO2 h1 h2
  go_wp2_with fail
  go_ret2
  exact ⟨tw, out, ks, rfl, HB1.out.trans (HB2.out.mono (by omega)), HCol.out⟩

/-- What Collect answers. -/
def CollectP (F : Nat → Prop) (w : World) (B : Nat) (room : Int) (H : HS) (rs : List Wrd) (e : Ending) (w' : World) : Prop := ∃ v2 tw out ks, e = .returned (.tuple #[v2, .int .i64 0]) ∧ Keep F w w' ∧ Col H rs ks tw out ∧
  HeapR (fun b => F b ∨ (w.heap.size ≤ b ∧ v2.ownBlock ≠ some b)) w' B room ⟨tw, H.names⟩ ∧ OwnW w' v2 out ∧ ∀ b, v2.ownBlock = some b → w.heap.size ≤ b
set_option maxHeartbeats 1000000 in
theorem hcollect_c (F R S : Nat → Prop) (w : World) (B : Nat) (room : Int) (H : HS) (ts : List Wrd) (v : Value) (hv : RX wrdE R S w ts v) (hlen : ts.length ≤ 4294967296) (hR : HeapR F w B room H) (hW : WF H) (hl : H.ws.length ≤ 4294967296) (hs : ∀ x ∈ ts, standsB H x = true) :
    Calls Try.prog 42 #[.pointer (some ⟨B, 0, none⟩), v] w (CollectP F w B room H ts) := by
  have hall : ts.all (standsB H) = true := List.all_eq_true.2 hs
  have hgood : ∀ x ∈ ts, GoodW H x := fun x hx => stands_good hW.heads (hs x hx)
  have HA := Lib.hid hall
  have HG := Lib.hid hgood
  have HV := Lib.hid hv
  have HR := Lib.hid hR
  have HW := Lib.hid hW
  clear hall hgood hv hR hW hs
  go_enter Try.func42, Try.ntmps42
  go_wp2_with fail
  refine (hall_c F R S w B room H ts v HV.out (by omega) HR.out HW.out.heads (by omega)).mono ?_
  rintro e w1 ⟨rfl, hB1⟩
  rw [HA.out]
  have hs1 := hB1.size
  have HB1 := Lib.hid hB1
  clear hB1
  go_wp2_with fail
  refine (hcopied_c H ts F R S w1 B room v (HR.out.below HB1.out) HW.out (RX.wto HV.out fun b _ hb => HB1.out.block b hb) HG.out hl hlen).mono ?_
  rintro e w2 ⟨v1, v2, tw, out, ks, rfl, hB2, hCol, hO1, hO2, h1, h2⟩
  obtain ⟨a1, c1, rfl⟩ := hO1.form
  have hs2 := hB2.size
  have hB12 : Below w.heap.size w w2 := HB1.out.trans (hB2.mono (by omega))
  obtain ⟨vw, vn, hV⟩ := HR.out
  have hV2 := hV.below hB12
  have b1 := hV2.blk.cell 1 _ rfl
  have bf := hV2.blk.fr
  have hnb : ∀ b, v2.ownBlock = some b → b ≠ B := fun b hb e => by have := h2 b hb; have := hV.blk.lt; omega
  have hh := hV.words' (w3 := w2) (v' := .slice a1 tw.length c1) (l := tw) (by omega) (fun b hb _ => hB12.block b hb) hO1 (fun b hb => .inr (by have := (h1 b hb).1; omega))
  have HH := Lib.hid hh
  have HVV := Lib.hid hV
  have HCol := Lib.hid hCol
  have HB12 := Lib.hid hB12
  have HO2 := Lib.hid hO2
  have H1 := Lib.hid h1
  have H2 := Lib.hid h2
  have HNB := Lib.hid hnb
  clear hCol hB2 hO1 hO2 h1 h2 hV hV2 hh hB12 hnb
  go_wp2_with fail
  go_ret2
  refine ⟨v2, tw, out, ks, rfl, ?_, HCol.out, ⟨_, _, ⟨HH.out.blk, HH.out.ws, HH.out.nm, HH.out.nw, HH.out.nn, HH.out.ne, .inl HVV.out.fb, fun b hb => .inr ⟨by have := (H1.out b hb).1; omega, (H1.out b hb).2⟩, fun b hb => .inl (HVV.out.fn b hb)⟩⟩, ?_, fun b hb => by have := H2.out b hb; omega⟩
  · exact (Keep.of HB12.out).setCell _ (.inl HVV.out.fb)
  · exact OwnW.to HO2.out (by simp) fun b hb => setCell_other w2 B 1 _ b (HNB.out b hb)
end Go.Proofs.Ytedfepnekjjmnaa

/-
  heap.Get of a word that stands for a term. No condition but a bound.
-/
namespace Go.Proofs.Ytedfepnekjjmnaa
open Go.RowKit
set_option linter.unusedSimpArgs false
set_option linter.unusedVariables false
set_option maxRecDepth 100000

def HGetP (w : World) (t : T) (e : Ending) (w' : World) : Prop :=
  ∃ a cap, e = .returned (.tuple #[.agg #[.int .i64 t.kind, .int .i64 t.n, .string t.name, .slice a t.args.length cap], .int .i64 0]) ∧ Below w.heap.size w w' ∧ RT (fun b => w.heap.size ≤ b) w' t (.agg #[.int .i64 t.kind, .int .i64 t.n, .string t.name, .slice a t.args.length cap])
set_option maxHeartbeats 1000000 in
theorem hGet_c (t : T) (F : Nat → Prop) (w : World) (B : Nat) (room : Int) (H : HS) (x : Wrd) (hR : HeapR F w B room H) (hr : Rep H t x) (hb : LeafOk t) (hH : HeadsOk H) (hl : H.ws.length ≤ 137438953472) (hn : H.names.length ≤ 137438953472) :
    Calls Try.prog 44 #[.pointer (some ⟨B, 0, none⟩), .agg #[.int .i64 x.kind, .int .i64 x.n]] w (HGetP w t) := by
  obtain ⟨W0, hW0⟩ : ∃ W : World, W = (w.alloc (.cells #[.int .i64 x.kind, .int .i64 x.n] 69)).alloc (.cells #[.int .i64 0, .int .i64 0, .string ⟨#[]⟩, .slice none 0 0] 29) := ⟨_, rfl⟩
  have HX3 : Hid (Blk W0 w.heap.size [.int .i64 x.kind, .int .i64 x.n]) := Lib.hid (by rw [hW0]; exact (Blk.new _ _ _ _ rfl).alloc _)
  have HX4 : Hid (Blk W0 (w.heap.size + 1) [.int .i64 0, .int .i64 0, .string ⟨#[]⟩, .slice none 0 0]) := Lib.hid (by rw [hW0]; exact Blk.new _ _ _ _ (by simp))
  have HB0 : Hid (Below w.heap.size w W0) := Lib.hid (by rw [hW0]; exact (below_alloc _ _).trans ((below_alloc _ _).mono (by simp)))
  have hs0 : W0.heap.size = w.heap.size + 2 := by rw [hW0]; simp
  have hs0a : w.heap.size + 2 ≤ W0.heap.size := by omega
  have HR0 := Lib.hid (hR.below HB0.out)
  have HST := Lib.hid (hr.stands hb)
  have HREP := Lib.hid hr
  have HH := Lib.hid hH
  have HW0 := Lib.hid hW0
  clear hR hr hb hH hW0 hs0
  go_enter Try.func44, Try.ntmps44
  go_upto_region 1 with fail
  rw [← HW0.out]
  have y0 := HX3.out.cell 0 _ rfl
  have y1 := HX3.out.cell 1 _ rfl
  go_wp2_with fail
  refine (hstands_c F W0 B room H x HR0.out HH.out hl).mono ?_
  rintro e w1 ⟨rfl, hB⟩
  rw [HST.out]
  have hs1 := hB.size
  have HB1 := Lib.hid hB
  have HX31 := Lib.hid (HX3.out.step hB)
  have HX41 := Lib.hid (HX4.out.step hB)
  have HR1 := Lib.hid (HR0.out.below hB)
  clear hB y0 y1
  have y0 := HX31.out.cell 0 _ rfl
  have y1 := HX31.out.cell 1 _ rfl
  go_wp2_with fail
  refine (hget_c t F w1 B room H x HR1.out HREP.out hl hn).mono ?_
  rintro e w2 ⟨a, cap, rfl, hB, hT⟩
  have hs2 := hB.size
  have HB2 := Lib.hid hB
  have HT := Lib.hid hT
  have HX42 := Lib.hid (HX41.out.step hB)
  clear hB hT y0 y1
  go_wp2_with (refine store_blk 29 4 szTerm _ _ rfl rfl rfl rfl rfl HX42.out rfl rfl rfl ?_; intro W' hF hs' hBW hoth; have HF := Lib.hid hF; have HSZ := Lib.hid hs'; have HBW := Lib.hid hBW; have HOTH := Lib.hid hoth; clear hF hBW hoth hs')
  refine bodyPost_ret (results_blk Try.results44 szTerm _ Try.underlying29 rfl rfl HF.out rfl) rfl ⟨a, cap, rfl, ?_, ?_⟩
  · have h1 := HBW.out (w.heap.size) w (by omega) (HB0.out.trans ((HB1.out.mono (by omega)).trans (HB2.out.mono (by omega))))
    exact h1
  · exact RT.to HT.out (fun b hb _ => by omega) fun b hb hl => HOTH.out b (by omega)
end Go.Proofs.Ytedfepnekjjmnaa

/-
  A term that Put takes. No condition.
-/
namespace Go.Proofs.Ytedfepnekjjmnaa
open Go.RowKit
set_option linter.unusedSimpArgs false
set_option linter.unusedVariables false

theorem name_nil {s : ByteArray} (h : s.toList.isEmpty = true) : s = ⟨#[]⟩ := by
  have h1 : s.toList = [] := List.isEmpty_iff.1 h
  have h2 : s.data.toList = [] := by rw [← ByteArray.toList_eq]; exact h1
  have h3 : s.data = #[] := by rw [← Array.toList_inj]; simpa using h2
  cases s; simp only at h3; rw [h3]
theorem bare_nil {t : T} (h : bareB t = true) : t.name = ⟨#[]⟩ ∧ t.args = [] := by
  unfold bareB at h
  rw [Bool.and_eq_true] at h
  exact ⟨name_nil h.1, List.eq_nil_of_length_eq_zero (by simpa using h.2)⟩
theorem head_leaf {t : T} (h : headB t = true) : LeafOk t := by
  refine ⟨fun e => ?_, fun e => ?_⟩
  · unfold headB at h; rw [if_pos e, Bool.and_eq_true] at h
    have := h.2; simp [inB] at this; exact this
  · unfold headB at h; rw [if_neg (by omega), if_neg (by omega), if_pos e, Bool.and_eq_true] at h
    have := h.2; simp [inB] at this; exact this
theorem head_ok {t : T} (h : headB t = true) (h5 : t.kind ≠ 5) (h6 : t.kind ≠ 6) (hl : t.kind = 4 → OkL t.args) : OkT t := by
  unfold headB at h
  unfold OkT
  by_cases h4 : t.kind = 4
  · rw [if_neg (by omega), if_neg (by omega), if_neg (by omega), if_neg (by omega), if_neg (by omega), if_pos h4] at h
    rw [if_pos h4]
    simp only [Bool.and_eq_true, decide_eq_true_eq] at h
    exact ⟨h.1.1, name_nil h.1.2, hl h4⟩
  · by_cases h2 : t.kind = 2
    · rw [if_neg (by omega), if_pos h2] at h
      rw [if_neg h4, if_pos h2]
      simp only [Bool.and_eq_true, decide_eq_true_eq] at h
      exact ⟨h.1.1, List.eq_nil_of_length_eq_zero h.1.2⟩
    · rw [if_neg h4, if_neg h2]
      by_cases h1 : t.kind = 1
      · rw [if_pos h1, Bool.and_eq_true] at h
        exact ⟨.inl h1, bare_nil h.1⟩
      · rw [if_neg h1, if_neg h2] at h
        by_cases h3 : t.kind = 3
        · rw [if_pos h3, Bool.and_eq_true] at h
          exact ⟨.inr h3, bare_nil h.1⟩
        · rw [if_neg h3, if_neg h5, if_neg h6, if_neg h4] at h; cases h
theorem okL_of : ∀ (m : Nat) (ts : List T), bulkL ts ≤ m → formL ts = true → closedL ts = true → OkL ts
  | 0, ts, hb, _, _ => by
    cases ts with
    | nil => rw [OkL]; trivial
    | cons t ts => rw [bulkL_cons] at hb; omega
  | m + 1, ts, hb, hf, hc => by
    cases ts with
    | nil => rw [OkL]; trivial
    | cons t ts =>
      rw [bulkL_cons] at hb
      rw [formL_cons] at hf
      rw [closedL_cons] at hc
      simp only [Bool.and_eq_true] at hf hc
      have h5 : t.kind ≠ 5 := by simpa using hc.1.1.1
      have h6 : t.kind ≠ 6 := by simpa using hc.1.1.2
      exact (OkL_cons t ts).2 ⟨head_ok hf.1.1 h5 h6 fun _ => okL_of m t.args (by omega) hf.1.2 hc.1.2, okL_of m ts (by omega) hf.2 hc.2⟩
theorem check_ok {t : T} (h : checkE t = 0) (hc : closedL [t] = true) : OkT t ∧ LeafOk t ∧ szL [t] ≤ 200 := by
  unfold checkE at h
  by_cases hf : formL [t] = true
  · rw [if_pos hf] at h
    have h1 := okL_of _ [t] (Nat.le_refl _) hf hc
    rw [formL_cons] at hf
    simp only [Bool.and_eq_true] at hf
    by_cases hd : dpL [t] ≤ 12 ∧ szL [t] ≤ 200
    · exact ⟨((OkL_cons t []).1 h1).1, head_leaf hf.1.1, hd.2⟩
    · rw [if_neg hd] at h; omega
  · rw [if_neg hf] at h; omega
/-- What Put makes of a heap in order. -/
theorem putHO_R {H : HS} (hW : WF H) (room : Int) (t : T) : ((putHO room H t).2.1 = 0 ∧ LeafOk t ∧ PutR H t (putHO room H t).1 (putHO room H t).2.2 ∧ (putHO room H t).2.2.ws.length ≤ H.ws.length + 200 ∧ ((putHO room H t).2.2.ws.length : Int) ≤ max room H.ws.length) ∨ ((putHO room H t).2.1 ≠ 0 ∧ (putHO room H t).2.2 = H) := by
  by_cases h1 : checkE t = 0
  · by_cases h2 : closedL [t] = true
    · by_cases h3 : room < H.ws.length + szL [t]
      · rw [putHO_full h1 h2 h3]; exact .inr ⟨by show (6 : Int) ≠ 0; decide, rfl⟩
      · rw [putHO_ok h1 h2 h3]
        obtain ⟨ho, hl, hs⟩ := check_ok h1 h2
        have h4 := (putW_len H t).1
        exact .inl ⟨rfl, hl, putW_R hW ho, by show (putW H t).2.ws.length ≤ _; omega, by show ((putW H t).2.ws.length : Int) ≤ _; omega⟩
    · have h2' : closedL [t] = false := by simpa using h2
      rw [putHO_form h1 h2']; exact .inr ⟨by show (5 : Int) ≠ 0; decide, rfl⟩
  · rw [putHO_check h1]; exact .inr ⟨h1, rfl⟩
end Go.Proofs.Ytedfepnekjjmnaa

/-
  What Join makes of a heap: plain words. No condition.
-/
namespace Go.Proofs.Ytedfepnekjjmnaa
open Go.RowKit
set_option linter.unusedSimpArgs false
set_option linter.unusedVariables false

def joinH (H : HS) (xs : List Wrd) : HS := ⟨H.ws ++ ((⟨0, (xs.length : Int)⟩ : Wrd) :: xs), H.names⟩
/-- Join of as many words as a tuple may have, all of which stand. -/
def joinHO (room : Int) (H : HS) (ts : List T) (xs : List Wrd) : Wrd × Int × HS :=
  if room < H.ws.length + 1 + xs.length then (⟨0, 0⟩, 6, H) else if checkE (tupT ts) = 0 then (⟨4, (H.ws.length : Int)⟩, 0, joinH H xs) else (⟨0, 0⟩, 2, H)
theorem joinH_len (H : HS) (xs : List Wrd) : (joinH H xs).ws.length = H.ws.length + (1 + xs.length) := by
  show (H.ws ++ _).length = _
  rw [List.length_append, List.length_cons]; omega
theorem join_parts (H : HS) (xs : List Wrd) : partsL (joinH H xs) H.ws.length xs.length = xs := by
  unfold partsL
  show ((H.ws ++ (_ :: xs)).drop (H.ws.length + 1)).take xs.length = xs
  rw [List.append_cons, List.drop_append_of_le_length (by simp), List.drop_of_length_le (by simp), List.nil_append, List.take_length]
theorem RepL.app {H : HS} (new : List Wrd) (more : List ByteArray) {ts : List T} {xs : List Wrd} (h : RepL H ts xs) : RepL ⟨H.ws ++ new, H.names ++ more⟩ ts xs :=
  RepL.of h.length fun i h1 h2 => (h.at i h1 h2).app new more
theorem RepL.kind {H : HS} {ts : List T} {xs : List Wrd} (h : RepL H ts xs) (hk : ∀ t ∈ ts, t.kind ≠ 0) : ∀ x ∈ xs, x.kind ≠ 0 := fun x hx => by
  obtain ⟨i, hi, e⟩ := List.getElem_of_mem hx
  have hl := h.length
  have h1 := h.at i (by omega) hi
  rw [e] at h1
  rw [h1.kinds]
  exact hk _ (List.getElem_mem _)
theorem Rep.kind0 {H : HS} {t : T} {x : Wrd} (h : Rep H t x) : t.kind ≠ 0 := fun e => by
  have h1 := (h.leaf (by omega) (by omega)).1
  omega
theorem Rep.goodW {H : HS} {t : T} {x : Wrd} (h : Rep H t x) : GoodW H x := fun e => by
  obtain ⟨i, rfl, hd, -⟩ := h.hd (by rw [← h.kinds]; exact e)
  exact ⟨i, _, rfl, hd⟩
structure JoinR (H : HS) (ts : List T) (xs : List Wrd) : Prop where
  wf : WF (joinH H xs)
  rep : Rep (joinH H xs) (tupT ts) ⟨4, (H.ws.length : Int)⟩
  good : GoodW (joinH H xs) ⟨4, (H.ws.length : Int)⟩
  old : ∀ u y, Rep H u y → Rep (joinH H xs) u y
  hd : hd1 (joinH H xs) (tupT ts) ⟨4, (H.ws.length : Int)⟩ = H.ws.length :: hdL H ts xs
  hdo : ∀ us ys, RepL H us ys → hdL (joinH H xs) us ys = hdL H us ys ∧ ∀ i ∈ hdL H us ys, i < H.ws.length
  kn : kN (joinH H xs) H.ws.length = xs.length
theorem join_app (H : HS) (xs : List Wrd) : joinH H xs = ⟨H.ws ++ ((⟨0, (xs.length : Int)⟩ : Wrd) :: xs), H.names ++ []⟩ := by rw [List.append_nil]; rfl
theorem join_hd (H : HS) (xs : List Wrd) : Hd (joinH H xs) H.ws.length xs.length :=
  ⟨by show (H.ws ++ _)[H.ws.length]? = _; rw [List.getElem?_append_right (Nat.le_refl _), Nat.sub_self]; rfl, by rw [joinH_len]; omega⟩
theorem join_R {H : HS} (hW : WF H) {ts : List T} {xs : List Wrd} (h : RepL H ts xs) : JoinR H ts xs := by
  have hl := h.length
  have hn0 : ∀ x ∈ xs, x.kind ≠ 0 ∧ GoodW H x := fun x hx => by
    obtain ⟨i, hi, e⟩ := List.getElem_of_mem hx
    have h1 := h.at i (by omega) hi
    rw [e] at h1
    exact ⟨by rw [h1.kinds]; exact h1.kind0, h1.goodW⟩
  have hwf : WF (joinH H xs) := by
    refine WF.of (hW.lay.app (Lay.block fun x hx => (hn0 x hx).1)) fun x hx => ?_
    rcases List.mem_append.1 hx with hx | hx
    · exact (hW.goodAt (hW.good x hx)).left _
    · rcases List.mem_cons.1 hx with rfl | hx
      · intro e; cases e
      · exact (hW.goodAt (hn0 x hx).2).left _
  have hrl : RepL (joinH H xs) ts xs := by rw [join_app]; exact h.app _ _
  have hd := join_hd H xs
  have hho : ∀ us ys, RepL H us ys → hdL (joinH H xs) us ys = hdL H us ys ∧ ∀ i ∈ hdL H us ys, i < H.ws.length := fun us ys hr => hdL_app _ H.names _ us (Nat.le_refl _) ys hr
  refine ⟨hwf, ?_, fun _ => ⟨_, _, rfl, hd⟩, fun u y hr => by rw [join_app]; exact hr.app _ _, ?_, hho, hd.kN⟩
  · unfold Rep
    rw [if_pos (show (tupT ts).kind = 4 from rfl)]
    refine ⟨rfl, rfl, H.ws.length, rfl, ?_, ?_, ?_⟩
    · rw [show (tupT ts).args.length = xs.length from hl.symm]; exact hd.1
    · rw [show (tupT ts).args.length = xs.length from hl.symm]; exact hd.2
    · rw [show (tupT ts).args.length = xs.length from hl.symm, join_parts]; exact hrl
  · rw [hd1_tup rfl, show (tupT ts).args.length = xs.length from hl.symm, join_parts]
    rw [show (tupT ts).args = ts from rfl, (hho ts xs h).1]
/-- What one word, as often as one likes, takes: its own words, once. -/
theorem hdL_rep {H : HS} {t : T} {x : Wrd} (k : Nat) : ∀ i ∈ hdL H (List.replicate k t) (List.replicate k x), i ∈ hd1 H t x := by
  induction k with
  | zero => intro i hi; rw [List.replicate_zero, hdL_nil] at hi; cases hi
  | succ k ih =>
    intro i hi
    rw [List.replicate_succ, List.replicate_succ, hdL_cons] at hi
    rcases List.mem_append.1 hi with hi | hi
    · exact hi
    · exact ih i hi
theorem RepL.rep {H : HS} {t : T} {x : Wrd} (h : Rep H t x) (k : Nat) : RepL H (List.replicate k t) (List.replicate k x) :=
  RepL.of (by simp) fun i h1 h2 => by simpa using h
/-- Shared: the joined one's words and the part's, each once. -/
theorem col_shares {H : HS} (hW : WF H) {t : T} {x : Wrd} {k : Nat} (hr : Rep H t x) (hn : (hd1 H t x).Nodup) {rs tw out : List Wrd} {ks : List Nat} (hm : (⟨4, (H.ws.length : Int)⟩ : Wrd) ∈ rs) (hx : x ∈ rs) (ha : ∀ y ∈ rs, y = ⟨4, (H.ws.length : Int)⟩ ∨ y = x) (h : Col (joinH H (List.replicate k x)) rs ks tw out) : tw.length = szL [t] + (1 + k) := by
  have hj := join_R hW (RepL.rep hr k)
  obtain ⟨h1, h2⟩ := hj.hdo [t] [x] ((RepL_cons _ _ _ _).2 ⟨x, [], rfl, hr, by rw [RepL_nil]⟩)
  rw [hdL_one, hdL_one] at h1
  rw [hdL_one] at h2
  have hrr : RepL (joinH H (List.replicate k x)) [t] [x] := (RepL_cons _ _ _ _).2 ⟨x, [], rfl, hj.old _ _ hr, by rw [RepL_nil]⟩
  have hjj : RepL (joinH H (List.replicate k x)) [tupT (List.replicate k t)] [⟨4, (H.ws.length : Int)⟩] := (RepL_cons _ _ _ _).2 ⟨_, [], rfl, hj.rep, by rw [RepL_nil]⟩
  have hb := (RepL_cons _ _ _ _).2 ⟨_, [x], rfl, hj.rep, hrr⟩
  have hsum := hdL_sum _ _ [t] (Nat.le_refl _) [x] hrr
  rw [hdL_one, h1] at hsum
  rw [h.count (L := H.ws.length :: hd1 H t x) (List.nodup_cons.2 ⟨fun hm => Nat.lt_irrefl _ (h2 _ hm), hn⟩) ?_ ?_]
  · rw [List.map_cons, List.sum_cons, hsum, hj.kn]; simp; omega
  · intro i hi
    rcases List.mem_cons.1 hi with rfl | hi
    · exact Reach.root _ hm
    · refine (hdL_reach (joinH H (List.replicate k x)) rs _ [t] (Nat.le_refl _) [x] hrr (fun j hj => ?_) i (by rw [hdL_one, h1]; exact hi)).1
      have e : (⟨4, (j : Int)⟩ : Wrd) = x := by simpa using hj
      exact Reach.root j (by rw [e]; exact hx)
  · intro i hi
    have h3 : i ∈ hdL (joinH H (List.replicate k x)) [tupT (List.replicate k t), t] [⟨4, (H.ws.length : Int)⟩, x] := by
      refine reach_hdL hb ?_
      induction hi with
      | root i hm => 
        rcases ha _ hm with e | e
        · exact Reach.root i (by rw [e]; simp)
        · exact Reach.root i (by rw [e]; simp)
      | part j i hj hm ih => exact Reach.part j i ih hm
    rw [hdL_cons, hdL_one, h1, hj.hd] at h3
    rcases List.mem_append.1 h3 with h3 | h3
    · rcases List.mem_cons.1 h3 with rfl | h3
      · simp
      · exact List.mem_cons_of_mem _ (hdL_rep k i h3)
    · exact List.mem_cons_of_mem _ h3
end Go.Proofs.Ytedfepnekjjmnaa

/-
  Nodes of a heap as the document has it, and the heap's heads: which node is which head. Plain facts. No condition.
-/
namespace Go.Proofs.Ytedfepnekjjmnaa
set_option linter.unusedSimpArgs false
set_option linter.unusedVariables false

/-- A node: how many words, and its kids. -/
abbrev NodeD := Nat × List (Option Nat)
inductive ReachN (N : Nat → NodeD) (l : List (Option Nat)) : Nat → Prop where
  | root (b : Nat) (h : some b ∈ l) : ReachN N l b
  | kid (b c : Nat) (hb : ReachN N l b) (h : some c ∈ (N b).2) : ReachN N l c
def Link (P : List (Nat × Nat)) (o : Option Nat) (x : Wrd) : Prop := (x.kind = 4 → ∃ b i : Nat, o = some b ∧ x = ⟨4, (i : Int)⟩ ∧ (b, i) ∈ P) ∧ (x.kind ≠ 4 → o = none)
def LinkL (P : List (Nat × Nat)) : List (Option Nat) → List Wrd → Prop
  | [], xs => xs = []
  | o :: os, xs => ∃ x xs', xs = x :: xs' ∧ Link P o x ∧ LinkL P os xs'
theorem Link.mono {P Q : List (Nat × Nat)} {o : Option Nat} {x : Wrd} (h : Link P o x) (hs : ∀ q ∈ P, q ∈ Q) : Link Q o x :=
  ⟨fun e => by obtain ⟨b, i, h1, h2, h3⟩ := h.1 e; exact ⟨b, i, h1, h2, hs _ h3⟩, h.2⟩
theorem LinkL.mono {P Q : List (Nat × Nat)} (hs : ∀ q ∈ P, q ∈ Q) : ∀ {os : List (Option Nat)} {xs : List Wrd}, LinkL P os xs → LinkL Q os xs
  | [], _, h => h
  | o :: os, _, h => by
    obtain ⟨x, xs', rfl, h1, h2⟩ := h
    exact ⟨x, xs', rfl, h1.mono hs, h2.mono hs⟩
theorem LinkL.len {P : List (Nat × Nat)} : ∀ {os : List (Option Nat)} {xs : List Wrd}, LinkL P os xs → os.length = xs.length
  | [], _, h => by obtain rfl := h; rfl
  | o :: os, _, h => by obtain ⟨x, xs', rfl, h1, h2⟩ := h; simp [h2.len]
theorem LinkL.at {P : List (Nat × Nat)} : ∀ {os : List (Option Nat)} {xs : List Wrd}, LinkL P os xs → ∀ i (h1 : i < os.length) (h2 : i < xs.length), Link P os[i] xs[i]
  | [], _, _, i, h1, _ => by simp at h1
  | o :: os, _, h, i, h1, h2 => by
    obtain ⟨x, xs', rfl, g1, g2⟩ := h
    cases i with
    | zero => exact g1
    | succ i => exact g2.at i (by simpa using h1) (by simpa using h2)
theorem LinkL.snoc {P : List (Nat × Nat)} {o : Option Nat} {x : Wrd} (hx : Link P o x) : ∀ {os : List (Option Nat)} {xs : List Wrd}, LinkL P os xs → LinkL P (os ++ [o]) (xs ++ [x])
  | [], xs, h => by obtain rfl : xs = [] := h; exact ⟨x, [], rfl, hx, rfl⟩
  | p :: os, _, h => by
    obtain ⟨y, xs', rfl, g1, g2⟩ := h
    exact ⟨y, xs' ++ [x], rfl, g1, g2.snoc hx⟩
theorem LinkL.to {P : List (Nat × Nat)} : ∀ {os : List (Option Nat)} {xs : List Wrd}, LinkL P os xs → ∀ b, some b ∈ os → ∃ i : Nat, (⟨4, (i : Int)⟩ : Wrd) ∈ xs ∧ (b, i) ∈ P
  | [], _, _, b, h => by simp at h
  | o :: os, _, h, b, hb => by
    obtain ⟨x, xs', rfl, g1, g2⟩ := h
    rcases List.mem_cons.1 hb with e | hb
    · by_cases hk : x.kind = 4
      · obtain ⟨b', i, h1, h2, h3⟩ := g1.1 hk
        rw [← e] at h1
        obtain rfl := Option.some.inj h1
        exact ⟨i, by rw [h2]; exact List.mem_cons_self .., h3⟩
      · have := g1.2 hk; rw [← e] at this; cases this
    · obtain ⟨i, h1, h2⟩ := g2.to b hb
      exact ⟨i, List.mem_cons_of_mem _ h1, h2⟩
theorem LinkL.back {P : List (Nat × Nat)} : ∀ {os : List (Option Nat)} {xs : List Wrd}, LinkL P os xs → ∀ i : Nat, (⟨4, (i : Int)⟩ : Wrd) ∈ xs → ∃ b, some b ∈ os ∧ (b, i) ∈ P
  | [], xs, h, i, hi => by obtain rfl : xs = [] := h; simp at hi
  | o :: os, _, h, i, hi => by
    obtain ⟨x, xs', rfl, g1, g2⟩ := h
    rcases List.mem_cons.1 hi with e | hi
    · obtain ⟨b, j, h1, h2, h3⟩ := g1.1 (by rw [← e])
      rw [← e] at h2
      have : i = j := by
        have := congrArg Wrd.n h2
        exact Int.ofNat.inj this
      subst this
      exact ⟨b, by rw [h1]; exact List.mem_cons_self .., h3⟩
    · obtain ⟨b, h1, h2⟩ := g2.back i hi
      exact ⟨b, List.mem_cons_of_mem _ h1, h2⟩
/-- Which node is which head. -/
structure NG (H : HS) (N : Nat → NodeD) (P : List (Nat × Nat)) : Prop where
  n1 : (P.map (·.1)).Nodup
  n2 : (P.map (·.2)).Nodup
  hd : ∀ q ∈ P, Hd H q.2 (kN H q.2) ∧ (N q.1).1 = 1 + kN H q.2 ∧ LinkL P (N q.1).2 (partsL H q.2 (kN H q.2))
theorem pair_fst {P : List (Nat × Nat)} (h : (P.map (·.1)).Nodup) {a b c : Nat} (h1 : (a, b) ∈ P) (h2 : (a, c) ∈ P) : b = c := by
  induction P with
  | nil => cases h1
  | cons q P ih =>
    obtain ⟨g1, g2⟩ := List.nodup_cons.1 (show (q.1 :: P.map (·.1)).Nodup from h)
    rcases List.mem_cons.1 h1 with e1 | h1
    · rcases List.mem_cons.1 h2 with e2 | h2
      · rw [← e1] at e2; exact (congrArg Prod.snd e2).symm
      · exact absurd (List.mem_map.2 ⟨(a, c), h2, by rw [← e1]⟩) g1
    · rcases List.mem_cons.1 h2 with e2 | h2
      · exact absurd (List.mem_map.2 ⟨(a, b), h1, by rw [← e2]⟩) g1
      · exact ih g2 h1 h2
theorem pair_snd {P : List (Nat × Nat)} (h : (P.map (·.2)).Nodup) {a b c : Nat} (h1 : (a, c) ∈ P) (h2 : (b, c) ∈ P) : a = b := by
  induction P with
  | nil => cases h1
  | cons q P ih =>
    obtain ⟨g1, g2⟩ := List.nodup_cons.1 (show (q.2 :: P.map (·.2)).Nodup from h)
    rcases List.mem_cons.1 h1 with e1 | h1
    · rcases List.mem_cons.1 h2 with e2 | h2
      · rw [← e1] at e2; exact (congrArg Prod.fst e2).symm
      · exact absurd (List.mem_map.2 ⟨(b, c), h2, by rw [← e1]⟩) g1
    · rcases List.mem_cons.1 h2 with e2 | h2
      · exact absurd (List.mem_map.2 ⟨(a, c), h1, by rw [← e2]⟩) g1
      · exact ih g2 h1 h2
/-- The head of a node. -/
noncomputable def headOf (P : List (Nat × Nat)) (b : Nat) : Nat := open Classical in if h : ∃ i, (b, i) ∈ P then h.choose else 0
theorem headOf_eq {P : List (Nat × Nat)} (h : (P.map (·.1)).Nodup) {b i : Nat} (hb : (b, i) ∈ P) : headOf P b = i := by
  unfold headOf
  have he : ∃ i, (b, i) ∈ P := ⟨i, hb⟩
  rw [dif_pos he]
  exact pair_fst h he.choose_spec hb
section
variable {H : HS} {N : Nat → NodeD} {P : List (Nat × Nat)} {ns : List (Option Nat)} {xs : List Wrd}
theorem NG.reach (h : NG H N P) (hl : LinkL P ns xs) {b : Nat} (hb : ReachN N ns b) : ∃ i, (b, i) ∈ P ∧ Reach H xs i := by
  induction hb with
  | root b hm =>
    obtain ⟨i, h1, h2⟩ := hl.to b hm
    exact ⟨i, h2, .root i h1⟩
  | kid b c _ hm ih =>
    obtain ⟨i, h1, h2⟩ := ih
    obtain ⟨-, -, h3⟩ := h.hd _ h1
    obtain ⟨j, h4, h5⟩ := h3.to c hm
    exact ⟨j, h5, .part i j h2 h4⟩
theorem NG.reachB (h : NG H N P) (hl : LinkL P ns xs) {i : Nat} (hi : Reach H xs i) : ∃ b, (b, i) ∈ P ∧ ReachN N ns b := by
  induction hi with
  | root i hm =>
    obtain ⟨b, h1, h2⟩ := hl.back i hm
    exact ⟨b, h2, .root b h1⟩
  | part j i _ hm ih =>
    obtain ⟨b, h1, h2⟩ := ih
    obtain ⟨-, -, h3⟩ := h.hd _ h1
    obtain ⟨c, h4, h5⟩ := h3.back i hm
    exact ⟨c, h5, .kid b c h2 h4⟩
/-- Live words, each once: of the nodes, and of the heap. -/
theorem NG.count (h : NG H N P) (hl : LinkL P ns xs) {ks : List Nat} {tw out : List Wrd} (hC : Col H xs ks tw out) {L : List Nat} (hn : L.Nodup) (hL : ∀ b, b ∈ L ↔ ReachN N ns b) : tw.length = (L.map fun b => (N b).1).sum := by
  have key : ∀ b ∈ L, ∃ i, (b, i) ∈ P ∧ Reach H xs i ∧ headOf P b = i := fun b hb => by
    obtain ⟨i, h1, h2⟩ := h.reach hl ((hL b).1 hb)
    exact ⟨i, h1, h2, headOf_eq h.n1 h1⟩
  have h1 : tw.length = ((L.map (headOf P)).map fun i => 1 + kN H i).sum := by
    refine hC.count (nodup_map hn fun a ha b hb e => ?_) (fun i hi => ?_) fun i hi => ?_
    · obtain ⟨i, g1, -, g3⟩ := key a ha
      obtain ⟨j, k1, -, k3⟩ := key b hb
      rw [g3, k3] at e
      subst e
      exact pair_snd h.n2 g1 k1
    · obtain ⟨b, hb, rfl⟩ := List.mem_map.1 hi
      obtain ⟨i, -, g2, g3⟩ := key b hb
      rw [g3]; exact g2
    · obtain ⟨b, g1, g2⟩ := h.reachB hl hi
      exact List.mem_map.2 ⟨b, (hL b).2 g2, headOf_eq h.n1 g1⟩
  rw [h1, List.map_map]
  congr 1
  refine List.map_congr_left fun b hb => ?_
  obtain ⟨i, g1, -, g3⟩ := key b hb
  show 1 + kN H (headOf P b) = _
  rw [g3, (h.hd _ g1).2.1]
end
/-! ### Collected -/
def movP (H : HS) (ks : List Nat) (P : List (Nat × Nat)) : List (Nat × Nat) := (P.filter fun q => decide (q.2 ∈ ks)).map fun q => (q.1, posn H ks q.2)
theorem movP_mem {H : HS} {ks : List Nat} {P : List (Nat × Nat)} {b i : Nat} (h : (b, i) ∈ P) (hi : i ∈ ks) : (b, posn H ks i) ∈ movP H ks P :=
  List.mem_map.2 ⟨(b, i), List.mem_filter.2 ⟨h, by simpa using hi⟩, rfl⟩
theorem LinkL.mov {H : HS} {ks : List Nat} {P : List (Nat × Nat)} : ∀ {os : List (Option Nat)} {xs : List Wrd}, LinkL P os xs → (∀ x ∈ xs, Kn ks x) → LinkL (movP H ks P) os (xs.map (fwd H ks))
  | [], xs, h, _ => by obtain rfl : xs = [] := h; rfl
  | o :: os, _, h, hk => by
    obtain ⟨x, xs', rfl, g1, g2⟩ := h
    refine ⟨fwd H ks x, xs'.map (fwd H ks), rfl, ⟨fun e => ?_, fun e => g1.2 (by rwa [fwd_kind] at e)⟩, g2.mov fun y hy => hk y (List.mem_cons_of_mem _ hy)⟩
    rw [fwd_kind] at e
    obtain ⟨b, i, h1, h2, h3⟩ := g1.1 e
    obtain ⟨j, hj, hj2⟩ := hk x (List.mem_cons_self ..) e
    rw [h2] at hj2
    have : i = j := Int.ofNat.inj hj2
    subst this
    refine ⟨b, posn H ks i, h1, ?_, movP_mem h3 hj⟩
    unfold fwd
    rw [if_pos e, h2]
    simp
theorem NG.col {H : HS} {N : Nat → NodeD} {P : List (Nat × Nat)} {xs : List Wrd} {ks : List Nat} {tw out : List Wrd} (h : NG H N P) (hC : Col H xs ks tw out) (nm : List ByteArray) : NG ⟨tw, nm⟩ N (movP H ks P) := by
  have hsub : (P.filter fun q => decide (q.2 ∈ ks)).Sublist P := List.filter_sublist
  refine ⟨?_, ?_, fun q hq => ?_⟩
  · unfold movP
    rw [List.map_map]
    exact h.n1.sublist (hsub.map _)
  · unfold movP
    rw [List.map_map]
    have h2 : ((P.filter fun q => decide (q.2 ∈ ks)).map (·.2)).Nodup := h.n2.sublist (hsub.map _)
    have h3 := nodup_map (f := posn H ks) h2 fun i hi j hj e => by
      obtain ⟨q, hq, rfl⟩ := List.mem_map.1 hi
      obtain ⟨r, hr, rfl⟩ := List.mem_map.1 hj
      exact posn_inj ks (by simpa using (List.mem_filter.1 hq).2) (by simpa using (List.mem_filter.1 hr).2) e
    rw [List.map_map] at h3
    exact h3
  · obtain ⟨r, hr, rfl⟩ := List.mem_map.1 hq
    obtain ⟨hr1, hr2⟩ := List.mem_filter.1 hr
    have hk : r.2 ∈ ks := by simpa using hr2
    obtain ⟨g1, g2, g3⟩ := h.hd r hr1
    obtain ⟨b1, b2⟩ := hC.block hk nm
    have hkn : kN ⟨tw, nm⟩ (posn H ks r.2) = kN H r.2 := b1.kN
    refine ⟨by show Hd _ (posn H ks r.2) (kN ⟨tw, nm⟩ (posn H ks r.2)); rw [hkn]; exact b1, by show _ = 1 + kN ⟨tw, nm⟩ (posn H ks r.2); rw [hkn]; exact g2, ?_⟩
    show LinkL _ (N r.1).2 (partsL ⟨tw, nm⟩ (posn H ks r.2) (kN ⟨tw, nm⟩ (posn H ks r.2)))
    rw [hkn, b2]
    exact g3.mov fun x hx => hC.kn x (mem_raw hk hx)
/-! ### The heap has grown; nodes have come -/
theorem Hd.app {H : HS} {i k : Nat} (h : Hd H i k) (new : List Wrd) (nm : List ByteArray) : Hd ⟨H.ws ++ new, nm⟩ i k :=
  ⟨by show (H.ws ++ new)[i]? = _; rw [List.getElem?_append_left h.lt]; exact h.1, by show _ ≤ (H.ws ++ new).length; rw [List.length_append]; have := h.2; omega⟩
theorem NG.app {H : HS} {N N' : Nat → NodeD} {P : List (Nat × Nat)} (h : NG H N P) (new : List Wrd) (nm : List ByteArray) (hN : ∀ q ∈ P, N' q.1 = N q.1) : NG ⟨H.ws ++ new, nm⟩ N' P := by
  refine ⟨h.n1, h.n2, fun q hq => ?_⟩
  obtain ⟨g1, g2, g3⟩ := h.hd q hq
  have e1 : kN ⟨H.ws ++ new, nm⟩ q.2 = kN H q.2 := (g1.app new nm).kN
  rw [e1, hN q hq, partsL_app new nm g1.2]
  exact ⟨g1.app new nm, g2, g3⟩
/-- New pairs, beside the old ones. -/
theorem NG.add {H : HS} {N : Nat → NodeD} {P Q : List (Nat × Nat)} (h : NG H N P) (n1 : (Q.map (·.1)).Nodup) (n2 : (Q.map (·.2)).Nodup) (d1 : ∀ q ∈ P, ∀ r ∈ Q, q.1 ≠ r.1) (d2 : ∀ q ∈ P, ∀ r ∈ Q, q.2 ≠ r.2)
    (hd : ∀ q ∈ Q, Hd H q.2 (kN H q.2) ∧ (N q.1).1 = 1 + kN H q.2 ∧ LinkL (P ++ Q) (N q.1).2 (partsL H q.2 (kN H q.2))) : NG H N (P ++ Q) := by
  refine ⟨?_, ?_, fun q hq => ?_⟩
  · rw [List.map_append]
    refine List.nodup_append.2 ⟨h.n1, n1, fun a ha b hb e => ?_⟩
    obtain ⟨q, hq, rfl⟩ := List.mem_map.1 ha
    obtain ⟨r, hr, rfl⟩ := List.mem_map.1 hb
    exact d1 q hq r hr e
  · rw [List.map_append]
    refine List.nodup_append.2 ⟨h.n2, n2, fun a ha b hb e => ?_⟩
    obtain ⟨q, hq, rfl⟩ := List.mem_map.1 ha
    obtain ⟨r, hr, rfl⟩ := List.mem_map.1 hb
    exact d2 q hq r hr e
  · rcases List.mem_append.1 hq with hq | hq
    · obtain ⟨g1, g2, g3⟩ := h.hd q hq
      exact ⟨g1, g2, g3.mono fun _ hr => List.mem_append.2 (.inl hr)⟩
    · exact hd q hq
/-! ### The nodes of a term -/
def GrowL (N : Nat → NodeD) : List T → List (Option Nat) → Prop
  | [], os => os = []
  | ⟨k, _, _, l⟩ :: ts, os => ∃ o os', os = o :: os' ∧ ((k ≠ 4 → o = none) ∧ (k = 4 → ∃ b, o = some b ∧ (N b).1 = 1 + l.length ∧ GrowL N l (N b).2)) ∧ GrowL N ts os'
def Grow1 (N : Nat → NodeD) (t : T) (o : Option Nat) : Prop := (t.kind ≠ 4 → o = none) ∧ (t.kind = 4 → ∃ b, o = some b ∧ (N b).1 = 1 + t.args.length ∧ GrowL N t.args (N b).2)
theorem GrowL_cons (N : Nat → NodeD) (t : T) (ts : List T) (os : List (Option Nat)) : GrowL N (t :: ts) os ↔ ∃ o os', os = o :: os' ∧ Grow1 N t o ∧ GrowL N ts os' := by
  obtain ⟨k, n, s, l⟩ := t; rw [GrowL]; rfl
theorem GrowL_nil (N : Nat → NodeD) (os : List (Option Nat)) : GrowL N [] os ↔ os = [] := by rw [GrowL]
/-- The nodes. -/
def ndL (N : Nat → NodeD) : List T → List (Option Nat) → List Nat
  | [], _ => []
  | ⟨_, _, _, l⟩ :: ts, os => (match os.headD none with | some b => b :: ndL N l (N b).2 | none => []) ++ ndL N ts os.tail
def nd1 (N : Nat → NodeD) (t : T) (o : Option Nat) : List Nat := match o with | some b => b :: ndL N t.args (N b).2 | none => []
theorem ndL_nil (N : Nat → NodeD) (os : List (Option Nat)) : ndL N [] os = [] := by rw [ndL]
theorem ndL_cons (N : Nat → NodeD) (t : T) (ts : List T) (o : Option Nat) (os : List (Option Nat)) : ndL N (t :: ts) (o :: os) = nd1 N t o ++ ndL N ts os := by
  obtain ⟨k, n, s, l⟩ := t; rw [ndL]; rfl
theorem zip_app {α β : Type} : ∀ {a c : List α} {b d : List β}, a.length = b.length → (a ++ c).zip (b ++ d) = a.zip b ++ c.zip d
  | [], c, [], d, _ => rfl
  | x :: a, c, y :: b, d, h => by simp only [List.cons_append, List.zip_cons_cons]; rw [zip_app (by simpa using h)]
/-- What a put has laid is what has been grown. -/
theorem grow_links {H : HS} {N : Nat → NodeD} : ∀ (m : Nat) (ts : List T), bulkL ts ≤ m → ∀ (xs : List Wrd) (os : List (Option Nat)), RepL H ts xs → GrowL N ts os →
    (ndL N ts os).length = (hdL H ts xs).length ∧ LinkL ((ndL N ts os).zip (hdL H ts xs)) os xs ∧
      ∀ q ∈ (ndL N ts os).zip (hdL H ts xs), Hd H q.2 (kN H q.2) ∧ (N q.1).1 = 1 + kN H q.2 ∧ LinkL ((ndL N ts os).zip (hdL H ts xs)) (N q.1).2 (partsL H q.2 (kN H q.2)) := by
  intro m
  induction m with
  | zero =>
    intro ts hb xs os hr hg
    cases ts with
    | nil =>
      obtain rfl := (RepL_nil H xs).1 hr
      obtain rfl := (GrowL_nil N os).1 hg
      exact ⟨by rw [ndL_nil, hdL_nil], rfl, by rw [ndL_nil]; simp⟩
    | cons t ts => rw [bulkL_cons] at hb; omega
  | succ m ih =>
    intro ts hb xs os hr hg
    cases ts with
    | nil =>
      obtain rfl := (RepL_nil H xs).1 hr
      obtain rfl := (GrowL_nil N os).1 hg
      exact ⟨by rw [ndL_nil, hdL_nil], rfl, by rw [ndL_nil]; simp⟩
    | cons t ts =>
      rw [bulkL_cons] at hb
      obtain ⟨x, xs', rfl, hx, hxs⟩ := (RepL_cons H t ts xs).1 hr
      obtain ⟨o, os', rfl, ho, hos⟩ := (GrowL_cons N t ts os).1 hg
      obtain ⟨r1, r2, r3⟩ := ih ts (by omega) xs' os' hxs hos
      rw [ndL_cons, hdL_cons]
      by_cases hk : t.kind = 4
      · obtain ⟨b, rfl, hb1, hb2⟩ := ho.2 hk
        obtain ⟨i, rfl, hd, hp⟩ := hx.hd hk
        obtain ⟨a1, a2, a3⟩ := ih t.args (by omega) _ _ hp hb2
        have en : nd1 N t (some b) = b :: ndL N t.args (N b).2 := rfl
        rw [en, hd1_tup hk]
        have hlen : (b :: ndL N t.args (N b).2).length = (i :: hdL H t.args (partsL H i t.args.length)).length := by simp [a1]
        rw [zip_app hlen]
        have s1 : ∀ q ∈ (ndL N t.args (N b).2).zip (hdL H t.args (partsL H i t.args.length)), q ∈ (b :: ndL N t.args (N b).2).zip (i :: hdL H t.args (partsL H i t.args.length)) ++ (ndL N ts os').zip (hdL H ts xs') := fun q hq => List.mem_append.2 (.inl (by rw [List.zip_cons_cons]; exact List.mem_cons_of_mem _ hq))
        have s2 : ∀ q ∈ (ndL N ts os').zip (hdL H ts xs'), q ∈ (b :: ndL N t.args (N b).2).zip (i :: hdL H t.args (partsL H i t.args.length)) ++ (ndL N ts os').zip (hdL H ts xs') := fun q hq => List.mem_append.2 (.inr hq)
        have hkn : kN H i = t.args.length := hd.kN
        refine ⟨by rw [List.length_append, List.length_append, hlen, r1], ⟨⟨4, (i : Int)⟩, xs', rfl, ⟨fun _ => ⟨b, i, rfl, rfl, by simp⟩, fun e => absurd rfl e⟩, r2.mono s2⟩, fun q hq => ?_⟩
        rcases List.mem_append.1 hq with hq | hq
        · rw [List.zip_cons_cons] at hq
          rcases List.mem_cons.1 hq with rfl | hq
          · show Hd H i (kN H i) ∧ (N b).1 = 1 + kN H i ∧ LinkL _ (N b).2 (partsL H i (kN H i))
            rw [hkn]
            exact ⟨hd, hb1, a2.mono s1⟩
          · obtain ⟨c1, c2, c3⟩ := a3 q hq
            exact ⟨c1, c2, c3.mono s1⟩
        · obtain ⟨c1, c2, c3⟩ := r3 q hq
          exact ⟨c1, c2, c3.mono s2⟩
      · obtain rfl := ho.1 hk
        have hxk : x.kind ≠ 4 := by rw [hx.kinds]; exact hk
        have en : nd1 N t none = [] := rfl
        rw [en, hd1_leaf hk, List.nil_append, List.nil_append]
        exact ⟨r1, ⟨x, xs', rfl, ⟨fun e => absurd e hxk, fun _ => rfl⟩, r2⟩, r3⟩
end Go.Proofs.Ytedfepnekjjmnaa

/-
  heap.Join: what it answers, and makes of a heap. No condition but a bound.
-/
namespace Go.Proofs.Ytedfepnekjjmnaa
open Go.RowKit
set_option linter.unusedSimpArgs false
set_option linter.unusedVariables false
set_option maxRecDepth 100000

theorem CellsX.take {X : Type} {E : El X} {S : Nat → Prop} {w : World} : ∀ {xs : List X} {cs : List Value} (n : Nat), CellsX E S w xs cs → CellsX E S w (xs.take n) (cs.take (n * E.k))
  | _, _, 0, _ => by rw [Nat.zero_mul, List.take_zero, List.take_zero]; exact rfl
  | [], cs, n + 1, h => by
    obtain rfl : cs = [] := h
    rw [List.take_nil, List.take_nil]; exact rfl
  | x :: xs, _, n + 1, ⟨c, cs', rfl, h1, h2⟩ => by
    have hk := E.len h1
    refine ⟨c, cs'.take (n * E.k), ?_, h1, CellsX.take n h2⟩
    rw [show (n + 1) * E.k = c.length + n * E.k by rw [hk, Nat.succ_mul]; omega, List.take_length_add_append]
theorem OwnW.cut {w : World} {g m cap n : Nat} {l : List Wrd} (h : OwnW w (.slice (some ⟨g, 0, none⟩) m cap) l) (hn : n ≤ l.length) : OwnW w (.slice (some ⟨g, 0, none⟩) n cap) (l.take n) := by
  obtain ⟨cs, ⟨h1, h2⟩, hC⟩ := h
  have hl : (l.take n).length = n := by rw [List.length_take]; omega
  refine ⟨cs.take (n * 2), ⟨?_, ?_⟩, CellsX.take n hC⟩
  · rw [List.length_take, h1, hl]; exact Nat.min_eq_left (Nat.mul_le_mul_right _ hn)
  · rcases h2 with ⟨e, -⟩ | ⟨g', cap', cur, e, hg, hh, a, b, c, d⟩
    · cases e
    · cases e
      refine .inr ⟨g, cap, cur, by rw [hl], hg, hh, by omega, b, c, ?_⟩
      rw [← d, List.take_take, hl]
      congr 1
      exact (Nat.min_eq_left (Nat.mul_le_mul_right _ hn)).symm
theorem joinHO_full {room : Int} {H : HS} {ts : List T} {xs : List Wrd} (h : room < H.ws.length + 1 + xs.length) : joinHO room H ts xs = (⟨0, 0⟩, 6, H) := by unfold joinHO; rw [if_pos h]
theorem joinHO_ok {room : Int} {H : HS} {ts : List T} {xs : List Wrd} (h : ¬ room < H.ws.length + 1 + xs.length) (hc : checkE (tupT ts) = 0) : joinHO room H ts xs = (⟨4, (H.ws.length : Int)⟩, 0, joinH H xs) := by unfold joinHO; rw [if_neg h, if_pos hc]
theorem joinHO_large {room : Int} {H : HS} {ts : List T} {xs : List Wrd} (h : ¬ room < H.ws.length + 1 + xs.length) (hc : ¬ checkE (tupT ts) = 0) : joinHO room H ts xs = (⟨0, 0⟩, 2, H) := by unfold joinHO; rw [if_neg h, if_neg hc]
def HJoinP (F : Nat → Prop) (w : World) (B : Nat) (room : Int) (H : HS) (ts : List T) (xs : List Wrd) (e : Ending) (w' : World) : Prop :=
  e = .returned (.tuple #[.agg #[.int .i64 (joinHO room H ts xs).1.kind, .int .i64 (joinHO room H ts xs).1.n], .int .i64 (joinHO room H ts xs).2.1]) ∧ Keep F w w' ∧ HeapR (fun b => F b ∨ w.heap.size ≤ b) w' B room (joinHO room H ts xs).2.2

set_option maxHeartbeats 8000000 in
theorem hJoin_c (F R S : Nat → Prop) (w : World) (B : Nat) (room : Int) (H : HS) (ts : List T) (xs : List Wrd) (v : Value) (hR : HeapR F w B room H) (hv : RX wrdE R S w xs v) (hRF : ∀ b, R b → ¬ F b) (hW : WF H) (hx : RepL H ts xs) (hs : ∀ x ∈ xs, standsB H x = true)
    (hlen : xs.length ≤ 8) (hl : H.ws.length ≤ 4294967296) (hn : H.names.length ≤ 4294967296) (hbk : bulkL [tupT ts] ≤ 1099511627776) :
    Calls Try.prog 49 #[.pointer (some ⟨B, 0, none⟩), v] w (HJoinP F w B room H ts xs) := by
  obtain ⟨av, cv, rfl, hcv⟩ := hv.form
  have hall : xs.all (standsB H) = true := List.all_eq_true.2 hs
  obtain ⟨W0, hW0⟩ : ∃ W : World, W = w.alloc (.cells #[.int .i64 0, .int .i64 0] 69) := ⟨_, rfl⟩
  have HX4 : Hid (Blk W0 w.heap.size [.int .i64 0, .int .i64 0]) := Lib.hid (by rw [hW0]; exact Blk.new _ _ _ _ rfl)
  have HB0 : Hid (Below w.heap.size w W0) := Lib.hid (by rw [hW0]; exact below_alloc _ _)
  have hs0 : W0.heap.size = w.heap.size + 1 := by rw [hW0]; simp
  have hs0a : w.heap.size + 1 ≤ W0.heap.size := by omega
  have hs0a' : w.heap.size ≤ W0.heap.size := by omega
  obtain ⟨F0, hF0⟩ : ∃ F0 : Nat → Prop, F0 = fun b => F b ∧ b < w.heap.size := ⟨_, rfl⟩
  have HR0 : Hid (HeapR F0 W0 B room H) := Lib.hid (by rw [hF0]; exact hR.low.below HB0.out)
  have HF1 : Hid (∀ b, F0 b → F b ∧ b < w.heap.size) := Lib.hid (fun b hb => by rw [hF0] at hb; exact hb)
  have HRF : Hid (∀ b, R b → ¬ F0 b) := Lib.hid (fun b hb h => hRF b hb (HF1.out b h).1)
  have HV0 : Hid (RX wrdE R S W0 xs (.slice av xs.length cv)) := Lib.hid (RX.wto hv fun b _ hb => HB0.out.block b hb)
  have HW0 := Lib.hid hW0
  have HJ := Lib.hid (join_R hW hx)
  have HWF := Lib.hid hW
  have HALL := Lib.hid hall
  have HCV := Lib.hid hcv
  clear hv hx hR hW hW0 hF0 hs0 hs hRF hall hcv
  have g8 : decide ((8 : Int) < (xs.length : Int)) = false := by simp; omega
  go_enter Try.func49, Try.ntmps49
  go_upto_region 1 with fail
  rw [← HW0.out]
  go_wp2_with fail
  refine (hall_c F0 R S W0 B room H xs _ HV0.out (by omega) HR0.out HWF.out.heads (by omega)).mono ?_
  rintro e w1 ⟨rfl, hB1⟩
  rw [HALL.out]
  have hs1 := hB1.size
  have HB1 := Lib.hid hB1
  have HR1 := Lib.hid (HR0.out.below hB1)
  have HX41 := Lib.hid (HX4.out.step hB1)
  have HV1 : Hid (RX wrdE R S w1 xs (.slice av xs.length cv)) := Lib.hid (RX.wto HV0.out fun b _ hb => hB1.block b hb)
  clear hB1
  obtain ⟨vw, vn, hV⟩ := HR1.out
  obtain ⟨aw, cw, rfl⟩ := hV.ws.form
  have HV := Lib.hid hV
  have HQ : Hid (∀ w' : World, Below w1.heap.size w1 w' → w'.cell? ⟨B, 0, none⟩ = some (.int .i64 room) ∧ w'.cell? ⟨B, 1, none⟩ = some (.slice aw H.ws.length cw)) := Lib.hid fun w' h => ⟨(HV.out.blk.step h).cell 0 _ rfl, (HV.out.blk.step h).cell 1 _ rfl⟩
  have u1 : IntKind.i64.wrap ((H.ws.length : Int) + 1) = (H.ws.length : Int) + 1 := by rw [IntKind.wrap_i64]; omega
  have u2 : IntKind.i64.wrap ((H.ws.length : Int) + 1 + xs.length) = (H.ws.length : Int) + 1 + xs.length := by rw [IntKind.wrap_i64]; omega
  clear hV
  by_cases hfull : room < H.ws.length + 1 + xs.length
  · have HA := Lib.hid (joinHO_full (ts := ts) hfull)
    have hfd : decide (room < (H.ws.length : Int) + 1 + xs.length) = true := by simpa using hfull
    go_upto_region 3 with fail
    refine rg_start (fun w' => w'.cell? ⟨B, 0, none⟩ = some (.int .i64 room) ∧ w'.cell? ⟨B, 1, none⟩ = some (.slice aw H.ws.length cw)) (by as_aux_lemma => kernel_rfl) (fun Wd h => HQ.out _ h) ?_
    intro Wd hB hWd hWd' hHeld
    have HCWd := Lib.hid hB
    clear hB
    refine rg_take (i := 0) (v := ?_) rfl (by as_aux_lemma => kernel_rfl) (by as_aux_lemma => kernel_rfl) (by as_aux_lemma => kernel_rfl) (by rfl) ?_ hHeld ?_
    rotate_left 1
    · intro w hSw; (try dsimp only at hSw); go_simp; try (with_reducible rfl)
    (try simp only [Act.put, List.setIfInBounds_toArray, List.set_cons_zero, List.set_cons_succ])
    refine rg_take (i := 1) (v := ?_) rfl (by as_aux_lemma => kernel_rfl) (by as_aux_lemma => kernel_rfl) (by as_aux_lemma => kernel_rfl) (by rfl) ?_ hHeld ?_
    rotate_left 1
    · intro w hSw; (try dsimp only at hSw); go_simp; try (with_reducible rfl)
    (try simp only [Act.put, List.setIfInBounds_toArray, List.set_cons_zero, List.set_cons_succ])
    refine rg_take (i := 2) (v := ?_) rfl (by as_aux_lemma => kernel_rfl) (by as_aux_lemma => kernel_rfl) (by as_aux_lemma => kernel_rfl) (by rfl) ?_ hHeld ?_
    rotate_left 1
    · intro w hSw; (try dsimp only at hSw); go_simp; try (with_reducible rfl)
    (try simp only [Act.put, List.setIfInBounds_toArray, List.set_cons_zero, List.set_cons_succ])
    refine rg_take (i := 3) (v := ?_) rfl (by as_aux_lemma => kernel_rfl) (by as_aux_lemma => kernel_rfl) (by as_aux_lemma => kernel_rfl) (by rfl) ?_ hHeld ?_
    rotate_left 1
    · intro w hSw; (try dsimp only at hSw); go_simp; try (with_reducible rfl)
    (try simp only [Act.put, List.setIfInBounds_toArray, List.set_cons_zero, List.set_cons_succ])
    refine rg_take (i := 4) (v := ?_) rfl (by as_aux_lemma => kernel_rfl) (by as_aux_lemma => kernel_rfl) (by as_aux_lemma => kernel_rfl) (by rfl) ?_ hHeld ?_
    rotate_left 1
    · intro w hSw; (try dsimp only at hSw); go_simp; try (with_reducible rfl)
    (try simp only [Act.put, List.setIfInBounds_toArray, List.set_cons_zero, List.set_cons_succ])
    refine rg_take (i := 5) (v := ?_) rfl (by as_aux_lemma => kernel_rfl) (by as_aux_lemma => kernel_rfl) (by as_aux_lemma => kernel_rfl) (by rfl) ?_ hHeld ?_
    rotate_left 1
    · intro w hSw; (try dsimp only at hSw); go_simp; try (with_reducible rfl)
    (try simp only [Act.put, List.setIfInBounds_toArray, List.set_cons_zero, List.set_cons_succ])
    refine rg_take (i := 6) (v := ?_) rfl (by as_aux_lemma => kernel_rfl) (by as_aux_lemma => kernel_rfl) (by as_aux_lemma => kernel_rfl) (by rfl) ?_ hHeld ?_
    rotate_left 1
    · intro w hSw; (try dsimp only at hSw); go_simp; try (with_reducible rfl)
    (try simp only [Act.put, List.setIfInBounds_toArray, List.set_cons_zero, List.set_cons_succ])
    refine rg_take (i := 7) (v := ?_) rfl (by as_aux_lemma => kernel_rfl) (by as_aux_lemma => kernel_rfl) (by as_aux_lemma => kernel_rfl) (by rfl) ?_ hHeld ?_
    rotate_left 1
    · intro w hSw; (try dsimp only at hSw); go_simp; try (with_reducible rfl)
    (try simp only [Act.put, List.setIfInBounds_toArray, List.set_cons_zero, List.set_cons_succ])
    refine rg_take (i := 8) (v := ?_) rfl (by as_aux_lemma => kernel_rfl) (by as_aux_lemma => kernel_rfl) (by as_aux_lemma => kernel_rfl) (by rfl) ?_ hHeld ?_
    rotate_left 1
    · intro w hSw; (try dsimp only at hSw); go_simp; try (with_reducible rfl)
    (try simp only [Act.put, List.setIfInBounds_toArray, List.set_cons_zero, List.set_cons_succ])
    refine rg_take (i := 9) (v := ?_) rfl (by as_aux_lemma => kernel_rfl) (by as_aux_lemma => kernel_rfl) (by as_aux_lemma => kernel_rfl) (by rfl) ?_ hHeld ?_
    rotate_left 1
    · intro w hSw; (try dsimp only at hSw); go_simp; try (with_reducible rfl)
    (try simp only [Act.put, List.setIfInBounds_toArray, List.set_cons_zero, List.set_cons_succ])
    refine rg_take (i := 10) (v := ?_) rfl (by as_aux_lemma => kernel_rfl) (by as_aux_lemma => kernel_rfl) (by as_aux_lemma => kernel_rfl) (by rfl) ?_ hHeld ?_
    rotate_left 1
    · intro w hSw; (try dsimp only at hSw); go_simp; try (with_reducible rfl)
    (try simp only [Act.put, List.setIfInBounds_toArray, List.set_cons_zero, List.set_cons_succ])
    refine rg_take (i := 11) (v := ?_) rfl (by as_aux_lemma => kernel_rfl) (by as_aux_lemma => kernel_rfl) (by as_aux_lemma => kernel_rfl) (by rfl) ?_ hHeld ?_
    rotate_left 1
    · intro w hSw; (try dsimp only at hSw); go_simp; try (with_reducible rfl)
    (try simp only [Act.put, List.setIfInBounds_toArray, List.set_cons_zero, List.set_cons_succ])
    refine rg_take (i := 12) (v := ?_) rfl (by as_aux_lemma => kernel_rfl) (by as_aux_lemma => kernel_rfl) (by as_aux_lemma => kernel_rfl) (by rfl) ?_ hHeld ?_
    rotate_left 1
    · intro w hSw; (try dsimp only at hSw); go_simp; try (with_reducible rfl)
    (try simp only [Act.put, List.setIfInBounds_toArray, List.set_cons_zero, List.set_cons_succ])
    refine rg_take (i := 13) (v := ?_) rfl (by as_aux_lemma => kernel_rfl) (by as_aux_lemma => kernel_rfl) (by as_aux_lemma => kernel_rfl) (by rfl) ?_ hHeld ?_
    rotate_left 1
    · intro w hSw; (try dsimp only at hSw); go_simp; try (with_reducible rfl)
    (try simp only [Act.put, List.setIfInBounds_toArray, List.set_cons_zero, List.set_cons_succ])
    refine rg_take (i := 14) (v := ?_) rfl (by as_aux_lemma => kernel_rfl) (by as_aux_lemma => kernel_rfl) (by as_aux_lemma => kernel_rfl) (by rfl) ?_ hHeld ?_
    rotate_left 1
    · intro w hSw; (try dsimp only at hSw); go_simp; try (with_reducible rfl)
    (try simp only [Act.put, List.setIfInBounds_toArray, List.set_cons_zero, List.set_cons_succ])
    refine rg_done (by as_aux_lemma => kernel_rfl) ?_
    clear hHeld
    have HX43 := Lib.hid (HX41.out.step HCWd.out)
    have HR3 := Lib.hid (HR1.out.below HCWd.out)
    have HB3 : Hid (Below W0.heap.size W0 Wd) := Lib.hid (below_step HB1.out (by omega) HCWd.out)
    go_wp2_with (refine store_blk 69 2 szWord _ _ rfl rfl rfl rfl rfl HX43.out rfl rfl rfl ?_; intro W' hF hs' hBW hoth; have HF := Lib.hid hF; have HSZ := Lib.hid hs'; have HBW := Lib.hid hBW; have HOTH := Lib.hid hoth; clear hF hBW hoth hs')
    refine bodyPost_ret (results_blk Try.results49 szWord _ Try.underlying69 rfl rfl HF.out rfl) rfl ⟨?_, ?_⟩
    · rw [HA.out]; try rfl
    · rw [HA.out]
      exact put_end HB0.out hs0a' HF1.out ⟨HR3.out.mono (fun b hb => .inl hb), Keep.of HB3.out⟩ (HBW.out 0 _ (by omega) (Below.refl _ _)) (by omega) (by omega) HOTH.out
  · have hfd : decide (room < (H.ws.length : Int) + 1 + xs.length) = false := by simpa using hfull
    go_upto_region 3 with fail
    refine rg_start (fun w' => w'.cell? ⟨B, 0, none⟩ = some (.int .i64 room) ∧ w'.cell? ⟨B, 1, none⟩ = some (.slice aw H.ws.length cw)) (by as_aux_lemma => kernel_rfl) (fun Wd h => HQ.out _ h) ?_
    intro Wd hB hWd hWd' hHeld
    have HCWd := Lib.hid hB
    clear hB
    refine rg_take (i := 0) (v := ?_) rfl (by as_aux_lemma => kernel_rfl) (by as_aux_lemma => kernel_rfl) (by as_aux_lemma => kernel_rfl) (by rfl) ?_ hHeld ?_
    rotate_left 1
    · intro w hSw; (try dsimp only at hSw); go_simp; try (with_reducible rfl)
    (try simp only [Act.put, List.setIfInBounds_toArray, List.set_cons_zero, List.set_cons_succ])
    refine rg_take (i := 1) (v := ?_) rfl (by as_aux_lemma => kernel_rfl) (by as_aux_lemma => kernel_rfl) (by as_aux_lemma => kernel_rfl) (by rfl) ?_ hHeld ?_
    rotate_left 1
    · intro w hSw; (try dsimp only at hSw); go_simp; try (with_reducible rfl)
    (try simp only [Act.put, List.setIfInBounds_toArray, List.set_cons_zero, List.set_cons_succ])
    refine rg_take (i := 2) (v := ?_) rfl (by as_aux_lemma => kernel_rfl) (by as_aux_lemma => kernel_rfl) (by as_aux_lemma => kernel_rfl) (by rfl) ?_ hHeld ?_
    rotate_left 1
    · intro w hSw; (try dsimp only at hSw); go_simp; try (with_reducible rfl)
    (try simp only [Act.put, List.setIfInBounds_toArray, List.set_cons_zero, List.set_cons_succ])
    refine rg_take (i := 3) (v := ?_) rfl (by as_aux_lemma => kernel_rfl) (by as_aux_lemma => kernel_rfl) (by as_aux_lemma => kernel_rfl) (by rfl) ?_ hHeld ?_
    rotate_left 1
    · intro w hSw; (try dsimp only at hSw); go_simp; try (with_reducible rfl)
    (try simp only [Act.put, List.setIfInBounds_toArray, List.set_cons_zero, List.set_cons_succ])
    refine rg_take (i := 4) (v := ?_) rfl (by as_aux_lemma => kernel_rfl) (by as_aux_lemma => kernel_rfl) (by as_aux_lemma => kernel_rfl) (by rfl) ?_ hHeld ?_
    rotate_left 1
    · intro w hSw; (try dsimp only at hSw); go_simp; try (with_reducible rfl)
    (try simp only [Act.put, List.setIfInBounds_toArray, List.set_cons_zero, List.set_cons_succ])
    refine rg_take (i := 5) (v := ?_) rfl (by as_aux_lemma => kernel_rfl) (by as_aux_lemma => kernel_rfl) (by as_aux_lemma => kernel_rfl) (by rfl) ?_ hHeld ?_
    rotate_left 1
    · intro w hSw; (try dsimp only at hSw); go_simp; try (with_reducible rfl)
    (try simp only [Act.put, List.setIfInBounds_toArray, List.set_cons_zero, List.set_cons_succ])
    refine rg_take (i := 6) (v := ?_) rfl (by as_aux_lemma => kernel_rfl) (by as_aux_lemma => kernel_rfl) (by as_aux_lemma => kernel_rfl) (by rfl) ?_ hHeld ?_
    rotate_left 1
    · intro w hSw; (try dsimp only at hSw); go_simp; try (with_reducible rfl)
    (try simp only [Act.put, List.setIfInBounds_toArray, List.set_cons_zero, List.set_cons_succ])
    refine rg_take (i := 7) (v := ?_) rfl (by as_aux_lemma => kernel_rfl) (by as_aux_lemma => kernel_rfl) (by as_aux_lemma => kernel_rfl) (by rfl) ?_ hHeld ?_
    rotate_left 1
    · intro w hSw; (try dsimp only at hSw); go_simp; try (with_reducible rfl)
    (try simp only [Act.put, List.setIfInBounds_toArray, List.set_cons_zero, List.set_cons_succ])
    refine rg_take (i := 8) (v := ?_) rfl (by as_aux_lemma => kernel_rfl) (by as_aux_lemma => kernel_rfl) (by as_aux_lemma => kernel_rfl) (by rfl) ?_ hHeld ?_
    rotate_left 1
    · intro w hSw; (try dsimp only at hSw); go_simp; try (with_reducible rfl)
    (try simp only [Act.put, List.setIfInBounds_toArray, List.set_cons_zero, List.set_cons_succ])
    refine rg_take (i := 9) (v := ?_) rfl (by as_aux_lemma => kernel_rfl) (by as_aux_lemma => kernel_rfl) (by as_aux_lemma => kernel_rfl) (by rfl) ?_ hHeld ?_
    rotate_left 1
    · intro w hSw; (try dsimp only at hSw); go_simp; try (with_reducible rfl)
    (try simp only [Act.put, List.setIfInBounds_toArray, List.set_cons_zero, List.set_cons_succ])
    refine rg_take (i := 10) (v := ?_) rfl (by as_aux_lemma => kernel_rfl) (by as_aux_lemma => kernel_rfl) (by as_aux_lemma => kernel_rfl) (by rfl) ?_ hHeld ?_
    rotate_left 1
    · intro w hSw; (try dsimp only at hSw); go_simp; try (with_reducible rfl)
    (try simp only [Act.put, List.setIfInBounds_toArray, List.set_cons_zero, List.set_cons_succ])
    refine rg_take (i := 11) (v := ?_) rfl (by as_aux_lemma => kernel_rfl) (by as_aux_lemma => kernel_rfl) (by as_aux_lemma => kernel_rfl) (by rfl) ?_ hHeld ?_
    rotate_left 1
    · intro w hSw; (try dsimp only at hSw); go_simp; try (with_reducible rfl)
    (try simp only [Act.put, List.setIfInBounds_toArray, List.set_cons_zero, List.set_cons_succ])
    refine rg_take (i := 12) (v := ?_) rfl (by as_aux_lemma => kernel_rfl) (by as_aux_lemma => kernel_rfl) (by as_aux_lemma => kernel_rfl) (by rfl) ?_ hHeld ?_
    rotate_left 1
    · intro w hSw; (try dsimp only at hSw); go_simp; try (with_reducible rfl)
    (try simp only [Act.put, List.setIfInBounds_toArray, List.set_cons_zero, List.set_cons_succ])
    refine rg_take (i := 13) (v := ?_) rfl (by as_aux_lemma => kernel_rfl) (by as_aux_lemma => kernel_rfl) (by as_aux_lemma => kernel_rfl) (by rfl) ?_ hHeld ?_
    rotate_left 1
    · intro w hSw; (try dsimp only at hSw); go_simp; try (with_reducible rfl)
    (try simp only [Act.put, List.setIfInBounds_toArray, List.set_cons_zero, List.set_cons_succ])
    refine rg_take (i := 14) (v := ?_) rfl (by as_aux_lemma => kernel_rfl) (by as_aux_lemma => kernel_rfl) (by as_aux_lemma => kernel_rfl) (by rfl) ?_ hHeld ?_
    rotate_left 1
    · intro w hSw; (try dsimp only at hSw); go_simp; try (with_reducible rfl)
    (try simp only [Act.put, List.setIfInBounds_toArray, List.set_cons_zero, List.set_cons_succ])
    refine rg_done (by as_aux_lemma => kernel_rfl) ?_
    clear hHeld
    have HV3 := Lib.hid (HV.out.below HCWd.out)
    have HB3 : Hid (Below W0.heap.size W0 Wd) := Lib.hid (below_step HB1.out (by omega) HCWd.out)
    have HR3 : Hid (RX wrdE R S Wd xs (.slice av xs.length cv)) := Lib.hid (RX.wto HV1.out fun b _ hb => HCWd.out.block b hb)
    have c1 := HV3.out.blk.cell 1 _ rfl
    have cf := HV3.out.blk.fr
    have hBl := HV3.out.blk.lt
    have HX43 := Lib.hid (HX41.out.step HCWd.out)
    go_upto_region 7 with (first | (at_builtin; first | (refine append_growX (o := ⟨some 49, _, _, _, _, _⟩) wrdF (v := .slice aw H.ws.length cw) (y := ⟨0, (xs.length : Int)⟩) (g0 := Wd.heap.size) _ _ rfl rfl (by rfl) (by rfl) rfl (show OwnXG wrdE wrdF.e (fun _ => True) 0 Wd (.slice aw H.ws.length cw) H.ws from HV3.out.ws) (R := fun _ => False) rfl (fun b hb => hb.elim) rfl (by omega) (by omega) ?_; intro g1 c1' w8 hO8 hB8 hG8 hD8; have hs8 := hB8.size; have HO8 := Lib.hid hO8; have HB8 := Lib.hid hB8; have HG8 := Lib.hid hG8; have HD8 := Lib.hid hD8; have HP8 : Hid (RX wrdE R S w8 xs (.slice av xs.length cv)) := Lib.hid (RX.wto HR3.out (w' := w8) fun b hb hl => (hG8.block b (by simp; omega) (fun e => HRF.out b hb (HV3.out.fw b e.symm))).trans (Below.heap_alloc _ _ _ hl)); clear hO8 hB8 hG8 hD8) | (refine wpList_growWs (o := ⟨some 51, _, _, _, _, _⟩) (v := .slice (some ⟨g1, 0, none⟩) (H.ws.length + 1) c1') (u := .slice av xs.length cv) _ _ rfl rfl (by rfl) (by rfl) (show OwnW w8 _ (H.ws ++ [⟨0, (xs.length : Int)⟩]) from HO8.out) HP8.out (by simp; omega) ?_; intro v9 w9 hO9 hG9 hP9; have hs9 := hG9.size; have EB9 : Hid (w9.heap[B]? = Wd.heap[B]?) := Lib.hid ((hG9.block B (by omega) (fun e => by have e1 : B = g1 := Option.some.inj e; have hd8 := HD8.out; rcases hd8 with h | h; exact HV3.out.nw (by rw [e1]; exact h); omega)).trans ((HG8.out.block B (by simp; omega) (fun e => HV3.out.nw e.symm)).trans (Below.heap_alloc _ _ _ (by omega)))); have c19 := (World.cell?_of_block (w := Wd) (a := ⟨B, 1, none⟩) EB9.out).trans c1; have cf9 := (fun o => (World.frozen?_of_block (w := Wd) (a := ⟨B, o, none⟩) EB9.out).trans (cf o)); obtain ⟨g9, cp9, rfl⟩ : ∃ g cp, v9 = Value.slice (some ⟨g, 0, none⟩) (H.ws.length + 1 + xs.length) cp := (by obtain ⟨g, c, h⟩ := OwnW.form0 hO9 (by simp; omega); have e : (H.ws ++ [(⟨0, (xs.length : Int)⟩ : Wrd)] ++ xs).length = H.ws.length + 1 + xs.length := (by simp; omega); exact ⟨g, c, by rw [h, e]⟩); have HO9 := Lib.hid hO9; have HG9 := Lib.hid hG9; have HP9 := Lib.hid hP9; clear hO9 hG9 hP9)))
    obtain ⟨W9, hW9⟩ : ∃ W : World, W = w9.setCell ⟨B, 1, none⟩ (.slice (some ⟨g9, 0, none⟩) (H.ws.length + 1 + xs.length) cp9) := ⟨_, rfl⟩
    have hz9 : Wd.heap.size ≤ w9.heap.size := by omega
    have hg1 : ∀ b, b < Wd.heap.size → (Value.slice aw H.ws.length cw).ownBlock ≠ some b → w9.heap[b]? = Wd.heap[b]? := fun b hb hne => (HG9.out.block b (by omega) (fun e => by have e1 : b = g1 := Option.some.inj e; have hd8 := HD8.out; rcases hd8 with h | h; exact hne (by rw [e1]; exact h); omega)).trans ((HG8.out.block b (by simp; omega) (fun e => hne e.symm)).trans (Below.heap_alloc _ _ _ hb))
    have hpr : ∀ b, (Value.slice (some ⟨g9, 0, none⟩) (H.ws.length + 1 + xs.length) cp9).ownBlock = some b → (Value.slice aw H.ws.length cw).ownBlock = some b ∨ Wd.heap.size ≤ b := fun b hb => by
      rcases HP9.out b hb with h | h
      · have e1 : g1 = b := Option.some.inj h
        subst e1
        exact HD8.out.imp id fun h => by omega
      · exact .inr (by omega)
    have hrow : OwnW w9 (.slice (some ⟨g9, 0, none⟩) (H.ws.length + 1 + xs.length) cp9) (joinH H xs).ws := by have h9 := HO9.out; rw [List.append_assoc] at h9; exact h9
    have HVJ : Hid (HeapV (fun b => F0 b ∨ Wd.heap.size ≤ b) W9 B room (joinH H xs) (.slice (some ⟨g9, 0, none⟩) (H.ws.length + 1 + xs.length) cp9) vn) := Lib.hid (by rw [hW9]; exact HeapV.words' HV3.out hz9 hg1 hrow hpr)
    have HK9 : Hid (Keep F0 W0 W9) := Lib.hid (by
      rw [hW9]
      have k7 : Keep F0 W0 Wd := Keep.of HB3.out
      have k9 : Keep F0 W0 w9 := ⟨HG9.out.os.trans (HG8.out.os.trans k7.os), HG9.out.tape.trans (HG8.out.tape.trans k7.tape), HG9.out.output.trans (HG8.out.output.trans k7.output), by have := k7.size; omega, fun b hb hn => (hg1 b (by have := k7.size; omega) (fun e => hn (HV3.out.fw b e))).trans (k7.block b hb hn)⟩
      exact k9.setCell _ (.inl HV3.out.fb))
    have hs9a : W9.heap.size ≤ w9.heap.size := by rw [hW9]; simp
    have hs9b : w9.heap.size ≤ W9.heap.size := by rw [hW9]; simp
    have hzz : W0.heap.size ≤ Wd.heap.size := by omega
    have HX9 : Hid (Blk W9 w.heap.size [.int .i64 0, .int .i64 0]) := Lib.hid (HX4.out.keep HK9.out (fun h => by have := (HF1.out _ h).2; omega))
    have HCP : Hid (CapOk (some ⟨g9, 0, none⟩) (H.ws.length + 1 + xs.length) cp9) := Lib.hid (by obtain ⟨a', c', e, h⟩ := OwnXG.form hrow; obtain ⟨e1, e2, e3⟩ := Value.slice.inj e; rw [e1, e2, e3]; exact h)
    clear hrow hpr hg1 c1 c19 cf cf9
    rw [← hW9]
    clear hW9
    go_upto_region 8 with fail
    obtain ⟨W', hW'⟩ : ∃ W : World, W = W9.alloc (.cells #[.int .i64 4, .int .i64 H.ws.length] 69) := ⟨_, rfl⟩
    have HB10 : Hid (Below W9.heap.size W9 W') := Lib.hid (by rw [hW']; exact below_alloc _ _)
    have hs10 := HB10.out.size
    have HX10 : Hid (Blk W' w.heap.size [.int .i64 0, .int .i64 0]) := Lib.hid (HX9.out.step HB10.out)
    have HV10 := Lib.hid (HVJ.out.below HB10.out)
    have HW10 : Hid (Blk W' W9.heap.size [.int .i64 4, .int .i64 H.ws.length]) := Lib.hid (by rw [hW']; exact Blk.new _ _ _ _ rfl)
    have y0 := HW10.out.cell 0 _ rfl
    have y1 := HW10.out.cell 1 _ rfl
    rw [← hW']
    clear hW'
    go_wp2_with fail
    refine (hget_c (tupT ts) _ _ B room (joinH H xs) ⟨4, (H.ws.length : Int)⟩ ⟨_, _, HV10.out⟩ HJ.out.rep (by rw [joinH_len]; omega) (by show H.names.length ≤ _; omega)).mono ?_
    rintro e w11 ⟨a11, c11, rfl, hB11, hT11⟩
    go_wp2_with fail
    refine (check_c (tupT ts) _ _ _ hT11 hbk).mono ?_
    rintro e w12 ⟨rfl, hB12⟩
    have hs11 := hB11.size
    have hs12 := hB12.size
    have HB12 : Hid (Below W9.heap.size W9 w12) := Lib.hid (below_step (below_step HB10.out (by omega) hB11) (by omega) hB12)
    have HX12 := Lib.hid (HX9.out.step HB12.out)
    have HW12 := Lib.hid ((HW10.out.step hB11).step hB12)
    have HV12 := Lib.hid (HVJ.out.below HB12.out)
    have HK12 : Hid (Keep F0 W0 w12) := Lib.hid (HK9.out.then HB12.out)
    clear hB11 hB12 hT11 y0 y1
    by_cases hck : checkE (tupT ts) = 0
    · have hckb : (checkE (tupT ts) == 0) = true := by simp [hck]
      have HA := Lib.hid (joinHO_ok (by omega : ¬ room < H.ws.length + 1 + xs.length) hck)
      have y0 := HW12.out.cell 0 _ rfl
      have y1 := HW12.out.cell 1 _ rfl
      go_wp2_with (refine store_blk 69 2 szWord _ _ rfl rfl rfl rfl rfl HX12.out rfl rfl rfl ?_; intro W' hF hs' hBW hoth; have HF := Lib.hid hF; have HSZ := Lib.hid hs'; have HBW := Lib.hid hBW; have HOTH := Lib.hid hoth; clear hF hBW hoth hs')
      refine bodyPost_ret (results_blk Try.results49 szWord _ Try.underlying69 rfl rfl HF.out rfl) rfl ⟨?_, ?_⟩
      · rw [HA.out]; try rfl
      · rw [HA.out]
        exact put_end HB0.out hs0a' HF1.out ⟨HeapR.mono ⟨_, _, HV12.out⟩ (fun b hb => by rcases hb with hb | hb; exact .inl hb; exact .inr (by omega)), HK12.out⟩ (HBW.out 0 _ (by omega) (Below.refl _ _)) (by omega) (by omega) HOTH.out
    · have hckb : (checkE (tupT ts) == 0) = false := by simp [hck]
      have HA := Lib.hid (joinHO_large (by omega : ¬ room < H.ws.length + 1 + xs.length) hck)
      have c1 := HV12.out.blk.cell 1 _ rfl
      have cf := HV12.out.blk.fr
      have q1 : (0 : Int) ≤ (H.ws.length : Int) := by omega
      have q2 : (H.ws.length : Int) ≤ cp9 := by have := HCP.out.1; omega
      have q3 : ¬ cp9 = 0 := by have := HCP.out.1; omega
      go_upto_region 11 with fail
      obtain ⟨W13, hW13⟩ : ∃ W : World, W = w12.setCell ⟨B, 1, none⟩ (.slice (some ⟨g9, 0, none⟩) H.ws.length cp9) := ⟨_, rfl⟩
      rw [← hW13]
      have hcut : OwnW w12 (.slice (some ⟨g9, 0, none⟩) H.ws.length cp9) H.ws := by
        have h := HV12.out.ws.cut (n := H.ws.length) (by rw [joinH_len]; omega)
        rwa [show (joinH H xs).ws.take H.ws.length = H.ws from List.take_left] at h
      have HV13 : Hid (HeapV (fun b => (F0 b ∨ Wd.heap.size ≤ b) ∨ w12.heap.size ≤ b) W13 B room H (.slice (some ⟨g9, 0, none⟩) H.ws.length cp9) vn) := Lib.hid (by rw [hW13]; have h13 := HeapV.words' HV12.out (Nat.le_refl _) (fun _ _ _ => rfl) hcut (fun b hb => .inl hb); exact h13)
      have HK13 : Hid (Keep F0 W0 W13) := Lib.hid (by rw [hW13]; exact HK12.out.setCell _ (.inl HV3.out.fb))
      have hs13a : W13.heap.size ≤ w12.heap.size := by rw [hW13]; simp
      have hs13b : w12.heap.size ≤ W13.heap.size := by rw [hW13]; simp
      have HX13 : Hid (Blk W13 w.heap.size [.int .i64 0, .int .i64 0]) := Lib.hid (HX4.out.keep HK13.out (fun h => by have := (HF1.out _ h).2; omega))
      clear hW13 hcut c1 cf
      go_wp2_with (refine store_blk 69 2 szWord _ _ rfl rfl rfl rfl rfl HX13.out rfl rfl rfl ?_; intro W' hF hs' hBW hoth; have HF := Lib.hid hF; have HSZ := Lib.hid hs'; have HBW := Lib.hid hBW; have HOTH := Lib.hid hoth; clear hF hBW hoth hs')
      refine bodyPost_ret (results_blk Try.results49 szWord _ Try.underlying69 rfl rfl HF.out rfl) rfl ⟨?_, ?_⟩
      · rw [HA.out]; try rfl
      · rw [HA.out]
        exact put_end HB0.out hs0a' HF1.out ⟨HeapR.mono ⟨_, _, HV13.out⟩ (fun b hb => by rcases hb with (hb | hb) | hb; exact .inl hb; exact .inr (by omega); exact .inr (by omega)), HK13.out⟩ (HBW.out 0 _ (by omega) (Below.refl _ _)) (by omega) (by omega) HOTH.out
end Go.Proofs.Ytedfepnekjjmnaa

/-
  What kept's heap comes to. No condition.
-/
namespace Go.Proofs.Ytedfepnekjjmnaa
open Go.RowKit
set_option linter.unusedSimpArgs false
set_option linter.unusedVariables false

def sevenT : T := tupT [numT 7]
theorem seven_reach {H : HS} {i j : Nat} (hp : partsL H i (kN H i) = [⟨1, 7⟩]) (h : Reach H [⟨4, (i : Nat)⟩] j) : j = i := by
  induction h with
  | root j hm =>
    have h1 := congrArg Wrd.n (List.mem_singleton.1 hm)
    exact Int.ofNat.inj h1
  | part m j _ hm ih =>
    rw [ih, hp] at hm
    exact absurd (congrArg Wrd.kind (List.mem_singleton.1 hm)) (show ¬ ((4 : Int) = 1) by decide)
theorem seven_col {H : HS} {x : Wrd} {ks : List Nat} {tw out : List Wrd} (hr : Rep H sevenT x) (h : Col H [x] ks tw out) : tw.length = 2 ∧ ∃ y, out = [y] ∧ Rep ⟨tw, H.names⟩ sevenT y := by
  obtain ⟨-, -, i, rfl, h1, h2, h3⟩ := hr.tup rfl
  have hd : Hd H i 1 := ⟨h1, h2⟩
  have h3' : RepL H [numT 7] (partsL H i 1) := h3
  obtain ⟨y, r, hy, h4, h5⟩ := (RepL_cons H (numT 7) [] _).1 h3'
  rw [RepL_nil] at h5
  obtain ⟨-, -, -, h6⟩ := h4.leaf (show ¬ ((1 : Int) = 4) by decide) (show ¬ ((1 : Int) = 2) by decide)
  have hp : partsL H i (kN H i) = [⟨1, 7⟩] := by rw [hd.kN, hy, h5, h6]; rfl
  have hi : i ∈ ks := by
    obtain ⟨j, hj, he⟩ := h.rk _ (List.mem_singleton.2 rfl) rfl
    have : i = j := Int.ofNat.inj he
    exact this ▸ hj
  have hks : ks = [i] := by
    have hall : ∀ j ∈ ks, j = i := fun j hj => seven_reach hp (h.rc j hj)
    have hn := h.nd
    cases ks with
    | nil => simp at hi
    | cons a l =>
      have ha := hall a (by simp)
      cases l with
      | nil => rw [ha]
      | cons b l =>
        have hb := hall b (by simp)
        exact absurd (by rw [ha, hb]; simp : a ∈ b :: l) (List.nodup_cons.1 hn).1
  refine ⟨?_, _, h.out, h.rep _ _ hr (h.rk _ (List.mem_singleton.2 rfl))⟩
  rw [h.tw, List.length_map, raw_len ks h.hd, hks]
  simp [hd.kN]
theorem RT.low {S : Nat → Prop} {w : World} {t : T} {v : Value} (h : RT S w t v) : RT (fun b => S b ∧ b < w.heap.size) w t v := h.to (fun b h hl => ⟨h, hl⟩) fun _ _ _ => rfl
theorem putHO_len (room : Int) (H : HS) (t : T) : (putHO room H t).2.2.ws.length ≤ H.ws.length + szL [t] ∧ (putHO room H t).2.2.names.length ≤ H.names.length + bulkL [t] := by
  have h := putW_len H t
  unfold putHO
  split
  · exact ⟨by show H.ws.length ≤ _; omega, by show H.names.length ≤ _; omega⟩
  · split
    · exact ⟨by show H.ws.length ≤ _; omega, by show H.names.length ≤ _; omega⟩
    · split
      · exact ⟨by show H.ws.length ≤ _; omega, by show H.names.length ≤ _; omega⟩
      · exact ⟨by show (putW H t).2.ws.length ≤ _; omega, h.2⟩
theorem two_sz : szL [twoT] = 3 ∧ bulkL [twoT] ≤ 10 := by (simp [twoT, tupT, numT, wordT, szL_cons, szL, bulkL_cons, bulkL]; decide)
theorem seven_sz : szL [sevenT] = 2 ∧ bulkL [sevenT] ≤ 10 ∧ closedL [sevenT] = true := by (simp [sevenT, tupT, numT, szL_cons, szL, bulkL_cons, bulkL, closedL_cons, closedL]; decide)
theorem seven_check : checkE sevenT = 0 := by simp [sevenT, tupT, numT, checkE, formL_cons, formL, headB, bareB, dpL_cons, dpL, szL_cons, szL, inB]
theorem putHO_wf {H : HS} (hW : WF H) (room : Int) (t : T) : WF (putHO room H t).2.2 := by
  rcases putHO_R hW room t with ⟨-, -, h, -, -⟩ | ⟨-, h⟩
  · exact h.wf
  · rw [h]; exact hW
theorem seven_put {H : HS} (hW : WF H) (hl : H.ws.length ≤ 8) : (putHO 10 H sevenT).2.1 = 0 ∧ Rep (putHO 10 H sevenT).2.2 sevenT (putHO 10 H sevenT).1 ∧ WF (putHO 10 H sevenT).2.2 := by
  have h1 : ¬ (10 : Int) < H.ws.length + szL [sevenT] := by rw [seven_sz.1]; omega
  have h2 := putW_R hW (check_ok seven_check seven_sz.2.2).1
  rw [putHO_ok seven_check seven_sz.2.2 h1]
  exact ⟨rfl, h2.rep, h2.wf⟩
end Go.Proofs.Ytedfepnekjjmnaa

/-
  kept: the heap's first words. No condition.
-/
namespace Go.Proofs.Ytedfepnekjjmnaa
open Go.RowKit
set_option linter.unusedSimpArgs false
set_option linter.unusedVariables false
set_option maxRecDepth 100000

set_option maxHeartbeats 8000000 in
theorem kept_c (w : World) : Calls Try.prog 39 #[] w fun e w' => e = .returned (.bool true) ∧ Below w.heap.size w w' := by
  go_enter Try.func39, Try.ntmps39
  go_wp2_with fail
  refine (hnew_ok 10 w (by omega) (by omega)).mono ?_
  rintro e w1 ⟨rfl, hB1, hR1, hs1⟩
  have HB1 := Lib.hid hB1
  have HR1 := Lib.hid hR1
  have hs1a : w.heap.size + 1 ≤ w1.heap.size := by omega
  clear hB1 hR1 hs1
  go_wp2_with fail
  refine (two_c w1).mono ?_
  rintro e w2 ⟨v, rfl, hB2, hT2⟩
  have hs2 := hB2.size
  have HB2 := Lib.hid hB2
  have HT2 := Lib.hid hT2
  clear hB2 hT2
  go_wp2_with fail
  refine (hPut_c twoT _ _ w2 w.heap.size 10 ⟨[], []⟩ v (HR1.out.below HB2.out) HT2.out.low (fun b hb => ⟨hb.2, fun e => by have := hb.1; omega⟩) (by have := two_sz.2; omega) (by simp) (by simp)).mono ?_
  rintro e w3 ⟨rfl, hK3, hR3⟩
  obtain ⟨K1, hK1⟩ : ∃ K, K = putHO 10 ⟨[], []⟩ twoT := ⟨_, rfl⟩
  have hwf1 : WF K1.2.2 := by rw [hK1]; exact putHO_wf (WF.new []) _ _
  have hln1 := putHO_len 10 ⟨[], []⟩ twoT
  rw [← hK1] at hR3 hln1
  rw [← hK1]
  have hl1 : K1.2.2.ws.length ≤ 3 := by have := hln1.1; rw [two_sz.1] at this; simpa using this
  have hn1 : K1.2.2.names.length ≤ 10 := by have := hln1.2; have := two_sz.2; simp at *; omega
  have hs3 := hK3.size
  have HW1 := Lib.hid hwf1
  have HK3 := Lib.hid hK3
  have HR3 := Lib.hid hR3.low
  clear hK3 hR3 hK1 hwf1 hln1
  go_wp2_with fail
  refine (num_c _ _).mono ?_
  rintro e w4 ⟨rfl, hB4⟩
  have hs4 := hB4.size
  have HR4 := Lib.hid (HR3.out.below hB4)
  have HB4 := Lib.hid hB4
  clear hB4
  go_wp2_with fail
  refine (tuple_c _ _ _ _).mono ?_
  rintro e w5 ⟨rfl, hB5⟩
  have hs5 := hB5.size
  simp only [World.size_alloc] at hs5
  have HB5 : Hid (Below w4.heap.size w4 w5) := Lib.hid ((below_alloc _ _).trans (hB5.mono (by simp)))
  have HT5 : Hid (RT (fun b => w4.heap.size ≤ b) w5 sevenT (.agg #[.int .i64 4, .int .i64 0, .string ⟨#[]⟩, .slice (some ⟨w4.heap.size, 0, none⟩) 1 1])) := Lib.hid (by
    have hC : CellsT (fun _ => False) w4 [numT 7] [.int .i64 1, .int .i64 7, .string ⟨#[]⟩, .slice none 0 0] := ⟨none, 0, [], rfl, ⟨Nat.le_refl _, fun _ => rfl⟩, by simp [numT, RTs], rfl⟩
    refine tupT_rt ?_
    exact ((RSl2.lit hC 29).below hB5).rsl.mono fun b hb => by
      rcases hb with hb | hb
      · omega
      · exact hb.elim)
  have HR5 := Lib.hid (HR4.out.below HB5.out)
  clear hB5
  go_wp2_with fail
  refine (hPut_c sevenT _ _ w5 w.heap.size 10 K1.2.2 _ HR5.out HT5.out.low (fun b hb => ⟨hb.2, fun e => by have := hb.1; have := e.2; omega⟩) (by have := seven_sz.2.1; omega) (by omega) (by omega)).mono ?_
  rintro e w6 ⟨rfl, hK6, hR6⟩
  obtain ⟨P2, hP2⟩ : ∃ P, P = putHO 10 K1.2.2 sevenT := ⟨_, rfl⟩
  obtain ⟨q1, q2, q3⟩ := seven_put HW1.out (by omega)
  have hln2 := putHO_len 10 K1.2.2 sevenT
  rw [← hP2] at q1 q2 q3 hR6 hln2
  rw [← hP2, q1]
  have hl2 : P2.2.2.ws.length ≤ 5 := by have := hln2.1; rw [seven_sz.1] at this; omega
  have hn2 : P2.2.2.names.length ≤ 20 := by have := hln2.2; have := seven_sz.2.1; omega
  have hs6 := hK6.size
  have HK6 := Lib.hid hK6
  have HR6 := Lib.hid hR6.low
  have HQ2 := Lib.hid q2
  have HW2 := Lib.hid q3
  clear hK6 hR6 q1 q2 q3 hln2 hP2
  go_wp2_with fail
  have hRX : RX wrdE (fun b => b = w6.heap.size + 1) (fun _ => True) ((w6.alloc (.cells #[.int .i64 P2.1.kind, .int .i64 P2.1.n] 69)).alloc (.cells #[.int .i64 P2.1.kind, .int .i64 P2.1.n] 69)) [P2.1] (.slice (some ⟨w6.heap.size + 1, 0, none⟩) 1 1) :=
    ⟨_, _, [.int .i64 P2.1.kind, .int .i64 P2.1.n], rfl, ⟨Nat.le_refl _, by simp⟩, ⟨[.int .i64 P2.1.kind, .int .i64 P2.1.n], [], rfl, rfl, rfl⟩, fun j u hu => ⟨_, _, rfl, rfl, by
      rw [Nat.zero_add, show w6.heap.size + 1 = (w6.alloc (.cells #[.int .i64 P2.1.kind, .int .i64 P2.1.n] 69)).heap.size by simp, World.cell?_alloc_new]; simpa using hu⟩⟩
  have hB7 : Below w6.heap.size w6 ((w6.alloc (.cells #[.int .i64 P2.1.kind, .int .i64 P2.1.n] 69)).alloc (.cells #[.int .i64 P2.1.kind, .int .i64 P2.1.n] 69)) := (below_alloc _ _).trans ((below_alloc _ _).mono (by simp))
  have hls : LeafOk sevenT := ⟨fun e => absurd e (show ¬ ((4 : Int) = 1) by decide), fun e => absurd e (show ¬ ((4 : Int) = 3) by decide)⟩
  refine (hcollect_c _ _ _ _ w.heap.size 10 P2.2.2 [P2.1] _ hRX (by simp) (HR6.out.below hB7) HW2.out (by omega) (fun x hx => by rw [List.mem_singleton.1 hx]; exact HQ2.out.stands hls)).mono ?_
  rintro e w8 ⟨v2, tw, out, ks, rfl, hK8, hCol, hR8, hO8, hb8⟩
  obtain ⟨htw, y, hout, hy⟩ := seven_col HQ2.out hCol
  subst hout
  obtain ⟨g8, c8, rfl⟩ := hO8.form0 (by simp)
  obtain ⟨-, d0, d1⟩ := (hO8.rx).wrd 0 (by simp)
  simp only [Nat.zero_mul, Nat.add_zero, Nat.zero_add, List.getElem_cons_zero] at d0 d1
  have hs8 := hK8.size
  simp only [World.size_alloc] at hs8
  have HB7 := Lib.hid hB7
  have HK8 := Lib.hid hK8
  have HR8 := Lib.hid hR8
  have HO8 := Lib.hid hO8
  have HY := Lib.hid hy
  have HTW := Lib.hid htw
  have HLS := Lib.hid hls
  have HWF := Lib.hid (hCol.wf HW2.out P2.2.2.names)
  clear hB7 hK8 hR8 hO8 hy htw hls hCol hRX hb8
  go_wp2_with fail
  refine (hused_c _ w8 w.heap.size 10 _ HR8.out).mono ?_
  rintro e w9 ⟨rfl, rfl⟩
  rw [HTW.out]
  go_wp2_with fail
  refine (hGet_c sevenT _ w8 w.heap.size 10 _ y HR8.out HY.out HLS.out HWF.out.heads (by show tw.length ≤ _; rw [HTW.out]; omega) (by show P2.2.2.names.length ≤ _; omega)).mono ?_
  rintro e w9 ⟨a9, c9, rfl, hB9, hT9⟩
  have hs9 := hB9.size
  have HB9 := Lib.hid hB9
  have HT9 := Lib.hid hT9
  clear hB9 hT9 d0 d1
  go_upto_region 10 with fail
  obtain ⟨W10, hW10⟩ : ∃ W : World, W = w9.alloc (.cells #[.int .i64 4, .int .i64 0, .string ⟨#[]⟩, .slice a9 1 c9] 29) := ⟨_, rfl⟩
  obtain ⟨g9, hg9⟩ : ∃ g, g = w9.heap.size := ⟨_, rfl⟩
  have HX10 : Hid (Blk W10 g9 [.int .i64 4, .int .i64 0, .string ⟨#[]⟩, .slice a9 1 c9]) := Lib.hid (by rw [hW10]; exact Blk.new _ _ _ _ hg9)
  have HB10 : Hid (Below w9.heap.size w9 W10) := Lib.hid (by rw [hW10]; exact below_alloc _ _)
  have hs10 := HB10.out.size
  have hg10 : g9 < W10.heap.size := HX10.out.lt
  have HT10 : Hid (RT (fun b => w8.heap.size ≤ b) W10 sevenT (.agg #[.int .i64 4, .int .i64 0, .string ⟨#[]⟩, .slice a9 1 c9])) := Lib.hid (HT9.out.below HB10.out)
  have HQ10 : Hid (∀ w' : World, Below W10.heap.size W10 w' → w'.cell? ⟨g9, 0, none⟩ = some (.int .i64 4) ∧ w'.cell? ⟨g9, 1, none⟩ = some (.int .i64 0) ∧ w'.cell? ⟨g9, 2, none⟩ = some (.string ⟨#[]⟩) ∧ w'.cell? ⟨g9, 3, none⟩ = some (.slice a9 1 c9)) := Lib.hid fun w' h => ⟨(HX10.out.step h).cell 0 _ rfl, (HX10.out.step h).cell 1 _ rfl, (HX10.out.step h).cell 2 _ rfl, (HX10.out.step h).cell 3 _ rfl⟩
  show Code.wp _ _ _ _ (w9.alloc (.cells #[.int .i64 4, .int .i64 0, .string ⟨#[]⟩, .slice a9 1 c9] 29))
  rw [← hW10, ← hg9]
  clear hW10 hg9
  refine rg_start (fun w' => w'.cell? ⟨g9, 0, none⟩ = some (.int .i64 4) ∧ w'.cell? ⟨g9, 1, none⟩ = some (.int .i64 0) ∧ w'.cell? ⟨g9, 2, none⟩ = some (.string ⟨#[]⟩) ∧ w'.cell? ⟨g9, 3, none⟩ = some (.slice a9 1 c9)) (by as_aux_lemma => kernel_rfl) (fun Wd h => HQ10.out _ h) ?_
  intro Wd hB hWd hWd' hHeld
  have HBd := Lib.hid hB
  clear hB
  refine rg_take (i := 0) (v := ?_) rfl (by as_aux_lemma => kernel_rfl) (by as_aux_lemma => kernel_rfl) (by as_aux_lemma => kernel_rfl) (by rfl) ?_ hHeld ?_
  rotate_left 1
  · intro w hSw; (try dsimp only at hSw); go_simp; try (with_reducible rfl)
  (try simp only [Act.put, List.setIfInBounds_toArray, List.set_cons_zero, List.set_cons_succ])
  refine rg_take (i := 1) (v := ?_) rfl (by as_aux_lemma => kernel_rfl) (by as_aux_lemma => kernel_rfl) (by as_aux_lemma => kernel_rfl) (by rfl) ?_ hHeld ?_
  rotate_left 1
  · intro w hSw; (try dsimp only at hSw); go_simp; try (with_reducible rfl)
  (try simp only [Act.put, List.setIfInBounds_toArray, List.set_cons_zero, List.set_cons_succ])
  refine rg_take (i := 2) (v := ?_) rfl (by as_aux_lemma => kernel_rfl) (by as_aux_lemma => kernel_rfl) (by as_aux_lemma => kernel_rfl) (by rfl) ?_ hHeld ?_
  rotate_left 1
  · intro w hSw; (try dsimp only at hSw); go_simp; try (with_reducible rfl)
  (try simp only [Act.put, List.setIfInBounds_toArray, List.set_cons_zero, List.set_cons_succ])
  refine rg_take (i := 3) (v := ?_) rfl (by as_aux_lemma => kernel_rfl) (by as_aux_lemma => kernel_rfl) (by as_aux_lemma => kernel_rfl) (by rfl) ?_ hHeld ?_
  rotate_left 1
  · intro w hSw; (try dsimp only at hSw); go_simp; try (with_reducible rfl)
  (try simp only [Act.put, List.setIfInBounds_toArray, List.set_cons_zero, List.set_cons_succ])
  refine rg_only (i := 4) rfl (by as_aux_lemma => kernel_rfl) (by rfl) (fun K hK => ?_)
  go_simp
  go_at_call 17
  refine (num_c _ _).mono ?_
  rintro e wa ⟨rfl, hB⟩
  have hsa := hB.size
  have HBa : Hid (Below W10.heap.size W10 wa) := Lib.hid (below_step HBd.out (by omega) hB)
  clear hB
  refine hK.out _ _ (HQ10.out _ HBa.out) (fun hHeld1 => ?_)
  clear hK K hHeld
  have hHeld := hHeld1
  clear hHeld1
  (try simp only [Act.put, List.setIfInBounds_toArray, List.set_cons_zero, List.set_cons_succ])
  refine rg_only (i := 5) rfl (by as_aux_lemma => kernel_rfl) (by rfl) (fun K hK => ?_)
  refine build1 _ rfl (by rfl) ?_
  have HBb : Hid (Below W10.heap.size W10 (wa.alloc (.cells #[.int .i64 1, .int .i64 7, .string ⟨#[]⟩, .slice none 0 0] 29))) := Lib.hid (HBa.out.trans ((below_alloc _ _).mono (by omega)))
  refine hK.out _ _ (HQ10.out _ HBb.out) (fun hHeld1 => ?_)
  clear hK K hHeld
  have hHeld := hHeld1
  clear hHeld1
  (try simp only [Act.put, List.setIfInBounds_toArray, List.set_cons_zero, List.set_cons_succ])
  refine rg_only (i := 6) rfl (by as_aux_lemma => kernel_rfl) (by rfl) (fun K hK => ?_)
  go_simp
  go_at_call 30
  refine (tuple_c _ _ _ _).mono ?_
  rintro e wc ⟨rfl, hB⟩
  have hsc := hB.size
  simp only [World.size_alloc] at hsc
  have HBc : Hid (Below W10.heap.size W10 wc) := Lib.hid (below_step HBb.out (by simp; omega) hB)
  have HTc : Hid (RT (fun b => wa.heap.size ≤ b) wc sevenT (.agg #[.int .i64 4, .int .i64 0, .string ⟨#[]⟩, .slice (some ⟨wa.heap.size, 0, none⟩) 1 1])) := Lib.hid (by
    have hC : CellsT (fun _ => False) wa [numT 7] [.int .i64 1, .int .i64 7, .string ⟨#[]⟩, .slice none 0 0] := ⟨none, 0, [], rfl, ⟨Nat.le_refl _, fun _ => rfl⟩, by simp [numT, RTs], rfl⟩
    refine tupT_rt ?_
    exact ((RSl2.lit hC 29).below hB).rsl.mono fun b hb => by
      rcases hb with hb | hb
      · omega
      · exact hb.elim)
  clear hB
  refine hK.out _ _ (HQ10.out _ HBc.out) (fun hHeld1 => ?_)
  clear hK K hHeld
  have hHeld := hHeld1
  clear hHeld1
  (try simp only [Act.put, List.setIfInBounds_toArray, List.set_cons_zero, List.set_cons_succ])
  refine rg_only (i := 7) rfl (by as_aux_lemma => kernel_rfl) (by rfl) (fun K hK => ?_)
  go_simp
  go_at_call 19
  refine (same_c sevenT sevenT (fun _ => True) wc _ _ ((HT10.out.below HBc.out).mono fun _ _ => trivial) (HTc.out.mono fun _ _ => trivial) (by have := seven_sz.2.1; omega) (by have := seven_sz.2.1; omega)).mono ?_
  rintro e wd ⟨rfl, hB⟩
  have hsd := hB.size
  have HBe : Hid (Below W10.heap.size W10 wd) := Lib.hid (below_step HBc.out (by omega) hB)
  clear hB
  rw [(sameT_iff sevenT sevenT).2 rfl]
  refine hK.out _ _ (HQ10.out _ HBe.out) (fun hHeld1 => ?_)
  clear hK K hHeld
  have hHeld := hHeld1
  clear hHeld1
  (try simp only [Act.put, List.setIfInBounds_toArray, List.set_cons_zero, List.set_cons_succ])
  refine rg_take (i := 8) (v := ?_) rfl (by as_aux_lemma => kernel_rfl) (by as_aux_lemma => kernel_rfl) (by as_aux_lemma => kernel_rfl) (by rfl) ?_ hHeld ?_
  rotate_left 1
  · intro w hSw; (try dsimp only at hSw); go_simp; try (with_reducible rfl)
  (try simp only [Act.put, List.setIfInBounds_toArray, List.set_cons_zero, List.set_cons_succ])
  refine rg_take (i := 9) (v := ?_) rfl (by as_aux_lemma => kernel_rfl) (by as_aux_lemma => kernel_rfl) (by as_aux_lemma => kernel_rfl) (by rfl) ?_ hHeld ?_
  rotate_left 1
  · intro w hSw; (try dsimp only at hSw); go_simp; try (with_reducible rfl)
  (try simp only [Act.put, List.setIfInBounds_toArray, List.set_cons_zero, List.set_cons_succ])
  refine rg_done (by as_aux_lemma => kernel_rfl) ?_
  clear hHeld
  go_wp2_with fail
  go_ret
  refine ⟨rfl, ?_⟩
  have hz7 := HB7.out.size
  simp only [World.size_alloc] at hz7
  have b3 : Below w.heap.size w w3 := (HB1.out.trans (HB2.out.mono (by omega))).trans (HK3.out.below (by omega) fun b hb => by rcases hb with rfl; omega)
  have b6 : Below w.heap.size w w6 := ((b3.trans (HB4.out.mono (by omega))).trans (HB5.out.mono (by omega))).trans (HK6.out.below (by omega) fun b hb => by rcases hb with ⟨h | h, -⟩ <;> omega)
  have b8 : Below w.heap.size w w8 := (b6.trans (HB7.out.mono (by omega))).trans (HK8.out.below (by simp only [World.size_alloc]; omega) fun b hb => by rcases hb with ⟨⟨h | h, -⟩ | h, -⟩ <;> omega)
  exact ((b8.trans (HB9.out.mono (by omega))).trans (HB10.out.mono (by omega))).trans (HBe.out.mono (by omega))
end Go.Proofs.Ytedfepnekjjmnaa

/-
  HeapAgain's plain law: words and the terms that they stand for. No condition.
-/
namespace Go.Proofs.Ytedfepnekjjmnaa
open Go.RowKit
set_option linter.unusedSimpArgs false
set_option linter.unusedVariables false

/-- Words that stand for terms, one by one. -/
def Stand (H : HS) (ts : List T) (xs : List Wrd) : Prop := RepL H ts xs ∧ ∀ t ∈ ts, LeafOk t
theorem Stand.nil (H : HS) : Stand H [] [] := ⟨by rw [RepL_nil], by simp⟩
theorem Stand.length {H : HS} {ts : List T} {xs : List Wrd} (h : Stand H ts xs) : xs.length = ts.length := h.1.length
theorem RepL.map {H H' : HS} (f : Wrd → Wrd) : ∀ {ts : List T} {xs : List Wrd}, RepL H ts xs → (∀ t x, t ∈ ts → x ∈ xs → Rep H t x → Rep H' t (f x)) → RepL H' ts (xs.map f)
  | [], xs, h, _ => by rw [RepL_nil] at h ⊢; rw [h]; rfl
  | t :: ts, xs, h, hf => by
    obtain ⟨x, r, rfl, h1, h2⟩ := (RepL_cons H t ts xs).1 h
    exact (RepL_cons H' t ts _).2 ⟨f x, r.map f, rfl, hf t x (by simp) (by simp) h1, h2.map f fun u y hu hy => hf u y (by simp [hu]) (by simp [hy])⟩
theorem RepL.snoc {H : HS} {t : T} {x : Wrd} (hx : Rep H t x) : ∀ {ts : List T} {xs : List Wrd}, RepL H ts xs → RepL H (ts ++ [t]) (xs ++ [x])
  | [], xs, h => by rw [RepL_nil] at h; rw [h]; exact (RepL_cons H t [] _).2 ⟨x, [], rfl, hx, by rw [RepL_nil]⟩
  | u :: ts, xs, h => by
    obtain ⟨y, r, rfl, h1, h2⟩ := (RepL_cons H u ts xs).1 h
    exact (RepL_cons H u _ _).2 ⟨y, r ++ [x], rfl, h1, h2.snoc hx⟩
/-- A put. -/
theorem Stand.put {H : HS} (hW : WF H) {ts : List T} {xs : List Wrd} (h : Stand H ts xs) (room : Int) (t : T) :
    ((putHO room H t).2.1 = 0 ∧ Stand (putHO room H t).2.2 (ts ++ [t]) (xs ++ [(putHO room H t).1])) ∨ ((putHO room H t).2.1 ≠ 0 ∧ Stand (putHO room H t).2.2 ts xs) := by
  rcases putHO_R hW room t with ⟨h0, hl, hr, -, -⟩ | ⟨h0, hH⟩
  · refine .inl ⟨h0, ?_, fun u hu => ?_⟩
    · have h1 := h.1.map id fun u y _ _ hy => hr.old u y hy
      rw [List.map_id] at h1
      exact h1.snoc hr.rep
    · rcases List.mem_append.1 hu with hu | hu
      · exact h.2 u hu
      · rw [List.mem_singleton.1 hu]; exact hl
  · rw [hH]; exact .inr ⟨h0, h⟩
theorem Stand.at {H : HS} {ts : List T} {xs : List Wrd} (h : Stand H ts xs) (i : Nat) (h1 : i < ts.length) (h2 : i < xs.length) : Rep H ts[i] xs[i] ∧ LeafOk ts[i] := ⟨h.1.at i h1 h2, h.2 _ (List.getElem_mem h1)⟩
/-- One picked. -/
theorem Stand.pick {H : HS} {ts us : List T} {xs ys : List Wrd} (h : Stand H ts xs) (g : Stand H us ys) (i : Nat) (h1 : i < ts.length) (h2 : i < xs.length) : Stand H (us ++ [ts[i]]) (ys ++ [xs[i]]) :=
  ⟨g.1.snoc (h.at i h1 h2).1, fun u hu => by
    rcases List.mem_append.1 hu with hu | hu
    · exact g.2 u hu
    · rw [List.mem_singleton.1 hu]; exact (h.at i h1 h2).2⟩
theorem Stand.stands {H : HS} {ts : List T} {xs : List Wrd} (h : Stand H ts xs) : ∀ x ∈ xs, standsB H x = true := fun x hx => by
  obtain ⟨i, hi, rfl⟩ := List.getElem_of_mem hx
  have hl := h.length
  obtain ⟨h1, h2⟩ := h.at i (by omega) hi
  exact h1.stands h2
/-- A collection. -/
theorem Stand.col {H : HS} {ts : List T} {xs : List Wrd} {ks : List Nat} {tw out : List Wrd} (h : Stand H ts xs) (hC : Col H xs ks tw out) : Stand ⟨tw, H.names⟩ ts out := by
  refine ⟨?_, h.2⟩
  rw [hC.out]
  exact h.1.map _ fun u y _ hy hr => hC.rep u y hr (hC.rk y hy)
theorem Col.le {H : HS} (hW : WF H) {rs : List Wrd} {ks : List Nat} {tw out : List Wrd} (h : Col H rs ks tw out) : tw.length ≤ H.ws.length := by
  rw [h.tw, List.length_map]; exact raw_le hW ks h.hd h.nd
end Go.Proofs.Ytedfepnekjjmnaa

/-
  Slices of numbers, as read. No condition.
-/
namespace Go.Proofs.Ytedfepnekjjmnaa
open Go.RowKit
set_option linter.unusedSimpArgs false
set_option linter.unusedVariables false

def intE : El Int where
  k := 1
  C := fun _ _ x cs => cs = [.int .i64 x]
  len := by rintro S w x cs rfl; rfl
  one := by rintro S w x cs rfl; simp [Value.oneCell']
  «to» := by rintro S S' w w' x cs rfl _ _; rfl
theorem RX.int {R S : Nat → Prop} {w : World} {l : List Int} {b o n cap : Nat} (h : RX intE R S w l (.slice (some ⟨b, o, none⟩) n cap)) (j : Nat) (hj : j < l.length) :
    R b ∧ w.cell? ⟨b, o + j, none⟩ = some (.int .i64 l[j]) := by
  obtain ⟨c, rfl, hc⟩ := h.elem j hj
  have h0 := hc 0 _ rfl
  exact ⟨h0.1, by have := h0.2; simpa [intE] using this⟩
theorem cellsI {S S' : Nat → Prop} {w w' : World} : ∀ {l : List Int} {cs : List Value}, CellsX intE S w l cs → CellsX intE S' w' l cs
  | [], cs, h => h
  | x :: l, cs, h => by
    obtain ⟨c, cs', rfl, h1, h2⟩ := h
    exact ⟨c, cs', rfl, h1, cellsI h2⟩
theorem RX.ito {R S : Nat → Prop} {w w' : World} {l : List Int} {v : Value} (h : RX intE R S w l v) (hc : ∀ b, R b → b < w.heap.size → w'.heap[b]? = w.heap[b]?) : RX intE R S w' l v := by
  obtain ⟨a, cap, cs, rfl, hl, hC, hj⟩ := h
  refine ⟨a, cap, cs, rfl, hl, cellsI hC, fun j u hu => ?_⟩
  obtain ⟨b, o, rfl, hR, hcell⟩ := hj j u hu
  exact ⟨b, o, rfl, hR, by rw [World.cell?_of_block (w := w) (hc b hR (World.block_lt_of_cell? w _ hcell))]; exact hcell⟩
end Go.Proofs.Ytedfepnekjjmnaa

/-
  heap.Join of more words than a tuple may have; heap calls as read. No condition but a bound.
-/
namespace Go.Proofs.Ytedfepnekjjmnaa
open Go.RowKit
set_option linter.unusedSimpArgs false
set_option linter.unusedVariables false
set_option maxRecDepth 100000

set_option maxHeartbeats 1000000 in
theorem hJoin_long (R S : Nat → Prop) (w : World) (B : Nat) (xs : List Wrd) (v : Value) (hv : RX wrdE R S w xs v) (hlen : 8 < xs.length) (hl : xs.length ≤ 1099511627776) :
    Calls Try.prog 49 #[.pointer (some ⟨B, 0, none⟩), v] w fun e w' => e = .returned (.tuple #[.agg #[.int .i64 0, .int .i64 0], .int .i64 1]) ∧ Below w.heap.size w w' := by
  obtain ⟨av, cv, rfl, hcv⟩ := hv.form
  clear hv
  go_enter Try.func49, Try.ntmps49
  go_wp2_with fail
  exact bodyPost_ret (results_blk Try.results49 szWord _ Try.underlying69 rfl rfl (Blk.new w #[.int .i64 0, .int .i64 0] 69 _ rfl) rfl) rfl ⟨rfl, below_alloc _ _⟩
/-- A call of HeapPlays. -/
structure HC where
  kind : Int
  t : T
  at' : List Int
def hcB (x : HC) : Nat := 1 + bulkL [x.t] + x.at'.length
def hcsB : List HC → Nat
  | [] => 1
  | x :: l => hcB x + hcsB l
theorem hcsB_len : ∀ l : List HC, l.length ≤ hcsB l
  | [] => Nat.zero_le _
  | x :: l => by have := hcsB_len l; simp only [hcsB, List.length_cons, hcB]; omega
theorem hcsB_mem {l : List HC} {x : HC} (h : x ∈ l) : bulkL [x.t] ≤ hcsB l ∧ x.at'.length ≤ hcsB l := by
  induction l with
  | nil => cases h
  | cons e l ih =>
    rcases List.mem_cons.1 h with rfl | h
    · simp only [hcsB, hcB]; omega
    · have := ih h; simp only [hcsB]; omega
def hcC (S : Nat → Prop) (w : World) (x : HC) (cs : List Value) : Prop :=
  ∃ ad cap a2 c2, cs = [.int .i64 x.kind, .int .i64 x.t.kind, .int .i64 x.t.n, .string x.t.name, .slice ad x.t.args.length cap, .slice a2 x.at'.length c2] ∧
    RT S w x.t (.agg #[.int .i64 x.t.kind, .int .i64 x.t.n, .string x.t.name, .slice ad x.t.args.length cap]) ∧ RX intE S (fun _ => False) w x.at' (.slice a2 x.at'.length c2)
def hcE : El HC where
  k := 6
  C := hcC
  len := by rintro S w x cs ⟨ad, cap, a2, c2, rfl, -⟩; rfl
  one := by rintro S w x cs ⟨ad, cap, a2, c2, rfl, -⟩; simp [Value.oneCell']
  «to» := by rintro S S' w w' x cs ⟨ad, cap, a2, c2, rfl, h1, h2⟩ hs hc; exact ⟨ad, cap, a2, c2, rfl, h1.to hs hc, h2.to hs (fun _ h _ => h) fun b hb hl => hc b (hb.elim (fun h => h.elim) id) hl⟩
def hcF : ElT hcE where
  e := 81
  sl := 78
  bytes := 88
  z := .agg #[.int .i64 0, .int .i64 0, .int .i64 0, .string ⟨#[]⟩, .slice none 0 0, .slice none 0 0]
  hund := Try.underlying78
  info := by kernel_rfl
  hzs := rfl
  hk := by decide
  hb := by decide
theorem szHC : (Try.prog.info? 81).map (·.size) = some 6 := by kernel_rfl
end Go.Proofs.Ytedfepnekjjmnaa

/-
  HeapShares: plain facts about what it joins and collects; clerkref.Putable. No condition but bounds.
-/
namespace Go.Proofs.Ytedfepnekjjmnaa
open Go.RowKit
set_option linter.unusedSimpArgs false
set_option linter.unusedVariables false
set_option maxRecDepth 100000

/-- What Putable answers. -/
def putE (t : T) : Int := if checkE t ≠ 0 then checkE t else if closedL [t] = false then 5 else 0
set_option maxHeartbeats 1000000 in
theorem rputable_c (t : T) (S : Nat → Prop) (w : World) (v : Value) (hv : RT S w t v) (hS : ∀ b, S b → b < w.heap.size) (hb : bulkL [t] ≤ 1099511627776) :
    Calls Try.prog 46 #[v] w fun e w' => e = .returned (.int .i64 (putE t)) ∧ Below w.heap.size w w' := by
  obtain ⟨a, cap, rfl, hcap, hr⟩ := hv
  obtain ⟨W0, hW0⟩ : ∃ W : World, W = w.alloc (.cells #[.int .i64 t.kind, .int .i64 t.n, .string t.name, .slice a t.args.length cap] 29) := ⟨_, rfl⟩
  have HX0 : Hid (Blk W0 w.heap.size [.int .i64 t.kind, .int .i64 t.n, .string t.name, .slice a t.args.length cap]) := Lib.hid (by rw [hW0]; exact Blk.new _ _ _ _ rfl)
  have HB0 : Hid (Below w.heap.size w W0) := Lib.hid (by rw [hW0]; exact below_alloc _ _)
  have hs0 := HB0.out.size
  have HT0 : Hid (RT S W0 t (.agg #[.int .i64 t.kind, .int .i64 t.n, .string t.name, .slice a t.args.length cap])) := Lib.hid (RT.below ⟨a, cap, rfl, hcap, hr⟩ HB0.out)
  have HS := Lib.hid hS
  have HW0 := Lib.hid hW0
  clear hr hcap hW0 hS
  go_enter Try.func46, Try.ntmps46
  go_upto_region 1 with fail
  rw [← HW0.out]
  have y0 := HX0.out.cell 0 _ rfl
  have y1 := HX0.out.cell 1 _ rfl
  have y2 := HX0.out.cell 2 _ rfl
  have y3 := HX0.out.cell 3 _ rfl
  go_wp2_with fail
  refine (rcheck_c t S _ _ HT0.out (fun b hb => by have := HS.out b hb; omega) hb).mono ?_
  rintro e w1 ⟨rfl, hB⟩
  have hs1 := hB.size
  have HB1 : Hid (Below w.heap.size w w1) := Lib.hid (below_step HB0.out (by omega) hB)
  have HT1 := Lib.hid (HT0.out.below hB)
  have HX1 := Lib.hid (HX0.out.step hB)
  clear hB y0 y1 y2 y3
  by_cases hck : checkE t = 0
  · have hckb : (checkE t != 0) = false := by simp [hck]
    have y0 := HX1.out.cell 0 _ rfl
    have y1 := HX1.out.cell 1 _ rfl
    have y2 := HX1.out.cell 2 _ rfl
    have y3 := HX1.out.cell 3 _ rfl
    go_wp2_with fail
    refine (rclosed_c t S _ _ HT1.out (fun b hb => by have := HS.out b hb; omega) hb).mono ?_
    rintro e w2 ⟨he, hB⟩
    have HB2 : Hid (Below w.heap.size w w2) := Lib.hid (below_step HB1.out (by omega) hB)
    clear hB
    cases hc : closedL [t]
    · rw [hc] at he
      subst he
      go_wp2_with fail
      go_ret
      exact ⟨by unfold putE; rw [if_neg (by simp [hck]), if_pos hc] <;> rfl, HB2.out⟩
    · rw [hc] at he
      subst he
      go_wp2_with fail
      go_ret
      exact ⟨by unfold putE; rw [if_neg (by simp [hck]), if_neg (by simp [hc])] <;> rfl, HB2.out⟩
  · have hckb : (checkE t != 0) = true := by simp [hck]
    go_wp2_with fail
    go_ret
    exact ⟨by unfold putE; rw [if_pos hck] <;> rfl, HB1.out⟩
theorem WF.empty : WF ⟨[], []⟩ := WF.new []
/-- Put into a new heap. -/
theorem putHO_new (t : T) : ((putHO 1000 ⟨[], []⟩ t).2.1 = 0 ∧ LeafOk t ∧ PutR ⟨[], []⟩ t (putHO 1000 ⟨[], []⟩ t).1 (putHO 1000 ⟨[], []⟩ t).2.2 ∧ (putHO 1000 ⟨[], []⟩ t).2.2.ws.length ≤ 200 ∧ (putHO 1000 ⟨[], []⟩ t).2.2.names.length ≤ bulkL [t]) ∨
    ((putHO 1000 ⟨[], []⟩ t).2.1 ≠ 0 ∧ (putHO 1000 ⟨[], []⟩ t).2.1 = putE t) := by
  by_cases h1 : checkE t = 0
  · by_cases h2 : closedL [t] = true
    · obtain ⟨ho, hl, hs⟩ := check_ok h1 h2
      have h4 := putW_len ⟨[], []⟩ t
      have h3 : ¬ (1000 : Int) < ((⟨[], []⟩ : HS).ws.length : Int) + szL [t] := by simp; omega
      rw [putHO_ok h1 h2 h3]
      exact .inl ⟨rfl, hl, putW_R WF.empty ho, by rw [h4.1]; simpa using hs, by simpa using h4.2⟩
    · have h2' : closedL [t] = false := by simpa using h2
      rw [putHO_form h1 h2']
      exact .inr ⟨by decide, by unfold putE; rw [if_neg (by simp [h1]), if_pos h2']⟩
  · rw [putHO_check h1]
    exact .inr ⟨h1, by unfold putE; rw [if_pos h1]⟩
theorem bulkL_rep (t : T) : ∀ k, bulkL (List.replicate k t) = k * bulkL [t]
  | 0 => by simp [bulkL]
  | k + 1 => by
    rw [List.replicate_succ, bulkL_cons, bulkL_rep t k, Nat.succ_mul, bulkL_cons]
    simp [bulkL]; omega
theorem join_leaf {ts : List T} : LeafOk (tupT ts) := by unfold LeafOk; exact ⟨fun h => absurd (show (4 : Int) = 1 from h) (by decide), fun h => absurd (show (4 : Int) = 3 from h) (by decide)⟩
theorem mem2 {α : Type} {a b : α} : ∀ y ∈ [a, b], y = a ∨ y = b := fun y hy => by
  rcases List.mem_cons.1 hy with h | hy
  · exact .inl h
  · exact .inr (List.mem_singleton.1 hy)
theorem mem3 {α : Type} {a b : α} : ∀ y ∈ [a, b, a], y = a ∨ y = b := fun y hy => by
  rcases List.mem_cons.1 hy with h | hy
  · exact .inl h
  · rcases List.mem_cons.1 hy with h | hy
    · exact .inr h
    · exact .inl (List.mem_singleton.1 hy)
/-- Both words stand in the heap that Join makes. -/
theorem share_stand {H : HS} (hW : WF H) {t : T} {x : Wrd} (hr : Rep H t x) (hl : LeafOk t) (k : Nat) : Stand (joinH H (List.replicate k x)) [tupT (List.replicate k t), t] [⟨4, (H.ws.length : Int)⟩, x] := by
  have hj := join_R hW (RepL.rep hr k)
  refine ⟨(RepL_cons _ _ _ _).2 ⟨_, [x], rfl, hj.rep, (RepL_cons _ _ _ _).2 ⟨x, [], rfl, hj.old _ _ hr, by rw [RepL_nil]⟩⟩, fun u hu => ?_⟩
  simp at hu
  rcases hu with rfl | rfl
  · exact join_leaf
  · exact hl
theorem share_live {H : HS} (hW : WF H) {t : T} {x : Wrd} {k : Nat} (hr : Rep H t x) (hn : (hd1 H t x).Nodup) {tw out : List Wrd} {ks : List Nat} (h : Col (joinH H (List.replicate k x)) [⟨4, (H.ws.length : Int)⟩, x, ⟨4, (H.ws.length : Int)⟩] ks tw out) : (tw.length : Int) = szL [t] + 1 + k := by
  have := col_shares (rs := [⟨4, (H.ws.length : Int)⟩, x, ⟨4, (H.ws.length : Int)⟩]) hW hr hn (List.mem_cons_self ..) (List.mem_cons_of_mem _ (List.mem_cons_self ..)) mem3 h
  omega
theorem share_col {H : HS} (hW : WF H) {t : T} {x : Wrd} {k : Nat} (hr : Rep H t x) (hl : LeafOk t) (hn : (hd1 H t x).Nodup) {tw out : List Wrd} {ks : List Nat} (h : Col (joinH H (List.replicate k x)) [⟨4, (H.ws.length : Int)⟩, x] ks tw out) :
    (tw.length : Int) = szL [t] + 1 + k ∧ ∃ y z, out = [y, z] ∧ Rep ⟨tw, H.names⟩ (tupT (List.replicate k t)) y ∧ Rep ⟨tw, H.names⟩ t z := by
  have h1 := col_shares (rs := [⟨4, (H.ws.length : Int)⟩, x]) hW hr hn (List.mem_cons_self ..) (List.mem_cons_of_mem _ (List.mem_cons_self ..)) mem2 h
  have h2 := ((share_stand hW hr hl k).col h).1
  obtain ⟨y, r, rfl, h3, h4⟩ := (RepL_cons _ _ _ _).1 h2
  obtain ⟨z, r', rfl, h5, h6⟩ := (RepL_cons _ _ _ _).1 h4
  rw [RepL_nil] at h6
  subst h6
  exact ⟨by omega, y, z, rfl, h3, h5⟩
end Go.Proofs.Ytedfepnekjjmnaa

/-
  Rows of a call's own side by side, what they hold, and blocks that they leave alone: allocated, grown, kept. No condition.
-/
namespace Go.Proofs.Ytedfepnekjjmnaa
open Go.RowKit
set_option linter.unusedSimpArgs false
set_option linter.unusedVariables false

/-! ### Terms as elements -/
def termE : El T where
  k := 4
  C := fun S w t cs => ∃ a cap, cs = [.int .i64 t.kind, .int .i64 t.n, .string t.name, .slice a t.args.length cap] ∧ CapOk a t.args.length cap ∧ RTs S w t.args a 0
  len := by rintro S w x cs ⟨a, cap, rfl, -⟩; rfl
  one := by rintro S w x cs ⟨a, cap, rfl, -⟩; simp [Value.oneCell']
  «to» := by rintro S S' w w' x cs ⟨a, cap, rfl, h1, h2⟩ hs hc; exact ⟨a, cap, rfl, h1, h2.to hs hc⟩
def termF : ElT termE where
  e := 29
  sl := 27
  bytes := 56
  z := .agg #[.int .i64 0, .int .i64 0, .string ⟨#[]⟩, .slice none 0 0]
  hund := Try.underlying27
  info := info29
  hzs := rfl
  hk := by decide
  hb := by decide
theorem cells_termE {S : Nat → Prop} {w : World} : ∀ {ts : List T} {cs : List Value}, CellsX termE S w ts cs ↔ CellsT S w ts cs
  | [], cs => Iff.rfl
  | t :: ts, cs => by
    constructor
    · rintro ⟨c, cs', rfl, ⟨a, cap, rfl, h1, h2⟩, h3⟩
      exact ⟨a, cap, cs', rfl, h1, h2, cells_termE.1 h3⟩
    · rintro ⟨a, cap, cs', rfl, h1, h2, h3⟩
      exact ⟨_, cs', rfl, ⟨a, cap, rfl, h1, h2⟩, cells_termE.2 h3⟩
theorem own_termE {P : Nat → Prop} {base : Nat} {w : World} {v : Value} {ts : List T} (h : OwnXG termE termF.e P base w v ts) : OwnG P base w v ts := by
  obtain ⟨cs, h1, h2⟩ := h
  exact ⟨cs, h1, cells_termE.1 h2⟩
theorem termE_of {S : Nat → Prop} {w : World} {t : T} {c : Array Value} (h : RT S w t (.agg c)) : termE.C S w t c.toList := by
  obtain ⟨a, cap, e, h1, h2⟩ := h
  simp only [Value.agg.injEq] at e
  exact ⟨a, cap, by rw [e], h1, h2⟩

/-! ### Rows side by side -/
structure Rw where
  X : Type
  E : El X
  F : ElT E
  v : Value
  l : List X
def rW (v : Value) (l : List Wrd) : Rw := ⟨Wrd, wrdE, wrdF, v, l⟩
def rT (v : Value) (l : List T) : Rw := ⟨T, termE, termF, v, l⟩
/-- Rows of one's own (rs) since w0, that lead into P; blocks apart from them: F, and bs, which are known whole. -/
structure RS (P F : Nat → Prop) (w0 : World) (bs : List (Nat × List Value)) (w : World) (rs : List Rw) : Prop where
  bel : Below w0.heap.size w0 w
  pb : ∀ b, P b → b < w.heap.size ∧ ¬ F b ∧ ∀ r ∈ rs, r.v.ownBlock ≠ some b
  ok : ∀ r ∈ rs, OwnXG r.E r.F.e P w0.heap.size w r.v r.l
  ap : rs.Pairwise fun r s => ∀ b, r.v.ownBlock = some b → s.v.ownBlock ≠ some b
  fh : ∀ b, F b → w0.heap.size ≤ b ∧ b < w.heap.size ∧ ∀ r ∈ rs, r.v.ownBlock ≠ some b
  bk : ∀ p ∈ bs, Blk w p.1 p.2 ∧ ¬ F p.1 ∧ ∀ r ∈ rs, r.v.ownBlock ≠ some p.1
section
variable {P F : Nat → Prop} {w0 w : World} {bs : List (Nat × List Value)} {rs : List Rw}
theorem RS.start (P : Nat → Prop) (w : World) (hP : ∀ b, P b → b < w.heap.size) : RS P (fun _ => False) w [] w [] :=
  ⟨Below.refl _ _, fun b hb => ⟨hP b hb, not_false, by simp⟩, by simp, List.Pairwise.nil, fun b h => h.elim, by simp⟩
theorem RS.lt (h : RS P F w0 bs w rs) {r : Rw} (hr : r ∈ rs) (b : Nat) (hb : r.v.ownBlock = some b) : w0.heap.size ≤ b ∧ b < w.heap.size := OwnXG.block (h.ok r hr) b hb
theorem RS.sub (h : RS P F w0 bs w rs) {bs' : List (Nat × List Value)} (hs : ∀ p ∈ bs', p ∈ bs) : RS P F w0 bs' w rs := ⟨h.bel, h.pb, h.ok, h.ap, h.fh, fun p hp => h.bk p (hs p hp)⟩
theorem RS.rows (h : RS P F w0 bs w rs) {rs' : List Rw} (hs : rs'.Sublist rs) : RS P F w0 bs w rs' :=
  ⟨h.bel, fun b hb => ⟨(h.pb b hb).1, (h.pb b hb).2.1, fun r hr => (h.pb b hb).2.2 r (hs.subset hr)⟩, fun r hr => h.ok r (hs.subset hr), h.ap.sublist hs,
    fun b hb => ⟨(h.fh b hb).1, (h.fh b hb).2.1, fun r hr => (h.fh b hb).2.2 r (hs.subset hr)⟩, fun p hp => ⟨(h.bk p hp).1, (h.bk p hp).2.1, fun r hr => (h.bk p hp).2.2 r (hs.subset hr)⟩⟩
/-- Something that leaves all that is tracked as it was. -/
theorem RS.step (h : RS P F w0 bs w rs) {w' : World} {F' : Nat → Prop} (hb0 : Below w0.heap.size w0 w') (hl : w.heap.size ≤ w'.heap.size) (hF : ∀ b, F' b → (F b ∨ w.heap.size ≤ b) ∧ b < w'.heap.size) (hc : ∀ b, b < w.heap.size → ¬ F b → w'.heap[b]? = w.heap[b]?) : RS P F' w0 bs w' rs := by
  have hnF : ∀ b, b < w.heap.size → ¬ F b → ¬ F' b := fun b hb hn hf => by
    rcases (hF b hf).1 with h1 | h1
    · exact hn h1
    · omega
  refine ⟨hb0, fun b hb => ⟨by have := (h.pb b hb).1; omega, hnF b (h.pb b hb).1 (h.pb b hb).2.1, (h.pb b hb).2.2⟩, fun r hr => ?_, h.ap, fun b hb => ?_, fun p hp => ?_⟩
  · refine OwnXG.to (h.ok r hr) hl fun b hb hlt => hc b hlt fun hf => ?_
    rcases hb with hb | hb
    · exact (h.pb b hb).2.1 hf
    · exact (h.fh b hf).2.2 r hr hb
  · obtain ⟨h1, h2⟩ := hF b hb
    have hw := h.bel.size
    rcases h1 with h1 | h1
    · exact ⟨(h.fh b h1).1, h2, (h.fh b h1).2.2⟩
    · exact ⟨by omega, h2, fun r hr e => by have := (h.lt hr b e).2; omega⟩
  · obtain ⟨h1, h2, h3⟩ := h.bk p hp
    exact ⟨h1.heap (hc p.1 h1.lt h2), hnF p.1 h1.lt h2, h3⟩
theorem RS.below (h : RS P F w0 bs w rs) {w' : World} (hB : Below w.heap.size w w') : RS P F w0 bs w' rs :=
  h.step (below_step h.bel h.bel.size hB) hB.size (fun b hb => ⟨.inl hb, by have := (h.fh b hb).2.1; have := hB.size; omega⟩) fun b hb _ => hB.block b hb
theorem RS.keep (h : RS P F w0 bs w rs) {w' : World} {F' : Nat → Prop} (hK : Keep F w w') (hF : ∀ b, F' b → (F b ∨ w.heap.size ≤ b) ∧ b < w'.heap.size) : RS P F' w0 bs w' rs :=
  h.step (h.bel.trans (hK.below h.bel.size fun b hb => (h.fh b hb).1)) hK.size hF fun b hb hn => hK.block b hb hn
/-- A block is made. -/
theorem RS.alloc (h : RS P F w0 bs w rs) (c : Array Value) (e : TypeId) {g : Nat} (hg : g = w.heap.size) : RS P F w0 ((g, c.toList) :: bs) (w.alloc (.cells c e)) rs := by
  subst hg
  have h1 := h.below (below_alloc w (.cells c e))
  refine ⟨h1.bel, h1.pb, h1.ok, h1.ap, h1.fh, fun p hp => ?_⟩
  rcases List.mem_cons.1 hp with rfl | hp
  · exact ⟨Blk.new w c e _ rfl, fun hf => by have := (h.fh _ hf).2.1; omega, fun r hr e => by have := (h.lt hr _ e).2; omega⟩
  · exact h1.bk p hp
/-- A block that is known whole. -/
theorem RS.blk (h : RS P F w0 bs w rs) {g : Nat} {c : List Value} (hB : Blk w g c) (hF : ¬ F g) (hr : ∀ r ∈ rs, r.v.ownBlock ≠ some g) : RS P F w0 ((g, c) :: bs) w rs :=
  ⟨h.bel, h.pb, h.ok, h.ap, h.fh, fun p hp => by
    rcases List.mem_cons.1 hp with rfl | hp
    · exact ⟨hB, hF, hr⟩
    · exact h.bk p hp⟩
/-- A new row. -/
theorem RS.nil (h : RS P F w0 bs w rs) {X : Type} {E : El X} (Fe : ElT E) : RS P F w0 bs w (⟨X, E, Fe, .slice none 0 0, []⟩ :: rs) := by
  have hn : ∀ b, (Value.slice none 0 0).ownBlock ≠ some b := fun b => by simp [Value.ownBlock]
  refine ⟨h.bel, fun b hb => ⟨(h.pb b hb).1, (h.pb b hb).2.1, fun r hr => ?_⟩, fun r hr => ?_, List.pairwise_cons.2 ⟨fun s _ b hb => absurd hb (hn b), h.ap⟩, fun b hb => ⟨(h.fh b hb).1, (h.fh b hb).2.1, fun r hr => ?_⟩, fun p hp => ⟨(h.bk p hp).1, (h.bk p hp).2.1, fun r hr => ?_⟩⟩
  · rcases List.mem_cons.1 hr with rfl | hr
    · exact hn b
    · exact (h.pb b hb).2.2 r hr
  · rcases List.mem_cons.1 hr with rfl | hr
    · exact OwnXG.nil _ _ _ _
    · exact h.ok r hr
  · rcases List.mem_cons.1 hr with rfl | hr
    · exact hn b
    · exact (h.fh b hb).2.2 r hr
  · rcases List.mem_cons.1 hr with rfl | hr
    · exact hn _
    · exact (h.bk p hp).2.2 r hr
/-- Only the places matter. -/
theorem RS.perm (h : RS P F w0 bs w rs) {rs' : List Rw} (hp : rs.Perm rs') : RS P F w0 bs w rs' := by
  have hm : ∀ r, r ∈ rs' → r ∈ rs := fun r hr => hp.mem_iff.2 hr
  refine ⟨h.bel, fun b hb => ⟨(h.pb b hb).1, (h.pb b hb).2.1, fun r hr => (h.pb b hb).2.2 r (hm r hr)⟩, fun r hr => h.ok r (hm r hr), ?_, fun b hb => ⟨(h.fh b hb).1, (h.fh b hb).2.1, fun r hr => (h.fh b hb).2.2 r (hm r hr)⟩, fun p hp' => ⟨(h.bk p hp').1, (h.bk p hp').2.1, fun r hr => (h.bk p hp').2.2 r (hm r hr)⟩⟩
  exact hp.pairwise h.ap fun {r s} hrs b hb e => hrs b e hb
/-- One row is grown. -/
theorem RS.grown {l1 l2 : List Rw} {X : Type} {E : El X} {Fe : ElT E} {v v' : Value} {xs xs' : List X} (h : RS P F w0 bs w (l1 ++ ⟨X, E, Fe, v, xs⟩ :: l2)) {w' : World} (hg : w.grownBy w' v.ownBlock)
    (ho : OwnXG E Fe.e P w0.heap.size w' v' xs') (hv : ∀ b, v'.ownBlock = some b → v.ownBlock = some b ∨ w.heap.size ≤ b) : RS P F w0 bs w' (l1 ++ ⟨X, E, Fe, v', xs'⟩ :: l2) := by
  have hmr : (⟨X, E, Fe, v, xs⟩ : Rw) ∈ l1 ++ ⟨X, E, Fe, v, xs⟩ :: l2 := by simp
  have hmo : ∀ r, (r ∈ l1 ∨ r ∈ l2) → r ∈ l1 ++ (⟨X, E, Fe, v, xs⟩ : Rw) :: l2 := fun r hr => by
    rcases hr with hr | hr <;> simp [hr]
  have hsp : ∀ r, r ∈ l1 ++ (⟨X, E, Fe, v', xs'⟩ : Rw) :: l2 → r = ⟨X, E, Fe, v', xs'⟩ ∨ (r ∈ l1 ∨ r ∈ l2) := fun r hr => by
    rcases List.mem_append.1 hr with hr | hr
    · exact .inr (.inl hr)
    · rcases List.mem_cons.1 hr with hr | hr
      · exact .inl hr
      · exact .inr (.inr hr)
  obtain ⟨a1, a2, a3⟩ := List.pairwise_append.1 h.ap
  obtain ⟨a4, a5⟩ := List.pairwise_cons.1 a2
  have hother : ∀ r, (r ∈ l1 ∨ r ∈ l2) → ∀ b, r.v.ownBlock = some b → v.ownBlock ≠ some b := fun r hr b hb e => by
    rcases hr with hr | hr
    · exact a3 r hr _ (List.mem_cons_self ..) b hb e
    · exact a4 r hr b e hb
  have hnew : ∀ b, b < w.heap.size → v.ownBlock ≠ some b → v'.ownBlock ≠ some b := fun b hb hn e => by
    rcases hv b e with h1 | h1
    · exact hn h1
    · omega
  have hrowl := fun b hb => (h.lt hmr b hb).1
  have hsz := hg.size
  refine ⟨grown_below h.bel hg h.bel.size hrowl, fun b hb => ⟨by have := (h.pb b hb).1; omega, (h.pb b hb).2.1, fun r hr => ?_⟩, fun r hr => ?_, ?_, fun b hb => ⟨(h.fh b hb).1, by have := (h.fh b hb).2.1; omega, fun r hr => ?_⟩, fun p hp => ⟨?_, (h.bk p hp).2.1, fun r hr => ?_⟩⟩
  · rcases hsp r hr with rfl | hr
    · exact hnew b (h.pb b hb).1 ((h.pb b hb).2.2 _ hmr)
    · exact (h.pb b hb).2.2 r (hmo r hr)
  · rcases hsp r hr with rfl | hr
    · exact ho
    · refine OwnXG.to (h.ok r (hmo r hr)) hg.size fun b hb hlt => hg.block b hlt fun e => ?_
      rcases hb with hb | hb
      · exact (h.pb b hb).2.2 _ hmr e.symm
      · exact hother r hr b hb e.symm
  · refine List.pairwise_append.2 ⟨a1, List.pairwise_cons.2 ⟨fun s hs b hb e => ?_, a5⟩, fun r hr s hs b hb e => ?_⟩
    · rcases hv b hb with h1 | h1
      · exact a4 s hs b h1 e
      · have := (h.lt (hmo s (.inr hs)) b e).2; omega
    · rcases List.mem_cons.1 hs with rfl | hs
      · rcases hv b e with h1 | h1
        · exact a3 r hr _ (List.mem_cons_self ..) b hb h1
        · have := (h.lt (hmo r (.inl hr)) b hb).2; omega
      · exact a3 r hr s (List.mem_cons_of_mem _ hs) b hb e
  · rcases hsp r hr with rfl | hr
    · exact hnew b (h.fh b hb).2.1 ((h.fh b hb).2.2 _ hmr)
    · exact (h.fh b hb).2.2 r (hmo r hr)
  · have h1 := h.bk p hp
    exact h1.1.heap (hg.block p.1 h1.1.lt fun e => h1.2.2 _ hmr e.symm)
  · rcases hsp r hr with rfl | hr
    · exact hnew p.1 (h.bk p hp).1.lt ((h.bk p hp).2.2 _ hmr)
    · exact (h.bk p hp).2.2 r (hmo r hr)
/-- What stays when a row is grown. -/
theorem RS.stay {l1 l2 : List Rw} {r : Rw} (h : RS P F w0 bs w (l1 ++ r :: l2)) {w' : World} (hg : w.grownBy w' r.v.ownBlock) (b : Nat) (hb : P b ∨ F b) : w'.heap[b]? = w.heap[b]? := by
  have hmr : r ∈ l1 ++ r :: l2 := by simp
  rcases hb with hb | hb
  · exact hg.block b (h.pb b hb).1 fun e => (h.pb b hb).2.2 _ hmr e.symm
  · exact hg.block b (h.fh b hb).2.1 fun e => (h.fh b hb).2.2 _ hmr e.symm
theorem RS.stayR {l1 l2 : List Rw} {r : Rw} (h : RS P F w0 bs w (l1 ++ r :: l2)) {w' : World} (hg : w.grownBy w' r.v.ownBlock) {B : Nat} {room : Int} {H : HS} (hR : HeapR F w B room H) : HeapR F w' B room H :=
  hR.to hg.size (fun _ h => h) fun b hb _ => h.stay hg b (.inr hb)
/-- A new block doesn't touch what is tracked. -/
theorem RS.heapR {B : Nat} {room : Int} {H : HS} (h : RS P F w0 bs w rs) (hR : HeapR F w B room H) {w' : World} (hl : w.heap.size ≤ w'.heap.size) (hc : ∀ b, F b → w'.heap[b]? = w.heap[b]?) : HeapR F w' B room H := hR.to hl (fun _ h => h) fun b hb _ => hc b hb
theorem RS.rx {r : Rw} (h : RS P F w0 bs w rs) (hr : r ∈ rs) : RX r.E (fun b => r.v.ownBlock = some b) P w r.l r.v := (OwnX.rx (h.ok r hr)).mono (fun _ h => h) fun b hb => hb.1
theorem RS.own {r : Rw} (h : RS P F w0 bs w rs) (hr : r ∈ rs) : OwnXG r.E r.F.e P w0.heap.size w r.v r.l := h.ok r hr
theorem RS.cell {g : Nat} {c : List Value} (h : RS P F w0 bs w rs) (hg : (g, c) ∈ bs) (j : Nat) (u : Value) (hu : c[j]? = some u) : w.cell? ⟨g, j, none⟩ = some u := (h.bk _ hg).1.cell j u hu
end
section
variable {o : Oper} {a : Act} {Q : Exit → Act → World → Prop} {K : Act → World → Prop} {w : World}
/-- 'append(s, x)' of one element that lies in a block of its own. -/
theorem wp_growR (s x : Operand) {X : Type} {E : El X} (Fe : ElT E) (ho : o.op = .call { callee := .builtin .append, args := #[s, x], argTypes := #[Fe.sl, Fe.sl] })
    {P F : Nat → Prop} {w0 : World} {bs : List (Nat × List Value)} (l1 l2 : List Rw) {v : Value} {xs : List X} {y : X} {g0 n : Nat} {c : List Value}
    (hs : a.eval s = v) (hx : a.eval x = .slice (some ⟨g0, 0, none⟩) 1 1) (h : RS P F w0 bs w (l1 ++ ⟨X, E, Fe, v, xs⟩ :: l2)) (hg : (g0, c) ∈ bs) (ht : E.C P w y c) (hnl : xs.length = n) (hn : n + 1 ≤ 274877906944)
    (hK : ∀ g cap w', RS P F w0 bs w' (l1 ++ ⟨X, E, Fe, .slice (some ⟨g, 0, none⟩) (n + 1) cap, xs ++ [y]⟩ :: l2) → w.grownBy w' v.ownBlock → K (a.put o.dst (.slice (some ⟨g, 0, none⟩) (n + 1) cap)) w') :
    Oper.wp Try.prog o a w K Q := by
  subst hnl
  have hmr : (⟨X, E, Fe, v, xs⟩ : Rw) ∈ l1 ++ ⟨X, E, Fe, v, xs⟩ :: l2 := by simp
  obtain ⟨i, hi, hiz, his, hib⟩ := info_parts Fe.info
  have hb := Fe.hb
  have hown : OwnXG E Fe.e P w0.heap.size w v xs := h.ok _ hmr
  have hpb := h.pb
  have hbel := h.bel.size
  obtain ⟨cs, ho1, hC⟩ := hown
  have hx1 : E.C (fun b => P b ∧ b < w.heap.size ∧ v.ownBlock ≠ some b) w y c := E.to ht (fun b hb hl => ⟨hb, hl, (hpb b hb).2.2 _ hmr⟩) fun _ _ _ => rfl
  refine wp_append_lies w s x Fe.sl ho w0.heap.size Fe.e i Fe.z E.k Fe.bytes Fe.hund hi hiz his hib Fe.hzs Fe.hk v _ cs hs ho1 ⟨g0, 0, none⟩ 1 1 c hx (by rw [E.len ht]; simp) ?_ (E.one ht) (by decide) (by unfold maxLen; omega) ?_ hbel _ rfl ?_
  · intro j u hu
    have := (h.bk _ hg).1.cell j u hu
    unfold Addr.add
    split
    · rename_i h0; subst h0; exact this
    · simpa using this
  · exact Nat.le_trans (Nat.mul_le_mul hn hb) (by decide)
  · intro g cap w' h1 h2 h3 h4
    have hsz := h2.size
    have hblk : ∀ b, (P b ∧ b < w.heap.size ∧ v.ownBlock ≠ some b) → b < w.heap.size → w'.heap[b]? = w.heap[b]? := fun b hb hlt => h2.block b hlt fun e => hb.2.2 e.symm
    have hO : OwnXG E Fe.e P w0.heap.size w' (.slice (some ⟨g, 0, none⟩) (xs.length + 1) cap) (xs ++ [y]) := by
      refine ⟨cs ++ c, by simpa using h1, ?_⟩
      have hcc : CellsX E (fun b => P b ∧ b < w.heap.size ∧ v.ownBlock ≠ some b) w' (xs ++ [y]) (cs ++ c) := (hC.to (fun _ h _ => h) hblk).append (CellsX.single (E.to hx1 (fun _ h _ => h) hblk))
      refine hcc.to (fun b hb _ => ⟨hb.1, by have := hb.2.1; omega, fun e => ?_⟩) fun _ _ _ => rfl
      have e1 : g = b := by simpa [Value.ownBlock] using e
      subst e1
      rcases h3 with h5 | h5
      · exact hb.2.2 h5
      · have := hb.2.1; omega
    refine hK g cap w' (h.grown h2 hO fun b hb => ?_) h2
    have e1 : g = b := by simpa [Value.ownBlock] using hb
    subst e1
    rcases h3 with h5 | h5
    · exact .inl h5
    · exact .inr (by omega)
/-- The same in a plain region. -/
theorem append_growR {ops : Array Oper} {rest : List Oper} (s x : Operand) (hgd : o.guard = none) {X : Type} {E : El X} (Fe : ElT E) (ho : o.op = .call { callee := .builtin .append, args := #[s, x], argTypes := #[Fe.sl, Fe.sl] })
    {P F : Nat → Prop} {w0 : World} {bs : List (Nat × List Value)} (l1 l2 : List Rw) {v : Value} {xs : List X} {y : X} {g0 n : Nat} {c : List Value}
    (hs : a.eval s = v) (hx : a.eval x = .slice (some ⟨g0, 0, none⟩) 1 1) (h : RS P F w0 bs w (l1 ++ ⟨X, E, Fe, v, xs⟩ :: l2)) (hg : (g0, c) ∈ bs) (ht : E.C P w y c) (hnl : xs.length = n) (hn : n + 1 ≤ 274877906944)
    (hK : ∀ g cap w', RS P F w0 bs w' (l1 ++ ⟨X, E, Fe, .slice (some ⟨g, 0, none⟩) (n + 1) cap, xs ++ [y]⟩ :: l2) → w.grownBy w' v.ownBlock → wpList Try.prog ops Q rest (a.put o.dst (.slice (some ⟨g, 0, none⟩) (n + 1) cap)) w') :
    wpList Try.prog ops Q (o :: rest) a w :=
  wpList_plain hgd fun _ hK' => wp_growR s x Fe ho l1 l2 hs hx h hg ht hnl hn fun g cap w' h1 h2 => hK' _ _ (hK g cap w' h1 h2)
end
end Go.Proofs.Ytedfepnekjjmnaa

/-
  Rows of one's own side by side, each of which may have lost heads. Printed out of XSide by sideq.py. No condition.
-/
namespace Go.Proofs.Ytedfepnekjjmnaa
open Go.RowKit
set_option linter.unusedSimpArgs false
set_option linter.unusedVariables false

section
variable {X : Type} {E : El X} {e : TypeId} {P : Nat → Prop} {base : Nat} {w : World} {v : Value} {xs : List X}
def OwnXQ (E : El X) (e : TypeId) (P : Nat → Prop) (base : Nat) (w : World) (v : Value) (xs : List X) : Prop := ∃ cs, ownsQ w base e E.k v xs.length cs ∧ CellsX E (fun b => P b ∧ b < w.heap.size ∧ v.ownBlock ≠ some b) w xs cs
theorem OwnXQ.nil (e : TypeId) (P : Nat → Prop) (base : Nat) (w : World) : OwnXQ E e P base w (.slice none 0 0) [] := ⟨[], ⟨by simp, .inl ⟨rfl, rfl⟩⟩, rfl⟩
theorem OwnXQ.to {w' : World} (h : OwnXQ E e P base w v xs) (hl : w.heap.size ≤ w'.heap.size) (hc : ∀ b, (P b ∨ v.ownBlock = some b) → b < w.heap.size → w'.heap[b]? = w.heap[b]?) : OwnXQ E e P base w' v xs := by
  obtain ⟨cs, h1, h2⟩ := h
  exact ⟨cs, h1.to fun b hb => hc b (.inr hb) (h1.lt b hb).2, h2.to (fun b hb _ => ⟨hb.1, by have := hb.2.1; omega, hb.2.2⟩) fun b hb hlt => hc b (.inl hb.1) hlt⟩
theorem OwnXQ.block (h : OwnXQ E e P base w v xs) : ∀ b, v.ownBlock = some b → base ≤ b ∧ b < w.heap.size := by obtain ⟨cs, h1, -⟩ := h; exact h1.lt
theorem OwnXQ.of (h : OwnXG E e P base w v xs) : OwnXQ E e P base w v xs := by obtain ⟨cs, h1, h2⟩ := h; exact ⟨cs, ownsQ_of h1, h2⟩
theorem OwnXQ.rx (h : OwnXQ E e P base w v xs) : RX E (fun b => v.ownBlock = some b) (fun b => P b ∧ b < w.heap.size ∧ v.ownBlock ≠ some b) w xs v := by
  obtain ⟨cs, h1, h2⟩ := h
  rcases h1.2 with ⟨rfl, h0⟩ | ⟨g, o, cap, cur, rfl, -, -, hn, -⟩
  · obtain rfl : xs = [] := List.eq_nil_of_length_eq_zero h0
    exact ⟨none, 0, cs, rfl, ⟨Nat.le_refl _, fun _ => rfl⟩, h2, fun j u hu => by
      obtain rfl : cs = [] := h2
      simp at hu⟩
  · exact ⟨some ⟨g, o * E.k, none⟩, cap, cs, rfl, ⟨hn, fun h => by cases h⟩, h2, fun j u hu => ⟨g, o * E.k, rfl, rfl, by have := h1.cells rfl j u hu; rwa [Addr.add_lit] at this⟩⟩
/-- The tail. -/
theorem OwnXQ.tailQ {g o cap m : Nat} {x : X} (h : OwnXQ E e P base w (.slice (some ⟨g, o, none⟩) (m + 1) cap) (x :: xs)) (hm : xs.length = m) : OwnXQ E e P base w (.slice (some ⟨g, o + E.k, none⟩) m (cap - 1)) xs := by
  obtain ⟨cs, h1, c, cs', rfl, h2, h3⟩ := h
  subst hm
  exact ⟨cs', h1.tail (E.len h2), h3⟩
theorem OwnXQ.zeroQ {g o cap m : Nat} (h : OwnXQ E e P base w (.slice (some ⟨g, o, none⟩) (m + 1) cap) xs) (hm : xs.length = m + 1) : OwnXQ E e P base w (.slice (some ⟨g, o, none⟩) 0 0) [] := by
  obtain ⟨cs, h1, -⟩ := h
  rw [hm] at h1
  exact ⟨[], h1.zero, rfl⟩
end
/-- Rows of one's own (rs) since w0, that lead into P; blocks apart from them: F, and bs, which are known whole. -/
structure RQ (P F : Nat → Prop) (w0 : World) (bs : List (Nat × List Value)) (w : World) (rs : List Rw) : Prop where
  bel : Below w0.heap.size w0 w
  pb : ∀ b, P b → b < w.heap.size ∧ ¬ F b ∧ ∀ r ∈ rs, r.v.ownBlock ≠ some b
  ok : ∀ r ∈ rs, OwnXQ r.E r.F.e P w0.heap.size w r.v r.l
  ap : rs.Pairwise fun r s => ∀ b, r.v.ownBlock = some b → s.v.ownBlock ≠ some b
  fh : ∀ b, F b → w0.heap.size ≤ b ∧ b < w.heap.size ∧ ∀ r ∈ rs, r.v.ownBlock ≠ some b
  bk : ∀ p ∈ bs, Blk w p.1 p.2 ∧ ¬ F p.1 ∧ ∀ r ∈ rs, r.v.ownBlock ≠ some p.1
section
variable {P F : Nat → Prop} {w0 w : World} {bs : List (Nat × List Value)} {rs : List Rw}
theorem RQ.start (P : Nat → Prop) (w : World) (hP : ∀ b, P b → b < w.heap.size) : RQ P (fun _ => False) w [] w [] :=
  ⟨Below.refl _ _, fun b hb => ⟨hP b hb, not_false, by simp⟩, by simp, List.Pairwise.nil, fun b h => h.elim, by simp⟩
theorem RQ.lt (h : RQ P F w0 bs w rs) {r : Rw} (hr : r ∈ rs) (b : Nat) (hb : r.v.ownBlock = some b) : w0.heap.size ≤ b ∧ b < w.heap.size := OwnXQ.block (h.ok r hr) b hb
theorem RQ.sub (h : RQ P F w0 bs w rs) {bs' : List (Nat × List Value)} (hs : ∀ p ∈ bs', p ∈ bs) : RQ P F w0 bs' w rs := ⟨h.bel, h.pb, h.ok, h.ap, h.fh, fun p hp => h.bk p (hs p hp)⟩
theorem RQ.rows (h : RQ P F w0 bs w rs) {rs' : List Rw} (hs : rs'.Sublist rs) : RQ P F w0 bs w rs' :=
  ⟨h.bel, fun b hb => ⟨(h.pb b hb).1, (h.pb b hb).2.1, fun r hr => (h.pb b hb).2.2 r (hs.subset hr)⟩, fun r hr => h.ok r (hs.subset hr), h.ap.sublist hs,
    fun b hb => ⟨(h.fh b hb).1, (h.fh b hb).2.1, fun r hr => (h.fh b hb).2.2 r (hs.subset hr)⟩, fun p hp => ⟨(h.bk p hp).1, (h.bk p hp).2.1, fun r hr => (h.bk p hp).2.2 r (hs.subset hr)⟩⟩
/-- Something that leaves all that is tracked as it was. -/
theorem RQ.step (h : RQ P F w0 bs w rs) {w' : World} {F' : Nat → Prop} (hb0 : Below w0.heap.size w0 w') (hl : w.heap.size ≤ w'.heap.size) (hF : ∀ b, F' b → (F b ∨ w.heap.size ≤ b) ∧ b < w'.heap.size) (hc : ∀ b, b < w.heap.size → ¬ F b → w'.heap[b]? = w.heap[b]?) : RQ P F' w0 bs w' rs := by
  have hnF : ∀ b, b < w.heap.size → ¬ F b → ¬ F' b := fun b hb hn hf => by
    rcases (hF b hf).1 with h1 | h1
    · exact hn h1
    · omega
  refine ⟨hb0, fun b hb => ⟨by have := (h.pb b hb).1; omega, hnF b (h.pb b hb).1 (h.pb b hb).2.1, (h.pb b hb).2.2⟩, fun r hr => ?_, h.ap, fun b hb => ?_, fun p hp => ?_⟩
  · refine OwnXQ.to (h.ok r hr) hl fun b hb hlt => hc b hlt fun hf => ?_
    rcases hb with hb | hb
    · exact (h.pb b hb).2.1 hf
    · exact (h.fh b hf).2.2 r hr hb
  · obtain ⟨h1, h2⟩ := hF b hb
    have hw := h.bel.size
    rcases h1 with h1 | h1
    · exact ⟨(h.fh b h1).1, h2, (h.fh b h1).2.2⟩
    · exact ⟨by omega, h2, fun r hr e => by have := (h.lt hr b e).2; omega⟩
  · obtain ⟨h1, h2, h3⟩ := h.bk p hp
    exact ⟨h1.heap (hc p.1 h1.lt h2), hnF p.1 h1.lt h2, h3⟩
theorem RQ.below (h : RQ P F w0 bs w rs) {w' : World} (hB : Below w.heap.size w w') : RQ P F w0 bs w' rs :=
  h.step (below_step h.bel h.bel.size hB) hB.size (fun b hb => ⟨.inl hb, by have := (h.fh b hb).2.1; have := hB.size; omega⟩) fun b hb _ => hB.block b hb
theorem RQ.keep (h : RQ P F w0 bs w rs) {w' : World} {F' : Nat → Prop} (hK : Keep F w w') (hF : ∀ b, F' b → (F b ∨ w.heap.size ≤ b) ∧ b < w'.heap.size) : RQ P F' w0 bs w' rs :=
  h.step (h.bel.trans (hK.below h.bel.size fun b hb => (h.fh b hb).1)) hK.size hF fun b hb hn => hK.block b hb hn
/-- A block is made. -/
theorem RQ.alloc (h : RQ P F w0 bs w rs) (c : Array Value) (e : TypeId) {g : Nat} (hg : g = w.heap.size) : RQ P F w0 ((g, c.toList) :: bs) (w.alloc (.cells c e)) rs := by
  subst hg
  have h1 := h.below (below_alloc w (.cells c e))
  refine ⟨h1.bel, h1.pb, h1.ok, h1.ap, h1.fh, fun p hp => ?_⟩
  rcases List.mem_cons.1 hp with rfl | hp
  · exact ⟨Blk.new w c e _ rfl, fun hf => by have := (h.fh _ hf).2.1; omega, fun r hr e => by have := (h.lt hr _ e).2; omega⟩
  · exact h1.bk p hp
/-- A block that is known whole. -/
theorem RQ.blk (h : RQ P F w0 bs w rs) {g : Nat} {c : List Value} (hB : Blk w g c) (hF : ¬ F g) (hr : ∀ r ∈ rs, r.v.ownBlock ≠ some g) : RQ P F w0 ((g, c) :: bs) w rs :=
  ⟨h.bel, h.pb, h.ok, h.ap, h.fh, fun p hp => by
    rcases List.mem_cons.1 hp with rfl | hp
    · exact ⟨hB, hF, hr⟩
    · exact h.bk p hp⟩
/-- A new row. -/
theorem RQ.nil (h : RQ P F w0 bs w rs) {X : Type} {E : El X} (Fe : ElT E) : RQ P F w0 bs w (⟨X, E, Fe, .slice none 0 0, []⟩ :: rs) := by
  have hn : ∀ b, (Value.slice none 0 0).ownBlock ≠ some b := fun b => by simp [Value.ownBlock]
  refine ⟨h.bel, fun b hb => ⟨(h.pb b hb).1, (h.pb b hb).2.1, fun r hr => ?_⟩, fun r hr => ?_, List.pairwise_cons.2 ⟨fun s _ b hb => absurd hb (hn b), h.ap⟩, fun b hb => ⟨(h.fh b hb).1, (h.fh b hb).2.1, fun r hr => ?_⟩, fun p hp => ⟨(h.bk p hp).1, (h.bk p hp).2.1, fun r hr => ?_⟩⟩
  · rcases List.mem_cons.1 hr with rfl | hr
    · exact hn b
    · exact (h.pb b hb).2.2 r hr
  · rcases List.mem_cons.1 hr with rfl | hr
    · exact OwnXQ.nil _ _ _ _
    · exact h.ok r hr
  · rcases List.mem_cons.1 hr with rfl | hr
    · exact hn b
    · exact (h.fh b hb).2.2 r hr
  · rcases List.mem_cons.1 hr with rfl | hr
    · exact hn _
    · exact (h.bk p hp).2.2 r hr
/-- Only the places matter. -/
theorem RQ.perm (h : RQ P F w0 bs w rs) {rs' : List Rw} (hp : rs.Perm rs') : RQ P F w0 bs w rs' := by
  have hm : ∀ r, r ∈ rs' → r ∈ rs := fun r hr => hp.mem_iff.2 hr
  refine ⟨h.bel, fun b hb => ⟨(h.pb b hb).1, (h.pb b hb).2.1, fun r hr => (h.pb b hb).2.2 r (hm r hr)⟩, fun r hr => h.ok r (hm r hr), ?_, fun b hb => ⟨(h.fh b hb).1, (h.fh b hb).2.1, fun r hr => (h.fh b hb).2.2 r (hm r hr)⟩, fun p hp' => ⟨(h.bk p hp').1, (h.bk p hp').2.1, fun r hr => (h.bk p hp').2.2 r (hm r hr)⟩⟩
  exact hp.pairwise h.ap fun {r s} hrs b hb e => hrs b e hb
/-- One row is grown. -/
theorem RQ.grown {l1 l2 : List Rw} {X : Type} {E : El X} {Fe : ElT E} {v v' : Value} {xs xs' : List X} (h : RQ P F w0 bs w (l1 ++ ⟨X, E, Fe, v, xs⟩ :: l2)) {w' : World} (hg : w.grownBy w' v.ownBlock)
    (ho : OwnXQ E Fe.e P w0.heap.size w' v' xs') (hv : ∀ b, v'.ownBlock = some b → v.ownBlock = some b ∨ w.heap.size ≤ b) : RQ P F w0 bs w' (l1 ++ ⟨X, E, Fe, v', xs'⟩ :: l2) := by
  have hmr : (⟨X, E, Fe, v, xs⟩ : Rw) ∈ l1 ++ ⟨X, E, Fe, v, xs⟩ :: l2 := by simp
  have hmo : ∀ r, (r ∈ l1 ∨ r ∈ l2) → r ∈ l1 ++ (⟨X, E, Fe, v, xs⟩ : Rw) :: l2 := fun r hr => by
    rcases hr with hr | hr <;> simp [hr]
  have hsp : ∀ r, r ∈ l1 ++ (⟨X, E, Fe, v', xs'⟩ : Rw) :: l2 → r = ⟨X, E, Fe, v', xs'⟩ ∨ (r ∈ l1 ∨ r ∈ l2) := fun r hr => by
    rcases List.mem_append.1 hr with hr | hr
    · exact .inr (.inl hr)
    · rcases List.mem_cons.1 hr with hr | hr
      · exact .inl hr
      · exact .inr (.inr hr)
  obtain ⟨a1, a2, a3⟩ := List.pairwise_append.1 h.ap
  obtain ⟨a4, a5⟩ := List.pairwise_cons.1 a2
  have hother : ∀ r, (r ∈ l1 ∨ r ∈ l2) → ∀ b, r.v.ownBlock = some b → v.ownBlock ≠ some b := fun r hr b hb e => by
    rcases hr with hr | hr
    · exact a3 r hr _ (List.mem_cons_self ..) b hb e
    · exact a4 r hr b e hb
  have hnew : ∀ b, b < w.heap.size → v.ownBlock ≠ some b → v'.ownBlock ≠ some b := fun b hb hn e => by
    rcases hv b e with h1 | h1
    · exact hn h1
    · omega
  have hrowl := fun b hb => (h.lt hmr b hb).1
  have hsz := hg.size
  refine ⟨grown_below h.bel hg h.bel.size hrowl, fun b hb => ⟨by have := (h.pb b hb).1; omega, (h.pb b hb).2.1, fun r hr => ?_⟩, fun r hr => ?_, ?_, fun b hb => ⟨(h.fh b hb).1, by have := (h.fh b hb).2.1; omega, fun r hr => ?_⟩, fun p hp => ⟨?_, (h.bk p hp).2.1, fun r hr => ?_⟩⟩
  · rcases hsp r hr with rfl | hr
    · exact hnew b (h.pb b hb).1 ((h.pb b hb).2.2 _ hmr)
    · exact (h.pb b hb).2.2 r (hmo r hr)
  · rcases hsp r hr with rfl | hr
    · exact ho
    · refine OwnXQ.to (h.ok r (hmo r hr)) hg.size fun b hb hlt => hg.block b hlt fun e => ?_
      rcases hb with hb | hb
      · exact (h.pb b hb).2.2 _ hmr e.symm
      · exact hother r hr b hb e.symm
  · refine List.pairwise_append.2 ⟨a1, List.pairwise_cons.2 ⟨fun s hs b hb e => ?_, a5⟩, fun r hr s hs b hb e => ?_⟩
    · rcases hv b hb with h1 | h1
      · exact a4 s hs b h1 e
      · have := (h.lt (hmo s (.inr hs)) b e).2; omega
    · rcases List.mem_cons.1 hs with rfl | hs
      · rcases hv b e with h1 | h1
        · exact a3 r hr _ (List.mem_cons_self ..) b hb h1
        · have := (h.lt (hmo r (.inl hr)) b hb).2; omega
      · exact a3 r hr s (List.mem_cons_of_mem _ hs) b hb e
  · rcases hsp r hr with rfl | hr
    · exact hnew b (h.fh b hb).2.1 ((h.fh b hb).2.2 _ hmr)
    · exact (h.fh b hb).2.2 r (hmo r hr)
  · have h1 := h.bk p hp
    exact h1.1.heap (hg.block p.1 h1.1.lt fun e => h1.2.2 _ hmr e.symm)
  · rcases hsp r hr with rfl | hr
    · exact hnew p.1 (h.bk p hp).1.lt ((h.bk p hp).2.2 _ hmr)
    · exact (h.bk p hp).2.2 r (hmo r hr)
/-- What stays when a row is grown. -/
theorem RQ.stay {l1 l2 : List Rw} {r : Rw} (h : RQ P F w0 bs w (l1 ++ r :: l2)) {w' : World} (hg : w.grownBy w' r.v.ownBlock) (b : Nat) (hb : P b ∨ F b) : w'.heap[b]? = w.heap[b]? := by
  have hmr : r ∈ l1 ++ r :: l2 := by simp
  rcases hb with hb | hb
  · exact hg.block b (h.pb b hb).1 fun e => (h.pb b hb).2.2 _ hmr e.symm
  · exact hg.block b (h.fh b hb).2.1 fun e => (h.fh b hb).2.2 _ hmr e.symm
theorem RQ.stayR {l1 l2 : List Rw} {r : Rw} (h : RQ P F w0 bs w (l1 ++ r :: l2)) {w' : World} (hg : w.grownBy w' r.v.ownBlock) {B : Nat} {room : Int} {H : HS} (hR : HeapR F w B room H) : HeapR F w' B room H :=
  hR.to hg.size (fun _ h => h) fun b hb _ => h.stay hg b (.inr hb)
/-- A new block doesn't touch what is tracked. -/
theorem RQ.heapR {B : Nat} {room : Int} {H : HS} (h : RQ P F w0 bs w rs) (hR : HeapR F w B room H) {w' : World} (hl : w.heap.size ≤ w'.heap.size) (hc : ∀ b, F b → w'.heap[b]? = w.heap[b]?) : HeapR F w' B room H := hR.to hl (fun _ h => h) fun b hb _ => hc b hb
theorem RQ.rx {r : Rw} (h : RQ P F w0 bs w rs) (hr : r ∈ rs) : RX r.E (fun b => r.v.ownBlock = some b) P w r.l r.v := (OwnXQ.rx (h.ok r hr)).mono (fun _ h => h) fun b hb => hb.1
theorem RQ.own {r : Rw} (h : RQ P F w0 bs w rs) (hr : r ∈ rs) : OwnXQ r.E r.F.e P w0.heap.size w r.v r.l := h.ok r hr
theorem RQ.cell {g : Nat} {c : List Value} (h : RQ P F w0 bs w rs) (hg : (g, c) ∈ bs) (j : Nat) (u : Value) (hu : c[j]? = some u) : w.cell? ⟨g, j, none⟩ = some u := (h.bk _ hg).1.cell j u hu
end
section
variable {o : Oper} {a : Act} {Q : Exit → Act → World → Prop} {K : Act → World → Prop} {w : World}
/-- 'append(s, x)' of one element that lies in a block of its own. -/
theorem wp_growQ (s x : Operand) {X : Type} {E : El X} (Fe : ElT E) (ho : o.op = .call { callee := .builtin .append, args := #[s, x], argTypes := #[Fe.sl, Fe.sl] })
    {P F : Nat → Prop} {w0 : World} {bs : List (Nat × List Value)} (l1 l2 : List Rw) {v : Value} {xs : List X} {y : X} {g0 n : Nat} {c : List Value}
    (hs : a.eval s = v) (hx : a.eval x = .slice (some ⟨g0, 0, none⟩) 1 1) (h : RQ P F w0 bs w (l1 ++ ⟨X, E, Fe, v, xs⟩ :: l2)) (hg : (g0, c) ∈ bs) (ht : E.C P w y c) (hnl : xs.length = n) (hn : n + 1 ≤ 274877906944)
    (hK : ∀ g o' cap w', RQ P F w0 bs w' (l1 ++ ⟨X, E, Fe, .slice (some ⟨g, o', none⟩) (n + 1) cap, xs ++ [y]⟩ :: l2) → w.grownBy w' v.ownBlock → K (a.put o.dst (.slice (some ⟨g, o', none⟩) (n + 1) cap)) w') :
    Oper.wp Try.prog o a w K Q := by
  subst hnl
  have hmr : (⟨X, E, Fe, v, xs⟩ : Rw) ∈ l1 ++ ⟨X, E, Fe, v, xs⟩ :: l2 := by simp
  obtain ⟨i, hi, hiz, his, hib⟩ := info_parts Fe.info
  have hb := Fe.hb
  have hown : OwnXQ E Fe.e P w0.heap.size w v xs := h.ok _ hmr
  have hpb := h.pb
  have hbel := h.bel.size
  obtain ⟨cs, ho1, hC⟩ := hown
  have hx1 : E.C (fun b => P b ∧ b < w.heap.size ∧ v.ownBlock ≠ some b) w y c := E.to ht (fun b hb hl => ⟨hb, hl, (hpb b hb).2.2 _ hmr⟩) fun _ _ _ => rfl
  obtain ⟨g, o', cap, w', hr, h1, h2, h3⟩ := run_append_q (P := Try.prog) w Fe.sl o.type w0.heap.size Fe.e i Fe.z E.k Fe.bytes Fe.hund hi hiz his hib Fe.hzs Fe.hk v _ cs ho1 ⟨g0, 0, none⟩ 1 1 c (by rw [E.len ht]; simp) (fun j u hu => by
    have := (h.bk _ hg).1.cell j u hu
    rw [Addr.add_lit, Nat.zero_add]; exact this) (E.one ht) (by decide) (by unfold maxLen; omega) (Nat.le_trans (Nat.mul_le_mul hn hb) (by decide)) hbel
  have hsz := h2.size
  have hblk : ∀ b, (P b ∧ b < w.heap.size ∧ v.ownBlock ≠ some b) → b < w.heap.size → w'.heap[b]? = w.heap[b]? := fun b hb hlt => h2.block b hlt fun e => hb.2.2 e.symm
  have hO : OwnXQ E Fe.e P w0.heap.size w' (.slice (some ⟨g, o', none⟩) (xs.length + 1) cap) (xs ++ [y]) := by
    refine ⟨cs ++ c, by simpa using h1, ?_⟩
    have hcc : CellsX E (fun b => P b ∧ b < w.heap.size ∧ v.ownBlock ≠ some b) w' (xs ++ [y]) (cs ++ c) := (hC.to (fun _ h _ => h) hblk).append (CellsX.single (E.to hx1 (fun _ h _ => h) hblk))
    refine hcc.to (fun b hb _ => ⟨hb.1, by have := hb.2.1; omega, fun e => ?_⟩) fun _ _ _ => rfl
    have e1 : g = b := by simpa [Value.ownBlock] using e
    subst e1
    rcases h3 with h5 | h5
    · exact hb.2.2 h5
    · have := hb.2.1; omega
  have hv : ∀ b, (Value.slice (some ⟨g, o', none⟩) (xs.length + 1) cap).ownBlock = some b → v.ownBlock = some b ∨ w.heap.size ≤ b := fun b hb => by
    have e1 : g = b := by simpa [Value.ownBlock] using hb
    subst e1
    rcases h3 with h5 | h5
    · exact .inl h5
    · exact .inr (by omega)
  unfold Oper.wp execOp
  simp only [ho, resolve, invoke, builtin, Sem.run_bind, Sem.run_pure, Result.andThen_ok, List.map_toArray, List.map_cons, List.map_nil, hs, hx, hr]
  exact hK g o' cap w' (h.grown h2 hO hv) h2
/-- The same in a plain region. -/
theorem append_growQ {ops : Array Oper} {rest : List Oper} (s x : Operand) (hgd : o.guard = none) {X : Type} {E : El X} (Fe : ElT E) (ho : o.op = .call { callee := .builtin .append, args := #[s, x], argTypes := #[Fe.sl, Fe.sl] })
    {P F : Nat → Prop} {w0 : World} {bs : List (Nat × List Value)} (l1 l2 : List Rw) {v : Value} {xs : List X} {y : X} {g0 n : Nat} {c : List Value}
    (hs : a.eval s = v) (hx : a.eval x = .slice (some ⟨g0, 0, none⟩) 1 1) (h : RQ P F w0 bs w (l1 ++ ⟨X, E, Fe, v, xs⟩ :: l2)) (hg : (g0, c) ∈ bs) (ht : E.C P w y c) (hnl : xs.length = n) (hn : n + 1 ≤ 274877906944)
    (hK : ∀ g o' cap w', RQ P F w0 bs w' (l1 ++ ⟨X, E, Fe, .slice (some ⟨g, o', none⟩) (n + 1) cap, xs ++ [y]⟩ :: l2) → w.grownBy w' v.ownBlock → wpList Try.prog ops Q rest (a.put o.dst (.slice (some ⟨g, o', none⟩) (n + 1) cap)) w') :
    wpList Try.prog ops Q (o :: rest) a w :=
  wpList_plain hgd fun _ hK' => wp_growQ s x Fe ho l1 l2 hs hx h hg ht hnl hn fun g o' cap w' h1 h2 => hK' _ _ (hK g o' cap w' h1 h2)
end
end Go.Proofs.Ytedfepnekjjmnaa

/-
  Nodes of the document in memory: pointers as elements, a node's cells. No condition.
-/
namespace Go.Proofs.Ytedfepnekjjmnaa
open Go.RowKit
set_option linter.unusedSimpArgs false
set_option linter.unusedVariables false
set_option maxRecDepth 100000

def optr (o : Option Nat) : Value := .pointer (o.map fun b => ⟨b, 0, none⟩)
theorem optr_some (b : Nat) : optr (some b) = ptr b := rfl
def ptrE : El (Option Nat) where
  k := 1
  C := fun _ _ o cs => cs = [optr o]
  len := by rintro S w x cs rfl; rfl
  one := by rintro S w x cs rfl; simp [optr, Value.oneCell']
  «to» := by rintro S S' w w' x cs rfl _ _; rfl
def ptrF : ElT ptrE where
  e := 82
  sl := 79
  bytes := 8
  z := .pointer none
  hund := Try.underlying79
  info := by kernel_rfl
  hzs := rfl
  hk := by decide
  hb := by decide
def rN (v : Value) (l : List (Option Nat)) : Rw := ⟨Option Nat, ptrE, ptrF, v, l⟩
theorem cells_ptrE {S : Nat → Prop} {w : World} : ∀ {os : List (Option Nat)} {cs : List Value}, CellsX ptrE S w os cs ↔ cs = os.map optr
  | [], cs => Iff.rfl
  | o :: os, cs => by
    constructor
    · rintro ⟨c, cs', rfl, rfl, h⟩
      rw [cells_ptrE.1 h]; rfl
    · rintro rfl
      exact ⟨[optr o], os.map optr, rfl, rfl, cells_ptrE.2 rfl⟩
/-- A node in its block; its kids' row in a block of P. -/
structure NodeR (P : Nat → Prop) (w : World) (b : Nat) (d : NodeD) : Prop where
  p : P b
  c : IsC w b
  ex : ∃ a cap, Blk w b [.int .i64 d.1, .slice a d.2.length cap] ∧ RX ptrE P (fun _ => False) w d.2 (.slice a d.2.length cap)
theorem NodeR.to {P P' : Nat → Prop} {w w' : World} {b : Nat} {d : NodeD} (h : NodeR P w b d) (hs : ∀ b, P b → b < w.heap.size → P' b) (hc : ∀ b, P b → b < w.heap.size → w'.heap[b]? = w.heap[b]?) : NodeR P' w' b d := by
  obtain ⟨hp, h1, a, cap, h2, h3⟩ := h
  have e := hc b hp h2.lt
  exact ⟨hs b hp h2.lt, h1.to e, a, cap, h2.heap e, h3.to hs (fun _ h _ => h) fun b hb hl => hc b (hb.elim (fun h => h.elim) id) hl⟩
/-- Nodes, with their kids. -/
structure NodesR (P : Nat → Prop) (w : World) (N : Nat → NodeD) (D : List Nat) : Prop where
  at' : ∀ b ∈ D, NodeR P w b (N b)
  kid : ∀ b ∈ D, ∀ c, some c ∈ (N b).2 → c ∈ D
  few : ∀ b ∈ D, (N b).2.length ≤ 1000 ∧ (N b).1 ≤ 1001
theorem NodesR.to {P P' : Nat → Prop} {w w' : World} {N : Nat → NodeD} {D : List Nat} (h : NodesR P w N D) (hs : ∀ b, P b → b < w.heap.size → P' b) (hc : ∀ b, P b → b < w.heap.size → w'.heap[b]? = w.heap[b]?) : NodesR P' w' N D :=
  ⟨fun b hb => (h.at' b hb).to hs hc, h.kid, h.few⟩
theorem ReachN.mem {P : Nat → Prop} {w : World} {N : Nat → NodeD} {D : List Nat} (h : NodesR P w N D) {ns : List (Option Nat)} (hn : ∀ b, some b ∈ ns → b ∈ D) {b : Nat} (hb : ReachN N ns b) : b ∈ D := by
  induction hb with
  | root b hm => exact hn b hm
  | kid b c _ hm ih => exact h.kid b ih c hm
theorem ownsQ.base {w : World} {b1 b2 : Nat} {e : TypeId} {size n : Nat} {v : Value} {xs : List Value} (h : ownsQ w b1 e size v n xs) (hb : b2 ≤ b1) : ownsQ w b2 e size v n xs := by
  refine ⟨h.1, h.2.imp id ?_⟩
  rintro ⟨g, o, cap, cur, rfl, r1, r⟩
  exact ⟨g, o, cap, cur, rfl, Nat.le_trans hb r1, r⟩
theorem OwnXQ.base {X : Type} {E : El X} {e : TypeId} {P : Nat → Prop} {b1 b2 : Nat} {w : World} {v : Value} {xs : List X} (h : OwnXQ E e P b1 w v xs) (hb : b2 ≤ b1) : OwnXQ E e P b2 w v xs := by
  obtain ⟨cs, h1, h2⟩ := h
  exact ⟨cs, h1.base hb, h2⟩
/-- A row that is there already, beside the others. -/
theorem RQ.addRow {P F : Nat → Prop} {w0 w : World} {bs : List (Nat × List Value)} {rs : List Rw} (h : RQ P F w0 bs w rs) (r : Rw) (ho : OwnXQ r.E r.F.e P w0.heap.size w r.v r.l) (hn : ∀ b, r.v.ownBlock = some b → ¬ P b ∧ ¬ F b ∧ (∀ s ∈ rs, s.v.ownBlock ≠ some b) ∧ ∀ p ∈ bs, p.1 ≠ b) : RQ P F w0 bs w (r :: rs) := by
  refine ⟨h.bel, fun b hb => ⟨(h.pb b hb).1, (h.pb b hb).2.1, fun s hs e => ?_⟩, fun s hs => ?_, List.pairwise_cons.2 ⟨fun s hs b hb => (hn b hb).2.2.1 s hs, h.ap⟩, fun b hb => ⟨(h.fh b hb).1, (h.fh b hb).2.1, fun s hs e => ?_⟩, fun p hp => ⟨(h.bk p hp).1, (h.bk p hp).2.1, fun s hs e => ?_⟩⟩
  · rcases List.mem_cons.1 hs with rfl | hs
    · exact (hn b e).1 hb
    · exact (h.pb b hb).2.2 s hs e
  · rcases List.mem_cons.1 hs with rfl | hs
    · exact ho
    · exact h.ok s hs
  · rcases List.mem_cons.1 hs with rfl | hs
    · exact (hn b e).2.1 hb
    · exact (h.fh b hb).2.2 s hs e
  · rcases List.mem_cons.1 hs with rfl | hs
    · exact (hn _ e).2.2.2 p hp rfl
    · exact (h.bk p hp).2.2 s hs e
end Go.Proofs.Ytedfepnekjjmnaa

/-
  slices.Clone at words and at pointers to nodes. No condition but a bound.
-/
namespace Go.Proofs.Ytedfepnekjjmnaa
open Go.RowKit
set_option linter.unusedSimpArgs false
set_option linter.unusedVariables false
set_option maxRecDepth 100000

set_option maxHeartbeats 1000000 in
theorem cloneW_c (R S : Nat → Prop) (xs : List Wrd) (w : World) (v : Value) (hv : RX wrdE R S w xs v) (hlen : xs.length ≤ 1099511627776) :
    Calls Try.prog 50 #[v] w fun e w' => ∃ v', e = .returned v' ∧ OwnXQ wrdE wrdF.e S w.heap.size w' v' xs ∧ Below w.heap.size w w' := by
  obtain ⟨a, cap, cs, rfl, hcap, hC, hj⟩ := hv
  obtain ⟨i0, hi, hz0, hz1, hz2⟩ := info_parts wrdF.info
  have hq : ∀ (w : World) (a : Option Addr) (n c n' c' : Nat), (binOp .eql 67 (.slice a n c) (.slice none n' c')).run Try.prog w = .ok (.bool a.isNone) w := fun w a n c n' c' => Lib.run_eql_slice_nil w _ _ a n c n' c' Try.underlying67
  have HJ := Lib.hid hj; have HC := Lib.hid hC; have HI := Lib.hid (⟨hi, hz0, hz1, hz2⟩ : _ ∧ _ ∧ _ ∧ _)
  have hcl := hC.length
  clear hj hC hi hz0 hz1 hz2
  cases a with
  | none =>
    obtain rfl : cap = 0 := hcap.2 rfl
    obtain rfl : xs = [] := List.eq_nil_of_length_eq_zero (by have := hcap.1; omega)
    go_enter Try.func50, Try.ntmps50
    go_wp2_with fail
    go_ret
    exact ⟨_, rfl, OwnXQ.nil _ _ _ _, Below.refl _ _⟩
  | some ad =>
    go_enter Try.func50, Try.ntmps50
    go_wp2_with (at_builtin; refine wpList_append_own _ rfl _ _ 67 rfl w.heap.size wrdF.e i0 wrdF.z wrdE.k wrdF.bytes wrdF.hund HI.out.1 HI.out.2.1 HI.out.2.2.1 HI.out.2.2.2 wrdF.hzs wrdF.hk _ _ _ rfl (World.ownsRow_made w #[] 0 (Nat.le_refl _) (Nat.zero_le _) (by simp)) ad xs.length cap cs rfl ?qc1 ?qc2 ?qc3 ?qc4 ?qc5 ?qc6 ?_)
    case qc1 => exact hcl
    case qc2 =>
      intro j u hu
      obtain ⟨b, o, e, -, h⟩ := HJ.out j u hu
      cases e
      rw [Addr.add_lit]
      exact Lib.cell?_alloc_some _ h
    case qc3 => exact HC.out.oneCell
    case qc4 => unfold maxLen; omega
    case qc5 => exact Nat.le_trans (Nat.mul_le_mul (show 0 + xs.length ≤ 1099511627776 by omega) (Nat.le_refl _)) (by decide)
    case qc6 => simp
    intro v' w1 hown hgrow hnil
    have HO := Lib.hid hown; have HG := Lib.hid hgrow; clear hown hgrow hnil
    go_wp2_with fail
    go_ret
    have hB : Below w.heap.size w w1 := ((Below.refl _ w).alloc (Nat.le_refl _) _).grown HG.out (by simp) (by intro k hk; simp [Value.ownBlock] at hk; omega)
    have hs := hB.size
    refine ⟨v', rfl, ⟨cs, ?_, ?_⟩, hB⟩
    · have h := ownsQ_of HO.out
      simpa using h
    · refine HC.out.to (fun b hb hl => ⟨hb, by omega, fun e => ?_⟩) fun b _ hl => hB.block b hl
      have := (HO.out.lt b e).1
      omega

set_option maxHeartbeats 1000000 in
theorem cloneN_c (R S : Nat → Prop) (xs : List (Option Nat)) (w : World) (v : Value) (hv : RX ptrE R S w xs v) (hlen : xs.length ≤ 1099511627776) :
    Calls Try.prog 90 #[v] w fun e w' => ∃ v', e = .returned v' ∧ OwnXQ ptrE ptrF.e S w.heap.size w' v' xs ∧ Below w.heap.size w w' := by
  obtain ⟨a, cap, cs, rfl, hcap, hC, hj⟩ := hv
  obtain ⟨i0, hi, hz0, hz1, hz2⟩ := info_parts ptrF.info
  have hq : ∀ (w : World) (a : Option Addr) (n c n' c' : Nat), (binOp .eql 79 (.slice a n c) (.slice none n' c')).run Try.prog w = .ok (.bool a.isNone) w := fun w a n c n' c' => Lib.run_eql_slice_nil w _ _ a n c n' c' Try.underlying79
  have HJ := Lib.hid hj; have HC := Lib.hid hC; have HI := Lib.hid (⟨hi, hz0, hz1, hz2⟩ : _ ∧ _ ∧ _ ∧ _)
  have hcl := hC.length
  clear hj hC hi hz0 hz1 hz2
  cases a with
  | none =>
    obtain rfl : cap = 0 := hcap.2 rfl
    obtain rfl : xs = [] := List.eq_nil_of_length_eq_zero (by have := hcap.1; omega)
    go_enter Try.func90, Try.ntmps90
    go_wp2_with fail
    go_ret
    exact ⟨_, rfl, OwnXQ.nil _ _ _ _, Below.refl _ _⟩
  | some ad =>
    go_enter Try.func90, Try.ntmps90
    go_wp2_with (at_builtin; refine wpList_append_own _ rfl _ _ 79 rfl w.heap.size ptrF.e i0 ptrF.z ptrE.k ptrF.bytes ptrF.hund HI.out.1 HI.out.2.1 HI.out.2.2.1 HI.out.2.2.2 ptrF.hzs ptrF.hk _ _ _ rfl (World.ownsRow_made w #[] 0 (Nat.le_refl _) (Nat.zero_le _) (by simp)) ad xs.length cap cs rfl ?qc1 ?qc2 ?qc3 ?qc4 ?qc5 ?qc6 ?_)
    case qc1 => exact hcl
    case qc2 =>
      intro j u hu
      obtain ⟨b, o, e, -, h⟩ := HJ.out j u hu
      cases e
      rw [Addr.add_lit]
      exact Lib.cell?_alloc_some _ h
    case qc3 => exact HC.out.oneCell
    case qc4 => unfold maxLen; omega
    case qc5 => exact Nat.le_trans (Nat.mul_le_mul (show 0 + xs.length ≤ 1099511627776 by omega) (Nat.le_refl _)) (by decide)
    case qc6 => simp
    intro v' w1 hown hgrow hnil
    have HO := Lib.hid hown; have HG := Lib.hid hgrow; clear hown hgrow hnil
    go_wp2_with fail
    go_ret
    have hB : Below w.heap.size w w1 := ((Below.refl _ w).alloc (Nat.le_refl _) _).grown HG.out (by simp) (by intro k hk; simp [Value.ownBlock] at hk; omega)
    have hs := hB.size
    refine ⟨v', rfl, ⟨cs, ?_, ?_⟩, hB⟩
    · have h := ownsQ_of HO.out
      simpa using h
    · refine HC.out.to (fun b hb hl => ⟨hb, by omega, fun e => ?_⟩) fun b _ hl => hB.block b hl
      have := (HO.out.lt b e).1
      omega
end Go.Proofs.Ytedfepnekjjmnaa

/-
  Live nodes: what the loop of the reference's count keeps. Plain facts. No condition.
-/
namespace Go.Proofs.Ytedfepnekjjmnaa
open Go.RowKit
set_option linter.unusedSimpArgs false
set_option linter.unusedVariables false

structure LV (N : Nat → NodeD) (ns : List (Option Nat)) (S : List Nat) (todo : List (Option Nat)) (n : Nat) : Prop where
  nd : S.Nodup
  sum : n = (S.map fun b => (N b).1).sum
  sd : ∀ b ∈ S, ReachN N ns b
  td : ∀ b, some b ∈ todo → ReachN N ns b
  cl : ∀ b ∈ S, ∀ c, some c ∈ (N b).2 → c ∈ S ∨ some c ∈ todo
  rt : ∀ b, some b ∈ ns → b ∈ S ∨ some b ∈ todo
section
variable {N : Nat → NodeD} {ns : List (Option Nat)} {S : List Nat} {todo : List (Option Nat)} {n : Nat}
theorem LV.start (N : Nat → NodeD) (ns : List (Option Nat)) : LV N ns [] ns 0 := ⟨List.nodup_nil, rfl, by simp, fun b h => .root b h, by simp, fun b h => .inr h⟩
theorem LV.skip {o : Option Nat} (h : LV N ns S (o :: todo) n) (ho : ∀ b, o = some b → b ∈ S) : LV N ns S todo n := by
  have key : ∀ c, some c ∈ o :: todo → c ∈ S ∨ some c ∈ todo := fun c hc => by
    rcases List.mem_cons.1 hc with e | hc
    · exact .inl (ho c e.symm)
    · exact .inr hc
  exact ⟨h.nd, h.sum, h.sd, fun b hb => h.td b (List.mem_cons_of_mem _ hb), fun b hb c hc => (h.cl b hb c hc).elim .inl (key c), fun b hb => (h.rt b hb).elim .inl (key b)⟩
theorem LV.take {x : Nat} (h : LV N ns S (some x :: todo) n) (hx : x ∉ S) : LV N ns (S ++ [x]) (todo ++ (N x).2) (n + (N x).1) := by
  have hr := h.td x (List.mem_cons_self ..)
  have key : ∀ c, (c ∈ S ∨ some c ∈ some x :: todo) → c ∈ S ++ [x] ∨ some c ∈ todo ++ (N x).2 := fun c hc => by
    rcases hc with hc | hc
    · exact .inl (by simp [hc])
    · rcases List.mem_cons.1 hc with e | hc
      · cases e; exact .inl (by simp)
      · exact .inr (by simp [hc])
  refine ⟨?_, ?_, fun b hb => ?_, fun b hb => ?_, fun b hb c hc => ?_, fun b hb => key b (h.rt b hb)⟩
  · refine List.nodup_append.2 ⟨h.nd, by simp, fun a ha b hb e => ?_⟩
    obtain rfl : b = x := by simpa using hb
    exact hx (e ▸ ha)
  · rw [h.sum]; simp
  · rcases List.mem_append.1 hb with hb | hb
    · exact h.sd b hb
    · obtain rfl : b = x := by simpa using hb
      exact hr
  · rcases List.mem_append.1 hb with hb | hb
    · exact h.td b (List.mem_cons_of_mem _ hb)
    · exact .kid x b hr hb
  · rcases List.mem_append.1 hb with hb | hb
    · exact key c (h.cl b hb c hc)
    · obtain rfl : b = x := by simpa using hb
      exact .inr (by simp [hc])
theorem LV.done (h : LV N ns S [] n) (b : Nat) : b ∈ S ↔ ReachN N ns b := by
  refine ⟨h.sd b, fun hb => ?_⟩
  induction hb with
  | root b hm => exact (h.rt b hm).elim id fun h => by cases h
  | kid b c _ hm ih => exact (h.cl b ih c hm).elim id fun h => by cases h
theorem nodup_le {S D : List Nat} (hn : S.Nodup) (hs : ∀ b ∈ S, b ∈ D) : S.length ≤ D.length := by
  have h := sum_le (fun _ => 1) S D hn hs
  have e : ∀ l : List Nat, (l.map fun _ => 1).sum = l.length := fun l => by induction l with
    | nil => rfl
    | cons x l ih => simp only [List.map_cons, List.sum_cons, List.length_cons, ih]; omega
  rwa [e, e] at h
theorem sum_few {S : List Nat} {f : Nat → Nat} {k : Nat} (h : ∀ b ∈ S, f b ≤ k) : (S.map f).sum ≤ k * S.length := by
  induction S with
  | nil => simp
  | cons s S ih =>
    have h1 := h s (List.mem_cons_self ..)
    have h2 := ih fun b hb => h b (List.mem_cons_of_mem _ hb)
    simp only [List.map_cons, List.sum_cons, List.length_cons, Nat.mul_succ]
    omega
end
/-- How many a map holds. -/
def mapSz (w : World) (r : Nat) : Nat := match w.heap[r]? with
  | some (.map es _) => es.size
  | _ => 0
theorem PMap.sz {w : World} {r : Nat} {S : List Nat} (h : PMap w r S) : mapSz w r = S.length := by
  obtain ⟨es, c, h1, h2⟩ := h
  unfold mapSz
  rw [h1]
  show es.size = _
  rw [← h2.len]; simp
def lenV : Value → Nat
  | .slice _ n _ => n
  | _ => 0
section
variable {o : Oper} {a : Act} {Q : Exit → Act → World → Prop} {K : Act → World → Prop} {w : World}
/-- 'append(s, x...)' of a row that lies elsewhere. -/
theorem wp_manyQ (s x : Operand) {X : Type} {E : El X} (Fe : ElT E) (ho : o.op = .call { callee := .builtin .append, args := #[s, x], argTypes := #[Fe.sl, Fe.sl] })
    {P F R S : Nat → Prop} {w0 : World} {bs : List (Nat × List Value)} (l1 l2 : List Rw) {v vx : Value} {xs ys : List X}
    (hs : a.eval s = v) (hx : a.eval x = vx) (h : RQ P F w0 bs w (l1 ++ ⟨X, E, Fe, v, xs⟩ :: l2)) (hy : RX E R S w ys vx) (hS : ∀ b, S b → P b) (hn : xs.length + ys.length ≤ 274877906944)
    (hK : ∀ v' w', RQ P F w0 bs w' (l1 ++ ⟨X, E, Fe, v', xs ++ ys⟩ :: l2) → w.grownBy w' v.ownBlock → (∃ a cap, v' = .slice a (xs.length + ys.length) cap) → K (a.put o.dst v') w') :
    Oper.wp Try.prog o a w K Q := by
  have hmr : (⟨X, E, Fe, v, xs⟩ : Rw) ∈ l1 ++ ⟨X, E, Fe, v, xs⟩ :: l2 := by simp
  obtain ⟨i, hi, hiz, his, hib⟩ := info_parts Fe.info
  have hb := Fe.hb
  have hown : OwnXQ E Fe.e P w0.heap.size w v xs := h.ok _ hmr
  have hpb := h.pb
  have hbel := h.bel.size
  obtain ⟨ax, capx, ds, rfl, hcx, hD, hj⟩ := hy
  by_cases h0 : ys.length = 0
  · obtain rfl : ys = [] := List.eq_nil_of_length_eq_zero h0
    obtain ⟨av, cv, hv, hcv⟩ := (OwnXQ.rx hown).form
    obtain rfl : ds = [] := hD
    have hsrc : Src Try.prog i.size Fe.sl (.slice ax 0 capx) 0 [] w := by
      cases ax with
      | none => exact Src.ofNil w Fe.hund capx
      | some ad => exact Src.ofSlice w Fe.hund ad 0 capx [] (by simp) (by simp) (by simp)
    have hr := run_append_nothing (P := Try.prog) w Fe.sl Fe.sl o.type Fe.e i Fe.hund hi av xs.length cv hcv.1 (.slice ax 0 capx) hsrc
    rw [← hv] at hr
    unfold Oper.wp execOp
    have hr' : (Builtin.append_ #[Fe.sl, Fe.sl] o.type #[v, .slice ax ([] : List X).length capx]).run Try.prog w = .ok v w := hr
    simp only [ho, resolve, invoke, builtin, Sem.run_bind, Sem.run_pure, Result.andThen_ok, List.map_toArray, List.map_cons, List.map_nil, hs, hx, hr']
    exact hK v w (by rw [List.append_nil]; exact h) ⟨rfl, rfl, rfl, Nat.le_refl _, fun _ _ _ => rfl⟩ ⟨av, cv, hv⟩
  obtain ⟨cs, ho1, hC⟩ := hown
  have hdl := hD.length
  have hk := Fe.hk
  have hdp : 0 < ds.length := by rw [hdl]; exact Nat.mul_pos (by omega) hk
  obtain ⟨b0, o0, rfl, -, -⟩ := hj 0 ds[0] (by simp)
  have hx1 : CellsX E (fun b => P b ∧ b < w.heap.size ∧ v.ownBlock ≠ some b) w ys ds := hD.to (fun b hb hl => ⟨hS b hb, hl, (hpb b (hS b hb)).2.2 _ hmr⟩) fun _ _ _ => rfl
  obtain ⟨g, o', cap, w', hr, h1, h2, h3⟩ := run_append_q (P := Try.prog) w Fe.sl o.type w0.heap.size Fe.e i Fe.z E.k Fe.bytes Fe.hund hi hiz his hib Fe.hzs Fe.hk v _ cs ho1 ⟨b0, o0, none⟩ ys.length capx ds hdl (fun j u hu => by
    obtain ⟨b, o1, e, -, hc⟩ := hj j u hu
    cases e
    rw [Addr.add_lit]; exact hc) hD.oneCell (by omega) (by unfold maxLen; omega) (Nat.le_trans (Nat.mul_le_mul hn hb) (by decide)) hbel
  have hsz := h2.size
  have hblk : ∀ b, (P b ∧ b < w.heap.size ∧ v.ownBlock ≠ some b) → b < w.heap.size → w'.heap[b]? = w.heap[b]? := fun b hb hlt => h2.block b hlt fun e => hb.2.2 e.symm
  have hO : OwnXQ E Fe.e P w0.heap.size w' (.slice (some ⟨g, o', none⟩) (xs.length + ys.length) cap) (xs ++ ys) := by
    refine ⟨cs ++ ds, by simpa using h1, ?_⟩
    have hcc : CellsX E (fun b => P b ∧ b < w.heap.size ∧ v.ownBlock ≠ some b) w' (xs ++ ys) (cs ++ ds) := (hC.to (fun _ h _ => h) hblk).append (hx1.to (fun _ h _ => h) hblk)
    refine hcc.to (fun b hb _ => ⟨hb.1, by have := hb.2.1; omega, fun e => ?_⟩) fun _ _ _ => rfl
    have e1 : g = b := by simpa [Value.ownBlock] using e
    subst e1
    rcases h3 with h5 | h5
    · exact hb.2.2 h5
    · have := hb.2.1; omega
  have hv : ∀ b, (Value.slice (some ⟨g, o', none⟩) (xs.length + ys.length) cap).ownBlock = some b → v.ownBlock = some b ∨ w.heap.size ≤ b := fun b hb => by
    have e1 : g = b := by simpa [Value.ownBlock] using hb
    subst e1
    rcases h3 with h5 | h5
    · exact .inl h5
    · exact .inr (by omega)
  unfold Oper.wp execOp
  simp only [ho, resolve, invoke, builtin, Sem.run_bind, Sem.run_pure, Result.andThen_ok, List.map_toArray, List.map_cons, List.map_nil, hs, hx, hr]
  exact hK _ w' (h.grown h2 hO hv) h2 ⟨_, _, rfl⟩
/-- 'm[x] = true' of a pointer that is not there. -/
theorem wp_putP (m x y : Operand) (hop : o.op = Op.mapUpdate 133 m x y) {r b : Nat} {S : List Nat} (hm : a.eval m = .map (some r)) (hx : a.eval x = ptr b) (hy : a.eval y = .bool true) (hM : PMap w r S) (hb : IsC w b) (hS : ∀ s ∈ S, IsC w s) (hn : b ∉ S)
    (hK : ∀ w', PMap w' r (S ++ [b]) → w.grownBy w' (some r) → K (a.put o.dst undef) w') : Oper.wp Try.prog o a w K Q := by
  obtain ⟨w1, hr, h1, h2⟩ := hM.put hb hS hn
  unfold Oper.wp
  simp [execOp, hop, hm, hx, hy, hr, Result.andThen]
  exact hK w1 h1 h2
end
/-- The head of a row of pointers. -/
theorem OwnXQ.headP {e : TypeId} {P : Nat → Prop} {base : Nat} {w : World} {v : Value} {o : Option Nat} {os : List (Option Nat)} (h : OwnXQ ptrE e P base w v (o :: os)) :
    ∃ g f cap, v = .slice (some ⟨g, f, none⟩) (os.length + 1) cap ∧ os.length + 1 ≤ cap ∧ w.cell? ⟨g, f, none⟩ = some (optr o) := by
  obtain ⟨x, cap, cs, rfl, hcap, ⟨c, cs', rfl, rfl, -⟩, hj⟩ := h.rx
  obtain ⟨g, f, rfl, -, h0⟩ := hj 0 _ rfl
  exact ⟨g, f, cap, rfl, hcap.1, h0⟩
theorem RQ.tailG {P F : Nat → Prop} {w0 w : World} {bs : List (Nat × List Value)} {l1 l2 : List Rw} {X : Type} {E : El X} {Fe : ElT E} {g f cap m : Nat} {x : X} {l : List X} (h : RQ P F w0 bs w (l1 ++ ⟨X, E, Fe, .slice (some ⟨g, f, none⟩) (m + 1) cap, x :: l⟩ :: l2)) (hm : l.length = m) :
    RQ P F w0 bs w (l1 ++ ⟨X, E, Fe, .slice (some ⟨g, f + E.k, none⟩) m (cap - 1), l⟩ :: l2) := by
  have hmr : (⟨X, E, Fe, .slice (some ⟨g, f, none⟩) (m + 1) cap, x :: l⟩ : Rw) ∈ l1 ++ ⟨X, E, Fe, .slice (some ⟨g, f, none⟩) (m + 1) cap, x :: l⟩ :: l2 := by simp
  have ho : OwnXQ E Fe.e P w0.heap.size w (.slice (some ⟨g, f, none⟩) (m + 1) cap) (x :: l) := h.ok _ hmr
  exact h.grown (w' := w) (v' := .slice (some ⟨g, f + E.k, none⟩) m (cap - 1)) (xs' := l) ⟨rfl, rfl, rfl, Nat.le_refl _, fun _ _ _ => rfl⟩ (ho.tailQ hm) fun b hb => .inl hb
theorem RQ.zeroG {P F : Nat → Prop} {w0 w : World} {bs : List (Nat × List Value)} {l1 l2 : List Rw} {X : Type} {E : El X} {Fe : ElT E} {g f cap m : Nat} {l : List X} (h : RQ P F w0 bs w (l1 ++ ⟨X, E, Fe, .slice (some ⟨g, f, none⟩) (m + 1) cap, l⟩ :: l2)) (hm : l.length = m + 1) :
    RQ P F w0 bs w (l1 ++ ⟨X, E, Fe, .slice (some ⟨g, f, none⟩) 0 0, []⟩ :: l2) := by
  have hmr : (⟨X, E, Fe, .slice (some ⟨g, f, none⟩) (m + 1) cap, l⟩ : Rw) ∈ l1 ++ ⟨X, E, Fe, .slice (some ⟨g, f, none⟩) (m + 1) cap, l⟩ :: l2 := by simp
  have ho : OwnXQ E Fe.e P w0.heap.size w (.slice (some ⟨g, f, none⟩) (m + 1) cap) l := h.ok _ hmr
  exact h.grown (w' := w) (v' := .slice (some ⟨g, f, none⟩) 0 0) (xs' := []) ⟨rfl, rfl, rfl, Nat.le_refl _, fun _ _ _ => rfl⟩ (ho.zeroQ hm) fun b hb => .inl hb
/-- A block of F has changed. -/
theorem RQ.turned {P F : Nat → Prop} {w0 w w' : World} {bs : List (Nat × List Value)} {rs : List Rw} {r : Nat} (h : RQ P F w0 bs w rs) (hF : F r) (hg : w.grownBy w' (some r)) : RQ P F w0 bs w' rs :=
  h.keep ⟨hg.os, hg.tape, hg.output, hg.size, fun b hb hn => hg.block b hb fun e => hn (by have e1 : b = r := Option.some.inj e; rw [e1]; exact hF)⟩ fun b hb => ⟨.inl hb, by have := (h.fh b hb).2.1; have := hg.size; omega⟩
end Go.Proofs.Ytedfepnekjjmnaa

/-
  Nodes that grow: plain facts on the graph of a term's nodes. No condition.
-/
namespace Go.Proofs.Ytedfepnekjjmnaa
open Go.RowKit
set_option linter.unusedSimpArgs false
set_option linter.unusedVariables false

theorem GrowL.len {N : Nat → NodeD} : ∀ {ts : List T} {os : List (Option Nat)}, GrowL N ts os → os.length = ts.length
  | [], os, h => by rw [(GrowL_nil N os).1 h]; rfl
  | t :: ts, os, h => by
    obtain ⟨o, os', rfl, -, h2⟩ := (GrowL_cons N t ts os).1 h
    simp [h2.len]
theorem GrowL.congr {N N' : Nat → NodeD} : ∀ (m : Nat) (ts : List T), bulkL ts ≤ m → ∀ os, GrowL N ts os → (∀ b ∈ ndL N ts os, N' b = N b) → GrowL N' ts os ∧ ndL N' ts os = ndL N ts os := by
  intro m
  induction m with
  | zero =>
    intro ts hb os hg _
    cases ts with
    | nil => obtain rfl := (GrowL_nil N os).1 hg; exact ⟨(GrowL_nil N' _).2 rfl, by rw [ndL_nil, ndL_nil]⟩
    | cons t ts => rw [bulkL_cons] at hb; omega
  | succ m ih =>
    intro ts hb os hg he
    cases ts with
    | nil => obtain rfl := (GrowL_nil N os).1 hg; exact ⟨(GrowL_nil N' _).2 rfl, by rw [ndL_nil, ndL_nil]⟩
    | cons t ts =>
      rw [bulkL_cons] at hb
      obtain ⟨o, os', rfl, ho, hos⟩ := (GrowL_cons N t ts os).1 hg
      rw [ndL_cons] at he
      obtain ⟨a1, a2⟩ := ih ts (by omega) os' hos fun b hb => he b (List.mem_append.2 (.inr hb))
      by_cases hk : t.kind = 4
      · obtain ⟨b, rfl, hb1, hb2⟩ := ho.2 hk
        have en : ∀ N : Nat → NodeD, nd1 N t (some b) = b :: ndL N t.args (N b).2 := fun _ => rfl
        rw [en] at he
        have e0 : N' b = N b := he b (by simp)
        obtain ⟨c1, c2⟩ := ih t.args (by omega) _ hb2 fun c hc => he c (by simp [hc])
        refine ⟨(GrowL_cons N' t ts _).2 ⟨some b, os', rfl, ⟨fun e => absurd hk e, fun _ => ⟨b, rfl, by rw [e0]; exact hb1, by rw [e0]; exact c1⟩⟩, a1⟩, ?_⟩
        rw [ndL_cons, ndL_cons, en, en, e0, c2, a2]
      · obtain rfl := ho.1 hk
        refine ⟨(GrowL_cons N' t ts _).2 ⟨none, os', rfl, ⟨fun _ => rfl, fun e => absurd e hk⟩, a1⟩, ?_⟩
        rw [ndL_cons, ndL_cons, a2]; rfl
theorem GrowL.snoc {N : Nat → NodeD} {t : T} {o : Option Nat} (ht : Grow1 N t o) : ∀ {ts : List T} {os : List (Option Nat)}, GrowL N ts os → GrowL N (ts ++ [t]) (os ++ [o]) ∧ ndL N (ts ++ [t]) (os ++ [o]) = ndL N ts os ++ nd1 N t o
  | [], os, h => by
    obtain rfl := (GrowL_nil N os).1 h
    refine ⟨(GrowL_cons N t [] _).2 ⟨o, [], rfl, ht, (GrowL_nil N _).2 rfl⟩, ?_⟩
    show ndL N [t] [o] = _
    rw [ndL_cons, ndL_nil]; simp
  | s :: ts, os, h => by
    obtain ⟨p, os', rfl, h1, h2⟩ := (GrowL_cons N s ts os).1 h
    obtain ⟨a1, a2⟩ := h2.snoc ht
    refine ⟨(GrowL_cons N s _ _).2 ⟨p, os' ++ [o], rfl, h1, a1⟩, ?_⟩
    show ndL N (s :: (ts ++ [t])) (p :: (os' ++ [o])) = _
    rw [ndL_cons, ndL_cons, a2, List.append_assoc]
theorem RX.ptr {R S S' : Nat → Prop} {w : World} {os : List (Option Nat)} {v : Value} (h : RX ptrE R S w os v) : RX ptrE R S' w os v := by
  obtain ⟨a, cap, cs, rfl, h1, h2, h3⟩ := h
  exact ⟨a, cap, cs, rfl, h1, cells_ptrE.2 (cells_ptrE.1 h2), h3⟩
theorem OwnXQ.monoP {X : Type} {E : El X} {e : TypeId} {P P' : Nat → Prop} {base : Nat} {w : World} {v : Value} {xs : List X} (h : OwnXQ E e P base w v xs) (hP : ∀ b, P b → P' b) : OwnXQ E e P' base w v xs := by
  obtain ⟨cs, h1, h2⟩ := h
  exact ⟨cs, h1, h2.to (fun b hb _ => ⟨hP b hb.1, hb.2⟩) fun _ _ _ => rfl⟩
/-- What has come anew may be led to. -/
theorem RQ.belowP {P F : Nat → Prop} {w0 w w' : World} {bs : List (Nat × List Value)} {rs : List Rw} (h : RQ P F w0 bs w rs) (hB : Below w.heap.size w w') : RQ (fun b => P b ∨ (w.heap.size ≤ b ∧ b < w'.heap.size)) F w0 bs w' rs := by
  have h1 := h.below hB
  have hs := hB.size
  refine ⟨h1.bel, fun b hb => ?_, fun r hr => OwnXQ.monoP (h1.ok r hr) fun _ h => .inl h, h1.ap, h1.fh, h1.bk⟩
  rcases hb with hb | hb
  · exact h1.pb b hb
  · exact ⟨hb.2, fun hf => by have := (h.fh b hf).2.1; omega, fun r hr e => by have := (OwnXQ.block (h.ok r hr) b e).2; omega⟩
/-- A block of one's own has lost or won something. -/
theorem RQ.swap {P F : Nat → Prop} {w0 w w' : World} {bs : List (Nat × List Value)} {rs : List Rw} {g : Nat} {c c' : List Value} (h : RQ P F w0 ((g, c) :: bs) w rs) (hB : Blk w' g c') (hw0 : w0.heap.size ≤ g) (hP : ¬ P g) (hF : ¬ F g) (hbs : ∀ p ∈ bs, p.1 ≠ g) (hs : w'.heap.size = w.heap.size) (ho : ∀ b, b ≠ g → w'.heap[b]? = w.heap[b]?) (hbel : Below w0.heap.size w0 w') : RQ P F w0 ((g, c') :: bs) w' rs := by
  have hg := h.bk (g, c) (List.mem_cons_self ..)
  refine ⟨hbel, fun b hb => ⟨by rw [hs]; exact (h.pb b hb).1, (h.pb b hb).2⟩, fun r hr => OwnXQ.to (h.ok r hr) (Nat.le_of_eq hs.symm) fun b hb _ => ho b fun e => ?_, h.ap, fun b hb => ⟨(h.fh b hb).1, by rw [hs]; exact (h.fh b hb).2.1, (h.fh b hb).2.2⟩, fun p hp => ?_⟩
  · rcases hb with hb | hb
    · exact hP (e ▸ hb)
    · exact hg.2.2 r hr (by rw [← e]; exact hb)
  · rcases List.mem_cons.1 hp with rfl | hp
    · exact ⟨hB, hF, hg.2.2⟩
    · have h1 := h.bk p (List.mem_cons_of_mem _ hp)
      exact ⟨h1.1.heap (ho _ (hbs p hp)), h1.2⟩
end Go.Proofs.Ytedfepnekjjmnaa

/-
  HeapPlays: what stands between two calls, in plain words: words, terms, nodes, and which node is which head. No condition.
-/
namespace Go.Proofs.Ytedfepnekjjmnaa
open Go.RowKit
set_option linter.unusedSimpArgs false
set_option linter.unusedVariables false

/-! ### Formed terms are few -/
theorem headB_small {t : T} (h : headB t = true) : t.name.size ≤ 8 ∧ (t.kind ≠ 4 → t.args = []) := by
  have bare : bareB t = true → t.name.size ≤ 8 ∧ (t.kind ≠ 4 → t.args = []) := fun hb => by
    obtain ⟨h1, h2⟩ := bare_nil hb
    exact ⟨by rw [h1]; decide, fun _ => h2⟩
  unfold headB at h
  by_cases h1 : t.kind = 1
  · rw [if_pos h1, Bool.and_eq_true] at h; exact bare h.1
  rw [if_neg h1] at h
  by_cases h2 : t.kind = 2
  · rw [if_pos h2] at h
    simp only [Bool.and_eq_true, decide_eq_true_eq] at h
    refine ⟨?_, fun _ => List.eq_nil_of_length_eq_zero h.1.2⟩
    have h3 := h.2
    unfold nameB at h3
    simp only [Bool.and_eq_true, decide_eq_true_eq] at h3
    exact h3.1.2
  rw [if_neg h2] at h
  by_cases h3 : t.kind = 3
  · rw [if_pos h3, Bool.and_eq_true] at h; exact bare h.1
  rw [if_neg h3] at h
  by_cases h5 : t.kind = 5
  · rw [if_pos h5, Bool.and_eq_true] at h; exact bare h.1
  rw [if_neg h5] at h
  by_cases h6 : t.kind = 6
  · rw [if_pos h6, Bool.and_eq_true] at h; exact bare h.1
  rw [if_neg h6] at h
  by_cases h4 : t.kind = 4
  · rw [if_pos h4] at h
    simp only [Bool.and_eq_true, decide_eq_true_eq] at h
    exact ⟨by rw [name_nil h.1.2]; decide, fun e => absurd h4 e⟩
  · rw [if_neg h4] at h; cases h
theorem bulk_form : ∀ (m : Nat) (ts : List T), bulkL ts ≤ m → formL ts = true → bulkL ts ≤ 9 * (ts.length + szL ts)
  | 0, ts, hb, _ => by omega
  | m + 1, ts, hb, hf => by
    cases ts with
    | nil => simp [bulkL]
    | cons t ts =>
      rw [bulkL_cons] at hb
      rw [formL_cons] at hf
      simp only [Bool.and_eq_true] at hf
      obtain ⟨h1, h2⟩ := headB_small hf.1.1
      have i1 := bulk_form m t.args (by omega) hf.1.2
      have i2 := bulk_form m ts (by omega) hf.2
      rw [bulkL_cons, szL_cons, List.length_cons]
      by_cases h4 : t.kind = 4
      · rw [if_pos h4]; omega
      · rw [if_neg h4, h2 h4]
        simp [bulkL]; omega
theorem check_bulk {t : T} (h : checkE t = 0) : bulkL [t] ≤ 1809 := by
  unfold checkE at h
  cases hf : formL [t] with
  | false => rw [hf] at h; simp at h
  | true =>
    rw [hf, if_pos rfl] at h
    by_cases hs : dpL [t] ≤ 12 ∧ szL [t] ≤ 200
    · have := bulk_form _ [t] (Nat.le_refl _) hf
      simp only [List.length_cons, List.length_nil] at this
      omega
    · rw [if_neg hs] at h; cases h
structure HPl (room : Int) (H : HS) (xs : List Wrd) (ts : List T) (ns : List (Option Nat)) (N : Nat → NodeD) (P : List (Nat × Nat)) : Prop where
  wf : WF H
  rep : RepL H ts xs
  ok : ∀ t ∈ ts, checkE t = 0 ∧ closedL [t] = true
  ng : NG H N P
  lk : LinkL P ns xs
  rm : (H.ws.length : Int) ≤ room
theorem HPl.start {room : Int} (h : 0 ≤ room) (N : Nat → NodeD) : HPl room ⟨[], []⟩ [] [] [] N [] := ⟨WF.new _, (RepL_nil _ _).2 rfl, by simp, ⟨List.nodup_nil, List.nodup_nil, by simp⟩, rfl, by simpa using h⟩
theorem RepL.map0 {H H' : HS} {ts : List T} {xs : List Wrd} (h : RepL H ts xs) (ho : ∀ u y, Rep H u y → Rep H' u y) : RepL H' ts xs := by
  have h1 := h.map id fun u y _ _ hy => ho u y hy
  rwa [List.map_id] at h1
/-- A put. -/
theorem HPl.put {room : Int} {H : HS} {xs : List Wrd} {ts : List T} {ns : List (Option Nat)} {N N' : Nat → NodeD} {P : List (Nat × Nat)} (h : HPl room H xs ts ns N P) {t : T} {o : Option Nat} (h0 : checkE t = 0) (h1 : closedL [t] = true) (h2 : ¬ room < H.ws.length + szL [t])
    (hN : ∀ q ∈ P, N' q.1 = N q.1) (hG : Grow1 N' t o) (hnd : (nd1 N' t o).Nodup) (hnew : ∀ b ∈ nd1 N' t o, ∀ q ∈ P, q.1 ≠ b) :
    ∃ P2, HPl room (putW H t).2 (xs ++ [(putW H t).1]) (ts ++ [t]) (ns ++ [o]) N' P2 ∧ ∀ q ∈ P2, q ∈ P ∨ q.1 ∈ nd1 N' t o := by
  have hok := (check_ok h0 h1).1
  have hR := putW_R h.wf hok
  obtain ⟨new, more, e1, e2, -⟩ := putW_says t hok H
  have he : (putW H t).2 = ⟨H.ws ++ new, H.names ++ more⟩ := by rw [← e1, ← e2]
  have hrep1 : RepL (putW H t).2 [t] [(putW H t).1] := (RepL_cons _ t [] _).2 ⟨_, [], rfl, hR.rep, (RepL_nil _ _).2 rfl⟩
  have hG1 : GrowL N' [t] [o] := (GrowL_cons N' t [] _).2 ⟨o, [], rfl, hG, (GrowL_nil N' _).2 rfl⟩
  have enl : ndL N' [t] [o] = nd1 N' t o := by rw [ndL_cons, ndL_nil, List.append_nil]
  have ehl : hdL (putW H t).2 [t] [(putW H t).1] = hd1 (putW H t).2 t (putW H t).1 := by rw [hdL_cons, hdL_nil, List.append_nil]
  obtain ⟨g1, g2, g3⟩ := grow_links _ [t] (Nat.le_refl _) _ _ hrep1 hG1
  rw [enl, ehl] at g1 g2 g3
  have hng : NG (putW H t).2 N' P := by rw [he]; exact h.ng.app new _ hN
  have m1 : (((nd1 N' t o).zip (hd1 (putW H t).2 t (putW H t).1)).map (·.1)) = nd1 N' t o := List.map_fst_zip (Nat.le_of_eq g1)
  have m2 : (((nd1 N' t o).zip (hd1 (putW H t).2 t (putW H t).1)).map (·.2)) = hd1 (putW H t).2 t (putW H t).1 := List.map_snd_zip (Nat.le_of_eq g1.symm)
  refine ⟨P ++ (nd1 N' t o).zip (hd1 (putW H t).2 t (putW H t).1), ⟨hR.wf, (h.rep.map0 hR.old).snoc hR.rep, fun u hu => ?_, hng.add ?_ ?_ ?_ ?_ ?_, ?_, ?_⟩, fun q hq => ?_⟩
  · rcases List.mem_append.1 hu with hu | hu
    · exact h.ok u hu
    · rw [List.mem_singleton.1 hu]; exact ⟨h0, h1⟩
  · rw [m1]; exact hnd
  · rw [m2]; exact hR.nd
  · intro q hq r hr e
    exact hnew r.1 (List.of_mem_zip (a := r.1) (b := r.2) hr).1 q hq e
  · intro q hq r hr e
    have hi := hR.fr r.2 (List.of_mem_zip (a := r.1) (b := r.2) hr).2
    have := (h.ng.hd q hq).1.lt
    omega
  · intro q hq
    obtain ⟨a1, a2, a3⟩ := g3 q hq
    exact ⟨a1, a2, a3.mono fun _ hr => List.mem_append.2 (.inr hr)⟩
  · obtain ⟨y, r, e, hy, -⟩ := g2
    obtain ⟨rfl, -⟩ := List.cons.inj e
    exact (h.lk.mono fun _ hr => List.mem_append.2 (.inl hr)).snoc (hy.mono fun _ hr => List.mem_append.2 (.inr hr))
  · have := (putW_len H t).1
    omega
  · rcases List.mem_append.1 hq with hq | hq
    · exact .inl hq
    · exact .inr (List.of_mem_zip (a := q.1) (b := q.2) hq).1
/-- A put whose word is given up. -/
theorem HPl.put3 {room : Int} {H : HS} {xs : List Wrd} {ts : List T} {ns : List (Option Nat)} {N : Nat → NodeD} {P : List (Nat × Nat)} (h : HPl room H xs ts ns N P) {t : T} (h0 : checkE t = 0) (h1 : closedL [t] = true) (h2 : ¬ room < H.ws.length + szL [t]) : HPl room (putW H t).2 xs ts ns N P := by
  have hok := (check_ok h0 h1).1
  have hR := putW_R h.wf hok
  obtain ⟨new, more, e1, e2, -⟩ := putW_says t hok H
  have he : (putW H t).2 = ⟨H.ws ++ new, H.names ++ more⟩ := by rw [← e1, ← e2]
  refine ⟨hR.wf, h.rep.map0 hR.old, h.ok, by rw [he]; exact h.ng.app new _ fun _ _ => rfl, h.lk, ?_⟩
  have := (putW_len H t).1
  omega
/-- A collection. -/
theorem HPl.col {room : Int} {H : HS} {xs : List Wrd} {ts : List T} {ns : List (Option Nat)} {N : Nat → NodeD} {P : List (Nat × Nat)} (h : HPl room H xs ts ns N P) {ws : List Wrd} {us : List T} {ms : List (Option Nat)} (hr : RepL H us ws) (ho : ∀ t ∈ us, checkE t = 0 ∧ closedL [t] = true) (hl : LinkL P ms ws) {ks : List Nat} {tw out : List Wrd} (hC : Col H ws ks tw out) :
    HPl room ⟨tw, H.names⟩ out us ms N (movP H ks P) := by
  refine ⟨hC.wf h.wf _, ?_, ho, h.ng.col hC _, ?_, ?_⟩
  · rw [hC.out]
    exact hr.map _ fun u y _ hy hr => hC.rep u y hr (hC.rk y hy)
  · rw [hC.out]
    exact hl.mov hC.rk
  · have := hC.le h.wf
    have := h.rm
    show (tw.length : Int) ≤ room
    omega
theorem closedL_of : ∀ {us : List T}, (∀ t ∈ us, closedL [t] = true) → closedL us = true
  | [], _ => by simp [closedL]
  | t :: us, h => by
    have h1 := h t (List.mem_cons_self ..)
    have h2 := closedL_of fun u hu => h u (List.mem_cons_of_mem _ hu)
    rw [closedL_cons] at h1 ⊢
    simp only [Bool.and_eq_true] at h1 ⊢
    exact ⟨h1.1, h2⟩
theorem closed_tupAll {us : List T} (h : ∀ t ∈ us, closedL [t] = true) : closedL [tupT us] = true := by
  rw [closedL_cons]
  have := closedL_of h
  simp [tupT, this, closedL]
/-- A join. -/
theorem HPl.join {room : Int} {H : HS} {xs : List Wrd} {ts : List T} {ns : List (Option Nat)} {N N' : Nat → NodeD} {P : List (Nat × Nat)} (h : HPl room H xs ts ns N P) {ws : List Wrd} {us : List T} {ms : List (Option Nat)} (hr : RepL H us ws) (ho : ∀ t ∈ us, checkE t = 0 ∧ closedL [t] = true) (hl : LinkL P ms ws) {nb : Nat}
    (hnew : ∀ q ∈ P, q.1 ≠ nb) (hN : ∀ q ∈ P, N' q.1 = N q.1) (hb : N' nb = (1 + ws.length, ms)) (h0 : checkE (tupT us) = 0) (h2 : ¬ room < H.ws.length + 1 + ws.length) :
    HPl room (joinH H ws) (xs ++ [⟨4, (H.ws.length : Int)⟩]) (ts ++ [tupT us]) (ns ++ [some nb]) N' (P ++ [(nb, H.ws.length)]) := by
  have hR := join_R h.wf hr
  have hng : NG (joinH H ws) N' P := by rw [join_app]; exact h.ng.app _ _ hN
  refine ⟨hR.wf, (h.rep.map0 hR.old).snoc hR.rep, fun u hu => ?_, hng.add (by simp) (by simp) ?_ ?_ ?_, ?_, ?_⟩
  · rcases List.mem_append.1 hu with hu | hu
    · exact h.ok u hu
    · rw [List.mem_singleton.1 hu]; exact ⟨h0, closed_tupAll fun t ht => (ho t ht).2⟩
  · intro q hq r hr e
    rw [List.mem_singleton.1 hr] at e
    exact hnew q hq e
  · intro q hq r hr e
    rw [List.mem_singleton.1 hr] at e
    have := (h.ng.hd q hq).1.lt
    have e' : q.2 = H.ws.length := e
    omega
  · intro q hq
    rw [List.mem_singleton.1 hq]
    show Hd (joinH H ws) H.ws.length (kN (joinH H ws) H.ws.length) ∧ (N' nb).1 = 1 + kN (joinH H ws) H.ws.length ∧ LinkL _ (N' nb).2 (partsL (joinH H ws) H.ws.length (kN (joinH H ws) H.ws.length))
    rw [hR.kn, join_parts, hb]
    exact ⟨join_hd H ws, rfl, hl.mono fun _ hr => List.mem_append.2 (.inl hr)⟩
  · exact (h.lk.mono fun _ hr => List.mem_append.2 (.inl hr)).snoc ⟨fun _ => ⟨nb, H.ws.length, rfl, rfl, by simp⟩, fun e => absurd rfl e⟩
  · have := joinH_len H ws
    omega
/-- How many pairs there are. -/
theorem NG.few {H : HS} {N : Nat → NodeD} {P : List (Nat × Nat)} (h : NG H N P) : P.length ≤ H.ws.length ∧ ∀ q ∈ P, (N q.1).2.length ≤ H.ws.length ∧ (N q.1).1 ≤ H.ws.length := by
  constructor
  · have := pigeon H.ws.length (P.map (·.2)) h.n2 fun i hi => by
      obtain ⟨q, hq, rfl⟩ := List.mem_map.1 hi
      exact (h.hd q hq).1.lt
    simpa using this
  · intro q hq
    obtain ⟨h1, h2, h3⟩ := h.hd q hq
    have h4 := h1.2
    have h5 := h3.len
    have h6 : (partsL H q.2 (kN H q.2)).length ≤ kN H q.2 := by unfold partsL; simp; omega
    omega
end Go.Proofs.Ytedfepnekjjmnaa

/-
  HeapPlays: what is picked of what stands, in plain words. No condition.
-/
namespace Go.Proofs.Ytedfepnekjjmnaa
open Go.RowKit
set_option linter.unusedSimpArgs false
set_option linter.unusedVariables false

/-- Words, terms and nodes that were picked. -/
structure Pick (H : HS) (P : List (Nat × Nat)) (us : List T) (ws : List Wrd) (ms : List (Option Nat)) : Prop where
  rep : RepL H us ws
  ok : ∀ t ∈ us, checkE t = 0 ∧ closedL [t] = true
  lk : LinkL P ms ws
section
variable {room : Int} {H : HS} {xs ws : List Wrd} {ts us : List T} {ns ms : List (Option Nat)} {N : Nat → NodeD} {P : List (Nat × Nat)}
theorem Pick.start (H : HS) (P : List (Nat × Nat)) : Pick H P [] [] [] := ⟨(RepL_nil _ _).2 rfl, by simp, rfl⟩
theorem HPl.all (h : HPl room H xs ts ns N P) : Pick H P ts xs ns := ⟨h.rep, h.ok, h.lk⟩
theorem Pick.lens (h : Pick H P us ws ms) : us.length = ws.length ∧ ms.length = ws.length := ⟨h.rep.length.symm, h.lk.len⟩
theorem Pick.step (h : HPl room H xs ts ns N P) (p : Pick H P us ws ms) {j : Nat} (hj : j < xs.length) (h1 : j < ts.length) (h2 : j < ns.length) : Pick H P (us ++ [ts[j]]) (ws ++ [xs[j]]) (ms ++ [ns[j]]) :=
  ⟨p.rep.snoc (h.rep.at j h1 hj), fun u hu => by
    rcases List.mem_append.1 hu with hu | hu
    · exact p.ok u hu
    · rw [List.mem_singleton.1 hu]; exact h.ok _ (List.getElem_mem h1), p.lk.snoc (h.lk.at j h2 hj)⟩
theorem Pick.leaf (h : Pick H P us ws ms) : ∀ t ∈ us, LeafOk t := fun t ht => (check_ok (h.ok t ht).1 (h.ok t ht).2).2.1
theorem Pick.stands (h : Pick H P us ws ms) : ∀ x ∈ ws, standsB H x = true := fun x hx => by
  obtain ⟨i, hi, rfl⟩ := List.getElem_of_mem hx
  have h1 : i < us.length := by rw [h.lens.1]; exact hi
  exact (h.rep.at i h1 hi).stands (h.leaf _ (List.getElem_mem h1))
theorem bulk_few : ∀ {us : List T} {n : Nat}, (∀ t ∈ us, checkE t = 0) → us.length ≤ n → bulkL us ≤ 1809 * n
  | [], _, _, _ => by simp [bulkL]
  | t :: us, n, h, hl => by
    have h1 := check_bulk (h t (List.mem_cons_self ..))
    have h2 := bulk_few (n := n - 1) (fun u hu => h u (List.mem_cons_of_mem _ hu)) (by simp only [List.length_cons] at hl; omega)
    have h3 := bulkL_append [t] us
    simp only [List.singleton_append] at h3
    simp only [List.length_cons] at hl
    omega
theorem Pick.bulk (h : Pick H P us ws ms) {n : Nat} (hl : us.length ≤ n) : bulkL us ≤ 1809 * n := bulk_few (fun t ht => (h.ok t ht).1) hl
end
end Go.Proofs.Ytedfepnekjjmnaa
