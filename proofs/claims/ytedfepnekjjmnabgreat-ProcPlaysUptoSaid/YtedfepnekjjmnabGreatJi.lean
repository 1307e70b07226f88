/-
  Contracts and plain laws, joined: Heap8 Heap9 Heap10 PutR JoinP GraphP KeptP Kept AgainP AgainI ProcP ShareP Side SideQ NodeM LiveP GrowP ProcM Proc1 Proc12 Proc13 Proc2 Proc3 Proc4 Proc5 Proc6 Proc7 Proc8 ProcG ProcH ProcI ProcJ RProc1. Conditions stand in each.
-/
import Derived.Deep.Upon
import Derived.Deep.CutBlock
import Derived.Deep.DeepCutAuto
import Derived.Test.YtedfepnekjjmnabGreatHeap7
import Derived.Test.YtedfepnekjjmnabGreatForm
import Derived.Test.YtedfepnekjjmnabGreatJh
import Derived.Test.YtedfepnekjjmnabGreatJb
import Derived.Test.YtedfepnekjjmnabGreatJc
import Derived.Test.YtedfepnekjjmnabGreatRCheck
import Derived.Test.YtedfepnekjjmnabGreatJd
import Derived.Test.YtedfepnekjjmnabGreatJf
import Derived.Test.YtedfepnekjjmnabGreatJa
import Derived.Test.YtedfepnekjjmnabGreatValNC
import Derived.Test.YtedfepnekjjmnabGreatTo
import Derived.Test.YtedfepnekjjmnabGreatClause
namespace Go.Proofs.YtedfepnekjjmnabGreat
open Go.RowKit
set_option linter.unusedSimpArgs false
set_option linter.unusedVariables false
set_option maxRecDepth 100000
set_option maxHeartbeats 4000000
theorem indexFuncW (p:Wrd→Bool) (R S:Nat→Prop) (ts:List Wrd) (w:World) (v c:Value) (hv:RX wrdE R S w ts v) (hlen:ts.length≤1099511627776)
  (hf:∀ x∈ts,∀ W:World,Below w.heap.size w W→Calls Tryz.prog 87 #[.agg #[.int .i64 x.kind,.int .i64 x.n],c] W fun e w'=>e=.returned (.bool (p x))∧Below W.heap.size W w') :
  Calls Tryz.prog 101 #[v,.func (.func 87) #[] #[c]] w fun e w'=>e=.returned (.int .i64 (idxI p ts 0))∧Below w.heap.size w w':=by
 obtain ⟨a,cap,cs,rfl,hcap,hC,hj⟩:=hv
 have HV:Hid (RX wrdE R S w ts (.slice a ts.length cap)):=J ⟨a,cap,cs,rfl,hcap,hC,hj⟩
 have HF:=J hf;clear hf hC hj hcap
 go_enter Tryz.func101,Tryz.ntmps101
 go_wp2_with fail
 go_loopw [8] (fun i wr=>∃ k:Nat,k≤ts.length∧i=.int .i64 k∧(ts.take k).any p=false∧Below w.heap.size w wr) (fun i _=>ts.length - (intOf i).toNat)
 case atStart=>exact ⟨0,Nat.zero_le _,rfl,rfl,Below.refl _ _⟩
 obtain ⟨k,hkl,rfl,hany,hB⟩:=hrel
 have HA:=J hany;clear hany
 have hsz':=hB.size
 by_cases hlt:k < ts.length
 ·obtain ⟨b,o,rfl⟩:=HV.out.addr (by decide) (by omega)
  obtain ⟨-,d0,d1⟩:=(RX.wto HV.out fun b _ hl=>hB.block b hl).wrd k hlt
  have HS:=J (any_take_succ p ts k hlt)
  go_wp2_with fail
  refine (HF.out _ (List.getElem_mem hlt) _ hB).mono ?_
  cases hp:p ts[k]
  ·have HP:=J hp;clear hp
   rintro e w1 ⟨rfl,hB1⟩
   go_wp2_with fail
   go_roundw
   case rel=>exact ⟨k+1,by omega,by go_num,by rw [HS.out,HA.out,HP.out];rfl,yB hB (by omega) hB1⟩
   case measure=>simp [intOf];omega
  have HP:=J hp;clear hp
  rintro e w1 ⟨rfl,hB1⟩
  go_wp2_with fail
  go_ret
  exact ⟨yO (by rw [idxI_take p ts k 0 hlt HA.out HP.out];omega),yB hB (by omega) hB1⟩
 have hkk:k=ts.length:=by omega
 subst hkk
 go_wp2_with fail
 go_ret
 exact ⟨yO (by rw [idxI_none p ts 0 (by simpa using HA.out)]),hB⟩
theorem containsFuncW (p:Wrd→Bool) (R S:Nat→Prop) (ts:List Wrd) (w:World) (v c:Value) (hv:RX wrdE R S w ts v) (hlen:ts.length≤1099511627776)
  (hf:∀ x∈ts,∀ W:World,Below w.heap.size w W→Calls Tryz.prog 87 #[.agg #[.int .i64 x.kind,.int .i64 x.n],c] W fun e w'=>e=.returned (.bool (p x))∧Below W.heap.size W w') :
  Calls Tryz.prog 86 #[v,.func (.func 87) #[] #[c]] w fun e w'=>e=.returned (.bool (ts.any p))∧Below w.heap.size w w':=by
 have HF:=J hf;clear hf
 have HV:=J hv;clear hv
 go_enter Tryz.func86,Tryz.ntmps86
 go_wp2_with fail
 refine (indexFuncW p R S ts _ v c HV.out hlen HF.out).mono ?_
 rintro e w1 ⟨rfl,hB1⟩
 go_wp2_with fail
 go_ret
 exact ⟨yL (idxI_any p ts 0 (by omega)),hB1⟩
theorem hall1_c (F:Nat→Prop) (w:World) (B:Nat) (room:Int) (H:HS) (x:Wrd) (g:Nat) (hc:w.cell? ⟨g,0,none⟩=some (.pointer (some ⟨B,0,none⟩))) (hR:HeapR F w B room H) (hH:HeadsOk H) (hl:H.ws.length≤137438953472) :
  Calls Tryz.prog 87 #[.agg #[.int .i64 x.kind,.int .i64 x.n],.pointer (some ⟨g,0,none⟩)] w fun e w'=>e=.returned (.bool (!standsB H x))∧Below w.heap.size w w':=by
 have hgl:=World.block_lt_of_cell? w _ hc
 go_enter Tryz.func87,Tryz.ntmps87
 go_wp2_with fail
 refine (hstands_c F _ B room H x (hR.below (yA _ _)) hH hl).mono ?_
 rintro e w1 ⟨rfl,hB1⟩
 go_wp2_with fail
 go_ret
 exact ⟨rfl,(yA _ _).trans (hB1.mono (by simp))⟩
theorem hall_c (F R S:Nat→Prop) (w:World) (B:Nat) (room:Int) (H:HS) (ts:List Wrd) (v:Value) (hv:RX wrdE R S w ts v) (hlen:ts.length≤1099511627776) (hR:HeapR F w B room H) (hH:HeadsOk H) (hl:H.ws.length≤137438953472) :
  Calls Tryz.prog 70 #[.pointer (some ⟨B,0,none⟩),v] w fun e w'=>e=.returned (.bool (ts.all (standsB H)))∧Below w.heap.size w w':=by
 have hmf:∀ (fn:Fn) (first cap:Array Value) (w:World),(Instr.makeFunc fn first cap).run Tryz.prog w=.ok (.func fn first cap) w:=fun _ _ _ _=>rfl
 have HV:=J hv;clear hv
 obtain ⟨W0,hW0⟩:=I (w.alloc (.cells #[.pointer (some ⟨B,0,none⟩)] 64))
 have HB0:Hid (Below w.heap.size w W0):=J (by rw [hW0];exact yA _ _)
 have HX0:Hid (Blk W0 w.heap.size [.pointer (some ⟨B,0,none⟩)]):=J (by rw [hW0];exact Blk.new _ _ _ _ rfl)
 have hs0:=HB0.out.size
 have HR0:=J (hR.below HB0.out)
 have HW0:=J hW0
 clear hR hW0
 go_enter Tryz.func70,Tryz.ntmps70
 go_upto_region 1 with fail
 rw [←HW0.out]
 go_wp2_with fail
 refine (containsFuncW (fun x=>!standsB H x) R S ts W0 v _ (RX.wto HV.out fun b _ hb=>HB0.out.block b hb) hlen (fun x _ W hB=>hall1_c F W B room H x w.heap.size ((HX0.out.step hB).cell 0 _ rfl) (HR0.out.below hB) hH hl)).mono ?_
 rintro e w1 ⟨rfl,hB1⟩
 go_wp2_with fail
 go_ret
 exact ⟨yL (by rw [List.all_eq_not_any_not]),HB0.out.trans (hB1.mono (by omega))⟩
theorem stands_good {H:HS} (hH:HeadsOk H) {x:Wrd} (h:standsB H x=true):GoodW H x:=fun e=>by
 unfold standsB at h
 rw [if_neg (by omega),if_neg (by omega),if_neg (by omega),if_pos e] at h
 obtain ⟨n,hn⟩:=Option.isSome_iff_exists.1 h
 obtain ⟨i,k,hi,h1,rfl,h2,h3⟩:=headN_some hH hn
 exact ⟨i,k,h1,by rw [List.getElem?_eq_getElem hi,h2],h3⟩
theorem Rep.good {H:HS} {t:T} {x:Wrd} (h:Rep H t x):GoodW H x:=fun e=>by
 have hk:=h.kinds
 obtain ⟨-,-,i,rfl,h1,h2,-⟩:=h.tup (by omega)
 exact ⟨i,_,rfl,h1,h2⟩
def LeafOk (t:T):Prop:=(t.kind=1→-1099511627776≤t.n∧t.n≤1099511627776)∧(t.kind=3→1≤t.n∧t.n≤99)
theorem Rep.stands {H:HS} {t:T} {x:Wrd} (h:Rep H t x) (hb:LeafOk t):standsB H x=true:=by
 have hk:=h.kinds
 unfold standsB
 by_cases h4:t.kind=4
 ·rw [if_neg (by omega),if_neg (by omega),if_neg (by omega),if_pos (by omega)]
  obtain ⟨i,k,h1,h2⟩:=h.good (by omega)
  rw [h1,h2.headN];rfl
 by_cases h2:t.kind=2
 ·rw [if_neg (by omega),if_neg (by omega),if_pos (by omega)]
  obtain ⟨-,-,i,rfl,h1⟩:=h.atom h2
  have:=(List.getElem?_eq_some_iff.1 h1).1
  simp;omega
 obtain ⟨h1,-,-,hx⟩:=h.leaf h4 h2
 have hn:x.n=t.n:=by rw [hx]
 rcases h1 with h1 | h1
 ·have:=hb.1 h1
  rw [if_pos (by omega),hn];simp;omega
 have:=hb.2 h1
 rw [if_neg (by omega),if_pos (by omega),hn];simp;omega
def CollectP (F:Nat→Prop) (w:World) (B:Nat) (room:Int) (H:HS) (rs:List Wrd) (e:Ending) (w':World):Prop:=∃ v2 tw out ks,e=.returned (.tuple #[v2,.int .i64 0])∧Keep F w w'∧Col H rs ks tw out ∧
 HeapR (fun b=>F b∨(w.heap.size≤b∧v2.ownBlock≠some b)) w' B room ⟨tw,H.names⟩∧OwnW w' v2 out∧∀ b,v2.ownBlock=some b→w.heap.size≤b
theorem hcollect_c (F R S:Nat→Prop) (w:World) (B:Nat) (room:Int) (H:HS) (ts:List Wrd) (v:Value) (hv:RX wrdE R S w ts v) (hlen:ts.length≤4294967296) (hR:HeapR F w B room H) (hW:WF H) (hl:H.ws.length≤4294967296) (hs:∀ x∈ts,standsB H x=true) :
  Calls Tryz.prog 48 #[.pointer (some ⟨B,0,none⟩),v] w (CollectP F w B room H ts):=by
 have hall:ts.all (standsB H)=true:=List.all_eq_true.2 hs
 have hgood:∀ x∈ts,GoodW H x:=fun x hx=>stands_good hW.heads (hs x hx)
 have HA:=J hall
 have HG:=J hgood
 have HV:=J hv
 have HR:=J hR
 have HW:=J hW
 clear hall hgood hv hR hW hs
 go_enter Tryz.func48,Tryz.ntmps48
 go_wp2_with fail
 refine (hall_c F R S w B room H ts v HV.out (by omega) HR.out HW.out.heads (by omega)).mono ?_
 rintro e w1 ⟨rfl,hB1⟩
 rw [HA.out]
 have hs1:=hB1.size
 have HB1:=J hB1
 clear hB1
 go_wp2_with fail
 refine (hcopied_c H ts F R S w1 B room v (HR.out.below HB1.out) HW.out (RX.wto HV.out fun b _ hb=>HB1.out.block b hb) HG.out hl hlen).mono ?_
 rintro e w2 ⟨v1,v2,tw,out,ks,rfl,hB2,hCol,hO1,hO2,h1,h2⟩
 obtain ⟨a1,c1,rfl⟩:=hO1.form
 have hs2:=hB2.size
 have hB12:Below w.heap.size w w2:=HB1.out.trans (hB2.mono (by omega))
 obtain ⟨vw,vn,hV⟩:=HR.out
 have hV2:=hV.below hB12
 have b1:=hV2.blk.cell 1 _ rfl
 have bf:=hV2.blk.fr
 have hnb:∀ b,v2.ownBlock=some b→b≠B:=fun b hb e=>by have:=h2 b hb;have:=hV.blk.lt;omega
 have hh:=hV.words' (w3:=w2) (v':=.slice a1 tw.length c1) (l:=tw) (by omega) (fun b hb _=>hB12.block b hb) hO1 (fun b hb=>.inr (by have:=(h1 b hb).1;omega))
 have HH:=J hh
 have HVV:=J hV
 have HCol:=J hCol
 have HB12:=J hB12
 have HO2:=J hO2
 have H1:=J h1
 have H2:=J h2
 have HNB:=J hnb
 clear hCol hB2 hO1 hO2 h1 h2 hV hV2 hh hB12 hnb
 go_wp2_with fail
 go_ret2
 refine ⟨v2,tw,out,ks,rfl,?_,HCol.out,⟨_,_,⟨HH.out.blk,HH.out.ws,HH.out.nm,HH.out.nw,HH.out.nn,HH.out.ne,.inl HVV.out.fb,fun b hb=>.inr ⟨by have:=(H1.out b hb).1;omega,(H1.out b hb).2⟩,fun b hb=>.inl (HVV.out.fn b hb)⟩⟩,?_,fun b hb=>by have:=H2.out b hb;omega⟩
 ·exact (Keep.of HB12.out).setCell _ (.inl HVV.out.fb)
 exact OwnW.to HO2.out (by simp) fun b hb=>yD w2 B 1 _ b (HNB.out b hb)
def HGetP (w:World) (t:T) (e:Ending) (w':World):Prop :=
 ∃ a cap,e=.returned (.tuple #[.agg #[.int .i64 t.kind,.int .i64 t.n,.string t.name,.slice a t.args.length cap],.int .i64 0])∧Below w.heap.size w w'∧RT (fun b=>w.heap.size≤b) w' t (.agg #[.int .i64 t.kind,.int .i64 t.n,.string t.name,.slice a t.args.length cap])
theorem hGet_c (t:T) (F:Nat→Prop) (w:World) (B:Nat) (room:Int) (H:HS) (x:Wrd) (hR:HeapR F w B room H) (hr:Rep H t x) (hb:LeafOk t) (hH:HeadsOk H) (hl:H.ws.length≤137438953472) (hn:H.names.length≤137438953472) :
  Calls Tryz.prog 66 #[.pointer (some ⟨B,0,none⟩),.agg #[.int .i64 x.kind,.int .i64 x.n]] w (HGetP w t):=by
 obtain ⟨W0,hW0⟩:=I ((w.alloc (.cells #[.int .i64 x.kind,.int .i64 x.n] 68)).alloc (.cells #[.int .i64 0,.int .i64 0,.string ⟨#[]⟩,.slice none 0 0] 25))
 have HX3:Hid (Blk W0 w.heap.size [.int .i64 x.kind,.int .i64 x.n]):=J (by rw [hW0];exact (Blk.new _ _ _ _ rfl).alloc _)
 have HX4:Hid (Blk W0 (w.heap.size+1) [.int .i64 0,.int .i64 0,.string ⟨#[]⟩,.slice none 0 0]):=J (by rw [hW0];exact Blk.new _ _ _ _ (by simp))
 have HB0:Hid (Below w.heap.size w W0):=J (by rw [hW0];exact (yA _ _).trans ((yA _ _).mono (by simp)))
 have hs0:W0.heap.size=w.heap.size+2:=by rw [hW0];simp
 have hs0a:w.heap.size+2≤W0.heap.size:=by omega
 have HR0:=J (hR.below HB0.out)
 have HST:=J (hr.stands hb)
 have HREP:=J hr
 have HH:=J hH
 have HW0:=J hW0
 clear hR hr hb hH hW0 hs0
 go_enter Tryz.func66,Tryz.ntmps66
 go_upto_region 1 with fail
 rw [←HW0.out]
 obtain ⟨y0,y1⟩:=HX3.out.c2 0 1
 go_wp2_with fail
 refine (hstands_c F W0 B room H x HR0.out HH.out hl).mono ?_
 rintro e w1 ⟨rfl,hB⟩
 rw [HST.out]
 have hs1:=hB.size
 have HB1:=J hB
 have HX31:=J (HX3.out.step hB)
 have HX41:=J (HX4.out.step hB)
 have HR1:=J (HR0.out.below hB)
 clear hB y0 y1
 obtain ⟨y0,y1⟩:=HX31.out.c2 0 1
 go_wp2_with fail
 refine (hget_c t F w1 B room H x HR1.out HREP.out hl hn).mono ?_
 rintro e w2 ⟨a,cap,rfl,hB,hT⟩
 have hs2:=hB.size
 have HB2:=J hB
 have HT:=J hT
 have HX42:=J (HX41.out.step hB)
 clear hB hT y0 y1
 go_wp2_with (refine yI 25 4 yN _ _ rfl rfl rfl rfl rfl HX42.out rfl rfl rfl ?_;intro W' hF hs' hBW hoth;have HF:=J hF;have HSZ:=J hs';have HBW:=J hBW;have HOTH:=J hoth;clear hF hBW hoth hs')
 refine bodyPost_ret (yH Tryz.results66 yN _ Tryz.underlying25 rfl rfl HF.out rfl) rfl ⟨a,cap,rfl,?_,?_⟩
 ·have h1:=HBW.out (w.heap.size) w (by omega) (HB0.out.trans ((HB1.out.mono (by omega)).trans (HB2.out.mono (by omega))))
  exact h1
 exact RT.to HT.out (fun b hb _=>by omega) fun b hb hl=>HOTH.out b (by omega)
theorem name_nil {s:ByteArray} (h:s.toList.isEmpty=true):s=⟨#[]⟩:=by
 have h1:s.toList=[]:=List.isEmpty_iff.1 h
 have h2:s.data.toList=[]:=by rw [←ByteArray.toList_eq];exact h1
 have h3:s.data=#[]:=by rw [←Array.toList_inj];simpa using h2
 cases s;simp only at h3;rw [h3]
theorem bare_nil {t:T} (h:bareB t=true):t.name=⟨#[]⟩∧t.args=[]:=by
 unfold bareB at h
 rw [Bool.and_eq_true] at h
 exact ⟨name_nil h.1,List.eq_nil_of_length_eq_zero (by simpa using h.2)⟩
theorem head_leaf {t:T} (h:headB t=true):LeafOk t:=by
 refine ⟨fun e=>?_,fun e=>?_⟩
 ·unfold headB at h;rw [if_pos e,Bool.and_eq_true] at h
  have:=h.2;simp [inB] at this;exact this
 unfold headB at h;rw [if_neg (by omega),if_neg (by omega),if_pos e,Bool.and_eq_true] at h
 have:=h.2;simp [inB] at this;exact this
theorem head_ok {t:T} (h:headB t=true) (h5:t.kind≠5) (h6:t.kind≠6) (hl:t.kind=4→OkL t.args):OkT t:=by
 unfold headB at h
 unfold OkT
 by_cases h4:t.kind=4
 ·rw [if_neg (by omega),if_neg (by omega),if_neg (by omega),if_neg (by omega),if_neg (by omega),if_pos h4] at h
  rw [if_pos h4]
  simp only [Bool.and_eq_true,decide_eq_true_eq] at h
  exact ⟨h.1.1,name_nil h.1.2,hl h4⟩
 by_cases h2:t.kind=2
 ·rw [if_neg (by omega),if_pos h2] at h
  rw [if_neg h4,if_pos h2]
  simp only [Bool.and_eq_true,decide_eq_true_eq] at h
  exact ⟨h.1.1,List.eq_nil_of_length_eq_zero h.1.2⟩
 rw [if_neg h4,if_neg h2]
 by_cases h1:t.kind=1
 ·rw [if_pos h1,Bool.and_eq_true] at h
  exact ⟨.inl h1,bare_nil h.1⟩
 rw [if_neg h1,if_neg h2] at h
 by_cases h3:t.kind=3
 ·rw [if_pos h3,Bool.and_eq_true] at h
  exact ⟨.inr h3,bare_nil h.1⟩
 rw [if_neg h3,if_neg h5,if_neg h6,if_neg h4] at h;cases h
theorem okL_of:∀ (m:Nat) (ts:List T),yC ts≤m→formL ts=true→yF ts=true→OkL ts
 | 0,ts,hb,_,_=>by
  cases ts with
  | nil=>rw [OkL];trivial
  | cons t ts=>rw [yG] at hb;omega
 | m+1,ts,hb,hf,hc=>by
  cases ts with
  | nil=>rw [OkL];trivial
  | cons t ts =>
   rw [yG] at hb
   rw [formL_cons] at hf
   rw [closedL_cons] at hc
   simp only [Bool.and_eq_true] at hf hc
   have h5:t.kind≠5:=by simpa using hc.1.1.1
   have h6:t.kind≠6:=by simpa using hc.1.1.2
   exact (OkL_cons t ts).2 ⟨head_ok hf.1.1 h5 h6 fun _=>okL_of m t.args (by omega) hf.1.2 hc.1.2,okL_of m ts (by omega) hf.2 hc.2⟩
theorem check_ok {t:T} (h:yE t=0) (hc:yF [t]=true):OkT t∧LeafOk t∧szL [t]≤200:=by
 unfold yE at h
 by_cases hf:formL [t]=true
 ·rw [if_pos hf] at h
  have h1:=okL_of _ [t] (Nat.le_refl _) hf hc
  rw [formL_cons] at hf
  simp only [Bool.and_eq_true] at hf
  by_cases hd:dpL [t]≤12∧szL [t]≤200
  ·exact ⟨((OkL_cons t []).1 h1).1,head_leaf hf.1.1,hd.2⟩
  rw [if_neg hd] at h;omega
 rw [if_neg hf] at h;omega
theorem putHO_R {H:HS} (hW:WF H) (room:Int) (t:T):((putHO room H t).2.1=0∧LeafOk t∧PutR H t (putHO room H t).1 (putHO room H t).2.2∧(putHO room H t).2.2.ws.length≤H.ws.length+200∧((putHO room H t).2.2.ws.length:Int)≤max room H.ws.length)∨((putHO room H t).2.1≠0∧(putHO room H t).2.2=H):=by
 by_cases h1:yE t=0
 ·by_cases h2:yF [t]=true
  ·by_cases h3:room < H.ws.length+szL [t]
   ·rw [putHO_full h1 h2 h3];exact .inr ⟨by show (6:Int)≠0;decide,rfl⟩
   rw [putHO_ok h1 h2 h3]
   obtain ⟨ho,hl,hs⟩:=check_ok h1 h2
   have h4:=(putW_len H t).1
   exact .inl ⟨rfl,hl,putW_R hW ho,by show (putW H t).2.ws.length≤_;omega,by show ((putW H t).2.ws.length:Int)≤_;omega⟩
  have h2':yF [t]=false:=by simpa using h2
  rw [putHO_form h1 h2'];exact .inr ⟨by show (5:Int)≠0;decide,rfl⟩
 rw [putHO_check h1];exact .inr ⟨h1,rfl⟩
theorem RepL.app {H:HS} (new:List Wrd) (more:List ByteArray) {ts:List T} {xs:List Wrd} (h:RepL H ts xs):RepL ⟨H.ws ++ new,H.names ++ more⟩ ts xs :=
 RepL.of h.length fun i h1 h2=>(h.at i h1 h2).app new more
theorem RepL.kind {H:HS} {ts:List T} {xs:List Wrd} (h:RepL H ts xs) (hk:∀ t∈ts,t.kind≠0):∀ x∈xs,x.kind≠0:=fun x hx=>by
 obtain ⟨i,hi,e⟩:=List.getElem_of_mem hx
 have hl:=h.length
 have h1:=h.at i (by omega) hi
 rw [e] at h1
 rw [h1.kinds]
 exact hk _ (List.getElem_mem _)
theorem RepL.rep {H:HS} {t:T} {x:Wrd} (h:Rep H t x) (k:Nat):RepL H (List.replicate k t) (List.replicate k x) :=
 RepL.of (by simp) fun i h1 h2=>by simpa using h
abbrev NodeD:=Nat×List (Option Nat)
inductive ReachN (N:Nat→NodeD) (l:List (Option Nat)):Nat→Prop where
 | root (b:Nat) (h:some b∈l):ReachN N l b
 | kid (b c:Nat) (hb:ReachN N l b) (h:some c∈(N b).2):ReachN N l c
def Link (P:List (Nat×Nat)) (o:Option Nat) (x:Wrd):Prop:=(x.kind=4→∃ b i:Nat,o=some b∧x=⟨4,(i:Int)⟩∧(b,i)∈P)∧(x.kind≠4→o=none)
def LinkL (P:List (Nat×Nat)):List (Option Nat)→List Wrd→Prop
 | [],xs=>xs=[]
 | o :: os,xs=>∃ x xs',xs=x :: xs'∧Link P o x∧LinkL P os xs'
theorem Link.mono {P Q:List (Nat×Nat)} {o:Option Nat} {x:Wrd} (h:Link P o x) (hs:∀ q∈P,q∈Q):Link Q o x :=
 ⟨fun e=>by obtain ⟨b,i,h1,h2,h3⟩:=h.1 e;exact ⟨b,i,h1,h2,hs _ h3⟩,h.2⟩
theorem LinkL.mono {P Q:List (Nat×Nat)} (hs:∀ q∈P,q∈Q):∀ {os:List (Option Nat)} {xs:List Wrd},LinkL P os xs→LinkL Q os xs
 | [],_,h=>h
 | o :: os,_,h=>by
  obtain ⟨x,xs',rfl,h1,h2⟩:=h
  exact ⟨x,xs',rfl,h1.mono hs,h2.mono hs⟩
theorem LinkL.len {P:List (Nat×Nat)}:∀ {os:List (Option Nat)} {xs:List Wrd},LinkL P os xs→os.length=xs.length
 | [],_,h=>by obtain rfl:=h;rfl
 | o :: os,_,h=>by obtain ⟨x,xs',rfl,h1,h2⟩:=h;simp [h2.len]
theorem LinkL.at {P:List (Nat×Nat)}:∀ {os:List (Option Nat)} {xs:List Wrd},LinkL P os xs→∀ i (h1:i < os.length) (h2:i < xs.length),Link P os[i] xs[i]
 | [],_,_,i,h1,_=>by simp at h1
 | o :: os,_,h,i,h1,h2=>by
  obtain ⟨x,xs',rfl,g1,g2⟩:=h
  cases i with
  | zero=>exact g1
  | succ i=>exact g2.at i (by simpa using h1) (by simpa using h2)
theorem LinkL.snoc {P:List (Nat×Nat)} {o:Option Nat} {x:Wrd} (hx:Link P o x):∀ {os:List (Option Nat)} {xs:List Wrd},LinkL P os xs→LinkL P (os ++ [o]) (xs ++ [x])
 | [],xs,h=>by obtain rfl:xs=[]:=h;exact ⟨x,[],rfl,hx,rfl⟩
 | p :: os,_,h=>by
  obtain ⟨y,xs',rfl,g1,g2⟩:=h
  exact ⟨y,xs' ++ [x],rfl,g1,g2.snoc hx⟩
theorem LinkL.to {P:List (Nat×Nat)}:∀ {os:List (Option Nat)} {xs:List Wrd},LinkL P os xs→∀ b,some b∈os→∃ i:Nat,(⟨4,(i:Int)⟩:Wrd)∈xs∧(b,i)∈P
 | [],_,_,b,h=>by simp at h
 | o :: os,_,h,b,hb=>by
  obtain ⟨x,xs',rfl,g1,g2⟩:=h
  rcases List.mem_cons.1 hb with e | hb
  ·by_cases hk:x.kind=4
   ·obtain ⟨b',i,h1,h2,h3⟩:=g1.1 hk
    rw [←e] at h1
    obtain rfl:=Option.some.inj h1
    exact ⟨i,by rw [h2];exact mS0,h3⟩
   ·have:=g1.2 hk;rw [←e] at this;cases this
  ·obtain ⟨i,h1,h2⟩:=g2.to b hb
   exact ⟨i,mT h1,h2⟩
theorem LinkL.back {P:List (Nat×Nat)}:∀ {os:List (Option Nat)} {xs:List Wrd},LinkL P os xs→∀ i:Nat,(⟨4,(i:Int)⟩:Wrd)∈xs→∃ b,some b∈os∧(b,i)∈P
 | [],xs,h,i,hi=>by obtain rfl:xs=[]:=h;simp at hi
 | o :: os,_,h,i,hi=>by
  obtain ⟨x,xs',rfl,g1,g2⟩:=h
  rcases List.mem_cons.1 hi with e | hi
  ·obtain ⟨b,j,h1,h2,h3⟩:=g1.1 (by rw [←e])
   rw [←e] at h2
   have:i=j:=by
    have:=congrArg Wrd.n h2
    exact Int.ofNat.inj this
   subst this
   exact ⟨b,by rw [h1];exact mS0,h3⟩
  ·obtain ⟨b,h1,h2⟩:=g2.back i hi
   exact ⟨b,mT h1,h2⟩
structure NG (H:HS) (N:Nat→NodeD) (P:List (Nat×Nat)):Prop where
 n1:(P.map (·.1)).Nodup
 n2:(P.map (·.2)).Nodup
 hd:∀ q∈P,Hd H q.2 (kN H q.2)∧(N q.1).1=1+kN H q.2∧LinkL P (N q.1).2 (partsL H q.2 (kN H q.2))
theorem pair_fst {P:List (Nat×Nat)} (h:(P.map (·.1)).Nodup) {a b c:Nat} (h1:(a,b)∈P) (h2:(a,c)∈P):b=c:=by
 induction P with
 | nil=>cases h1
 | cons q P ih =>
  obtain ⟨g1,g2⟩:=List.nodup_cons.1 (show (q.1 :: P.map (·.1)).Nodup from h)
  rcases List.mem_cons.1 h1 with e1 | h1
  ·rcases List.mem_cons.1 h2 with e2 | h2
   ·rw [←e1] at e2;exact (congrArg Prod.snd e2).symm
   ·exact absurd (List.mem_map.2 ⟨(a,c),h2,by rw [←e1]⟩) g1
  ·rcases List.mem_cons.1 h2 with e2 | h2
   ·exact absurd (List.mem_map.2 ⟨(a,b),h1,by rw [←e2]⟩) g1
   ·exact ih g2 h1 h2
theorem pair_snd {P:List (Nat×Nat)} (h:(P.map (·.2)).Nodup) {a b c:Nat} (h1:(a,c)∈P) (h2:(b,c)∈P):a=b:=by
 induction P with
 | nil=>cases h1
 | cons q P ih =>
  obtain ⟨g1,g2⟩:=List.nodup_cons.1 (show (q.2 :: P.map (·.2)).Nodup from h)
  rcases List.mem_cons.1 h1 with e1 | h1
  ·rcases List.mem_cons.1 h2 with e2 | h2
   ·rw [←e1] at e2;exact (congrArg Prod.fst e2).symm
   ·exact absurd (List.mem_map.2 ⟨(b,c),h2,by rw [←e1]⟩) g1
  ·rcases List.mem_cons.1 h2 with e2 | h2
   ·exact absurd (List.mem_map.2 ⟨(a,c),h1,by rw [←e2]⟩) g1
   ·exact ih g2 h1 h2
noncomputable def headOf (P:List (Nat×Nat)) (b:Nat):Nat:=open Classical in if h:∃ i,(b,i)∈P then h.choose else 0
theorem headOf_eq {P:List (Nat×Nat)} (h:(P.map (·.1)).Nodup) {b i:Nat} (hb:(b,i)∈P):headOf P b=i:=by
 unfold headOf
 have he:∃ i,(b,i)∈P:=⟨i,hb⟩
 rw [dif_pos he]
 exact pair_fst h he.choose_spec hb
section
variable {H:HS} {N:Nat→NodeD} {P:List (Nat×Nat)} {ns:List (Option Nat)} {xs:List Wrd}
theorem NG.reach (h:NG H N P) (hl:LinkL P ns xs) {b:Nat} (hb:ReachN N ns b):∃ i,(b,i)∈P∧Reach H xs i:=by
 induction hb with
 | root b hm =>
  obtain ⟨i,h1,h2⟩:=hl.to b hm
  exact ⟨i,h2,.root i h1⟩
 | kid b c _ hm ih =>
  obtain ⟨i,h1,h2⟩:=ih
  obtain ⟨-,-,h3⟩:=h.hd _ h1
  obtain ⟨j,h4,h5⟩:=h3.to c hm
  exact ⟨j,h5,.part i j h2 h4⟩
theorem NG.reachB (h:NG H N P) (hl:LinkL P ns xs) {i:Nat} (hi:Reach H xs i):∃ b,(b,i)∈P∧ReachN N ns b:=by
 induction hi with
 | root i hm =>
  obtain ⟨b,h1,h2⟩:=hl.back i hm
  exact ⟨b,h2,.root b h1⟩
 | part j i _ hm ih =>
  obtain ⟨b,h1,h2⟩:=ih
  obtain ⟨-,-,h3⟩:=h.hd _ h1
  obtain ⟨c,h4,h5⟩:=h3.back i hm
  exact ⟨c,h5,.kid b c h2 h4⟩
theorem NG.count (h:NG H N P) (hl:LinkL P ns xs) {ks:List Nat} {tw out:List Wrd} (hC:Col H xs ks tw out) {L:List Nat} (hn:L.Nodup) (hL:∀ b,b∈L↔ReachN N ns b):tw.length=(L.map fun b=>(N b).1).sum:=by
 have key:∀ b∈L,∃ i,(b,i)∈P∧Reach H xs i∧headOf P b=i:=fun b hb=>by
  obtain ⟨i,h1,h2⟩:=h.reach hl ((hL b).1 hb)
  exact ⟨i,h1,h2,headOf_eq h.n1 h1⟩
 have h1:tw.length=((L.map (headOf P)).map fun i=>1+kN H i).sum:=by
  refine hC.count (nodup_map hn fun a ha b hb e=>?_) (fun i hi=>?_) fun i hi=>?_
  ·obtain ⟨i,g1,-,g3⟩:=key a ha
   obtain ⟨j,k1,-,k3⟩:=key b hb
   rw [g3,k3] at e
   subst e
   exact pair_snd h.n2 g1 k1
  ·obtain ⟨b,hb,rfl⟩:=List.mem_map.1 hi
   obtain ⟨i,-,g2,g3⟩:=key b hb
   rw [g3];exact g2
  obtain ⟨b,g1,g2⟩:=h.reachB hl hi
  exact List.mem_map.2 ⟨b,(hL b).2 g2,headOf_eq h.n1 g1⟩
 rw [h1,List.map_map]
 congr 1
 refine List.map_congr_left fun b hb=>?_
 obtain ⟨i,g1,-,g3⟩:=key b hb
 show 1+kN H (headOf P b)=_
 rw [g3,(h.hd _ g1).2.1]
end
/-! ### Collected -/
def movP (H:HS) (ks:List Nat) (P:List (Nat×Nat)):List (Nat×Nat):=(P.filter fun q=>decide (q.2∈ks)).map fun q=>(q.1,posn H ks q.2)
theorem movP_mem {H:HS} {ks:List Nat} {P:List (Nat×Nat)} {b i:Nat} (h:(b,i)∈P) (hi:i∈ks):(b,posn H ks i)∈movP H ks P :=
 List.mem_map.2 ⟨(b,i),List.mem_filter.2 ⟨h,by simpa using hi⟩,rfl⟩
theorem LinkL.mov {H:HS} {ks:List Nat} {P:List (Nat×Nat)}:∀ {os:List (Option Nat)} {xs:List Wrd},LinkL P os xs→(∀ x∈xs,Kn ks x)→LinkL (movP H ks P) os (xs.map (fwd H ks))
 | [],xs,h,_=>by obtain rfl:xs=[]:=h;rfl
 | o :: os,_,h,hk=>by
  obtain ⟨x,xs',rfl,g1,g2⟩:=h
  refine ⟨fwd H ks x,xs'.map (fwd H ks),rfl,⟨fun e=>?_,fun e=>g1.2 (by rwa [fwd_kind] at e)⟩,g2.mov fun y hy=>hk y (mT hy)⟩
  rw [fwd_kind] at e
  obtain ⟨b,i,h1,h2,h3⟩:=g1.1 e
  obtain ⟨j,hj,hj2⟩:=hk x mS0 e
  rw [h2] at hj2
  have:i=j:=Int.ofNat.inj hj2
  subst this
  refine ⟨b,posn H ks i,h1,?_,movP_mem h3 hj⟩
  unfold fwd
  rw [if_pos e,h2]
  simp
theorem NG.col {H:HS} {N:Nat→NodeD} {P:List (Nat×Nat)} {xs:List Wrd} {ks:List Nat} {tw out:List Wrd} (h:NG H N P) (hC:Col H xs ks tw out) (nm:List ByteArray):NG ⟨tw,nm⟩ N (movP H ks P):=by
 have hsub:(P.filter fun q=>decide (q.2∈ks)).Sublist P:=List.filter_sublist
 refine ⟨?_,?_,fun q hq=>?_⟩
 ·unfold movP
  rw [List.map_map]
  exact h.n1.sublist (hsub.map _)
 ·unfold movP
  rw [List.map_map]
  have h2:((P.filter fun q=>decide (q.2∈ks)).map (·.2)).Nodup:=h.n2.sublist (hsub.map _)
  have h3:=nodup_map (f:=posn H ks) h2 fun i hi j hj e=>by
   obtain ⟨q,hq,rfl⟩:=List.mem_map.1 hi
   obtain ⟨r,hr,rfl⟩:=List.mem_map.1 hj
   exact posn_inj ks (by simpa using (List.mem_filter.1 hq).2) (by simpa using (List.mem_filter.1 hr).2) e
  rw [List.map_map] at h3
  exact h3
 obtain ⟨r,hr,rfl⟩:=List.mem_map.1 hq
 obtain ⟨hr1,hr2⟩:=List.mem_filter.1 hr
 have hk:r.2∈ks:=by simpa using hr2
 obtain ⟨g1,g2,g3⟩:=h.hd r hr1
 obtain ⟨b1,b2⟩:=hC.block hk nm
 have hkn:kN ⟨tw,nm⟩ (posn H ks r.2)=kN H r.2:=b1.kN
 refine ⟨by show Hd _ (posn H ks r.2) (kN ⟨tw,nm⟩ (posn H ks r.2));rw [hkn];exact b1,by show _=1+kN ⟨tw,nm⟩ (posn H ks r.2);rw [hkn];exact g2,?_⟩
 show LinkL _ (N r.1).2 (partsL ⟨tw,nm⟩ (posn H ks r.2) (kN ⟨tw,nm⟩ (posn H ks r.2)))
 rw [hkn,b2]
 exact g3.mov fun x hx=>hC.kn x (mem_raw hk hx)
/-! ### The heap has grown; nodes have come -/
theorem Hd.app {H:HS} {i k:Nat} (h:Hd H i k) (new:List Wrd) (nm:List ByteArray):Hd ⟨H.ws ++ new,nm⟩ i k :=
 ⟨by show (H.ws ++ new)[i]?=_;rw [List.getElem?_append_left h.lt];exact h.1,by show _≤(H.ws ++ new).length;rw [List.length_append];have:=h.2;omega⟩
theorem NG.app {H:HS} {N N':Nat→NodeD} {P:List (Nat×Nat)} (h:NG H N P) (new:List Wrd) (nm:List ByteArray) (hN:∀ q∈P,N' q.1=N q.1):NG ⟨H.ws ++ new,nm⟩ N' P:=by
 refine ⟨h.n1,h.n2,fun q hq=>?_⟩
 obtain ⟨g1,g2,g3⟩:=h.hd q hq
 have e1:kN ⟨H.ws ++ new,nm⟩ q.2=kN H q.2:=(g1.app new nm).kN
 rw [e1,hN q hq,partsL_app new nm g1.2]
 exact ⟨g1.app new nm,g2,g3⟩
theorem NG.add {H:HS} {N:Nat→NodeD} {P Q:List (Nat×Nat)} (h:NG H N P) (n1:(Q.map (·.1)).Nodup) (n2:(Q.map (·.2)).Nodup) (d1:∀ q∈P,∀ r∈Q,q.1≠r.1) (d2:∀ q∈P,∀ r∈Q,q.2≠r.2)
  (hd:∀ q∈Q,Hd H q.2 (kN H q.2)∧(N q.1).1=1+kN H q.2∧LinkL (P ++ Q) (N q.1).2 (partsL H q.2 (kN H q.2))):NG H N (P ++ Q):=by
 refine ⟨?_,?_,fun q hq=>?_⟩
 ·rw [List.map_append]
  refine List.nodup_append.2 ⟨h.n1,n1,fun a ha b hb e=>?_⟩
  obtain ⟨q,hq,rfl⟩:=List.mem_map.1 ha
  obtain ⟨r,hr,rfl⟩:=List.mem_map.1 hb
  exact d1 q hq r hr e
 ·rw [List.map_append]
  refine List.nodup_append.2 ⟨h.n2,n2,fun a ha b hb e=>?_⟩
  obtain ⟨q,hq,rfl⟩:=List.mem_map.1 ha
  obtain ⟨r,hr,rfl⟩:=List.mem_map.1 hb
  exact d2 q hq r hr e
 rcases List.mem_append.1 hq with hq | hq
 ·obtain ⟨g1,g2,g3⟩:=h.hd q hq
  exact ⟨g1,g2,g3.mono fun _ hr=>List.mem_append.2 (.inl hr)⟩
 exact hd q hq
/-! ### The nodes of a term -/
def GrowL (N:Nat→NodeD):List T→List (Option Nat)→Prop
 | [],os=>os=[]
 | ⟨k,_,_,l⟩ :: ts,os=>∃ o os',os=o :: os'∧((k≠4→o=none)∧(k=4→∃ b,o=some b∧(N b).1=1+l.length∧GrowL N l (N b).2))∧GrowL N ts os'
def Grow1 (N:Nat→NodeD) (t:T) (o:Option Nat):Prop:=(t.kind≠4→o=none)∧(t.kind=4→∃ b,o=some b∧(N b).1=1+t.args.length∧GrowL N t.args (N b).2)
theorem GrowL_cons (N:Nat→NodeD) (t:T) (ts:List T) (os:List (Option Nat)):GrowL N (t :: ts) os↔∃ o os',os=o :: os'∧Grow1 N t o∧GrowL N ts os':=by
 obtain ⟨k,n,s,l⟩:=t;rw [GrowL];rfl
theorem GrowL_nil (N:Nat→NodeD) (os:List (Option Nat)):GrowL N [] os↔os=[]:=by rw [GrowL]
def ndL (N:Nat→NodeD):List T→List (Option Nat)→List Nat
 | [],_=>[]
 | ⟨_,_,_,l⟩ :: ts,os=>(match os.headD none with | some b=>b :: ndL N l (N b).2 | none=>[]) ++ ndL N ts os.tail
def nd1 (N:Nat→NodeD) (t:T) (o:Option Nat):List Nat:=match o with | some b=>b :: ndL N t.args (N b).2 | none=>[]
theorem ndL_nil (N:Nat→NodeD) (os:List (Option Nat)):ndL N [] os=[]:=by rw [ndL]
theorem ndL_cons (N:Nat→NodeD) (t:T) (ts:List T) (o:Option Nat) (os:List (Option Nat)):ndL N (t :: ts) (o :: os)=nd1 N t o ++ ndL N ts os:=by
 obtain ⟨k,n,s,l⟩:=t;rw [ndL];rfl
theorem RT.low {S:Nat→Prop} {w:World} {t:T} {v:Value} (h:RT S w t v):RT (fun b=>S b∧b < w.heap.size) w t v:=h.to (fun b h hl=>⟨h,hl⟩) fun _ _ _=>rfl

def Stand (H:HS) (ts:List T) (xs:List Wrd):Prop:=RepL H ts xs∧∀ t∈ts,LeafOk t
theorem Stand.nil (H:HS):Stand H [] []:=⟨by rw [RepL_nil],by simp⟩
theorem Stand.length {H:HS} {ts:List T} {xs:List Wrd} (h:Stand H ts xs):xs.length=ts.length:=h.1.length
theorem RepL.map {H H':HS} (f:Wrd→Wrd):∀ {ts:List T} {xs:List Wrd},RepL H ts xs→(∀ t x,t∈ts→x∈xs→Rep H t x→Rep H' t (f x))→RepL H' ts (xs.map f)
 | [],xs,h,_=>by rw [RepL_nil] at h ⊢;rw [h];rfl
 | t :: ts,xs,h,hf=>by
  obtain ⟨x,r,rfl,h1,h2⟩:=(RepL_cons H t ts xs).1 h
  exact (RepL_cons H' t ts _).2 ⟨f x,r.map f,rfl,hf t x (by simp) (by simp) h1,h2.map f fun u y hu hy=>hf u y (by simp [hu]) (by simp [hy])⟩
theorem RepL.snoc {H:HS} {t:T} {x:Wrd} (hx:Rep H t x):∀ {ts:List T} {xs:List Wrd},RepL H ts xs→RepL H (ts ++ [t]) (xs ++ [x])
 | [],xs,h=>by rw [RepL_nil] at h;rw [h];exact (RepL_cons H t [] _).2 ⟨x,[],rfl,hx,by rw [RepL_nil]⟩
 | u :: ts,xs,h=>by
  obtain ⟨y,r,rfl,h1,h2⟩:=(RepL_cons H u ts xs).1 h
  exact (RepL_cons H u _ _).2 ⟨y,r ++ [x],rfl,h1,h2.snoc hx⟩
theorem Stand.put {H:HS} (hW:WF H) {ts:List T} {xs:List Wrd} (h:Stand H ts xs) (room:Int) (t:T) :
  ((putHO room H t).2.1=0∧Stand (putHO room H t).2.2 (ts ++ [t]) (xs ++ [(putHO room H t).1]))∨((putHO room H t).2.1≠0∧Stand (putHO room H t).2.2 ts xs):=by
 rcases putHO_R hW room t with ⟨h0,hl,hr,-,-⟩ | ⟨h0,hH⟩
 ·refine .inl ⟨h0,?_,fun u hu=>?_⟩
  ·have h1:=h.1.map id fun u y _ _ hy=>hr.old u y hy
   rw [List.map_id] at h1
   exact h1.snoc hr.rep
  rcases List.mem_append.1 hu with hu | hu
  ·exact h.2 u hu
  rw [List.mem_singleton.1 hu];exact hl
 rw [hH];exact .inr ⟨h0,h⟩
theorem Stand.at {H:HS} {ts:List T} {xs:List Wrd} (h:Stand H ts xs) (i:Nat) (h1:i < ts.length) (h2:i < xs.length):Rep H ts[i] xs[i]∧LeafOk ts[i]:=⟨h.1.at i h1 h2,h.2 _ (List.getElem_mem h1)⟩
theorem Stand.stands {H:HS} {ts:List T} {xs:List Wrd} (h:Stand H ts xs):∀ x∈xs,standsB H x=true:=fun x hx=>by
 obtain ⟨i,hi,rfl⟩:=List.getElem_of_mem hx
 have hl:=h.length
 obtain ⟨h1,h2⟩:=h.at i (by omega) hi
 exact h1.stands h2
theorem Stand.col {H:HS} {ts:List T} {xs:List Wrd} {ks:List Nat} {tw out:List Wrd} (h:Stand H ts xs) (hC:Col H xs ks tw out):Stand ⟨tw,H.names⟩ ts out:=by
 refine ⟨?_,h.2⟩
 rw [hC.out]
 exact h.1.map _ fun u y _ hy hr=>hC.rep u y hr (hC.rk y hy)
theorem Col.le {H:HS} (hW:WF H) {rs:List Wrd} {ks:List Nat} {tw out:List Wrd} (h:Col H rs ks tw out):tw.length≤H.ws.length:=by
 rw [h.tw,List.length_map];exact raw_le hW ks h.hd h.nd
def intE:El Int where
 k:=1
 C:=fun _ _ x cs=>cs=[.int .i64 x]
 len:=by rintro S w x cs rfl;rfl
 one:=by rintro S w x cs rfl;simp [Value.oneCell']
 «to»:=by rintro S S' w w' x cs rfl _ _;rfl
theorem RX.int {R S:Nat→Prop} {w:World} {l:List Int} {b o n cap:Nat} (h:RX intE R S w l (.slice (some ⟨b,o,none⟩) n cap)) (j:Nat) (hj:j < l.length) :
  R b∧w.cell? ⟨b,o+j,none⟩=some (.int .i64 l[j]):=by
 obtain ⟨c,rfl,hc⟩:=h.elem j hj
 have h0:=hc 0 _ rfl
 exact ⟨h0.1,by have:=h0.2;simpa [intE] using this⟩
theorem hb_small {t:T} (h:headB t=true):t.name.size≤8∧(t.kind≠4→t.args=[]):=by
 have bare:bareB t=true→t.name.size≤8∧(t.kind≠4→t.args=[]):=fun hb=>by
  obtain ⟨h1,h2⟩:=bare_nil hb
  exact ⟨by rw [h1];decide,fun _=>h2⟩
 unfold headB at h
 by_cases h1:t.kind=1
 ·rw [if_pos h1,Bool.and_eq_true] at h;exact bare h.1
 rw [if_neg h1] at h
 by_cases h2:t.kind=2
 ·rw [if_pos h2] at h
  simp only [Bool.and_eq_true,decide_eq_true_eq] at h
  refine ⟨?_,fun _=>List.eq_nil_of_length_eq_zero h.1.2⟩
  have h3:=h.2
  unfold nameB at h3
  simp only [Bool.and_eq_true,decide_eq_true_eq] at h3
  exact h3.1.2
 rw [if_neg h2] at h
 by_cases h3:t.kind=3
 ·rw [if_pos h3,Bool.and_eq_true] at h;exact bare h.1
 rw [if_neg h3] at h
 by_cases h5:t.kind=5
 ·rw [if_pos h5,Bool.and_eq_true] at h;exact bare h.1
 rw [if_neg h5] at h
 by_cases h6:t.kind=6
 ·rw [if_pos h6,Bool.and_eq_true] at h;exact bare h.1
 rw [if_neg h6] at h
 by_cases h4:t.kind=4
 ·rw [if_pos h4] at h
  simp only [Bool.and_eq_true,decide_eq_true_eq] at h
  exact ⟨by rw [name_nil h.1.2];decide,fun e=>absurd h4 e⟩
 rw [if_neg h4] at h;cases h
theorem bulk_frm:∀ (m:Nat) (ts:List T),yC ts≤m→formL ts=true→yC ts≤9 * (ts.length+szL ts)
 | 0,ts,hb,_=>by omega
 | m+1,ts,hb,hf=>by
  cases ts with
  | nil=>simp [yC]
  | cons t ts =>
   rw [yG] at hb
   rw [formL_cons] at hf
   simp only [Bool.and_eq_true] at hf
   obtain ⟨h1,h2⟩:=hb_small hf.1.1
   have i1:=bulk_frm m t.args (by omega) hf.1.2
   have i2:=bulk_frm m ts (by omega) hf.2
   rw [yG,szL_cons,List.length_cons]
   by_cases h4:t.kind=4
   ·rw [if_pos h4];omega
   ·rw [if_neg h4,h2 h4]
    simp [yC];omega
theorem chk_bulk {t:T} (h:yE t=0):yC [t]≤1809:=by
 unfold yE at h
 cases hf:formL [t] with
 | false=>rw [hf] at h;simp at h
 | true =>
  rw [hf,if_pos rfl] at h
  by_cases hs:dpL [t]≤12∧szL [t]≤200
  ·have:=bulk_frm _ [t] (Nat.le_refl _) hf
   simp only [List.length_cons,List.length_nil] at this
   omega
  ·rw [if_neg hs] at h;cases h
abbrev TW:=List (T×Wrd)
def yQ (L:TW):List T:=L.map (·.1)
def wdsL (L:TW):List Wrd:=L.map (·.2)
def headsL (H:HS) (L:TW):List Nat:=L.flatMap fun p=>hd1 H p.1 p.2
theorem hdL_of (H:HS):∀ L:TW,hdL H (yQ L) (wdsL L)=headsL H L
 | []=>hdL_nil _ _
 | p :: L=>by
  show hdL H (p.1 :: yQ L) (p.2 :: wdsL L)=_
  rw [hdL_cons,hdL_of H L];rfl
theorem repL_of {H:HS}:∀ {L:TW},RepL H (yQ L) (wdsL L)↔∀ p∈L,Rep H p.1 p.2
 | []=>by simp [yQ,wdsL,RepL_nil]
 | p :: L=>by
  show RepL H (p.1 :: yQ L) (p.2 :: wdsL L)↔_
  rw [RepL_cons,List.forall_mem_cons,←repL_of (L:=L)]
  constructor
  ·rintro ⟨x,r,e,h1,h2⟩
   obtain ⟨rfl,rfl⟩:=List.cons.inj e
   exact ⟨h1,h2⟩
  ·rintro ⟨h1,h2⟩
   exact ⟨_,_,rfl,h1,h2⟩
structure PH (room:Int) (H:HS) (L:TW):Prop where
 wf:WF H
 rep:∀ p∈L,Rep H p.1 p.2
 nd:(headsL H L).Nodup
 ok:∀ p∈L,yE p.1=0∧yF [p.1]=true
 rm:(H.ws.length:Int)≤room
section
variable {room:Int} {H:HS} {L L':TW}
theorem sub_flatMap {α β:Type _} (f:α→List β) {l l':List α} (h:l'.Sublist l):(l'.flatMap f).Sublist (l.flatMap f):=by
 induction h with
 | slnil=>exact List.Sublist.refl _
 | cons a _ ih=>rw [List.flatMap_cons];exact ih.trans (List.sublist_append_right _ _)
 | cons_cons a _ ih=>rw [List.flatMap_cons,List.flatMap_cons];exact (List.Sublist.refl _).append ih
theorem PH.repL (h:PH room H L):RepL H (yQ L) (wdsL L):=repL_of.2 h.rep
theorem PH.ndL (h:PH room H L):(hdL H (yQ L) (wdsL L)).Nodup:=by rw [hdL_of];exact h.nd
theorem PH.new (hr:0≤room):PH room ⟨[],[]⟩ []:=⟨WF.new _,by simp,by simp [headsL],by simp,by simpa using hr⟩
theorem PH.sub (h:PH room H L) (hs:L'.Sublist L):PH room H L' :=
 ⟨h.wf,fun p hp=>h.rep p (hs.subset hp),h.nd.sublist (sub_flatMap _ hs),fun p hp=>h.ok p (hs.subset hp),h.rm⟩
theorem PH.perm (h:PH room H L) (hp:L.Perm L'):PH room H L' :=
 ⟨h.wf,fun p hq=>h.rep p (hp.mem_iff.2 hq),(hp.flatMap_right _).nodup h.nd,fun p hq=>h.ok p (hp.mem_iff.2 hq),h.rm⟩
theorem PH.leaf (h:PH room H L):∀ p∈L,LeafOk p.1∧szL [p.1]≤200:=fun p hp=>(check_ok (h.ok p hp).1 (h.ok p hp).2).2
theorem PH.stands (h:PH room H L):∀ x∈wdsL L,standsB H x=true:=fun x hx=>by
 obtain ⟨p,hp,rfl⟩:=List.mem_map.1 hx
 exact (h.rep p hp).stands (h.leaf p hp).1
theorem PH.le (h:PH room H L):szL (yQ L)≤H.ws.length:=by
 have h1:=h.repL
 have hh:=fun i hi=>(hdL_reach H (wdsL L) _ (yQ L) (Nat.le_refl _) (wdsL L) h1 (fun j hj=>Reach.root j hj) i hi).2
 have h2:=hdL_sum H _ (yQ L) (Nat.le_refl _) (wdsL L) h1
 rw [←h2,←raw_len _ hh]
 exact raw_le h.wf _ hh h.ndL
theorem PH.put (h:PH room H L) {t:T} (h0:yE t=0) (h1:yF [t]=true) (h2:¬room < H.ws.length+szL [t]):PH room (putW H t).2 (L ++ [(t,(putW H t).1)]):=by
 have hok:=(check_ok h0 h1).1
 have hR:=putW_R h.wf hok
 have ho:=hR.hdo _ _ h.repL
 rw [hdL_of,hdL_of] at ho
 refine ⟨hR.wf,fun p hp=>?_,?_,fun p hp=>?_,?_⟩
 ·rcases List.mem_append.1 hp with hp | hp
  ·exact hR.old _ _ (h.rep p hp)
  rw [List.mem_singleton.1 hp];exact hR.rep
 ·show ((L ++ [(t,(putW H t).1)]).flatMap fun p=>hd1 (putW H t).2 p.1 p.2).Nodup
  rw [List.flatMap_append,List.flatMap_singleton]
  have e:(L.flatMap fun p=>hd1 (putW H t).2 p.1 p.2)=headsL H L:=ho.1
  rw [e]
  refine List.nodup_append.2 ⟨h.nd,hR.nd,fun a ha b hb e=>?_⟩
  have:=ho.2 a ha
  have:=hR.fr b hb
  omega
 ·rcases List.mem_append.1 hp with hp | hp
  ·exact h.ok p hp
  rw [List.mem_singleton.1 hp];exact ⟨h0,h1⟩
 have:=(putW_len H t).1
 omega
theorem PH.col (h:PH room H L) {ks:List Nat} {tw out:List Wrd} (hC:Col H (wdsL L) ks tw out):∃ L2:TW,yQ L2=yQ L∧wdsL L2=out∧PH room ⟨tw,H.names⟩ L2∧tw.length=szL (yQ L):=by
 have e:wdsL (L.map fun p=>(p.1,fwd H ks p.2))=out:=by
  rw [hC.out];simp [wdsL,List.map_map]
 have e1:yQ (L.map fun p=>(p.1,fwd H ks p.2))=yQ L:=by simp [yQ,List.map_map]
 refine ⟨L.map fun p=>(p.1,fwd H ks p.2),e1,e,⟨hC.wf h.wf _,fun p hp=>?_,?_,fun p hp=>?_,?_⟩,hC.size h.repL h.ndL⟩
 ·obtain ⟨q,hq,rfl⟩:=List.mem_map.1 hp
  exact hC.rep _ _ (h.rep q hq) (hC.rk _ (List.mem_map.2 ⟨q,hq,rfl⟩))
 ·rw [←hdL_of,e,e1]
  exact hC.nodup h.repL h.ndL _
 ·obtain ⟨q,hq,rfl⟩:=List.mem_map.1 hp
  exact h.ok q hq
 have:=hC.le h.wf
 have:=h.rm
 show (tw.length:Int)≤room
 omega
theorem PH.num (h:PH room H L):PH room H ((numT 0,⟨1,0⟩) :: L):=by
 have hr:Rep H (numT 0) ⟨1,0⟩:=by
  unfold numT;simp [Rep]
 refine ⟨h.wf,fun p hp=>?_,?_,fun p hp=>?_,h.rm⟩
 ·rcases List.mem_cons.1 hp with rfl | hp
  ·exact hr
  exact h.rep p hp
 ·show (hd1 H (numT 0) ⟨1,0⟩ ++ headsL H L).Nodup
  rw [show hd1 H (numT 0) ⟨1,0⟩=[] from rfl]
  exact h.nd
 rcases List.mem_cons.1 hp with rfl | hp
 ·exact ⟨by simp [yE,numT,formL,headB,bareB,inB,dpL,szL],by simp [numT,yF]⟩
 exact h.ok p hp
end
def putE (t:T):Int:=if yE t≠0 then yE t else if yF [t]=false then 5 else 0
theorem rputable_c (t:T) (S:Nat→Prop) (w:World) (v:Value) (hv:RT S w t v) (hS:∀ b,S b→b < w.heap.size) (hb:yC [t]≤1099511627776) :
  Calls Tryz.prog 25 #[v] w fun e w'=>e=.returned (.int .i64 (putE t))∧Below w.heap.size w w':=by
 obtain ⟨a,cap,rfl,hcap,hr⟩:=hv
 obtain ⟨W0,hW0⟩:=I (w.alloc (.cells #[.int .i64 t.kind,.int .i64 t.n,.string t.name,.slice a t.args.length cap] 25))
 have HX0:Hid (Blk W0 w.heap.size [.int .i64 t.kind,.int .i64 t.n,.string t.name,.slice a t.args.length cap]):=J (by rw [hW0];exact Blk.new _ _ _ _ rfl)
 have HB0:Hid (Below w.heap.size w W0):=J (by rw [hW0];exact yA _ _)
 have hs0:=HB0.out.size
 have HT0:Hid (RT S W0 t (.agg #[.int .i64 t.kind,.int .i64 t.n,.string t.name,.slice a t.args.length cap])):=J (RT.below ⟨a,cap,rfl,hcap,hr⟩ HB0.out)
 have HS:=J hS
 have HW0:=J hW0
 clear hr hcap hW0 hS
 go_enter Tryz.func25,Tryz.ntmps25
 go_upto_region 1 with fail
 rw [←HW0.out]
 obtain ⟨y0,y1,y2,y3⟩:=HX0.out.c4 0 1 2 3
 go_wp2_with fail
 refine (rcheck_c t S _ _ HT0.out (fun b hb=>by have:=HS.out b hb;omega) hb).mono ?_
 rintro e w1 ⟨rfl,hB⟩
 have hs1:=hB.size
 have HB1:Hid (Below w.heap.size w w1):=J (yB HB0.out (by omega) hB)
 have HT1:=J (HT0.out.below hB)
 have HX1:=J (HX0.out.step hB)
 clear hB y0 y1 y2 y3
 by_cases hck:yE t=0
 ·have hckb:(yE t != 0)=false:=by simp [hck]
  obtain ⟨y0,y1,y2,y3⟩:=HX1.out.c4 0 1 2 3
  go_wp2_with fail
  refine (rclosed_c t S _ _ HT1.out (fun b hb=>by have:=HS.out b hb;omega) hb).mono ?_
  rintro e w2 ⟨he,hB⟩
  have HB2:Hid (Below w.heap.size w w2):=J (yB HB1.out (by omega) hB)
  clear hB
  cases hc:yF [t]
  ·rw [hc] at he
   subst he
   go_wp2_with fail
   go_ret
   exact ⟨by unfold putE;rw [if_neg (by simp [hck]),if_pos hc] <;> rfl,HB2.out⟩
  rw [hc] at he
  subst he
  go_wp2_with fail
  go_ret
  exact ⟨by unfold putE;rw [if_neg (by simp [hck]),if_neg (by simp [hc])] <;> rfl,HB2.out⟩
 have hckb:(yE t != 0)=true:=by simp [hck]
 go_wp2_with fail
 go_ret
 exact ⟨by unfold putE;rw [if_pos hck] <;> rfl,HB1.out⟩
theorem WF.empty:WF ⟨[],[]⟩:=WF.new []
/-! ### Terms as elements -/
def termE:El T where
 k:=4
 C:=fun S w t cs=>∃ a cap,cs=[.int .i64 t.kind,.int .i64 t.n,.string t.name,.slice a t.args.length cap]∧CapOk a t.args.length cap∧RTs S w t.args a 0
 len:=by rintro S w x cs ⟨a,cap,rfl,-⟩;rfl
 one:=by rintro S w x cs ⟨a,cap,rfl,-⟩;simp [Value.oneCell']
 «to»:=by rintro S S' w w' x cs ⟨a,cap,rfl,h1,h2⟩ hs hc;exact ⟨a,cap,rfl,h1,h2.to hs hc⟩
def termF:ElT termE where
 e:=25
 sl:=23
 bytes:=56
 z:=.agg #[.int .i64 0,.int .i64 0,.string ⟨#[]⟩,.slice none 0 0]
 hund:=Tryz.underlying23
 info:=info25
 hzs:=rfl
 hk:=by decide
 hb:=by decide
theorem cells_termE {S:Nat→Prop} {w:World}:∀ {ts:List T} {cs:List Value},CellsX termE S w ts cs↔CellsT S w ts cs
 | [],cs=>Iff.rfl
 | t :: ts,cs=>by
  constructor
  ·rintro ⟨c,cs',rfl,⟨a,cap,rfl,h1,h2⟩,h3⟩
   exact ⟨a,cap,cs',rfl,h1,h2,cells_termE.1 h3⟩
  ·rintro ⟨a,cap,cs',rfl,h1,h2,h3⟩
   exact ⟨_,cs',rfl,⟨a,cap,rfl,h1,h2⟩,cells_termE.2 h3⟩
theorem termE_of {S:Nat→Prop} {w:World} {t:T} {c:Array Value} (h:RT S w t (.agg c)):termE.C S w t c.toList:=by
 obtain ⟨a,cap,e,h1,h2⟩:=h
 simp only [Value.agg.injEq] at e
 exact ⟨a,cap,by rw [e],h1,h2⟩
/-! ### Rows side by side -/
structure Rw where
 X:Type
 E:El X
 F:ElT E
 v:Value
 l:List X
def rT (v:Value) (l:List T):Rw:=⟨T,termE,termF,v,l⟩
structure RS (P F:Nat→Prop) (w0:World) (bs:List (Nat×List Value)) (w:World) (rs:List Rw):Prop where
 bel:Below w0.heap.size w0 w
 pb:∀ b,P b→b < w.heap.size∧¬F b∧∀ r∈rs,r.v.ownBlock≠some b
 ok:∀ r∈rs,OwnXG r.E r.F.e P w0.heap.size w r.v r.l
 ap:rs.Pairwise fun r s=>∀ b,r.v.ownBlock=some b→s.v.ownBlock≠some b
 fh:∀ b,F b→w0.heap.size≤b∧b < w.heap.size∧∀ r∈rs,r.v.ownBlock≠some b
 bk:∀ p∈bs,Blk w p.1 p.2∧¬F p.1∧∀ r∈rs,r.v.ownBlock≠some p.1
section
variable {P F:Nat→Prop} {w0 w:World} {bs:List (Nat×List Value)} {rs:List Rw}
theorem RS.start (P:Nat→Prop) (w:World) (hP:∀ b,P b→b < w.heap.size):RS P (fun _=>False) w [] w [] :=
 ⟨Below.refl _ _,fun b hb=>⟨hP b hb,not_false,by simp⟩,by simp,List.Pairwise.nil,fun b h=>h.elim,by simp⟩
theorem RS.lt (h:RS P F w0 bs w rs) {r:Rw} (hr:r∈rs) (b:Nat) (hb:r.v.ownBlock=some b):w0.heap.size≤b∧b < w.heap.size:=OwnXG.block (h.ok r hr) b hb
theorem RS.sub (h:RS P F w0 bs w rs) {bs':List (Nat×List Value)} (hs:∀ p∈bs',p∈bs):RS P F w0 bs' w rs:=⟨h.bel,h.pb,h.ok,h.ap,h.fh,fun p hp=>h.bk p (hs p hp)⟩
theorem RS.step (h:RS P F w0 bs w rs) {w':World} {F':Nat→Prop} (hb0:Below w0.heap.size w0 w') (hl:w.heap.size≤w'.heap.size) (hF:∀ b,F' b→(F b∨w.heap.size≤b)∧b < w'.heap.size) (hc:∀ b,b < w.heap.size→¬F b→w'.heap[b]?=w.heap[b]?):RS P F' w0 bs w' rs:=by
 have hnF:∀ b,b < w.heap.size→¬F b→¬F' b:=fun b hb hn hf=>by
  rcases (hF b hf).1 with h1 | h1
  ·exact hn h1
  ·omega
 refine ⟨hb0,fun b hb=>⟨by have:=(h.pb b hb).1;omega,hnF b (h.pb b hb).1 (h.pb b hb).2.1,(h.pb b hb).2.2⟩,fun r hr=>?_,h.ap,fun b hb=>?_,fun p hp=>?_⟩
 ·refine OwnXG.to (h.ok r hr) hl fun b hb hlt=>hc b hlt fun hf=>?_
  rcases hb with hb | hb
  ·exact (h.pb b hb).2.1 hf
  exact (h.fh b hf).2.2 r hr hb
 ·obtain ⟨h1,h2⟩:=hF b hb
  have hw:=h.bel.size
  rcases h1 with h1 | h1
  ·exact ⟨(h.fh b h1).1,h2,(h.fh b h1).2.2⟩
  exact ⟨by omega,h2,fun r hr e=>by have:=(h.lt hr b e).2;omega⟩
 obtain ⟨h1,h2,h3⟩:=h.bk p hp
 exact ⟨h1.heap (hc p.1 h1.lt h2),hnF p.1 h1.lt h2,h3⟩
theorem RS.below (h:RS P F w0 bs w rs) {w':World} (hB:Below w.heap.size w w'):RS P F w0 bs w' rs :=
 h.step (yB h.bel h.bel.size hB) hB.size (fun b hb=>⟨.inl hb,by have:=(h.fh b hb).2.1;have:=hB.size;omega⟩) fun b hb _=>hB.block b hb
theorem RS.keep (h:RS P F w0 bs w rs) {w':World} {F':Nat→Prop} (hK:Keep F w w') (hF:∀ b,F' b→(F b∨w.heap.size≤b)∧b < w'.heap.size):RS P F' w0 bs w' rs :=
 h.step (h.bel.trans (hK.below h.bel.size fun b hb=>(h.fh b hb).1)) hK.size hF fun b hb hn=>hK.block b hb hn
theorem RS.alloc (h:RS P F w0 bs w rs) (c:Array Value) (e:TypeId) {g:Nat} (hg:g=w.heap.size):RS P F w0 ((g,c.toList) :: bs) (w.alloc (.cells c e)) rs:=by
 subst hg
 have h1:=h.below (yA w (.cells c e))
 refine ⟨h1.bel,h1.pb,h1.ok,h1.ap,h1.fh,fun p hp=>?_⟩
 rcases List.mem_cons.1 hp with rfl | hp
 ·exact ⟨Blk.new w c e _ rfl,fun hf=>by have:=(h.fh _ hf).2.1;omega,fun r hr e=>by have:=(h.lt hr _ e).2;omega⟩
 exact h1.bk p hp
theorem RS.blk (h:RS P F w0 bs w rs) {g:Nat} {c:List Value} (hB:Blk w g c) (hF:¬F g) (hr:∀ r∈rs,r.v.ownBlock≠some g):RS P F w0 ((g,c) :: bs) w rs :=
 ⟨h.bel,h.pb,h.ok,h.ap,h.fh,fun p hp=>by
  rcases List.mem_cons.1 hp with rfl | hp
  ·exact ⟨hB,hF,hr⟩
  ·exact h.bk p hp⟩
theorem RS.nil (h:RS P F w0 bs w rs) {X:Type} {E:El X} (Fe:ElT E):RS P F w0 bs w (⟨X,E,Fe,.slice none 0 0,[]⟩ :: rs):=by
 have hn:∀ b,(Value.slice none 0 0).ownBlock≠some b:=fun b=>by simp [Value.ownBlock]
 refine ⟨h.bel,fun b hb=>⟨(h.pb b hb).1,(h.pb b hb).2.1,fun r hr=>?_⟩,fun r hr=>?_,List.pairwise_cons.2 ⟨fun s _ b hb=>absurd hb (hn b),h.ap⟩,fun b hb=>⟨(h.fh b hb).1,(h.fh b hb).2.1,fun r hr=>?_⟩,fun p hp=>⟨(h.bk p hp).1,(h.bk p hp).2.1,fun r hr=>?_⟩⟩
 ·rcases List.mem_cons.1 hr with rfl | hr
  ·exact hn b
  exact (h.pb b hb).2.2 r hr
 ·rcases List.mem_cons.1 hr with rfl | hr
  ·exact OwnXG.nil _ _ _ _
  exact h.ok r hr
 ·rcases List.mem_cons.1 hr with rfl | hr
  ·exact hn b
  exact (h.fh b hb).2.2 r hr
 rcases List.mem_cons.1 hr with rfl | hr
 ·exact hn _
 exact (h.bk p hp).2.2 r hr
theorem RS.perm (h:RS P F w0 bs w rs) {rs':List Rw} (hp:rs.Perm rs'):RS P F w0 bs w rs':=by
 have hm:∀ r,r∈rs'→r∈rs:=fun r hr=>hp.mem_iff.2 hr
 refine ⟨h.bel,fun b hb=>⟨(h.pb b hb).1,(h.pb b hb).2.1,fun r hr=>(h.pb b hb).2.2 r (hm r hr)⟩,fun r hr=>h.ok r (hm r hr),?_,fun b hb=>⟨(h.fh b hb).1,(h.fh b hb).2.1,fun r hr=>(h.fh b hb).2.2 r (hm r hr)⟩,fun p hp'=>⟨(h.bk p hp').1,(h.bk p hp').2.1,fun r hr=>(h.bk p hp').2.2 r (hm r hr)⟩⟩
 exact hp.pairwise h.ap fun {r s} hrs b hb e=>hrs b e hb
theorem RS.grown {l1 l2:List Rw} {X:Type} {E:El X} {Fe:ElT E} {v v':Value} {xs xs':List X} (h:RS P F w0 bs w (l1 ++ ⟨X,E,Fe,v,xs⟩ :: l2)) {w':World} (hg:w.grownBy w' v.ownBlock)
  (ho:OwnXG E Fe.e P w0.heap.size w' v' xs') (hv:∀ b,v'.ownBlock=some b→v.ownBlock=some b∨w.heap.size≤b):RS P F w0 bs w' (l1 ++ ⟨X,E,Fe,v',xs'⟩ :: l2):=by
 have hmr:(⟨X,E,Fe,v,xs⟩:Rw)∈l1 ++ ⟨X,E,Fe,v,xs⟩ :: l2:=by simp
 have hmo:∀ r,(r∈l1∨r∈l2)→r∈l1 ++ (⟨X,E,Fe,v,xs⟩:Rw) :: l2:=fun r hr=>by
  rcases hr with hr | hr <;> simp [hr]
 have hsp:∀ r,r∈l1 ++ (⟨X,E,Fe,v',xs'⟩:Rw) :: l2→r=⟨X,E,Fe,v',xs'⟩∨(r∈l1∨r∈l2):=fun r hr=>by
  rcases List.mem_append.1 hr with hr | hr
  ·exact .inr (.inl hr)
  ·rcases List.mem_cons.1 hr with hr | hr
   ·exact .inl hr
   ·exact .inr (.inr hr)
 obtain ⟨a1,a2,a3⟩:=List.pairwise_append.1 h.ap
 obtain ⟨a4,a5⟩:=List.pairwise_cons.1 a2
 have hother:∀ r,(r∈l1∨r∈l2)→∀ b,r.v.ownBlock=some b→v.ownBlock≠some b:=fun r hr b hb e=>by
  rcases hr with hr | hr
  ·exact a3 r hr _ mS0 b hb e
  ·exact a4 r hr b e hb
 have hnew:∀ b,b < w.heap.size→v.ownBlock≠some b→v'.ownBlock≠some b:=fun b hb hn e=>by
  rcases hv b e with h1 | h1
  ·exact hn h1
  ·omega
 have hrowl:=fun b hb=>(h.lt hmr b hb).1
 have hsz:=hg.size
 refine ⟨grown_below h.bel hg h.bel.size hrowl,fun b hb=>⟨by have:=(h.pb b hb).1;omega,(h.pb b hb).2.1,fun r hr=>?_⟩,fun r hr=>?_,?_,fun b hb=>⟨(h.fh b hb).1,by have:=(h.fh b hb).2.1;omega,fun r hr=>?_⟩,fun p hp=>⟨?_,(h.bk p hp).2.1,fun r hr=>?_⟩⟩
 ·rcases hsp r hr with rfl | hr
  ·exact hnew b (h.pb b hb).1 ((h.pb b hb).2.2 _ hmr)
  exact (h.pb b hb).2.2 r (hmo r hr)
 ·rcases hsp r hr with rfl | hr
  ·exact ho
  refine OwnXG.to (h.ok r (hmo r hr)) hg.size fun b hb hlt=>hg.block b hlt fun e=>?_
  rcases hb with hb | hb
  ·exact (h.pb b hb).2.2 _ hmr e.symm
  exact hother r hr b hb e.symm
 ·refine List.pairwise_append.2 ⟨a1,List.pairwise_cons.2 ⟨fun s hs b hb e=>?_,a5⟩,fun r hr s hs b hb e=>?_⟩
  ·rcases hv b hb with h1 | h1
   ·exact a4 s hs b h1 e
   have:=(h.lt (hmo s (.inr hs)) b e).2;omega
  rcases List.mem_cons.1 hs with rfl | hs
  ·rcases hv b e with h1 | h1
   ·exact a3 r hr _ mS0 b hb h1
   have:=(h.lt (hmo r (.inl hr)) b hb).2;omega
  exact a3 r hr s (mT hs) b hb e
 ·rcases hsp r hr with rfl | hr
  ·exact hnew b (h.fh b hb).2.1 ((h.fh b hb).2.2 _ hmr)
  exact (h.fh b hb).2.2 r (hmo r hr)
 ·have h1:=h.bk p hp
  exact h1.1.heap (hg.block p.1 h1.1.lt fun e=>h1.2.2 _ hmr e.symm)
 rcases hsp r hr with rfl | hr
 ·exact hnew p.1 (h.bk p hp).1.lt ((h.bk p hp).2.2 _ hmr)
 exact (h.bk p hp).2.2 r (hmo r hr)
theorem RS.stay {l1 l2:List Rw} {r:Rw} (h:RS P F w0 bs w (l1 ++ r :: l2)) {w':World} (hg:w.grownBy w' r.v.ownBlock) (b:Nat) (hb:P b∨F b):w'.heap[b]?=w.heap[b]?:=by
 have hmr:r∈l1 ++ r :: l2:=by simp
 rcases hb with hb | hb
 ·exact hg.block b (h.pb b hb).1 fun e=>(h.pb b hb).2.2 _ hmr e.symm
 exact hg.block b (h.fh b hb).2.1 fun e=>(h.fh b hb).2.2 _ hmr e.symm
theorem RS.rx {r:Rw} (h:RS P F w0 bs w rs) (hr:r∈rs):RX r.E (fun b=>r.v.ownBlock=some b) P w r.l r.v:=(OwnX.rx (h.ok r hr)).mono (fun _ h=>h) fun b hb=>hb.1
theorem RS.own {r:Rw} (h:RS P F w0 bs w rs) (hr:r∈rs):OwnXG r.E r.F.e P w0.heap.size w r.v r.l:=h.ok r hr
theorem RS.cell {g:Nat} {c:List Value} (h:RS P F w0 bs w rs) (hg:(g,c)∈bs) (j:Nat) (u:Value) (hu:c[j]?=some u):w.cell? ⟨g,j,none⟩=some u:=(h.bk _ hg).1.cell j u hu
end
section
variable {o:Oper} {a:Act} {Q:Exit→Act→World→Prop} {K:Act→World→Prop} {w:World}
end
section
variable {X:Type} {E:El X} {e:TypeId} {P:Nat→Prop} {base:Nat} {w:World} {v:Value} {xs:List X}
def OwnXQ (E:El X) (e:TypeId) (P:Nat→Prop) (base:Nat) (w:World) (v:Value) (xs:List X):Prop:=∃ cs,ownsQ w base e E.k v xs.length cs∧CellsX E (fun b=>P b∧b < w.heap.size∧v.ownBlock≠some b) w xs cs
theorem OwnXQ.nil (e:TypeId) (P:Nat→Prop) (base:Nat) (w:World):OwnXQ E e P base w (.slice none 0 0) []:=⟨[],⟨by simp,.inl ⟨rfl,rfl⟩⟩,rfl⟩
theorem OwnXQ.to {w':World} (h:OwnXQ E e P base w v xs) (hl:w.heap.size≤w'.heap.size) (hc:∀ b,(P b∨v.ownBlock=some b)→b < w.heap.size→w'.heap[b]?=w.heap[b]?):OwnXQ E e P base w' v xs:=by
 obtain ⟨cs,h1,h2⟩:=h
 exact ⟨cs,h1.to fun b hb=>hc b (.inr hb) (h1.lt b hb).2,h2.to (fun b hb _=>⟨hb.1,by have:=hb.2.1;omega,hb.2.2⟩) fun b hb hlt=>hc b (.inl hb.1) hlt⟩
theorem OwnXQ.block (h:OwnXQ E e P base w v xs):∀ b,v.ownBlock=some b→base≤b∧b < w.heap.size:=by obtain ⟨cs,h1,-⟩:=h;exact h1.lt
theorem OwnXQ.of (h:OwnXG E e P base w v xs):OwnXQ E e P base w v xs:=by obtain ⟨cs,h1,h2⟩:=h;exact ⟨cs,ownsQ_of h1,h2⟩
theorem OwnXQ.rx (h:OwnXQ E e P base w v xs):RX E (fun b=>v.ownBlock=some b) (fun b=>P b∧b < w.heap.size∧v.ownBlock≠some b) w xs v:=by
 obtain ⟨cs,h1,h2⟩:=h
 rcases h1.2 with ⟨rfl,h0⟩ | ⟨g,o,cap,cur,rfl,-,-,hn,-⟩
 ·obtain rfl:xs=[]:=List.eq_nil_of_length_eq_zero h0
  exact ⟨none,0,cs,rfl,⟨Nat.le_refl _,fun _=>rfl⟩,h2,fun j u hu=>by
   obtain rfl:cs=[]:=h2
   simp at hu⟩
 exact ⟨some ⟨g,o * E.k,none⟩,cap,cs,rfl,⟨hn,fun h=>by cases h⟩,h2,fun j u hu=>⟨g,o * E.k,rfl,rfl,by have:=h1.cells rfl j u hu;rwa [Addr.add_lit] at this⟩⟩
end
structure RQ (P F:Nat→Prop) (w0:World) (bs:List (Nat×List Value)) (w:World) (rs:List Rw):Prop where
 bel:Below w0.heap.size w0 w
 pb:∀ b,P b→b < w.heap.size∧¬F b∧∀ r∈rs,r.v.ownBlock≠some b
 ok:∀ r∈rs,OwnXQ r.E r.F.e P w0.heap.size w r.v r.l
 ap:rs.Pairwise fun r s=>∀ b,r.v.ownBlock=some b→s.v.ownBlock≠some b
 fh:∀ b,F b→w0.heap.size≤b∧b < w.heap.size∧∀ r∈rs,r.v.ownBlock≠some b
 bk:∀ p∈bs,Blk w p.1 p.2∧¬F p.1∧∀ r∈rs,r.v.ownBlock≠some p.1
section
variable {P F:Nat→Prop} {w0 w:World} {bs:List (Nat×List Value)} {rs:List Rw}
theorem RQ.start (P:Nat→Prop) (w:World) (hP:∀ b,P b→b < w.heap.size):RQ P (fun _=>False) w [] w [] :=
 ⟨Below.refl _ _,fun b hb=>⟨hP b hb,not_false,by simp⟩,by simp,List.Pairwise.nil,fun b h=>h.elim,by simp⟩
theorem RQ.lt (h:RQ P F w0 bs w rs) {r:Rw} (hr:r∈rs) (b:Nat) (hb:r.v.ownBlock=some b):w0.heap.size≤b∧b < w.heap.size:=OwnXQ.block (h.ok r hr) b hb
theorem RQ.sub (h:RQ P F w0 bs w rs) {bs':List (Nat×List Value)} (hs:∀ p∈bs',p∈bs):RQ P F w0 bs' w rs:=⟨h.bel,h.pb,h.ok,h.ap,h.fh,fun p hp=>h.bk p (hs p hp)⟩
theorem RQ.step (h:RQ P F w0 bs w rs) {w':World} {F':Nat→Prop} (hb0:Below w0.heap.size w0 w') (hl:w.heap.size≤w'.heap.size) (hF:∀ b,F' b→(F b∨w.heap.size≤b)∧b < w'.heap.size) (hc:∀ b,b < w.heap.size→¬F b→w'.heap[b]?=w.heap[b]?):RQ P F' w0 bs w' rs:=by
 have hnF:∀ b,b < w.heap.size→¬F b→¬F' b:=fun b hb hn hf=>by
  rcases (hF b hf).1 with h1 | h1
  ·exact hn h1
  ·omega
 refine ⟨hb0,fun b hb=>⟨by have:=(h.pb b hb).1;omega,hnF b (h.pb b hb).1 (h.pb b hb).2.1,(h.pb b hb).2.2⟩,fun r hr=>?_,h.ap,fun b hb=>?_,fun p hp=>?_⟩
 ·refine OwnXQ.to (h.ok r hr) hl fun b hb hlt=>hc b hlt fun hf=>?_
  rcases hb with hb | hb
  ·exact (h.pb b hb).2.1 hf
  exact (h.fh b hf).2.2 r hr hb
 ·obtain ⟨h1,h2⟩:=hF b hb
  have hw:=h.bel.size
  rcases h1 with h1 | h1
  ·exact ⟨(h.fh b h1).1,h2,(h.fh b h1).2.2⟩
  exact ⟨by omega,h2,fun r hr e=>by have:=(h.lt hr b e).2;omega⟩
 obtain ⟨h1,h2,h3⟩:=h.bk p hp
 exact ⟨h1.heap (hc p.1 h1.lt h2),hnF p.1 h1.lt h2,h3⟩
theorem RQ.below (h:RQ P F w0 bs w rs) {w':World} (hB:Below w.heap.size w w'):RQ P F w0 bs w' rs :=
 h.step (yB h.bel h.bel.size hB) hB.size (fun b hb=>⟨.inl hb,by have:=(h.fh b hb).2.1;have:=hB.size;omega⟩) fun b hb _=>hB.block b hb
theorem RQ.keep (h:RQ P F w0 bs w rs) {w':World} {F':Nat→Prop} (hK:Keep F w w') (hF:∀ b,F' b→(F b∨w.heap.size≤b)∧b < w'.heap.size):RQ P F' w0 bs w' rs :=
 h.step (h.bel.trans (hK.below h.bel.size fun b hb=>(h.fh b hb).1)) hK.size hF fun b hb hn=>hK.block b hb hn
theorem RQ.alloc (h:RQ P F w0 bs w rs) (c:Array Value) (e:TypeId) {g:Nat} (hg:g=w.heap.size):RQ P F w0 ((g,c.toList) :: bs) (w.alloc (.cells c e)) rs:=by
 subst hg
 have h1:=h.below (yA w (.cells c e))
 refine ⟨h1.bel,h1.pb,h1.ok,h1.ap,h1.fh,fun p hp=>?_⟩
 rcases List.mem_cons.1 hp with rfl | hp
 ·exact ⟨Blk.new w c e _ rfl,fun hf=>by have:=(h.fh _ hf).2.1;omega,fun r hr e=>by have:=(h.lt hr _ e).2;omega⟩
 exact h1.bk p hp
theorem RQ.blk (h:RQ P F w0 bs w rs) {g:Nat} {c:List Value} (hB:Blk w g c) (hF:¬F g) (hr:∀ r∈rs,r.v.ownBlock≠some g):RQ P F w0 ((g,c) :: bs) w rs :=
 ⟨h.bel,h.pb,h.ok,h.ap,h.fh,fun p hp=>by
  rcases List.mem_cons.1 hp with rfl | hp
  ·exact ⟨hB,hF,hr⟩
  ·exact h.bk p hp⟩
theorem RQ.nil (h:RQ P F w0 bs w rs) {X:Type} {E:El X} (Fe:ElT E):RQ P F w0 bs w (⟨X,E,Fe,.slice none 0 0,[]⟩ :: rs):=by
 have hn:∀ b,(Value.slice none 0 0).ownBlock≠some b:=fun b=>by simp [Value.ownBlock]
 refine ⟨h.bel,fun b hb=>⟨(h.pb b hb).1,(h.pb b hb).2.1,fun r hr=>?_⟩,fun r hr=>?_,List.pairwise_cons.2 ⟨fun s _ b hb=>absurd hb (hn b),h.ap⟩,fun b hb=>⟨(h.fh b hb).1,(h.fh b hb).2.1,fun r hr=>?_⟩,fun p hp=>⟨(h.bk p hp).1,(h.bk p hp).2.1,fun r hr=>?_⟩⟩
 ·rcases List.mem_cons.1 hr with rfl | hr
  ·exact hn b
  exact (h.pb b hb).2.2 r hr
 ·rcases List.mem_cons.1 hr with rfl | hr
  ·exact OwnXQ.nil _ _ _ _
  exact h.ok r hr
 ·rcases List.mem_cons.1 hr with rfl | hr
  ·exact hn b
  exact (h.fh b hb).2.2 r hr
 rcases List.mem_cons.1 hr with rfl | hr
 ·exact hn _
 exact (h.bk p hp).2.2 r hr
theorem RQ.perm (h:RQ P F w0 bs w rs) {rs':List Rw} (hp:rs.Perm rs'):RQ P F w0 bs w rs':=by
 have hm:∀ r,r∈rs'→r∈rs:=fun r hr=>hp.mem_iff.2 hr
 refine ⟨h.bel,fun b hb=>⟨(h.pb b hb).1,(h.pb b hb).2.1,fun r hr=>(h.pb b hb).2.2 r (hm r hr)⟩,fun r hr=>h.ok r (hm r hr),?_,fun b hb=>⟨(h.fh b hb).1,(h.fh b hb).2.1,fun r hr=>(h.fh b hb).2.2 r (hm r hr)⟩,fun p hp'=>⟨(h.bk p hp').1,(h.bk p hp').2.1,fun r hr=>(h.bk p hp').2.2 r (hm r hr)⟩⟩
 exact hp.pairwise h.ap fun {r s} hrs b hb e=>hrs b e hb
theorem RQ.grown {l1 l2:List Rw} {X:Type} {E:El X} {Fe:ElT E} {v v':Value} {xs xs':List X} (h:RQ P F w0 bs w (l1 ++ ⟨X,E,Fe,v,xs⟩ :: l2)) {w':World} (hg:w.grownBy w' v.ownBlock)
  (ho:OwnXQ E Fe.e P w0.heap.size w' v' xs') (hv:∀ b,v'.ownBlock=some b→v.ownBlock=some b∨w.heap.size≤b):RQ P F w0 bs w' (l1 ++ ⟨X,E,Fe,v',xs'⟩ :: l2):=by
 have hmr:(⟨X,E,Fe,v,xs⟩:Rw)∈l1 ++ ⟨X,E,Fe,v,xs⟩ :: l2:=by simp
 have hmo:∀ r,(r∈l1∨r∈l2)→r∈l1 ++ (⟨X,E,Fe,v,xs⟩:Rw) :: l2:=fun r hr=>by
  rcases hr with hr | hr <;> simp [hr]
 have hsp:∀ r,r∈l1 ++ (⟨X,E,Fe,v',xs'⟩:Rw) :: l2→r=⟨X,E,Fe,v',xs'⟩∨(r∈l1∨r∈l2):=fun r hr=>by
  rcases List.mem_append.1 hr with hr | hr
  ·exact .inr (.inl hr)
  ·rcases List.mem_cons.1 hr with hr | hr
   ·exact .inl hr
   ·exact .inr (.inr hr)
 obtain ⟨a1,a2,a3⟩:=List.pairwise_append.1 h.ap
 obtain ⟨a4,a5⟩:=List.pairwise_cons.1 a2
 have hother:∀ r,(r∈l1∨r∈l2)→∀ b,r.v.ownBlock=some b→v.ownBlock≠some b:=fun r hr b hb e=>by
  rcases hr with hr | hr
  ·exact a3 r hr _ mS0 b hb e
  ·exact a4 r hr b e hb
 have hnew:∀ b,b < w.heap.size→v.ownBlock≠some b→v'.ownBlock≠some b:=fun b hb hn e=>by
  rcases hv b e with h1 | h1
  ·exact hn h1
  ·omega
 have hrowl:=fun b hb=>(h.lt hmr b hb).1
 have hsz:=hg.size
 refine ⟨grown_below h.bel hg h.bel.size hrowl,fun b hb=>⟨by have:=(h.pb b hb).1;omega,(h.pb b hb).2.1,fun r hr=>?_⟩,fun r hr=>?_,?_,fun b hb=>⟨(h.fh b hb).1,by have:=(h.fh b hb).2.1;omega,fun r hr=>?_⟩,fun p hp=>⟨?_,(h.bk p hp).2.1,fun r hr=>?_⟩⟩
 ·rcases hsp r hr with rfl | hr
  ·exact hnew b (h.pb b hb).1 ((h.pb b hb).2.2 _ hmr)
  exact (h.pb b hb).2.2 r (hmo r hr)
 ·rcases hsp r hr with rfl | hr
  ·exact ho
  refine OwnXQ.to (h.ok r (hmo r hr)) hg.size fun b hb hlt=>hg.block b hlt fun e=>?_
  rcases hb with hb | hb
  ·exact (h.pb b hb).2.2 _ hmr e.symm
  exact hother r hr b hb e.symm
 ·refine List.pairwise_append.2 ⟨a1,List.pairwise_cons.2 ⟨fun s hs b hb e=>?_,a5⟩,fun r hr s hs b hb e=>?_⟩
  ·rcases hv b hb with h1 | h1
   ·exact a4 s hs b h1 e
   have:=(h.lt (hmo s (.inr hs)) b e).2;omega
  rcases List.mem_cons.1 hs with rfl | hs
  ·rcases hv b e with h1 | h1
   ·exact a3 r hr _ mS0 b hb h1
   have:=(h.lt (hmo r (.inl hr)) b hb).2;omega
  exact a3 r hr s (mT hs) b hb e
 ·rcases hsp r hr with rfl | hr
  ·exact hnew b (h.fh b hb).2.1 ((h.fh b hb).2.2 _ hmr)
  exact (h.fh b hb).2.2 r (hmo r hr)
 ·have h1:=h.bk p hp
  exact h1.1.heap (hg.block p.1 h1.1.lt fun e=>h1.2.2 _ hmr e.symm)
 rcases hsp r hr with rfl | hr
 ·exact hnew p.1 (h.bk p hp).1.lt ((h.bk p hp).2.2 _ hmr)
 exact (h.bk p hp).2.2 r (hmo r hr)
theorem RQ.stay {l1 l2:List Rw} {r:Rw} (h:RQ P F w0 bs w (l1 ++ r :: l2)) {w':World} (hg:w.grownBy w' r.v.ownBlock) (b:Nat) (hb:P b∨F b):w'.heap[b]?=w.heap[b]?:=by
 have hmr:r∈l1 ++ r :: l2:=by simp
 rcases hb with hb | hb
 ·exact hg.block b (h.pb b hb).1 fun e=>(h.pb b hb).2.2 _ hmr e.symm
 exact hg.block b (h.fh b hb).2.1 fun e=>(h.fh b hb).2.2 _ hmr e.symm
theorem RQ.rx {r:Rw} (h:RQ P F w0 bs w rs) (hr:r∈rs):RX r.E (fun b=>r.v.ownBlock=some b) P w r.l r.v:=(OwnXQ.rx (h.ok r hr)).mono (fun _ h=>h) fun b hb=>hb.1
theorem RQ.own {r:Rw} (h:RQ P F w0 bs w rs) (hr:r∈rs):OwnXQ r.E r.F.e P w0.heap.size w r.v r.l:=h.ok r hr
theorem RQ.cell {g:Nat} {c:List Value} (h:RQ P F w0 bs w rs) (hg:(g,c)∈bs) (j:Nat) (u:Value) (hu:c[j]?=some u):w.cell? ⟨g,j,none⟩=some u:=(h.bk _ hg).1.cell j u hu
end
section
variable {o:Oper} {a:Act} {Q:Exit→Act→World→Prop} {K:Act→World→Prop} {w:World}
theorem wp_growQ (s x:Operand) {X:Type} {E:El X} (Fe:ElT E) (ho:o.op=.call { callee:=.builtin .append,args:=#[s,x],argTypes:=#[Fe.sl,Fe.sl] })
  {P F:Nat→Prop} {w0:World} {bs:List (Nat×List Value)} (l1 l2:List Rw) {v:Value} {xs:List X} {y:X} {g0 n:Nat} {c:List Value}
  (hs:a.eval s=v) (hx:a.eval x=.slice (some ⟨g0,0,none⟩) 1 1) (h:RQ P F w0 bs w (l1 ++ ⟨X,E,Fe,v,xs⟩ :: l2)) (hg:(g0,c)∈bs) (ht:E.C P w y c) (hnl:xs.length=n) (hn:n+1≤274877906944)
  (hK:∀ g o' cap w',RQ P F w0 bs w' (l1 ++ ⟨X,E,Fe,.slice (some ⟨g,o',none⟩) (n+1) cap,xs ++ [y]⟩ :: l2)→w.grownBy w' v.ownBlock→K (a.put o.dst (.slice (some ⟨g,o',none⟩) (n+1) cap)) w') :
  Oper.wp Tryz.prog o a w K Q:=by
 subst hnl
 have hmr:(⟨X,E,Fe,v,xs⟩:Rw)∈l1 ++ ⟨X,E,Fe,v,xs⟩ :: l2:=by simp
 obtain ⟨i,hi,hiz,his,hib⟩:=info_parts Fe.info
 have hb:=Fe.hb
 have hown:OwnXQ E Fe.e P w0.heap.size w v xs:=h.ok _ hmr
 have hpb:=h.pb
 have hbel:=h.bel.size
 obtain ⟨cs,ho1,hC⟩:=hown
 have hx1:E.C (fun b=>P b∧b < w.heap.size∧v.ownBlock≠some b) w y c:=E.to ht (fun b hb hl=>⟨hb,hl,(hpb b hb).2.2 _ hmr⟩) fun _ _ _=>rfl
 obtain ⟨g,o',cap,w',hr,h1,h2,h3⟩:=run_append_q (P:=Tryz.prog) w Fe.sl o.type w0.heap.size Fe.e i Fe.z E.k Fe.bytes Fe.hund hi hiz his hib Fe.hzs Fe.hk v _ cs ho1 ⟨g0,0,none⟩ 1 1 c (by rw [E.len ht];simp) (fun j u hu=>by
  have:=(h.bk _ hg).1.cell j u hu
  rw [Addr.add_lit,Nat.zero_add];exact this) (E.one ht) (by decide) (by unfold maxLen;omega) (Nat.le_trans (Nat.mul_le_mul hn hb) (by decide)) hbel
 have hsz:=h2.size
 have hblk:∀ b,(P b∧b < w.heap.size∧v.ownBlock≠some b)→b < w.heap.size→w'.heap[b]?=w.heap[b]?:=fun b hb hlt=>h2.block b hlt fun e=>hb.2.2 e.symm
 have hO:OwnXQ E Fe.e P w0.heap.size w' (.slice (some ⟨g,o',none⟩) (xs.length+1) cap) (xs ++ [y]):=by
  refine ⟨cs ++ c,by simpa using h1,?_⟩
  have hcc:CellsX E (fun b=>P b∧b < w.heap.size∧v.ownBlock≠some b) w' (xs ++ [y]) (cs ++ c):=(hC.to (fun _ h _=>h) hblk).append (CellsX.single (E.to hx1 (fun _ h _=>h) hblk))
  refine hcc.to (fun b hb _=>⟨hb.1,by have:=hb.2.1;omega,fun e=>?_⟩) fun _ _ _=>rfl
  have e1:g=b:=by simpa [Value.ownBlock] using e
  subst e1
  rcases h3 with h5 | h5
  ·exact hb.2.2 h5
  have:=hb.2.1;omega
 have hv:∀ b,(Value.slice (some ⟨g,o',none⟩) (xs.length+1) cap).ownBlock=some b→v.ownBlock=some b∨w.heap.size≤b:=fun b hb=>by
  have e1:g=b:=by simpa [Value.ownBlock] using hb
  subst e1
  rcases h3 with h5 | h5
  ·exact .inl h5
  ·exact .inr (by omega)
 unfold Oper.wp execOp
 simp only [ho,resolve,invoke,builtin,Sem.run_bind,Sem.run_pure,Result.andThen_ok,List.map_toArray,List.map_cons,List.map_nil,hs,hx,hr]
 exact hK g o' cap w' (h.grown h2 hO hv) h2
theorem append_growQ {ops:Array Oper} {rest:List Oper} (s x:Operand) (hgd:o.guard=none) {X:Type} {E:El X} (Fe:ElT E) (ho:o.op=.call { callee:=.builtin .append,args:=#[s,x],argTypes:=#[Fe.sl,Fe.sl] })
  {P F:Nat→Prop} {w0:World} {bs:List (Nat×List Value)} (l1 l2:List Rw) {v:Value} {xs:List X} {y:X} {g0 n:Nat} {c:List Value}
  (hs:a.eval s=v) (hx:a.eval x=.slice (some ⟨g0,0,none⟩) 1 1) (h:RQ P F w0 bs w (l1 ++ ⟨X,E,Fe,v,xs⟩ :: l2)) (hg:(g0,c)∈bs) (ht:E.C P w y c) (hnl:xs.length=n) (hn:n+1≤274877906944)
  (hK:∀ g o' cap w',RQ P F w0 bs w' (l1 ++ ⟨X,E,Fe,.slice (some ⟨g,o',none⟩) (n+1) cap,xs ++ [y]⟩ :: l2)→w.grownBy w' v.ownBlock→wpList Tryz.prog ops Q rest (a.put o.dst (.slice (some ⟨g,o',none⟩) (n+1) cap)) w') :
  wpList Tryz.prog ops Q (o :: rest) a w :=
 wpList_plain hgd fun _ hK'=>wp_growQ s x Fe ho l1 l2 hs hx h hg ht hnl hn fun g o' cap w' h1 h2=>hK' _ _ (hK g o' cap w' h1 h2)
end
def optr (o:Option Nat):Value:=.pointer (o.map fun b=>⟨b,0,none⟩)
def ptrE:El (Option Nat) where
 k:=1
 C:=fun _ _ o cs=>cs=[optr o]
 len:=by rintro S w x cs rfl;rfl
 one:=by rintro S w x cs rfl;simp [optr,Value.oneCell']
 «to»:=by rintro S S' w w' x cs rfl _ _;rfl
theorem cells_ptrE {S:Nat→Prop} {w:World}:∀ {os:List (Option Nat)} {cs:List Value},CellsX ptrE S w os cs↔cs=os.map optr
 | [],cs=>Iff.rfl
 | o :: os,cs=>by
  constructor
  ·rintro ⟨c,cs',rfl,rfl,h⟩
   rw [cells_ptrE.1 h];rfl
  ·rintro rfl
   exact ⟨[optr o],os.map optr,rfl,rfl,cells_ptrE.2 rfl⟩
structure NodeR (P:Nat→Prop) (w:World) (b:Nat) (d:NodeD):Prop where
 p:P b
 c:IsC w b
 ex:∃ a cap,Blk w b [.int .i64 d.1,.slice a d.2.length cap]∧RX ptrE P (fun _=>False) w d.2 (.slice a d.2.length cap)
theorem NodeR.to {P P':Nat→Prop} {w w':World} {b:Nat} {d:NodeD} (h:NodeR P w b d) (hs:∀ b,P b→b < w.heap.size→P' b) (hc:∀ b,P b→b < w.heap.size→w'.heap[b]?=w.heap[b]?):NodeR P' w' b d:=by
 obtain ⟨hp,h1,a,cap,h2,h3⟩:=h
 have e:=hc b hp h2.lt
 exact ⟨hs b hp h2.lt,h1.to e,a,cap,h2.heap e,h3.to hs (fun _ h _=>h) fun b hb hl=>hc b (hb.elim (fun h=>h.elim) id) hl⟩
structure NodesR (P:Nat→Prop) (w:World) (N:Nat→NodeD) (D:List Nat):Prop where
 at':∀ b∈D,NodeR P w b (N b)
 kid:∀ b∈D,∀ c,some c∈(N b).2→c∈D
 few:∀ b∈D,(N b).2.length≤1000∧(N b).1≤1001
theorem NodesR.to {P P':Nat→Prop} {w w':World} {N:Nat→NodeD} {D:List Nat} (h:NodesR P w N D) (hs:∀ b,P b→b < w.heap.size→P' b) (hc:∀ b,P b→b < w.heap.size→w'.heap[b]?=w.heap[b]?):NodesR P' w' N D :=
 ⟨fun b hb=>(h.at' b hb).to hs hc,h.kid,h.few⟩
theorem ownsQ.base {w:World} {b1 b2:Nat} {e:TypeId} {size n:Nat} {v:Value} {xs:List Value} (h:ownsQ w b1 e size v n xs) (hb:b2≤b1):ownsQ w b2 e size v n xs:=by
 refine ⟨h.1,h.2.imp id ?_⟩
 rintro ⟨g,o,cap,cur,rfl,r1,r⟩
 exact ⟨g,o,cap,cur,rfl,Nat.le_trans hb r1,r⟩
theorem OwnXQ.base {X:Type} {E:El X} {e:TypeId} {P:Nat→Prop} {b1 b2:Nat} {w:World} {v:Value} {xs:List X} (h:OwnXQ E e P b1 w v xs) (hb:b2≤b1):OwnXQ E e P b2 w v xs:=by
 obtain ⟨cs,h1,h2⟩:=h
 exact ⟨cs,h1.base hb,h2⟩
structure LV (N:Nat→NodeD) (ns:List (Option Nat)) (S:List Nat) (todo:List (Option Nat)) (n:Nat):Prop where
 nd:S.Nodup
 sum:n=(S.map fun b=>(N b).1).sum
 sd:∀ b∈S,ReachN N ns b
 td:∀ b,some b∈todo→ReachN N ns b
 cl:∀ b∈S,∀ c,some c∈(N b).2→c∈S∨some c∈todo
 rt:∀ b,some b∈ns→b∈S∨some b∈todo
section
variable {N:Nat→NodeD} {ns:List (Option Nat)} {S:List Nat} {todo:List (Option Nat)} {n:Nat}
theorem LV.start (N:Nat→NodeD) (ns:List (Option Nat)):LV N ns [] ns 0:=⟨List.nodup_nil,rfl,by simp,fun b h=>.root b h,by simp,fun b h=>.inr h⟩
theorem LV.skip {o:Option Nat} (h:LV N ns S (o :: todo) n) (ho:∀ b,o=some b→b∈S):LV N ns S todo n:=by
 have key:∀ c,some c∈o :: todo→c∈S∨some c∈todo:=fun c hc=>by
  rcases List.mem_cons.1 hc with e | hc
  ·exact .inl (ho c e.symm)
  ·exact .inr hc
 exact ⟨h.nd,h.sum,h.sd,fun b hb=>h.td b (mT hb),fun b hb c hc=>(h.cl b hb c hc).elim .inl (key c),fun b hb=>(h.rt b hb).elim .inl (key b)⟩
theorem LV.take {x:Nat} (h:LV N ns S (some x :: todo) n) (hx:x ∉ S):LV N ns (S ++ [x]) (todo ++ (N x).2) (n+(N x).1):=by
 have hr:=h.td x mS0
 have key:∀ c,(c∈S∨some c∈some x :: todo)→c∈S ++ [x]∨some c∈todo ++ (N x).2:=fun c hc=>by
  rcases hc with hc | hc
  ·exact .inl (by simp [hc])
  ·rcases List.mem_cons.1 hc with e | hc
   ·cases e;exact .inl (by simp)
   ·exact .inr (by simp [hc])
 refine ⟨?_,?_,fun b hb=>?_,fun b hb=>?_,fun b hb c hc=>?_,fun b hb=>key b (h.rt b hb)⟩
 ·refine List.nodup_append.2 ⟨h.nd,by simp,fun a ha b hb e=>?_⟩
  obtain rfl:b=x:=by simpa using hb
  exact hx (e ▸ ha)
 ·rw [h.sum];simp
 ·rcases List.mem_append.1 hb with hb | hb
  ·exact h.sd b hb
  obtain rfl:b=x:=by simpa using hb
  exact hr
 ·rcases List.mem_append.1 hb with hb | hb
  ·exact h.td b (mT hb)
  exact .kid x b hr hb
 rcases List.mem_append.1 hb with hb | hb
 ·exact key c (h.cl b hb c hc)
 obtain rfl:b=x:=by simpa using hb
 exact .inr (by simp [hc])
theorem LV.done (h:LV N ns S [] n) (b:Nat):b∈S↔ReachN N ns b:=by
 refine ⟨h.sd b,fun hb=>?_⟩
 induction hb with
 | root b hm=>exact (h.rt b hm).elim id fun h=>by cases h
 | kid b c _ hm ih=>exact (h.cl b ih c hm).elim id fun h=>by cases h
end
section
variable {o:Oper} {a:Act} {Q:Exit→Act→World→Prop} {K:Act→World→Prop} {w:World}
theorem wp_manyQ (s x:Operand) {X:Type} {E:El X} (Fe:ElT E) (ho:o.op=.call { callee:=.builtin .append,args:=#[s,x],argTypes:=#[Fe.sl,Fe.sl] })
  {P F R S:Nat→Prop} {w0:World} {bs:List (Nat×List Value)} (l1 l2:List Rw) {v vx:Value} {xs ys:List X}
  (hs:a.eval s=v) (hx:a.eval x=vx) (h:RQ P F w0 bs w (l1 ++ ⟨X,E,Fe,v,xs⟩ :: l2)) (hy:RX E R S w ys vx) (hS:∀ b,S b→P b) (hn:xs.length+ys.length≤274877906944)
  (hK:∀ v' w',RQ P F w0 bs w' (l1 ++ ⟨X,E,Fe,v',xs ++ ys⟩ :: l2)→w.grownBy w' v.ownBlock→(∃ a cap,v'=.slice a (xs.length+ys.length) cap)→K (a.put o.dst v') w') :
  Oper.wp Tryz.prog o a w K Q:=by
 have hmr:(⟨X,E,Fe,v,xs⟩:Rw)∈l1 ++ ⟨X,E,Fe,v,xs⟩ :: l2:=by simp
 obtain ⟨i,hi,hiz,his,hib⟩:=info_parts Fe.info
 have hb:=Fe.hb
 have hown:OwnXQ E Fe.e P w0.heap.size w v xs:=h.ok _ hmr
 have hpb:=h.pb
 have hbel:=h.bel.size
 obtain ⟨ax,capx,ds,rfl,hcx,hD,hj⟩:=hy
 by_cases h0:ys.length=0
 ·obtain rfl:ys=[]:=List.eq_nil_of_length_eq_zero h0
  obtain ⟨av,cv,hv,hcv⟩:=(OwnXQ.rx hown).form
  obtain rfl:ds=[]:=hD
  have hsrc:Src Tryz.prog i.size Fe.sl (.slice ax 0 capx) 0 [] w:=by
   cases ax with
   | none=>exact Src.ofNil w Fe.hund capx
   | some ad=>exact Src.ofSlice w Fe.hund ad 0 capx [] (by simp) (by simp) (by simp)
  have hr:=run_append_nothing (P:=Tryz.prog) w Fe.sl Fe.sl o.type Fe.e i Fe.hund hi av xs.length cv hcv.1 (.slice ax 0 capx) hsrc
  rw [←hv] at hr
  unfold Oper.wp execOp
  have hr':(Builtin.append_ #[Fe.sl,Fe.sl] o.type #[v,.slice ax ([]:List X).length capx]).run Tryz.prog w=.ok v w:=hr
  simp only [ho,resolve,invoke,builtin,Sem.run_bind,Sem.run_pure,Result.andThen_ok,List.map_toArray,List.map_cons,List.map_nil,hs,hx,hr']
  exact hK v w (by rw [List.append_nil];exact h) ⟨rfl,rfl,rfl,Nat.le_refl _,fun _ _ _=>rfl⟩ ⟨av,cv,hv⟩
 obtain ⟨cs,ho1,hC⟩:=hown
 have hdl:=hD.length
 have hk:=Fe.hk
 have hdp:0 < ds.length:=by rw [hdl];exact Nat.mul_pos (by omega) hk
 obtain ⟨b0,o0,rfl,-,-⟩:=hj 0 ds[0] (by simp)
 have hx1:CellsX E (fun b=>P b∧b < w.heap.size∧v.ownBlock≠some b) w ys ds:=hD.to (fun b hb hl=>⟨hS b hb,hl,(hpb b (hS b hb)).2.2 _ hmr⟩) fun _ _ _=>rfl
 obtain ⟨g,o',cap,w',hr,h1,h2,h3⟩:=run_append_q (P:=Tryz.prog) w Fe.sl o.type w0.heap.size Fe.e i Fe.z E.k Fe.bytes Fe.hund hi hiz his hib Fe.hzs Fe.hk v _ cs ho1 ⟨b0,o0,none⟩ ys.length capx ds hdl (fun j u hu=>by
  obtain ⟨b,o1,e,-,hc⟩:=hj j u hu
  cases e
  rw [Addr.add_lit];exact hc) hD.oneCell (by omega) (by unfold maxLen;omega) (Nat.le_trans (Nat.mul_le_mul hn hb) (by decide)) hbel
 have hsz:=h2.size
 have hblk:∀ b,(P b∧b < w.heap.size∧v.ownBlock≠some b)→b < w.heap.size→w'.heap[b]?=w.heap[b]?:=fun b hb hlt=>h2.block b hlt fun e=>hb.2.2 e.symm
 have hO:OwnXQ E Fe.e P w0.heap.size w' (.slice (some ⟨g,o',none⟩) (xs.length+ys.length) cap) (xs ++ ys):=by
  refine ⟨cs ++ ds,by simpa using h1,?_⟩
  have hcc:CellsX E (fun b=>P b∧b < w.heap.size∧v.ownBlock≠some b) w' (xs ++ ys) (cs ++ ds):=(hC.to (fun _ h _=>h) hblk).append (hx1.to (fun _ h _=>h) hblk)
  refine hcc.to (fun b hb _=>⟨hb.1,by have:=hb.2.1;omega,fun e=>?_⟩) fun _ _ _=>rfl
  have e1:g=b:=by simpa [Value.ownBlock] using e
  subst e1
  rcases h3 with h5 | h5
  ·exact hb.2.2 h5
  have:=hb.2.1;omega
 have hv:∀ b,(Value.slice (some ⟨g,o',none⟩) (xs.length+ys.length) cap).ownBlock=some b→v.ownBlock=some b∨w.heap.size≤b:=fun b hb=>by
  have e1:g=b:=by simpa [Value.ownBlock] using hb
  subst e1
  rcases h3 with h5 | h5
  ·exact .inl h5
  ·exact .inr (by omega)
 unfold Oper.wp execOp
 simp only [ho,resolve,invoke,builtin,Sem.run_bind,Sem.run_pure,Result.andThen_ok,List.map_toArray,List.map_cons,List.map_nil,hs,hx,hr]
 exact hK _ w' (h.grown h2 hO hv) h2 ⟨_,_,rfl⟩
end
theorem GrowL.len {N:Nat→NodeD}:∀ {ts:List T} {os:List (Option Nat)},GrowL N ts os→os.length=ts.length
 | [],os,h=>by rw [(GrowL_nil N os).1 h];rfl
 | t :: ts,os,h=>by
  obtain ⟨o,os',rfl,-,h2⟩:=(GrowL_cons N t ts os).1 h
  simp [h2.len]
theorem GrowL.congr {N N':Nat→NodeD}:∀ (m:Nat) (ts:List T),yC ts≤m→∀ os,GrowL N ts os→(∀ b∈ndL N ts os,N' b=N b)→GrowL N' ts os∧ndL N' ts os=ndL N ts os:=by
 intro m
 induction m with
 | zero =>
  intro ts hb os hg _
  cases ts with
  | nil=>obtain rfl:=(GrowL_nil N os).1 hg;exact ⟨(GrowL_nil N' _).2 rfl,by rw [ndL_nil,ndL_nil]⟩
  | cons t ts=>rw [yG] at hb;omega
 | succ m ih =>
  intro ts hb os hg he
  cases ts with
  | nil=>obtain rfl:=(GrowL_nil N os).1 hg;exact ⟨(GrowL_nil N' _).2 rfl,by rw [ndL_nil,ndL_nil]⟩
  | cons t ts =>
   rw [yG] at hb
   obtain ⟨o,os',rfl,ho,hos⟩:=(GrowL_cons N t ts os).1 hg
   rw [ndL_cons] at he
   obtain ⟨a1,a2⟩:=ih ts (by omega) os' hos fun b hb=>he b (List.mem_append.2 (.inr hb))
   by_cases hk:t.kind=4
   ·obtain ⟨b,rfl,hb1,hb2⟩:=ho.2 hk
    have en:∀ N:Nat→NodeD,nd1 N t (some b)=b :: ndL N t.args (N b).2:=fun _=>rfl
    rw [en] at he
    have e0:N' b=N b:=he b (by simp)
    obtain ⟨c1,c2⟩:=ih t.args (by omega) _ hb2 fun c hc=>he c (by simp [hc])
    refine ⟨(GrowL_cons N' t ts _).2 ⟨some b,os',rfl,⟨fun e=>absurd hk e,fun _=>⟨b,rfl,by rw [e0];exact hb1,by rw [e0];exact c1⟩⟩,a1⟩,?_⟩
    rw [ndL_cons,ndL_cons,en,en,e0,c2,a2]
   ·obtain rfl:=ho.1 hk
    refine ⟨(GrowL_cons N' t ts _).2 ⟨none,os',rfl,⟨fun _=>rfl,fun e=>absurd e hk⟩,a1⟩,?_⟩
    rw [ndL_cons,ndL_cons,a2];rfl
theorem GrowL.snoc {N:Nat→NodeD} {t:T} {o:Option Nat} (ht:Grow1 N t o):∀ {ts:List T} {os:List (Option Nat)},GrowL N ts os→GrowL N (ts ++ [t]) (os ++ [o])∧ndL N (ts ++ [t]) (os ++ [o])=ndL N ts os ++ nd1 N t o
 | [],os,h=>by
  obtain rfl:=(GrowL_nil N os).1 h
  refine ⟨(GrowL_cons N t [] _).2 ⟨o,[],rfl,ht,(GrowL_nil N _).2 rfl⟩,?_⟩
  show ndL N [t] [o]=_
  rw [ndL_cons,ndL_nil];simp
 | s :: ts,os,h=>by
  obtain ⟨p,os',rfl,h1,h2⟩:=(GrowL_cons N s ts os).1 h
  obtain ⟨a1,a2⟩:=h2.snoc ht
  refine ⟨(GrowL_cons N s _ _).2 ⟨p,os' ++ [o],rfl,h1,a1⟩,?_⟩
  show ndL N (s :: (ts ++ [t])) (p :: (os' ++ [o]))=_
  rw [ndL_cons,ndL_cons,a2,List.append_assoc]
theorem RX.ptr {R S S':Nat→Prop} {w:World} {os:List (Option Nat)} {v:Value} (h:RX ptrE R S w os v):RX ptrE R S' w os v:=by
 obtain ⟨a,cap,cs,rfl,h1,h2,h3⟩:=h
 exact ⟨a,cap,cs,rfl,h1,cells_ptrE.2 (cells_ptrE.1 h2),h3⟩
theorem OwnXQ.monoP {X:Type} {E:El X} {e:TypeId} {P P':Nat→Prop} {base:Nat} {w:World} {v:Value} {xs:List X} (h:OwnXQ E e P base w v xs) (hP:∀ b,P b→P' b):OwnXQ E e P' base w v xs:=by
 obtain ⟨cs,h1,h2⟩:=h
 exact ⟨cs,h1,h2.to (fun b hb _=>⟨hP b hb.1,hb.2⟩) fun _ _ _=>rfl⟩
theorem RQ.belowP {P F:Nat→Prop} {w0 w w':World} {bs:List (Nat×List Value)} {rs:List Rw} (h:RQ P F w0 bs w rs) (hB:Below w.heap.size w w'):RQ (fun b=>P b∨(w.heap.size≤b∧b < w'.heap.size)) F w0 bs w' rs:=by
 have h1:=h.below hB
 have hs:=hB.size
 refine ⟨h1.bel,fun b hb=>?_,fun r hr=>OwnXQ.monoP (h1.ok r hr) fun _ h=>.inl h,h1.ap,h1.fh,h1.bk⟩
 rcases hb with hb | hb
 ·exact h1.pb b hb
 exact ⟨hb.2,fun hf=>by have:=(h.fh b hf).2.1;omega,fun r hr e=>by have:=(OwnXQ.block (h.ok r hr) b e).2;omega⟩
structure PrV (F:Nat→Prop) (w:World) (pb:Nat) (name:ByteArray) (room:Int) (L Z:TW) (B:Nat) (H:HS) (v:Value):Prop where
 blk:Blk w pb [.string name,.pointer (some ⟨B,0,none⟩),v]
 hp:HeapR F w B room H
 ow:OwnW w v (wdsL L)
 ph:PH room H (L ++ Z)
 fp:¬F pb
 fl:∀ b,F b→b < w.heap.size
 fv:∀ b,v.ownBlock=some b→¬F b∧b≠pb
def PrR (G:Nat→Prop) (w:World) (pb:Nat) (name:ByteArray) (room:Int) (nb u:Nat) (L Z:TW):Prop :=
 ∃ (F:Nat→Prop) (B:Nat) (H:HS) (v:Value),PrV F w pb name room L Z B H v∧H.names.length≤nb∧H.ws.length=u∧(∀ b,F b→G b)∧G pb∧∀ b,v.ownBlock=some b→G b
section
variable {F G G':Nat→Prop} {w w':World} {pb:Nat} {name:ByteArray} {room:Int} {nb u:Nat} {L Z L' Z':TW} {B:Nat} {H H':HS} {v v':Value}
theorem PrV.to (h:PrV F w pb name room L Z B H v) (hl:w.heap.size≤w'.heap.size) (hc:∀ b,(F b∨b=pb∨v.ownBlock=some b)→b < w.heap.size→w'.heap[b]?=w.heap[b]?):PrV F w' pb name room L Z B H v :=
 ⟨h.blk.heap (hc pb (.inr (.inl rfl)) h.blk.lt),h.hp.to hl (fun _ h=>h) fun b hb hl=>hc b (.inl hb) hl,h.ow.to hl fun b hb=>hc b (.inr (.inr hb)) (h.ow.block b hb).2,h.ph,h.fp,fun b hb=>Nat.lt_of_lt_of_le (h.fl b hb) hl,h.fv⟩
theorem PrV.below (h:PrV F w pb name room L Z B H v) (hB:Below w.heap.size w w'):PrV F w' pb name room L Z B H v:=h.to hB.size fun b _ hl=>hB.block b hl
theorem PrV.heap (h:PrV F w pb name room L Z B H v) (hK:Keep F w w') (hH:HeapR (fun b=>F b∨w.heap.size≤b) w' B room H') (hp:PH room H' (L' ++ Z')) (hL:wdsL L'=wdsL L):PrV (fun b=>(F b∨w.heap.size≤b)∧b < w'.heap.size) w' pb name room L' Z' B H' v:=by
 refine ⟨h.blk.heap (hK.block pb h.blk.lt h.fp),hH.low,hL ▸ h.ow.to hK.size fun b hb=>hK.block b (h.ow.block b hb).2 (h.fv b hb).1,hp,fun hf=>?_,fun b hb=>hb.2,fun b hb=>⟨fun hf=>?_,(h.fv b hb).2⟩⟩
 ·have:=h.blk.lt
  rcases hf.1 with h1 | h1
  ·exact h.fp h1
  omega
 have:=(h.ow.block b hb).2
 rcases hf.1 with h1 | h1
 ·exact (h.fv b hb).1 h1
 omega
theorem PrV.after {F1:Nat→Prop} (h:PrV F w pb name room L Z B H v) (hl:w.heap.size≤w'.heap.size) (hc:∀ b,b < w.heap.size→¬F b→w'.heap[b]?=w.heap[b]?) (hH:HeapR F1 w' B room H') (hF:∀ b,F1 b→(F b∨w.heap.size≤b)∧b < w'.heap.size) (hp:PH room H' (L' ++ Z')) (hL:wdsL L'=wdsL L):PrV F1 w' pb name room L' Z' B H' v:=by
 refine ⟨h.blk.heap (hc pb h.blk.lt h.fp),hH,hL ▸ h.ow.to hl fun b hb=>hc b (h.ow.block b hb).2 (h.fv b hb).1,hp,fun hf=>?_,fun b hb=>(hF b hb).2,fun b hb=>⟨fun hf=>?_,(h.fv b hb).2⟩⟩
 ·have:=h.blk.lt
  rcases (hF _ hf).1 with h1 | h1
  ·exact h.fp h1
  omega
 have:=(h.ow.block b hb).2
 rcases (hF _ hf).1 with h1 | h1
 ·exact (h.fv b hb).1 h1
 omega
theorem PrV.words' {w3:World} (h:PrV F w pb name room L Z B H v) (hl:w.heap.size≤w3.heap.size) (hc:∀ b,b < w.heap.size→v.ownBlock≠some b→w3.heap[b]?=w.heap[b]?) (ho:OwnW w3 v' (wdsL L')) (hv:∀ b,v'.ownBlock=some b→v.ownBlock=some b∨w.heap.size≤b) (hp:PH room H (L' ++ Z')):PrV F (w3.setCell ⟨pb,2,none⟩ v') pb name room L' Z' B H v':=by
 have hpl:=h.blk.lt
 have hb3:Blk w3 pb [.string name,.pointer (some ⟨B,0,none⟩),v]:=h.blk.heap (hc pb hpl fun e=>(h.fv pb e).2 rfl)
 have hv2:∀ b,v'.ownBlock=some b→¬F b∧b≠pb:=fun b hb=>by
  rcases hv b hb with h1 | h1
  ·exact h.fv b h1
  ·exact ⟨fun hf=>by have:=h.fl b hf;omega,by omega⟩
 exact ⟨hb3.set 2 v' (by simp),h.hp.to (by simpa using hl) (fun _ h=>h) fun b hb hl=>(yD w3 pb 2 v' b fun e=>h.fp (e ▸ hb)).trans (hc b hl fun e=>(h.fv b e).1 hb),ho.to (by simp) fun b hb=>yD w3 pb 2 v' b (hv2 b hb).2,hp,h.fp,fun b hb=>by have:=h.fl b hb;simp;omega,hv2⟩
theorem PrV.rx (h:PrV F w pb name room L Z B H v):RX wrdE (fun b=>v.ownBlock=some b) (fun _=>True) w (wdsL L) v:=h.ow.rx
theorem PrR.to (h:PrR G w pb name room nb u L Z) (hl:w.heap.size≤w'.heap.size) (hc:∀ b,G b→b < w.heap.size→w'.heap[b]?=w.heap[b]?):PrR G w' pb name room nb u L Z:=by
 obtain ⟨F,B,H,v,hV,h1,h2,h3,h4,h5⟩:=h
 refine ⟨F,B,H,v,hV.to hl fun b hb hl=>hc b ?_ hl,h1,h2,h3,h4,h5⟩
 rcases hb with hb | rfl | hb
 ·exact h3 b hb
 ·exact h4
 exact h5 b hb
theorem PrR.below (h:PrR G w pb name room nb u L Z) (hB:Below w.heap.size w w'):PrR G w' pb name room nb u L Z:=h.to hB.size fun b _ hl=>hB.block b hl
theorem PrR.mono (h:PrR G w pb name room nb u L Z) (hG:∀ b,G b→b < w.heap.size→G' b):PrR G' w pb name room nb u L Z:=by
 obtain ⟨F,B,H,v,hV,h1,h2,h3,h4,h5⟩:=h
 exact ⟨fun b=>F b∧b < w.heap.size,B,H,v,⟨hV.blk,hV.hp.low,hV.ow,hV.ph,fun hf=>hV.fp hf.1,fun b hb=>hb.2,fun b hb=>⟨fun hf=>(hV.fv b hb).1 hf.1,(hV.fv b hb).2⟩⟩,h1,h2,fun b hb=>hG b (h3 b hb.1) hb.2,hG pb h4 hV.blk.lt,fun b hb=>hG b (h5 b hb) (hV.ow.block b hb).2⟩
theorem PrR.low (h:PrR G w pb name room nb u L Z):PrR (fun b=>G b∧b < w.heap.size) w pb name room nb u L Z:=h.mono fun b hb hl=>⟨hb,hl⟩
theorem PrR.names (h:PrR G w pb name room nb u L Z) {nb':Nat} (hn:nb≤nb'):PrR G w pb name room nb' u L Z:=by
 obtain ⟨F,B,H,v,hV,h1,h2⟩:=h
 exact ⟨F,B,H,v,hV,by omega,h2⟩
theorem PrR.le (h:PrR G w pb name room nb u L Z):szL (yQ L)≤u∧(u:Int)≤room:=by
 obtain ⟨F,B,H,v,hV,h1,rfl,h2⟩:=h
 have:=(hV.ph.sub (List.sublist_append_left L Z)).le
 have:=hV.ph.rm
 omega
end
theorem wdsL_len (L:TW):(wdsL L).length=L.length:=List.length_map ..
theorem tmsL_len (L:TW):(yQ L).length=L.length:=List.length_map ..
theorem keep0 {R:Nat→Prop} {a b c:World} (h:Below a.heap.size a b) (k:Keep R b c):Keep R a c:=(Keep.of h).trans k
theorem ptidy_c (G:Nat→Prop) (w:World) (pb:Nat) (name:ByteArray) (room:Int) (nb u:Nat) (L:TW) (h:PrR G w pb name room nb u L []) (hr:room≤1000) (hl:L.length≤1000) :
  Calls Tryz.prog 13 #[.pointer (some ⟨pb,0,none⟩)] w fun e w'=>e=.returned (.tuple #[])∧Keep G w w'∧∃ L',yQ L'=yQ L∧PrR (fun b=>G b∨w.heap.size≤b) w' pb name room nb (szL (yQ L)) L' []:=by
 obtain ⟨F,B,H,v,hV,hn,hu,hG⟩:=h
 have HV:=J hV;have HN:=J hn;have HG:=J hG
 have HPH:Hid (PH room H L):=J (by have:=hV.ph;rwa [List.append_nil] at this)
 clear hV hn hu hG
 go_enter Tryz.func13,Tryz.ntmps13
 go_upto_region 0 with fail
 refine yK (fun w'=>w'.cell? ⟨pb,1,none⟩=some (.pointer (some ⟨B,0,none⟩))) (by as_aux_lemma=>kernel_rfl) (fun Wd h=>(HV.out.below h).blk.cell 1 _ rfl) ?_
 intro Wd hB hWd hWd' hHeld
 have HBd:=J hB
 have HVd:=J (HV.out.below hB)
 have y2:=HVd.out.blk.cell 2 _ rfl
 clear hB
 refine rgT 0 _ hHeld ?_
 refine rgT 1 _ hHeld ?_
 refine rgT 2 _ hHeld ?_
 refine rgT 3 _ hHeld ?_
 refine rgT 4 _ hHeld ?_
 refine rgT 5 _ hHeld ?_
 refine rgT 6 _ hHeld ?_
 refine rgT 7 _ hHeld ?_
 refine rgO 8 fun K hK=>?_
 go_simp
 skip
 refine hK.out _ _ (hHeld) fun _=>?_
 clear hK K hHeld;rename_i hHeld;try simp only [Act.put,pA,pB,pC]
 refine rgO 9 fun K hK=>?_
 go_simp
 go_at_call 48
 refine (hcollect_c F _ _ Wd B room H (wdsL L) v HVd.out.rx (by rw [wdsL_len];omega) HVd.out.hp HVd.out.ph.wf (by have:=HVd.out.ph.rm;omega) (HPH.out.stands)).mono ?_
 rintro e w2 ⟨v2,tw,out,ks,rfl,hK,hC,hH,hO,hb⟩
 obtain ⟨a2,c2,rfl⟩:=hO.form
 obtain ⟨L2,e1,e2,e3,e4⟩:=HPH.out.col hC
 have HK2:=J hK;have HH2:=J hH;have HO2:=J hO;have HB2:=J hb;have HE1:=J e1;have HE2:=J e2;have HE3:=J e3;have HE4:=J e4
 have HX2:Hid (Blk w2 pb [.string name,.pointer (some ⟨B,0,none⟩),v]):=J (HVd.out.blk.heap (hK.block pb HVd.out.blk.lt HVd.out.fp))
 have k2:=HX2.out.cell 2 _ rfl
 have kf:=HX2.out.fr
 clear hK hH hO hb hC e1 e2 e3 e4 y2
 refine hK.out _ _ (HX2.out.cell 1 _ rfl) fun _=>?_
 clear hK K hHeld;rename_i hHeld;try simp only [Act.put,pA,pB,pC]
 refine rgT 10 _ hHeld ?_
 refine rgT 11 _ hHeld ?_
 refine rgT 12 _ hHeld ?_
 refine rgT 13 _ hHeld ?_
 refine rgT 14 _ hHeld ?_
 refine rgO 15 fun K hK=>?_
 go_simp
 skip
 refine hK.out _ _ ((HX2.out.set 2 _ (by simp)).cell 1 _ rfl) fun _=>?_
 clear hK K hHeld;rename_i hHeld;try simp only [Act.put,pA,pB,pC]
 refine rgD ?_
 clear hHeld
 have hW:Below Wd.heap.size Wd w2→True:=fun _=>trivial
 have hsz:=HK2.out.size
 have hpl:=HVd.out.blk.lt
 refine bodyPost_end (results_none Tryz.results13 _ _ _) rfl ⟨rfl,(keep0 HBd.out (HK2.out.mono fun b _ hb=>HG.out.1 b hb)).setCell _ (.inl HG.out.2.1),L2,HE1.out,fun b=>(F b∨(Wd.heap.size≤b∧(Value.slice a2 out.length c2).ownBlock≠some b))∧b < w2.heap.size,B,⟨tw,H.names⟩,.slice a2 out.length c2,⟨HX2.out.set 2 _ (by simp),?_,?_,?_,?_,fun b hb=>by simpa using hb.2,?_⟩,HN.out,HE4.out,fun b hb=>?_,.inl HG.out.2.1,fun b hb=>.inr (by have:=HB2.out b hb;omega)⟩
 ·refine HH2.out.low.to (by simp) (fun _ h=>h) fun b hb _=>yD w2 pb 2 _ b fun e=>?_
  subst e
  rcases hb.1 with h1 | h1
  ·exact HVd.out.fp h1
  omega
 ·rw [HE2.out]
  exact HO2.out.to (by simp) fun b hb=>yD w2 pb 2 _ b fun e=>by have:=HB2.out b hb;omega
 ·rw [List.append_nil];exact HE3.out
 ·intro hf
  rcases hf.1 with h1 | h1
  ·exact HVd.out.fp h1
  omega
 ·intro b hb
  have h2:=HB2.out b hb
  refine ⟨fun hf=>?_,by omega⟩
  rcases hf.1 with h1 | h1
  ·have:=HVd.out.fl b h1;omega
  exact h1.2 hb
 rcases hb.1 with h1 | h1
 ·exact .inl (HG.out.1 b h1)
 exact .inr (by omega)
theorem pused_c (G:Nat→Prop) (w:World) (pb:Nat) (name:ByteArray) (room:Int) (nb u:Nat) (L Z:TW) (h:PrR G w pb name room nb u L Z) :
  Calls Tryz.prog 14 #[.pointer (some ⟨pb,0,none⟩)] w fun e w'=>e=.returned (.int .i64 (u:Int))∧w=w':=by
 obtain ⟨F,B,H,v,hV,hn,rfl,hG⟩:=h
 have HV:=J hV
 have y1:=hV.blk.cell 1 _ rfl
 clear hV
 go_enter Tryz.func14,Tryz.ntmps14
 go_wp2_with fail
 refine (hused_c F w B room H HV.out.hp).mono ?_
 rintro e w1 ⟨rfl,rfl⟩
 go_wp2_with fail
 go_ret
 exact ⟨rfl,rfl⟩
theorem pget_c (G:Nat→Prop) (w:World) (pb:Nat) (name:ByteArray) (room:Int) (nb u:Nat) (L Z:TW) (h:PrR G w pb name room nb u L Z) (i:Nat) (hi:i < L.length) (hl:L.length≤1000) (hr:room≤1000) (hn:nb≤137438953472) :
  Calls Tryz.prog 38 #[.pointer (some ⟨pb,0,none⟩),.int .i64 (i:Int)] w fun e w'=>∃ ar cr,e=.returned (.agg #[.int .i64 L[i].1.kind,.int .i64 L[i].1.n,.string L[i].1.name,.slice ar L[i].1.args.length cr])∧Below w.heap.size w w'∧RT (fun b=>w.heap.size≤b) w' L[i].1 (.agg #[.int .i64 L[i].1.kind,.int .i64 L[i].1.n,.string L[i].1.name,.slice ar L[i].1.args.length cr]):=by
 obtain ⟨F,B,H,v,hV,hnb,rfl,hG⟩:=h
 obtain ⟨W0,hW0⟩:=I (w.alloc (.cells #[.int .i64 0,.int .i64 0,.string ⟨#[]⟩,.slice none 0 0] 25))
 obtain ⟨g4,hg4⟩:=I (w.heap.size)
 have HB0:Hid (Below w.heap.size w W0):=J (by rw [hW0];exact yA _ _)
 have HX4:Hid (Blk W0 g4 [.int .i64 0,.int .i64 0,.string ⟨#[]⟩,.slice none 0 0]):=J (by rw [hW0];exact Blk.new _ _ _ _ hg4)
 have hs0:w.heap.size < W0.heap.size:=by rw [hW0];simp
 have hV0:=hV.below HB0.out
 obtain ⟨av,cv,ev,-⟩:=hV0.rx.form
 rw [wdsL_len] at ev
 subst ev
 obtain ⟨gv,ov,rfl⟩:=RX.addr hV0.rx (by decide) (by rw [wdsL_len];omega)
 obtain ⟨cc,hcc,hc⟩:=RX.elem hV0.rx i (by rw [wdsL_len];exact hi)
 obtain ⟨t,ht⟩:∃ t,t=L[i].1:=⟨_,rfl⟩
 obtain ⟨x,hx⟩:∃ x,x=L[i].2:=⟨_,rfl⟩
 have hxi:(wdsL L)[i]'(by rw [wdsL_len];exact hi)=x:=by rw [hx];exact List.getElem_map ..
 rw [hxi] at hcc
 subst hcc
 have y0:=(hc 0 _ rfl).2
 have y1:=(hc 1 _ rfl).2
 have hm:L[i]∈L ++ Z:=List.mem_append_left _ (List.getElem_mem hi)
 have HREP:Hid (Rep H t x):=J (by rw [ht,hx];exact hV0.ph.rep _ hm)
 have HLF:Hid (LeafOk t):=J (by rw [ht];exact (hV0.ph.leaf _ hm).1)
 have HV0:=J hV0
 have HQ:Hid (∀ w',Below W0.heap.size W0 w'→w'.cell? ⟨pb,1,none⟩=some (.pointer (some ⟨B,0,none⟩))∧w'.cell? ⟨pb,2,none⟩=some (.slice (some ⟨gv,ov,none⟩) L.length cv)∧w'.cell? ⟨gv,ov+i * 2,none⟩=some (.int .i64 x.kind)∧w'.cell? ⟨gv,ov+i * 2+1,none⟩=some (.int .i64 x.n)):=J fun w' hB=>⟨(hV0.blk.step hB).cell 1 _ rfl,(hV0.blk.step hB).cell 2 _ rfl,(hB.cell (World.block_lt_of_cell? _ _ y0)).trans y0,(hB.cell (World.block_lt_of_cell? _ _ y1)).trans y1⟩
 have qi:(i:Int) < (L.length:Int):=by omega
 rw [←ht]
 clear hV hc hV0 y0 y1 hxi hm ht hx hG
 go_enter Tryz.func38,Tryz.ntmps38
 go_upto_region 1 with fail
 rw [←hW0,←hg4]
 have HG4:=J hg4
 clear hW0 hg4
 refine yK (fun w'=>w'.cell? ⟨pb,1,none⟩=some (.pointer (some ⟨B,0,none⟩))∧w'.cell? ⟨pb,2,none⟩=some (.slice (some ⟨gv,ov,none⟩) L.length cv)∧w'.cell? ⟨gv,ov+i * 2,none⟩=some (.int .i64 x.kind)∧w'.cell? ⟨gv,ov+i * 2+1,none⟩=some (.int .i64 x.n)) (by as_aux_lemma=>kernel_rfl) (fun Wd h=>HQ.out _ h) ?_
 intro Wd hB hWd hWd' hHeld
 have HCWd:=J hB
 clear hB
 refine rgT 0 _ hHeld ?_
 refine rgT 1 _ hHeld ?_
 refine rgT 2 _ hHeld ?_
 refine rgT 3 _ hHeld ?_
 refine rgT 4 _ hHeld ?_
 refine rgT 5 _ hHeld ?_
 refine rgT 6 _ hHeld ?_
 refine rgT 7 _ hHeld ?_
 refine rgT 8 _ hHeld ?_
 refine rgT 9 _ hHeld ?_
 refine rgT 10 _ hHeld ?_
 refine rgW 11 15 (fun K hK=>?_) fun K hK=>?_
 ·skip
  go_simp
  go_at_call 66
  refine (hGet_c t F Wd B room H x (HV0.out.hp.below HCWd.out) HREP.out HLF.out HV0.out.ph.wf.heads (by have:=HV0.out.ph.rm;omega) (by omega)).mono ?_
  rintro e wc ⟨ar,cr,rfl,hB,hT⟩
  have HCwc:Hid (Below W0.heap.size W0 wc):=J (yB HCWd.out HCWd.out.size hB)
  have HT:Hid (RT (fun b=>Wd.heap.size≤b) wc t (.agg #[.int .i64 t.kind,.int .i64 t.n,.string t.name,.slice ar t.args.length cr])):=J hT
  clear hB hT
  refine hK.out _ _ (HQ.out _ HCwc.out) fun _=>?_
  clear hK K hHeld;rename_i hHeld;try simp only [Act.put,pA,pB,pC]
  refine rgT 12 _ hHeld ?_
  refine rgT 13 _ hHeld ?_
  refine rgT 14 _ hHeld ?_
  refine rgO 15 fun K hK=>?_
  go_simp
  obtain ⟨wg,hwg⟩:=I (wc.alloc (.cells #[.int .i64 0,.int .i64 0,.string ⟨#[]⟩,.slice none 0 0] 25))
  obtain ⟨gg,hgg⟩:=I (wc.heap.size)
  have HG:Hid (Blk wg gg [.int .i64 0,.int .i64 0,.string ⟨#[]⟩,.slice none 0 0]):=J (by rw [hwg];exact Blk.new _ _ _ _ hgg)
  have hB:Below wc.heap.size wc wg:=by rw [hwg];exact yA _ _
  have HGG:Hid (W0.heap.size≤gg):=J (by have:=HCwc.out.size;omega)
  have HT:Hid (RT (fun b=>W0.heap.size≤b∧b≠gg) wg t (.agg #[.int .i64 t.kind,.int .i64 t.n,.string t.name,.slice ar t.args.length cr])):=J (HT.out.to (fun b hb hl=>by have:=HCWd.out.size;omega) fun b _ hl=>hB.block b hl)
  rw [←hwg,←hgg]
  have HCwg:Hid (Below W0.heap.size W0 wg):=J (yB HCwc.out HCwc.out.size hB)
  clear hwg hgg hB
  refine hK.out _ _ (HQ.out _ HCwg.out) fun _=>?_
  clear hK K hHeld;rename_i hHeld;try simp only [Act.put,pA,pB,pC]
  refine rgO 16 fun K hK=>?_
  refine wp_store_blk 25 4 yN _ _ rfl rfl rfl rfl HG.out rfl rfl rfl ?_
  intro W2 hF hs2 hBW hoth
  have HF:=J hF
  have HFB:Hid (Below W0.heap.size W0 W2):=J (hBW _ _ HGG.out HCwg.out)
  have HOTH:=J hoth
  clear hF hBW hs2 hoth
  refine hK.out _ _ (HQ.out _ HFB.out) fun _=>?_
  clear hK K hHeld;rename_i hHeld;try simp only [Act.put,pA,pB,pC]
  refine rgT 17 _ hHeld ?_
  refine rgD ?_
  clear hHeld
  obtain ⟨y0,y1,y2,y3⟩:=HF.out.c4 0 1 2 3
  go_wp2_with (first | (refine yI 25 4 yN _ _ rfl rfl rfl rfl rfl (HX4.out.step HFB.out) rfl rfl rfl ?_;intro W3 hF3 hs3 hBW3 hoth3;have HF3:=J hF3;have HBW3:=J hBW3;have HO3:=J hoth3;clear hF3 hs3 hBW3 hoth3))
  refine bodyPost_ret (result_blk Tryz.results38 yN _ Tryz.underlying25 rfl rfl HF3.out rfl) rfl ⟨ar,cr,rfl,HBW3.out _ _ (by have:=HG4.out;omega) (HB0.out.trans (HFB.out.mono (by omega))),?_⟩
  exact HT.out.to (fun b hb _=>by omega) fun b hb _=>(HO3.out b (by have:=HG4.out;omega)).trans (HOTH.out b hb.2)
 skip
 go_simp
 obtain ⟨wg,hwg⟩:=I (Wd.alloc (.cells #[.int .i64 0,.int .i64 0,.string ⟨#[]⟩,.slice none 0 0] 25))
 obtain ⟨gg,hgg⟩:=I (Wd.heap.size)
 have HG:Hid (Blk wg gg [.int .i64 0,.int .i64 0,.string ⟨#[]⟩,.slice none 0 0]):=J (by rw [hwg];exact Blk.new _ _ _ _ hgg)
 have hB:Below Wd.heap.size Wd wg:=by rw [hwg];exact yA _ _
 have HGG:Hid (W0.heap.size≤gg):=J (by have:=HCWd.out.size;omega)
 rw [←hwg,←hgg]
 have HCwg:Hid (Below W0.heap.size W0 wg):=J (yB HCWd.out HCWd.out.size hB)
 clear hwg hgg hB
 refine hK.out _ _ (HQ.out _ HCwg.out) fun _=>?_
 clear hK K hHeld;rename_i hHeld;try simp only [Act.put,pA,pB,pC]
 refine rgO 11 fun K hK=>?_
 go_simp
 go_at_call 66
 refine (hGet_c t F wg B room H x (HV0.out.hp.below HCwg.out) HREP.out HLF.out HV0.out.ph.wf.heads (by have:=HV0.out.ph.rm;omega) (by omega)).mono ?_
 rintro e wc ⟨ar,cr,rfl,hB,hT⟩
 have HCwc:Hid (Below W0.heap.size W0 wc):=J (yB HCwg.out HCwg.out.size hB)
 have HT:Hid (RT (fun b=>W0.heap.size≤b∧b≠gg) wc t (.agg #[.int .i64 t.kind,.int .i64 t.n,.string t.name,.slice ar t.args.length cr])):=J (hT.to (fun b hb _=>by have:=HCwg.out.size;have:=HG.out.lt;omega) fun _ _ _=>rfl)
 have HG:=J (HG.out.step hB)
 clear hB hT
 refine hK.out _ _ (HQ.out _ HCwc.out) fun _=>?_
 clear hK K hHeld;rename_i hHeld;try simp only [Act.put,pA,pB,pC]
 refine rgT 12 _ hHeld ?_
 refine rgT 13 _ hHeld ?_
 refine rgT 14 _ hHeld ?_
 refine rgO 16 fun K hK=>?_
 refine wp_store_blk 25 4 yN _ _ rfl rfl rfl rfl HG.out rfl rfl rfl ?_
 intro W2 hF hs2 hBW hoth
 have HF:=J hF
 have HFB:Hid (Below W0.heap.size W0 W2):=J (hBW _ _ HGG.out HCwc.out)
 have HOTH:=J hoth
 clear hF hBW hs2 hoth
 refine hK.out _ _ (HQ.out _ HFB.out) fun _=>?_
 clear hK K hHeld;rename_i hHeld;try simp only [Act.put,pA,pB,pC]
 refine rgT 17 _ hHeld ?_
 refine rgD ?_
 clear hHeld
 obtain ⟨y0,y1,y2,y3⟩:=HF.out.c4 0 1 2 3
 go_wp2_with (first | (refine yI 25 4 yN _ _ rfl rfl rfl rfl rfl (HX4.out.step HFB.out) rfl rfl rfl ?_;intro W3 hF3 hs3 hBW3 hoth3;have HF3:=J hF3;have HBW3:=J hBW3;have HO3:=J hoth3;clear hF3 hs3 hBW3 hoth3))
 refine bodyPost_ret (result_blk Tryz.results38 yN _ Tryz.underlying25 rfl rfl HF3.out rfl) rfl ⟨ar,cr,rfl,HBW3.out _ _ (by have:=HG4.out;omega) (HB0.out.trans (HFB.out.mono (by omega))),?_⟩
 exact HT.out.to (fun b hb _=>by omega) fun b hb _=>(HO3.out b (by have:=HG4.out;omega)).trans (HOTH.out b hb.2)
def doerC (vb:Value) (self next:Int) (o:List Value) (bad:Bool):List Value:=vb :: .int .i64 self :: .int .i64 next :: (o ++ [.bool bad])
def DValP (w:World) (db:Nat) (vb:Value) (self next:Int) (o:List Value) (bad:Bool) (r:T×Int) (e:Ending) (w':World):Prop :=
 ∃ a cap,e=.returned (.agg #[.int .i64 r.1.kind,.int .i64 r.1.n,.string r.1.name,.slice a r.1.args.length cap])∧Keep (fun b=>b=db) w w'∧Blk w' db (doerC vb self next o (bad || r.2 != 0))∧RT (fun b=>w.heap.size≤b) w' r.1 (.agg #[.int .i64 r.1.kind,.int .i64 r.1.n,.string r.1.name,.slice a r.1.args.length cap])
theorem dval_c (db:Nat) (vb:Value) (self next:Int) (o:List Value) (ho:o.length=8) (bad:Bool) (bd:List T) (x:T) (S:Nat→Prop) (w:World) (v:Value) (hX:Blk w db (doerC vb self next o bad)) (hv:RT S w x v) (hb:RSl S w bd vb) (hS:∀ b,S b→b < w.heap.size∧b≠db) (hbk:yC [x]+yC bd≤2000000) :
  Calls Tryz.prog 41 #[.pointer (some ⟨db,0,none⟩),v] w (DValP w db vb self next o bad (reckO bd self x)):=by
 obtain ⟨ax,cx,rfl,hcap,hrt⟩:=hv
 obtain ⟨W0,hW0⟩:=I ((w.alloc (.cells #[.int .i64 x.kind,.int .i64 x.n,.string x.name,.slice ax x.args.length cx] 25)).alloc (.cells #[.int .i64 0,.int .i64 0,.string ⟨#[]⟩,.slice none 0 0] 25))
 obtain ⟨g3,hg3⟩:=I (w.heap.size)
 obtain ⟨g4,hg4⟩:=I (w.heap.size+1)
 have HB0:Hid (Below w.heap.size w W0):=J (by rw [hW0];exact (yA _ _).trans ((yA _ _).mono (by simp)))
 have HX3:Hid (Blk W0 g3 [.int .i64 x.kind,.int .i64 x.n,.string x.name,.slice ax x.args.length cx]):=J (by rw [hW0,hg3];exact (Blk.new _ _ _ _ rfl).alloc _)
 have HX4:Hid (Blk W0 g4 [.int .i64 0,.int .i64 0,.string ⟨#[]⟩,.slice none 0 0]):=J (by rw [hW0];exact Blk.new _ _ _ _ (by rw [hg4];simp))
 have hs0:W0.heap.size=w.heap.size+2:=by rw [hW0];simp
 have HXD:Hid (Blk W0 db (doerC vb self next o bad)):=J (hX.step HB0.out)
 have HTX:Hid (RT S W0 x (.agg #[.int .i64 x.kind,.int .i64 x.n,.string x.name,.slice ax x.args.length cx])):=J (RT.below ⟨ax,cx,rfl,hcap,hrt⟩ HB0.out)
 have HBD:Hid (RSl S W0 bd vb):=J (hb.to (fun _ h _=>h) fun b hb hl=>HB0.out.block b hl)
 have HSS:Hid (∀ b,S b→b < w.heap.size∧b≠db):=J hS
 have HDB:Hid (db < w.heap.size∧g3=w.heap.size∧g4=w.heap.size+1∧W0.heap.size=w.heap.size+2):=J ⟨hX.lt,hg3,hg4,hs0⟩
 have HQ:Hid (∀ w':World,Below W0.heap.size W0 w'→w'.cell? ⟨g3,0,none⟩=some (.int .i64 x.kind)∧w'.cell? ⟨g3,1,none⟩=some (.int .i64 x.n)∧w'.cell? ⟨g3,2,none⟩=some (.string x.name)∧w'.cell? ⟨g3,3,none⟩=some (.slice ax x.args.length cx)∧w'.cell? ⟨db,0,none⟩=some vb∧w'.cell? ⟨db,1,none⟩=some (.int .i64 self)):=J fun w' h=>⟨(HX3.out.step h).cell 0 _ rfl,(HX3.out.step h).cell 1 _ rfl,(HX3.out.step h).cell 2 _ rfl,(HX3.out.step h).cell 3 _ rfl,(HXD.out.step h).cell 0 _ rfl,(HXD.out.step h).cell 1 _ rfl⟩
 obtain ⟨⟨t,n⟩,hr⟩:∃ r,r=reckO bd self x:=⟨_,rfl⟩
 have HRO:=J hr
 rw [←hr]
 clear hX hcap hrt hb hS hr
 go_enter Tryz.func41,Tryz.ntmps41
 go_upto_region 1 with fail
 rw [←hW0,←hg4,←hg3]
 clear hW0 hg3 hg4 hs0
 refine yK (fun w'=>w'.cell? ⟨g3,0,none⟩=some (.int .i64 x.kind)∧w'.cell? ⟨g3,1,none⟩=some (.int .i64 x.n)∧w'.cell? ⟨g3,2,none⟩=some (.string x.name)∧w'.cell? ⟨g3,3,none⟩=some (.slice ax x.args.length cx)∧w'.cell? ⟨db,0,none⟩=some vb∧w'.cell? ⟨db,1,none⟩=some (.int .i64 self)) (by as_aux_lemma=>kernel_rfl) (fun Wd h=>HQ.out _ h) ?_
 intro Wd hB hWd hWd' hHeld
 have HCWd:=J hB
 clear hB
 refine rgT 0 _ hHeld ?_
 refine rgT 1 _ hHeld ?_
 refine rgT 2 _ hHeld ?_
 refine rgT 3 _ hHeld ?_
 refine rgT 4 _ hHeld ?_
 refine rgT 5 _ hHeld ?_
 refine rgT 6 _ hHeld ?_
 refine rgT 7 _ hHeld ?_
 refine rgT 8 _ hHeld ?_
 refine rgW 9 13 (fun K hK=>?_) fun K hK=>?_
 ·skip
  go_simp
  go_at_call 69
  refine (valueN_c bd self x S Wd _ vb (HTX.out.below HCWd.out) (HBD.out.to (fun _ h _=>h) fun b hb hl=>HCWd.out.block b hl) (fun b hb=>by have:=HSS.out b hb;have:=HCWd.out.size;have:=HDB.out;omega) (by omega)).mono ?_
  intro e wc hro
  rw [←HRO.out] at hro
  obtain ⟨ar,cr,rfl,hB,hT⟩:=hro.open
  have HCwc:Hid (Below W0.heap.size W0 wc):=J (yB HCWd.out HCWd.out.size hB)
  have HT:Hid (RT (fun b=>False∨Wd.heap.size≤b) wc t (.agg #[.int .i64 t.kind,.int .i64 t.n,.string t.name,.slice ar t.args.length cr])):=J hT
  clear hB hT hro
  refine hK.out _ _ (HQ.out _ HCwc.out) fun _=>?_
  clear hK K hHeld;rename_i hHeld;try simp only [Act.put,pA,pB,pC]
  refine rgT 10 _ hHeld ?_
  refine rgT 11 _ hHeld ?_
  refine rgT 12 _ hHeld ?_
  refine rgO 13 fun K hK=>?_
  go_simp
  obtain ⟨wg,hwg⟩:=I (wc.alloc (.cells #[.int .i64 0,.int .i64 0,.string ⟨#[]⟩,.slice none 0 0] 25))
  obtain ⟨gg,hgg⟩:=I (wc.heap.size)
  have HG:Hid (Blk wg gg [.int .i64 0,.int .i64 0,.string ⟨#[]⟩,.slice none 0 0]):=J (by rw [hwg];exact Blk.new _ _ _ _ hgg)
  have hB:Below wc.heap.size wc wg:=by rw [hwg];exact yA _ _
  have HGG:Hid (W0.heap.size≤gg):=J (by have:=HCwc.out.size;omega)
  have HT:Hid (RT (fun b=>W0.heap.size≤b∧b≠gg) wg t (.agg #[.int .i64 t.kind,.int .i64 t.n,.string t.name,.slice ar t.args.length cr])):=J (HT.out.to (fun b hb hl=>by (rcases hb with hb | hb;exact hb.elim;(have:=HCWd.out.size;omega))) fun b _ hl=>hB.block b hl)
  rw [←hwg,←hgg]
  have HCwg:Hid (Below W0.heap.size W0 wg):=J (yB HCwc.out HCwc.out.size hB)
  clear hwg hgg hB
  refine hK.out _ _ (HQ.out _ HCwg.out) fun _=>?_
  clear hK K hHeld;rename_i hHeld;try simp only [Act.put,pA,pB,pC]
  refine rgO 14 fun K hK=>?_
  refine wp_store_blk 25 4 yN _ _ rfl rfl rfl rfl HG.out rfl rfl rfl ?_
  intro W2 hF hs2 hBW hoth
  have HF:=J hF
  have HFB:Hid (Below W0.heap.size W0 W2):=J (hBW _ _ HGG.out HCwg.out)
  have HOTH:=J hoth
  clear hF hBW hs2 hoth
  refine hK.out _ _ (HQ.out _ HFB.out) fun _=>?_
  clear hK K hHeld;rename_i hHeld;try simp only [Act.put,pA,pB,pC]
  refine rgT 15 _ hHeld ?_
  refine rgD ?_
  clear hHeld
  have HT2:Hid (RT (fun b=>W0.heap.size≤b∧b≠gg) W2 t (.agg #[.int .i64 t.kind,.int .i64 t.n,.string t.name,.slice ar t.args.length cr])):=J (HT.out.to (fun _ h _=>h) fun b hb _=>HOTH.out b hb.2)
  have HXD2:=J (HXD.out.step HFB.out)
  have h11:(doerC vb self next o bad)[11]?=some (.bool bad):=by simp [doerC,List.getElem?_append,ho]
  have xb:=HXD2.out.cell 11 _ h11
  have xf:=HXD2.out.fr
  have hll:(doerC vb self next o bad).length=12:=by simp [doerC,ho]
  have HX42:=J (HX4.out.step HFB.out)
  have HLN:Hid (11 < (doerC vb self next o bad).length):=J (by omega)
  have key:∀ W3:World,W3=W2.setCell ⟨db,11,none⟩ (.bool (bad || n != 0))→Blk W3 db (doerC vb self next o (bad || n != 0))∧Blk W3 gg [.int .i64 t.kind,.int .i64 t.n,.string t.name,.slice ar t.args.length cr]∧Blk W3 g4 [.int .i64 0,.int .i64 0,.string ⟨#[]⟩,.slice none 0 0]∧RT (fun b=>W0.heap.size≤b∧b≠gg) W3 t (.agg #[.int .i64 t.kind,.int .i64 t.n,.string t.name,.slice ar t.args.length cr])∧Keep (fun b=>b=db) w W3:=fun W3 h3=>by
   have hd:=HDB.out
   have hg:=HGG.out
   have hs:∀ b,b≠db→W3.heap[b]?=W2.heap[b]?:=fun b hb=>by rw [h3];exact yD W2 db 11 _ b hb
   refine ⟨?_,HF.out.heap (hs gg (by omega)),HX42.out.heap (hs g4 (by omega)),HT2.out.to (fun _ h _=>h) fun b hb _=>hs b ?_,?_⟩
   ·have:=HXD2.out.set 11 (.bool (bad || n != 0)) HLN.out
    rw [h3]
    rwa [show (doerC vb self next o bad).set 11 (.bool (bad || n != 0))=doerC vb self next o (bad || n != 0) by
     match o,ho with
     | [_,_,_,_,_,_,_,_],_=>rfl] at this
   ·omega
   ·rw [h3]
    exact ((Keep.of HB0.out).then HFB.out).setCell _ (.inl rfl)
  have KEY:=J key
  clear key h11 hll
  cases bad
  ·go_upto_region 3 with fail
   obtain ⟨W3,hW3⟩:=I (W2.setCell ⟨db,11,none⟩ (.bool (n != 0)))
   have HK3:=J (KEY.out W3 (by rw [hW3];simp))
   rw [←hW3]
   clear hW3 xb xf
   obtain ⟨y0,y1,y2,y3⟩:=HK3.out.2.1.c4 0 1 2 3
   go_wp2_with (first | (refine yI 25 4 yN _ _ rfl rfl rfl rfl rfl HK3.out.2.2.1 rfl rfl rfl ?_;intro W4 hF4 hs4 hBW4 hoth4;have HF4:=J hF4;have HBW4:=J hBW4;have HO4:=J hoth4;have HS4:=J hs4;clear hF4 hs4 hBW4 hoth4))
   have hd:=HDB.out
   have hg:=HGG.out
   have b4:=HBW4.out 0 W3 (Nat.zero_le _) (Below.refl _ _)
   have k3:=HK3.out.2.2.2.2
   refine bodyPost_ret (result_blk Tryz.results41 yN _ Tryz.underlying25 rfl rfl HF4.out rfl) rfl ⟨ar,cr,rfl,⟨b4.os.trans k3.os,b4.tape.trans k3.tape,b4.output.trans k3.output,by have:=k3.size;have:=HS4.out;omega,fun k hk hn=>(HO4.out k (by omega)).trans (k3.block k hk hn)⟩,HK3.out.1.heap (HO4.out db (by omega)),HK3.out.2.2.2.1.to (fun b hb _=>by show w.heap.size≤b;omega) fun b hb _=>HO4.out b (by omega)⟩
  go_upto_region 3 with fail
  obtain ⟨W3,hW3⟩:=I (W2.setCell ⟨db,11,none⟩ (.bool true))
  have HK3:=J (KEY.out W3 (by rw [hW3];simp))
  rw [←hW3]
  clear hW3 xb xf
  obtain ⟨y0,y1,y2,y3⟩:=HK3.out.2.1.c4 0 1 2 3
  go_wp2_with (first | (refine yI 25 4 yN _ _ rfl rfl rfl rfl rfl HK3.out.2.2.1 rfl rfl rfl ?_;intro W4 hF4 hs4 hBW4 hoth4;have HF4:=J hF4;have HBW4:=J hBW4;have HO4:=J hoth4;have HS4:=J hs4;clear hF4 hs4 hBW4 hoth4))
  have hd:=HDB.out
  have hg:=HGG.out
  have b4:=HBW4.out 0 W3 (Nat.zero_le _) (Below.refl _ _)
  have k3:=HK3.out.2.2.2.2
  refine bodyPost_ret (result_blk Tryz.results41 yN _ Tryz.underlying25 rfl rfl HF4.out rfl) rfl ⟨ar,cr,rfl,⟨b4.os.trans k3.os,b4.tape.trans k3.tape,b4.output.trans k3.output,by have:=k3.size;have:=HS4.out;omega,fun k hk hn=>(HO4.out k (by omega)).trans (k3.block k hk hn)⟩,HK3.out.1.heap (HO4.out db (by omega)),HK3.out.2.2.2.1.to (fun b hb _=>by show w.heap.size≤b;omega) fun b hb _=>HO4.out b (by omega)⟩
 skip
 go_simp
 obtain ⟨wg,hwg⟩:=I (Wd.alloc (.cells #[.int .i64 0,.int .i64 0,.string ⟨#[]⟩,.slice none 0 0] 25))
 obtain ⟨gg,hgg⟩:=I (Wd.heap.size)
 have HG:Hid (Blk wg gg [.int .i64 0,.int .i64 0,.string ⟨#[]⟩,.slice none 0 0]):=J (by rw [hwg];exact Blk.new _ _ _ _ hgg)
 have hB:Below Wd.heap.size Wd wg:=by rw [hwg];exact yA _ _
 have HGG:Hid (W0.heap.size≤gg):=J (by have:=HCWd.out.size;omega)
 rw [←hwg,←hgg]
 have HCwg:Hid (Below W0.heap.size W0 wg):=J (yB HCWd.out HCWd.out.size hB)
 clear hwg hgg hB
 refine hK.out _ _ (HQ.out _ HCwg.out) fun _=>?_
 clear hK K hHeld;rename_i hHeld;try simp only [Act.put,pA,pB,pC]
 refine rgO 9 fun K hK=>?_
 go_simp
 go_at_call 69
 refine (valueN_c bd self x S wg _ vb (HTX.out.below HCwg.out) (HBD.out.to (fun _ h _=>h) fun b hb hl=>HCwg.out.block b hl) (fun b hb=>by have:=HSS.out b hb;have:=HCwg.out.size;have:=HDB.out;omega) (by omega)).mono ?_
 intro e wc hro
 rw [←HRO.out] at hro
 obtain ⟨ar,cr,rfl,hB,hT⟩:=hro.open
 have HCwc:Hid (Below W0.heap.size W0 wc):=J (yB HCwg.out HCwg.out.size hB)
 have HT:Hid (RT (fun b=>W0.heap.size≤b∧b≠gg) wc t (.agg #[.int .i64 t.kind,.int .i64 t.n,.string t.name,.slice ar t.args.length cr])):=J (hT.to (fun b hb _=>by (rcases hb with hb | hb;exact hb.elim;(have:=HCwg.out.size;have:=HG.out.lt;omega))) fun _ _ _=>rfl)
 have HG:=J (HG.out.step hB)
 clear hB hT hro
 refine hK.out _ _ (HQ.out _ HCwc.out) fun _=>?_
 clear hK K hHeld;rename_i hHeld;try simp only [Act.put,pA,pB,pC]
 refine rgT 10 _ hHeld ?_
 refine rgT 11 _ hHeld ?_
 refine rgT 12 _ hHeld ?_
 refine rgO 14 fun K hK=>?_
 refine wp_store_blk 25 4 yN _ _ rfl rfl rfl rfl HG.out rfl rfl rfl ?_
 intro W2 hF hs2 hBW hoth
 have HF:=J hF
 have HFB:Hid (Below W0.heap.size W0 W2):=J (hBW _ _ HGG.out HCwc.out)
 have HOTH:=J hoth
 clear hF hBW hs2 hoth
 refine hK.out _ _ (HQ.out _ HFB.out) fun _=>?_
 clear hK K hHeld;rename_i hHeld;try simp only [Act.put,pA,pB,pC]
 refine rgT 15 _ hHeld ?_
 refine rgD ?_
 clear hHeld
 have HT2:Hid (RT (fun b=>W0.heap.size≤b∧b≠gg) W2 t (.agg #[.int .i64 t.kind,.int .i64 t.n,.string t.name,.slice ar t.args.length cr])):=J (HT.out.to (fun _ h _=>h) fun b hb _=>HOTH.out b hb.2)
 have HXD2:=J (HXD.out.step HFB.out)
 have h11:(doerC vb self next o bad)[11]?=some (.bool bad):=by simp [doerC,List.getElem?_append,ho]
 have xb:=HXD2.out.cell 11 _ h11
 have xf:=HXD2.out.fr
 have hll:(doerC vb self next o bad).length=12:=by simp [doerC,ho]
 have HX42:=J (HX4.out.step HFB.out)
 have HLN:Hid (11 < (doerC vb self next o bad).length):=J (by omega)
 have key:∀ W3:World,W3=W2.setCell ⟨db,11,none⟩ (.bool (bad || n != 0))→Blk W3 db (doerC vb self next o (bad || n != 0))∧Blk W3 gg [.int .i64 t.kind,.int .i64 t.n,.string t.name,.slice ar t.args.length cr]∧Blk W3 g4 [.int .i64 0,.int .i64 0,.string ⟨#[]⟩,.slice none 0 0]∧RT (fun b=>W0.heap.size≤b∧b≠gg) W3 t (.agg #[.int .i64 t.kind,.int .i64 t.n,.string t.name,.slice ar t.args.length cr])∧Keep (fun b=>b=db) w W3:=fun W3 h3=>by
  have hd:=HDB.out
  have hg:=HGG.out
  have hs:∀ b,b≠db→W3.heap[b]?=W2.heap[b]?:=fun b hb=>by rw [h3];exact yD W2 db 11 _ b hb
  refine ⟨?_,HF.out.heap (hs gg (by omega)),HX42.out.heap (hs g4 (by omega)),HT2.out.to (fun _ h _=>h) fun b hb _=>hs b ?_,?_⟩
  ·have:=HXD2.out.set 11 (.bool (bad || n != 0)) HLN.out
   rw [h3]
   rwa [show (doerC vb self next o bad).set 11 (.bool (bad || n != 0))=doerC vb self next o (bad || n != 0) by
    match o,ho with
    | [_,_,_,_,_,_,_,_],_=>rfl] at this
  ·omega
  ·rw [h3]
   exact ((Keep.of HB0.out).then HFB.out).setCell _ (.inl rfl)
 have KEY:=J key
 clear key h11 hll
 cases bad
 ·go_upto_region 3 with fail
  obtain ⟨W3,hW3⟩:=I (W2.setCell ⟨db,11,none⟩ (.bool (n != 0)))
  have HK3:=J (KEY.out W3 (by rw [hW3];simp))
  rw [←hW3]
  clear hW3 xb xf
  obtain ⟨y0,y1,y2,y3⟩:=HK3.out.2.1.c4 0 1 2 3
  go_wp2_with (first | (refine yI 25 4 yN _ _ rfl rfl rfl rfl rfl HK3.out.2.2.1 rfl rfl rfl ?_;intro W4 hF4 hs4 hBW4 hoth4;have HF4:=J hF4;have HBW4:=J hBW4;have HO4:=J hoth4;have HS4:=J hs4;clear hF4 hs4 hBW4 hoth4))
  have hd:=HDB.out
  have hg:=HGG.out
  have b4:=HBW4.out 0 W3 (Nat.zero_le _) (Below.refl _ _)
  have k3:=HK3.out.2.2.2.2
  refine bodyPost_ret (result_blk Tryz.results41 yN _ Tryz.underlying25 rfl rfl HF4.out rfl) rfl ⟨ar,cr,rfl,⟨b4.os.trans k3.os,b4.tape.trans k3.tape,b4.output.trans k3.output,by have:=k3.size;have:=HS4.out;omega,fun k hk hn=>(HO4.out k (by omega)).trans (k3.block k hk hn)⟩,HK3.out.1.heap (HO4.out db (by omega)),HK3.out.2.2.2.1.to (fun b hb _=>by show w.heap.size≤b;omega) fun b hb _=>HO4.out b (by omega)⟩
 go_upto_region 3 with fail
 obtain ⟨W3,hW3⟩:=I (W2.setCell ⟨db,11,none⟩ (.bool true))
 have HK3:=J (KEY.out W3 (by rw [hW3];simp))
 rw [←hW3]
 clear hW3 xb xf
 obtain ⟨y0,y1,y2,y3⟩:=HK3.out.2.1.c4 0 1 2 3
 go_wp2_with (first | (refine yI 25 4 yN _ _ rfl rfl rfl rfl rfl HK3.out.2.2.1 rfl rfl rfl ?_;intro W4 hF4 hs4 hBW4 hoth4;have HF4:=J hF4;have HBW4:=J hBW4;have HO4:=J hoth4;have HS4:=J hs4;clear hF4 hs4 hBW4 hoth4))
 have hd:=HDB.out
 have hg:=HGG.out
 have b4:=HBW4.out 0 W3 (Nat.zero_le _) (Below.refl _ _)
 have k3:=HK3.out.2.2.2.2
 refine bodyPost_ret (result_blk Tryz.results41 yN _ Tryz.underlying25 rfl rfl HF4.out rfl) rfl ⟨ar,cr,rfl,⟨b4.os.trans k3.os,b4.tape.trans k3.tape,b4.output.trans k3.output,by have:=k3.size;have:=HS4.out;omega,fun k hk hn=>(HO4.out k (by omega)).trans (k3.block k hk hn)⟩,HK3.out.1.heap (HO4.out db (by omega)),HK3.out.2.2.2.1.to (fun b hb _=>by show w.heap.size≤b;omega) fun b hb _=>HO4.out b (by omega)⟩
def DPidP (w:World) (db:Nat) (vb:Value) (self next:Int) (o:List Value) (bad:Bool) (r:T×Int) (e:Ending) (w':World):Prop :=
 e=.returned (.int .i64 r.1.n)∧Keep (fun b=>b=db) w w'∧Blk w' db (doerC vb self next o ((bad || r.2 != 0) || r.1.kind != 3))
theorem doerC_set (vb:Value) (self next:Int) (o:List Value) (ho:o.length=8) (b b':Bool):(doerC vb self next o b).set 11 (.bool b')=doerC vb self next o b':=by
 match o,ho with
 | [_,_,_,_,_,_,_,_],_=>rfl
theorem doerC_get (vb:Value) (self next:Int) (o:List Value) (ho:o.length=8) (b:Bool):(doerC vb self next o b)[11]?=some (.bool b):=by
 match o,ho with
 | [_,_,_,_,_,_,_,_],_=>rfl
theorem dpid_c (db:Nat) (vb:Value) (self next:Int) (o:List Value) (ho:o.length=8) (bad:Bool) (bd:List T) (x:T) (S:Nat→Prop) (w:World) (v:Value) (hX:Blk w db (doerC vb self next o bad)) (hv:RT S w x v) (hb:RSl S w bd vb) (hS:∀ b,S b→b < w.heap.size∧b≠db) (hbk:yC [x]+yC bd≤2000000) :
  Calls Tryz.prog 67 #[.pointer (some ⟨db,0,none⟩),v] w (DPidP w db vb self next o bad (reckO bd self x)):=by
 obtain ⟨ax,cx,rfl,hcap,hrt⟩:=hv
 obtain ⟨W0,hW0⟩:=I (w.alloc (.cells #[.int .i64 x.kind,.int .i64 x.n,.string x.name,.slice ax x.args.length cx] 25))
 obtain ⟨g3,hg3⟩:=I (w.heap.size)
 have HB0:Hid (Below w.heap.size w W0):=J (by rw [hW0];exact yA _ _)
 have HX3:Hid (Blk W0 g3 [.int .i64 x.kind,.int .i64 x.n,.string x.name,.slice ax x.args.length cx]):=J (by rw [hW0];exact Blk.new _ _ _ _ hg3)
 have hs0:W0.heap.size=w.heap.size+1:=by rw [hW0];simp
 have HXD:Hid (Blk W0 db (doerC vb self next o bad)):=J (hX.step HB0.out)
 have HTX:Hid (RT S W0 x (.agg #[.int .i64 x.kind,.int .i64 x.n,.string x.name,.slice ax x.args.length cx])):=J (RT.below ⟨ax,cx,rfl,hcap,hrt⟩ HB0.out)
 have HBD:Hid (RSl S W0 bd vb):=J (hb.to (fun _ h _=>h) fun b hb hl=>HB0.out.block b hl)
 have HSS:Hid (∀ b,S b→b < w.heap.size∧b≠db):=J hS
 have HDB:Hid (db < w.heap.size∧W0.heap.size=w.heap.size+1):=J ⟨hX.lt,hs0⟩
 obtain ⟨⟨t,n⟩,hr⟩:∃ r,r=reckO bd self x:=⟨_,rfl⟩
 have HRO:=J hr
 obtain ⟨x0,x1,x2,x3⟩:=HX3.out.c4 0 1 2 3
 rw [←hr]
 clear hX hcap hrt hb hS hr
 go_enter Tryz.func67,Tryz.ntmps67
 go_upto_region 1 with fail
 rw [←hW0,←hg3]
 clear hW0 hg3 hs0
 go_wp2_with fail
 refine (dval_c db vb self next o ho bad bd x S W0 _ HXD.out HTX.out HBD.out (fun b hb=>⟨by have:=HSS.out b hb;have:=HDB.out;omega,(HSS.out b hb).2⟩) hbk).mono ?_
 rintro e W1 hP
 rw [←HRO.out] at hP
 obtain ⟨at',ct,rfl,hK,hXd,hT⟩:=hP
 obtain ⟨b1,hb1⟩:∃ b1,b1=(bad || n != 0):=⟨_,rfl⟩
 have hXd:Blk W1 db (doerC vb self next o (bad || n != 0)):=hXd
 rw [←hb1] at hXd
 have HB1:=J hb1
 have HXd:=J hXd;have HK:=J hK
 clear hK hXd hT x0 x1 x2 x3 hb1
 go_upto_region 2 with fail
 obtain ⟨W2,hW2⟩:=I (W1.alloc (.cells #[.int .i64 t.kind,.int .i64 t.n,.string t.name,.slice at' t.args.length ct] 25))
 obtain ⟨g5,hg5⟩:=I (W1.heap.size)
 have HX5:Hid (Blk W2 g5 [.int .i64 t.kind,.int .i64 t.n,.string t.name,.slice at' t.args.length ct]):=J (by rw [hW2];exact Blk.new _ _ _ _ hg5)
 have HXD2:Hid (Blk W2 db (doerC vb self next o b1)):=J (by rw [hW2];exact HXd.out.alloc _)
 have HK2:Hid (Keep (fun b=>b=db) w W2):=J (by rw [hW2];exact (((Keep.of HB0.out).trans (HK.out.mono fun _ _ h=>h)).alloc _))
 have HG5:Hid (g5≠db):=J (by have:=HXd.out.lt;omega)
 rw [←hW2,←hg5]
 clear hW2 hg5
 have xb:=HXD2.out.cell 11 _ (doerC_get vb self next o ho b1)
 have xf:=HXD2.out.fr
 have y0:=HX5.out.cell 0 _ rfl
 have key:∀ (W3:World) (b2:Bool),W3=W2.setCell ⟨db,11,none⟩ (.bool b2)→Blk W3 db (doerC vb self next o b2)∧Blk W3 g5 [.int .i64 t.kind,.int .i64 t.n,.string t.name,.slice at' t.args.length ct]∧Keep (fun b=>b=db) w W3:=fun W3 b2 h3=>by
  subst h3
  refine ⟨?_,HX5.out.heap (yD W2 db 11 _ g5 HG5.out),HK2.out.setCell _ (.inl rfl)⟩
  have:=HXD2.out.set 11 (.bool b2) (by simp [doerC,ho])
  rwa [doerC_set vb self next o ho] at this
 have KEY:=J key
 clear key
 cases b1
 ·go_upto_region 3 with fail
  obtain ⟨W3,hW3⟩:=I (W2.setCell ⟨db,11,none⟩ (.bool (t.kind != 3)))
  have HK3:=J (KEY.out W3 _ hW3)
  rw [←hW3]
  have z1:=HK3.out.2.1.cell 1 _ rfl
  clear hW3 xb xf y0
  go_wp2_with fail
  go_ret
  refine ⟨rfl,HK3.out.2.2,?_⟩
  rw [←HB1.out]
  exact HK3.out.1
 go_upto_region 3 with fail
 obtain ⟨W3,hW3⟩:=I (W2.setCell ⟨db,11,none⟩ (.bool true))
 have HK3:=J (KEY.out W3 _ hW3)
 rw [←hW3]
 have z1:=HK3.out.2.1.cell 1 _ rfl
 clear hW3 xb xf y0
 go_wp2_with fail
 go_ret
 refine ⟨rfl,HK3.out.2.2,?_⟩
 rw [←HB1.out]
 exact HK3.out.1
def pputE (room:Int) (us:List T) (t:T):Int:=if putE t≠0 then putE t else if room < (szL us:Int)+szL [t] then 6 else 0
theorem checkE_6 (t:T):yE t≠6:=by
 unfold yE
 split
 ·split <;> decide
 decide
theorem putE_6 (t:T):putE t≠6:=by
 unfold putE
 split
 ·exact checkE_6 t
 split <;> decide
theorem putHO_e {room:Int} {H:HS} {t:T} (h:putE t≠0):putHO room H t=(⟨0,0⟩,putE t,H):=by
 unfold putE at h ⊢
 by_cases h0:yE t≠0
 ·rw [if_pos h0] at h ⊢
  exact putHO_check h0
 rw [if_neg h0] at h ⊢
 by_cases h1:yF [t]=false
 ·rw [if_pos h1]
  exact putHO_form (by simpa using h0) h1
 rw [if_neg h1] at h
 exact absurd rfl h
theorem putE_yes {t:T} (h:putE t=0):yE t=0∧yF [t]=true:=by
 unfold putE at h
 by_cases h0:yE t≠0
 ·rw [if_pos h0] at h
  exact absurd h h0
 rw [if_neg h0] at h
 by_cases h1:yF [t]=false
 ·rw [if_pos h1] at h
  exact absurd h (by decide)
 exact ⟨by simpa using h0,by simpa using h1⟩
theorem PH.putHO {room:Int} {H:HS} {L:TW} (h:PH room H L) (t:T):((putHO room H t).2.1=6∧(putHO room H t).2.2=H∧putE t=0∧room < H.ws.length+szL [t]) ∨
  ((putHO room H t).2.1=pputE room (yQ L) t∧(putHO room H t).2.1≠0∧(putHO room H t).2.1≠6∧(putHO room H t).2.2=H) ∨
  ((putHO room H t).2.1=0∧pputE room (yQ L) t=0∧PH room (putHO room H t).2.2 (L ++ [(t,(putHO room H t).1)])∧(putHO room H t).2.2.names.length≤H.names.length+yC [t]):=by
 by_cases h0:putE t=0
 ·obtain ⟨h1,h2⟩:=putE_yes h0
  by_cases h3:room < H.ws.length+szL [t]
  ·rw [putHO_full h1 h2 h3]
   exact .inl ⟨rfl,rfl,h0,h3⟩
  rw [putHO_ok h1 h2 h3]
  have:=h.le
  refine .inr (.inr ⟨rfl,?_,h.put h1 h2 h3,(putW_len H t).2⟩)
  unfold pputE
  rw [if_neg (by simp [h0]),if_neg (by omega)]
 rw [putHO_e h0]
 refine .inr (.inl ⟨?_,h0,putE_6 t,rfl⟩)
 unfold pputE
 rw [if_pos h0]
theorem pstate_c (G:Nat→Prop) (w:World) (pb:Nat) (name:ByteArray) (room:Int) (nb u:Nat) (t:T) (x:Wrd) (L Z:TW) (h:PrR G w pb name room nb u ((t,x) :: L) Z) (hl:L.length≤900) (hr:room≤1000) (hn:nb≤137438953472) :
  Calls Tryz.prog 18 #[.pointer (some ⟨pb,0,none⟩)] w fun e w'=>∃ ar cr,e=.returned (.agg #[.int .i64 t.kind,.int .i64 t.n,.string t.name,.slice ar t.args.length cr])∧Below w.heap.size w w'∧RT (fun b=>w.heap.size≤b) w' t (.agg #[.int .i64 t.kind,.int .i64 t.n,.string t.name,.slice ar t.args.length cr]):=by
 obtain ⟨W0,hW0⟩:=I (w.alloc (.cells #[.int .i64 0,.int .i64 0,.string ⟨#[]⟩,.slice none 0 0] 25))
 obtain ⟨g2,hg2⟩:=I (w.heap.size)
 have HB0:Hid (Below w.heap.size w W0):=J (by rw [hW0];exact yA _ _)
 have HX2:Hid (Blk W0 g2 [.int .i64 0,.int .i64 0,.string ⟨#[]⟩,.slice none 0 0]):=J (by rw [hW0];exact Blk.new _ _ _ _ hg2)
 have hs0:w.heap.size < W0.heap.size:=by rw [hW0];simp
 have HH:=J (h.below HB0.out)
 clear h
 go_enter Tryz.func18,Tryz.ntmps18
 go_upto_region 1 with fail
 rw [←hW0,←hg2]
 have HG2:=J hg2
 clear hW0 hg2
 go_wp2_with fail
 refine (pget_c G W0 pb name room nb u ((t,x) :: L) Z HH.out 0 (by simp) (by simp;omega) hr hn).mono ?_
 rintro e w1 ⟨ar,cr,rfl,hB,hT⟩
 have HT:Hid (RT (fun b=>W0.heap.size≤b) w1 t (.agg #[.int .i64 t.kind,.int .i64 t.n,.string t.name,.slice ar t.args.length cr])):=J hT
 have HB:=J hB
 clear hB hT
 simp only [List.getElem_cons_zero]
 go_wp2_with (first | (refine yI 25 4 yN _ _ rfl rfl rfl rfl rfl (HX2.out.step HB.out) rfl rfl rfl ?_;intro W3 hF3 hs3 hBW3 hoth3;have HF3:=J hF3;have HBW3:=J hBW3;have HO3:=J hoth3;clear hF3 hs3 hBW3 hoth3))
 refine bodyPost_ret (result_blk Tryz.results18 yN _ Tryz.underlying25 rfl rfl HF3.out rfl) rfl ⟨ar,cr,rfl,HBW3.out _ _ (by have:=HG2.out;omega) (HB0.out.trans (HB.out.mono (by omega))),?_⟩
 exact HT.out.to (fun b hb _=>by omega) fun b hb _=>HO3.out b (by have:=HG2.out;omega)
def PutCut (F:Nat→Prop) (W0:World) (B:Nat) (room:Int) (H:HS) (t:T) (s6 s7:Value) (wx:World):Prop :=
 ∃ gg,s6=.pointer (some ⟨gg,0,none⟩)∧s7=.int .i64 (putHO room H t).2.1∧Keep F W0 wx∧W0.heap.size≤gg∧Blk wx gg [.int .i64 (putHO room H t).1.kind,.int .i64 (putHO room H t).1.n] ∧
  ∃ F1:Nat→Prop,HeapR F1 wx B room (putHO room H t).2.2∧∀ b,F1 b→(F b∨W0.heap.size≤b)∧b≠gg∧b < wx.heap.size
def PPutP (G:Nat→Prop) (w:World) (pb:Nat) (name:ByteArray) (room:Int) (nb:Nat) (L:TW) (t:T) (e:Ending) (w':World):Prop :=
 Keep G w w'∧∃ (y:Wrd) (L':TW) (u':Nat),e=.returned (.tuple #[.agg #[.int .i64 y.kind,.int .i64 y.n],.int .i64 (pputE room (yQ L) t)])∧yQ L'=yQ L ∧
  (pputE room (yQ L) t=0→PrR (fun b=>G b∨w.heap.size≤b) w' pb name room (nb+yC [t]) u' L' [(t,y)])∧(pputE room (yQ L) t≠0→PrR (fun b=>G b∨w.heap.size≤b) w' pb name room nb u' L' [])
theorem pput_c (G:Nat→Prop) (w:World) (pb:Nat) (name:ByteArray) (room:Int) (nb u:Nat) (L:TW) (t:T) (S:Nat→Prop) (v:Value) (h:PrR G w pb name room nb u L []) (hv:RT S w t v) (hS:∀ b,S b→b < w.heap.size∧¬G b) (hbt:yC [t]≤4294967296) (hl:L.length≤1000) (hr:room≤1000) (hn:nb≤4294967296) :
  Calls Tryz.prog 31 #[.pointer (some ⟨pb,0,none⟩),v] w (PPutP G w pb name room nb L t):=by
 obtain ⟨F,B,H,vw,hV,hnb,rfl,hG⟩:=h
 obtain ⟨a,cap,rfl,hcap,hrt⟩:=hv
 obtain ⟨W0,hW0⟩:=I ((w.alloc (.cells #[.int .i64 t.kind,.int .i64 t.n,.string t.name,.slice a t.args.length cap] 25)).alloc (.cells #[.int .i64 0,.int .i64 0] 68))
 obtain ⟨g3,hg3⟩:=I (w.heap.size)
 obtain ⟨g4,hg4⟩:=I (w.heap.size+1)
 have HB0:Hid (Below w.heap.size w W0):=J (by rw [hW0];exact (yA _ _).trans ((yA _ _).mono (by simp)))
 have HX3:Hid (Blk W0 g3 [.int .i64 t.kind,.int .i64 t.n,.string t.name,.slice a t.args.length cap]):=J (by rw [hW0,hg3];exact (Blk.new _ _ _ _ rfl).alloc _)
 have HX4:Hid (Blk W0 g4 [.int .i64 0,.int .i64 0]):=J (by rw [hW0];exact Blk.new _ _ _ _ (by rw [hg4];simp))
 have hs0:W0.heap.size=w.heap.size+2:=by rw [hW0];simp
 have HV0:=J (hV.below HB0.out)
 have HT0:Hid (RT S W0 t (.agg #[.int .i64 t.kind,.int .i64 t.n,.string t.name,.slice a t.args.length cap])):=J (RT.below ⟨a,cap,rfl,hcap,hrt⟩ HB0.out)
 have HS0:Hid (∀ b,S b→b < W0.heap.size∧¬F b):=J fun b hb=>⟨by have:=(hS b hb).1;omega,fun hf=>(hS b hb).2 (hG.1 b hf)⟩
 have HS1:Hid (∀ b,S b→b < w.heap.size∧¬G b):=J hS
 have HQ:Hid (∀ w',Keep F W0 w'→w'.cell? ⟨pb,1,none⟩=some (.pointer (some ⟨B,0,none⟩))∧w'.cell? ⟨g3,0,none⟩=some (.int .i64 t.kind)∧w'.cell? ⟨g3,1,none⟩=some (.int .i64 t.n)∧w'.cell? ⟨g3,2,none⟩=some (.string t.name)∧w'.cell? ⟨g3,3,none⟩=some (.slice a t.args.length cap)):=J fun w' hK=>by
  have e1:=hK.block pb HV0.out.blk.lt HV0.out.fp
  have e3:=hK.block g3 HX3.out.lt fun hf=>by have:=hV.fl g3 hf;omega
  exact ⟨(HV0.out.blk.heap e1).cell 1 _ rfl,(HX3.out.heap e3).cell 0 _ rfl,(HX3.out.heap e3).cell 1 _ rfl,(HX3.out.heap e3).cell 2 _ rfl,(HX3.out.heap e3).cell 3 _ rfl⟩
 have HG:=J hG;have HVO:=J hV
 have HG3:Hid (g3=w.heap.size∧g4=w.heap.size+1∧W0.heap.size=w.heap.size+2):=J ⟨hg3,hg4,hs0⟩
 clear hV hcap hrt hS hG
 go_enter Tryz.func31,Tryz.ntmps31
 go_upto_region 1 with fail
 rw [←hW0,←hg4,←hg3]
 clear hW0 hg3 hg4 hs0
 go_cut [6,7] (fun s6 s7 wx=>PutCut F W0 B room H t s6 s7 wx)
 case first =>
  refine yK (fun w'=>w'.cell? ⟨pb,1,none⟩=some (.pointer (some ⟨B,0,none⟩))∧w'.cell? ⟨g3,0,none⟩=some (.int .i64 t.kind)∧w'.cell? ⟨g3,1,none⟩=some (.int .i64 t.n)∧w'.cell? ⟨g3,2,none⟩=some (.string t.name)∧w'.cell? ⟨g3,3,none⟩=some (.slice a t.args.length cap)) (by as_aux_lemma=>kernel_rfl) (fun Wd h=>HQ.out _ (Keep.of h)) ?_
  intro Wd hB hWd hWd' hHeld
  have HCWd:=J hB
  clear hB
  refine rgT 0 _ hHeld ?_
  refine rgT 1 _ hHeld ?_
  refine rgT 2 _ hHeld ?_
  refine rgT 3 _ hHeld ?_
  refine rgT 4 _ hHeld ?_
  refine rgW 5 9 (fun K hK=>?_) fun K hK=>?_
  ·skip
   go_simp
   go_at_call 23
   refine (hPut_c t F S Wd B room H _ (HV0.out.below HCWd.out).hp (HT0.out.below HCWd.out) (fun b hb=>⟨by have:=HS0.out b hb;have:=HCWd.out.size;omega,(HS0.out b hb).2⟩) (by omega) (by have:=HV0.out.ph.rm;omega) (by omega)).mono ?_
   rintro e wc ⟨rfl,hK,hH⟩
   have HK:Hid (Keep F Wd wc):=J hK
   have HH1:Hid (HeapR (fun b=>F b∨Wd.heap.size≤b) wc B room (putHO room H t).2.2):=J hH
   have HKc:Hid (Keep F W0 wc):=J ((Keep.of HCWd.out).trans hK)
   clear hK hH
   refine hK.out _ _ (HQ.out _ HKc.out) fun _=>?_
   clear hK K hHeld;rename_i hHeld;try simp only [Act.put,pA,pB,pC]
   refine rgT 6 _ hHeld ?_
   refine rgT 7 _ hHeld ?_
   refine rgT 8 _ hHeld ?_
   refine rgO 9 fun K hK=>?_
   go_simp
   obtain ⟨wg,hwg⟩:=I (wc.alloc (.cells #[.int .i64 0,.int .i64 0] 68))
   obtain ⟨gg,hgg⟩:=I (wc.heap.size)
   have HG:Hid (Blk wg gg [.int .i64 0,.int .i64 0]):=J (by rw [hwg];exact Blk.new _ _ _ _ hgg)
   have hB:Below wc.heap.size wc wg:=by rw [hwg];exact yA _ _
   have HGG:Hid (W0.heap.size≤gg):=J (by have:=HKc.out.size;omega)
   have HF1:Hid (∃ F1:Nat→Prop,HeapR F1 wg B room (putHO room H t).2.2∧∀ b,F1 b→(F b∨W0.heap.size≤b)∧b≠gg∧b < wg.heap.size):=J ⟨_,HH1.out.low.below hB,fun b hb=>⟨hb.1.imp id fun h=>by have:=HCWd.out.size;omega,by omega,by have:=hB.size;omega⟩⟩
   have HKg:Hid (Keep F W0 wg):=J (HKc.out.then hB)
   rw [←hwg,←hgg]
   clear hwg hgg hB
   refine hK.out _ _ (HQ.out _ HKg.out) fun _=>?_
   clear hK K hHeld;rename_i hHeld;try simp only [Act.put,pA,pB,pC]
   refine rgO 10 fun K hK=>?_
   refine wp_store_blk 68 2 szWord _ _ rfl rfl rfl rfl HG.out rfl rfl rfl ?_
   intro W2 hF hs2 hBW hoth
   have HFW:=J hF
   have HK2:Hid (Keep F W0 W2):=J ⟨(hBW 0 _ (Nat.zero_le _) (Below.refl _ _)).os.trans HKg.out.os,(hBW 0 _ (Nat.zero_le _) (Below.refl _ _)).tape.trans HKg.out.tape,(hBW 0 _ (Nat.zero_le _) (Below.refl _ _)).output.trans HKg.out.output,by rw [hs2];exact HKg.out.size,fun k hk hn=>(hoth k (by have:=HGG.out;omega)).trans (HKg.out.block k hk hn)⟩
   have HF2:Hid (∃ F1:Nat→Prop,HeapR F1 W2 B room (putHO room H t).2.2∧∀ b,F1 b→(F b∨W0.heap.size≤b)∧b≠gg∧b < W2.heap.size):=J (by
    obtain ⟨F1,h1,h2⟩:=HF1.out
    exact ⟨F1,h1.to (by omega) (fun _ h=>h) fun b hb _=>hoth b (h2 b hb).2.1,fun b hb=>⟨(h2 b hb).1,(h2 b hb).2.1,by have:=(h2 b hb).2.2;omega⟩⟩)
   clear hF hBW hs2 hoth
   refine hK.out _ _ (HQ.out _ HK2.out) fun _=>?_
   clear hK K hHeld;rename_i hHeld;try simp only [Act.put,pA,pB,pC]
   refine rgT 11 _ hHeld ?_
   refine rgD ?_
   clear hHeld
   go_wp2_with fail
   go_meet
   exact ⟨gg,rfl,rfl,HK2.out,HGG.out,HFW.out,HF2.out⟩
  skip
  go_simp
  obtain ⟨wg,hwg⟩:=I (Wd.alloc (.cells #[.int .i64 0,.int .i64 0] 68))
  obtain ⟨gg,hgg⟩:=I (Wd.heap.size)
  have HG:Hid (Blk wg gg [.int .i64 0,.int .i64 0]):=J (by rw [hwg];exact Blk.new _ _ _ _ hgg)
  have hB:Below Wd.heap.size Wd wg:=by rw [hwg];exact yA _ _
  have HGG:Hid (W0.heap.size≤gg):=J (by have:=HCWd.out.size;omega)
  have HCwg:Hid (Below W0.heap.size W0 wg):=J (yB HCWd.out HCWd.out.size hB)
  rw [←hwg,←hgg]
  clear hwg hgg hB
  refine hK.out _ _ (HQ.out _ (Keep.of HCwg.out)) fun _=>?_
  clear hK K hHeld;rename_i hHeld;try simp only [Act.put,pA,pB,pC]
  refine rgO 5 fun K hK=>?_
  go_simp
  go_at_call 23
  refine (hPut_c t F S wg B room H _ (HV0.out.below HCwg.out).hp (HT0.out.below HCwg.out) (fun b hb=>⟨by have:=HS0.out b hb;have:=HCwg.out.size;omega,(HS0.out b hb).2⟩) (by omega) (by have:=HV0.out.ph.rm;omega) (by omega)).mono ?_
  rintro e wc ⟨rfl,hK,hH⟩
  have HK:Hid (Keep F wg wc):=J hK
  have HH1:Hid (HeapR (fun b=>F b∨wg.heap.size≤b) wc B room (putHO room H t).2.2):=J hH
  have HKc:Hid (Keep F W0 wc):=J ((Keep.of HCwg.out).trans hK)
  have HGL:Hid (gg < wg.heap.size):=J HG.out.lt
  have HG:=J (HG.out.heap (hK.block gg HG.out.lt (fun hf=>by have:=HV0.out.fl gg hf;have:=HGG.out;omega)))
  clear hK hH
  refine hK.out _ _ (HQ.out _ HKc.out) fun _=>?_
  clear hK K hHeld;rename_i hHeld;try simp only [Act.put,pA,pB,pC]
  refine rgT 6 _ hHeld ?_
  refine rgT 7 _ hHeld ?_
  refine rgT 8 _ hHeld ?_
  refine rgO 10 fun K hK=>?_
  have HF1:Hid (∃ F1:Nat→Prop,HeapR F1 wc B room (putHO room H t).2.2∧∀ b,F1 b→(F b∨W0.heap.size≤b)∧b≠gg∧b < wc.heap.size):=J ⟨_,HH1.out.low,fun b hb=>⟨hb.1.imp id fun h=>by have:=HCwg.out.size;omega,fun e=>by
   subst e
   rcases hb.1 with h1 | h1
   ·have:=HV0.out.fl _ h1;have:=HGG.out;omega
   ·have:=HGL.out;omega,hb.2⟩⟩
  have HKg:=HKc
  refine wp_store_blk 68 2 szWord _ _ rfl rfl rfl rfl HG.out rfl rfl rfl ?_
  intro W2 hF hs2 hBW hoth
  have HFW:=J hF
  have HK2:Hid (Keep F W0 W2):=J ⟨(hBW 0 _ (Nat.zero_le _) (Below.refl _ _)).os.trans HKg.out.os,(hBW 0 _ (Nat.zero_le _) (Below.refl _ _)).tape.trans HKg.out.tape,(hBW 0 _ (Nat.zero_le _) (Below.refl _ _)).output.trans HKg.out.output,by rw [hs2];exact HKg.out.size,fun k hk hn=>(hoth k (by have:=HGG.out;omega)).trans (HKg.out.block k hk hn)⟩
  have HF2:Hid (∃ F1:Nat→Prop,HeapR F1 W2 B room (putHO room H t).2.2∧∀ b,F1 b→(F b∨W0.heap.size≤b)∧b≠gg∧b < W2.heap.size):=J (by
   obtain ⟨F1,h1,h2⟩:=HF1.out
   exact ⟨F1,h1.to (by omega) (fun _ h=>h) fun b hb _=>hoth b (h2 b hb).2.1,fun b hb=>⟨(h2 b hb).1,(h2 b hb).2.1,by have:=(h2 b hb).2.2;omega⟩⟩)
  clear hF hBW hs2 hoth
  refine hK.out _ _ (HQ.out _ HK2.out) fun _=>?_
  clear hK K hHeld;rename_i hHeld;try simp only [Act.put,pA,pB,pC]
  refine rgT 11 _ hHeld ?_
  refine rgD ?_
  clear hHeld
  go_wp2_with fail
  go_meet
  exact ⟨gg,rfl,rfl,HK2.out,HGG.out,HFW.out,HF2.out⟩
 obtain ⟨gg,rfl,rfl,hK,hgg,hX,F1,hH1,hF1⟩:=hcut
 have HKX:=J hK;have HGG:=J hgg;have HXG:=J hX;have HH1:=J hH1;have HF1:=J hF1
 have HPH:Hid (PH room H L):=J (by have:=HVO.out.ph;rwa [List.append_nil] at this)
 have HX4w:Hid (Blk wc g4 [.int .i64 0,.int .i64 0]):=J (HX4.out.heap (hK.block g4 HX4.out.lt fun hf=>by have:=HVO.out.fl g4 hf;have:=HG3.out;omega))
 have HKW:Hid (Keep F w wc):=J ((Keep.of HB0.out).trans (hK.mono fun _ _ h=>h))
 obtain ⟨x0,x1⟩:=HXG.out.c2 0 1
 clear hK hgg hX hH1 hF1
 rcases HPH.out.putHO t with ⟨e6,eH,ep,hfull⟩ | hrest
 ·have qe:((putHO room H t).2.1 == 6)=true:=by rw [e6];rfl
  have EP:=J ep
  have hsw:=HKW.out.size
  have hsx:=HKX.out.size
  have hg3:=HG3.out
  have hPR:PrR (fun b=>(G b∨w.heap.size≤b)∧b≠gg∧b≠g3∧b≠g4) wc pb name room nb H.ws.length L []:=by
   have hgg:=HGG.out
   have hp:=HVO.out.blk.lt
   refine ⟨F1,B,H,vw,HVO.out.after hsw (fun b hb hn=>HKW.out.block b hb hn) (by have:=HH1.out;rwa [eH] at this) (fun b hb=>⟨(HF1.out b hb).1.imp id fun h=>by omega,(HF1.out b hb).2.2⟩) HVO.out.ph rfl,hnb,rfl,fun b hb=>⟨(HF1.out b hb).1.imp (HG.out.1 b) fun h=>by omega,(HF1.out b hb).2.1,?_⟩,⟨.inl HG.out.2.1,by omega,by omega,by omega⟩,fun b hb=>⟨.inl (HG.out.2.2 b hb),by have:=(HVO.out.ow.block b hb).2;omega,by have:=(HVO.out.ow.block b hb).2;omega,by have:=(HVO.out.ow.block b hb).2;omega⟩⟩
   rcases (HF1.out b hb).1 with h1 | h1
   ·have:=HVO.out.fl b h1;omega
   omega
  obtain ⟨G1,hG1⟩:∃ G1:Nat→Prop,G1=fun b=>(G b∨w.heap.size≤b)∧b≠gg∧b≠g3∧b≠g4:=⟨_,rfl⟩
  rw [←hG1] at hPR
  have HG1:Hid (∀ b,G1 b→(G b∨w.heap.size≤b)∧b≠gg∧b≠g3∧b≠g4):=J (by rw [hG1];exact fun _ h=>h)
  have HPR:=J hPR
  have HX3w:Hid (Blk wc g3 [.int .i64 t.kind,.int .i64 t.n,.string t.name,.slice a t.args.length cap]):=J (HX3.out.heap (HKX.out.block g3 HX3.out.lt fun hf=>by have:=HVO.out.fl g3 hf;omega))
  have HTw:Hid (RT S wc t (.agg #[.int .i64 t.kind,.int .i64 t.n,.string t.name,.slice a t.args.length cap])):=J (HT0.out.to (fun _ h _=>h) fun b hb hl=>HKX.out.block b hl (HS0.out b hb).2)
  clear hPR hG1 e6 eH ep hfull x0 x1 hg3 hsx
  go_wp2_with fail
  refine (ptidy_c G1 wc pb name room nb _ L HPR.out hr hl).mono ?_
  rintro e w2 ⟨rfl,hKt,L2,eL2,F2,B2,H2,v2,hV2,hn2,hu2,hG2⟩
  have HV2:=J hV2;have HU2:=J hu2;have HEL:=J eL2;have HKT:=J hKt;have HGG2:=J hG2
  have hst:=hKt.size
  have HX3t:Hid (Blk w2 g3 [.int .i64 t.kind,.int .i64 t.n,.string t.name,.slice a t.args.length cap]):=J (HX3w.out.heap (hKt.block g3 HX3w.out.lt fun h=>(HG1.out _ h).2.2.1 rfl))
  have HX4t:Hid (Blk w2 g4 [.int .i64 0,.int .i64 0]):=J (HX4w.out.heap (hKt.block g4 HX4w.out.lt fun h=>(HG1.out _ h).2.2.2 rfl))
  have HT2:Hid (RT S w2 t (.agg #[.int .i64 t.kind,.int .i64 t.n,.string t.name,.slice a t.args.length cap])):=J (HTw.out.to (fun _ h _=>h) fun b hb hl=>hKt.block b hl fun h=>by
   have h1:=HS1.out b hb
   rcases (HG1.out b h).1 with h2 | h2
   ·exact h1.2 h2
   ·omega)
  have HNF:Hid (¬F2 pb∧¬F2 g3∧¬F2 g4):=J ⟨hV2.fp,fun hf=>by
   rcases hG2.1 _ hf with h | h
   ·exact (HG1.out _ h).2.2.1 rfl
   ·have:=HX3w.out.lt;omega,fun hf=>by
   rcases hG2.1 _ hf with h | h
   ·exact (HG1.out _ h).2.2.2 rfl
   ·have:=HX4w.out.lt;omega⟩
  have HS2:Hid (∀ b,S b→b < w2.heap.size∧¬F2 b):=J fun b hb=>⟨by have:=(HS1.out b hb).1;omega,fun hf=>by
   have h1:=HS1.out b hb
   rcases hG2.1 _ hf with h | h
   ·rcases (HG1.out b h).1 with h2 | h2
    ·exact h1.2 h2
    ·omega
   ·omega⟩
  have HQ4:Hid (∀ w':World,w'.heap[pb]?=w2.heap[pb]?→w'.heap[g3]?=w2.heap[g3]?→w'.cell? ⟨pb,1,none⟩=some (.pointer (some ⟨B2,0,none⟩))∧w'.cell? ⟨g3,0,none⟩=some (.int .i64 t.kind)∧w'.cell? ⟨g3,1,none⟩=some (.int .i64 t.n)∧w'.cell? ⟨g3,2,none⟩=some (.string t.name)∧w'.cell? ⟨g3,3,none⟩=some (.slice a t.args.length cap)):=J fun w' e1 e3=>⟨(hV2.blk.heap e1).cell 1 _ rfl,(HX3t.out.heap e3).cell 0 _ rfl,(HX3t.out.heap e3).cell 1 _ rfl,(HX3t.out.heap e3).cell 2 _ rfl,(HX3t.out.heap e3).cell 3 _ rfl⟩
  clear hV2 hu2 eL2 hKt hG2
  go_upto_region 4 with fail
  refine yK (fun w'=>w'.cell? ⟨pb,1,none⟩=some (.pointer (some ⟨B2,0,none⟩))∧w'.cell? ⟨g3,0,none⟩=some (.int .i64 t.kind)∧w'.cell? ⟨g3,1,none⟩=some (.int .i64 t.n)∧w'.cell? ⟨g3,2,none⟩=some (.string t.name)∧w'.cell? ⟨g3,3,none⟩=some (.slice a t.args.length cap)) (by as_aux_lemma=>kernel_rfl) (fun Wd h=>HQ4.out _ (h.block _ HV2.out.blk.lt) (h.block _ HX3t.out.lt)) ?_
  intro Wd hB hWd hWd' hHeld
  have HCWd:=J hB
  clear hB
  refine rgT 0 _ hHeld ?_
  refine rgT 1 _ hHeld ?_
  refine rgT 2 _ hHeld ?_
  refine rgT 3 _ hHeld ?_
  refine rgT 4 _ hHeld ?_
  refine rgO 5 fun K hK=>?_
  go_simp
  go_at_call 23
  refine (hPut_c t F2 S Wd B2 room H2 _ (HV2.out.below HCWd.out).hp (HT2.out.below HCWd.out) (fun b hb=>⟨by have:=HS2.out b hb;have:=HCWd.out.size;omega,(HS2.out b hb).2⟩) (by omega) (by have:=HV2.out.ph.rm;omega) (by omega)).mono ?_
  rintro e wc4 ⟨rfl,hK4,hH4⟩
  have HK4:Hid (Keep F2 w2 wc4):=J ((Keep.of HCWd.out).trans hK4)
  have HH4:Hid (HeapR (fun b=>(F2 b∨w2.heap.size≤b)∧b < wc4.heap.size) wc4 B2 room (putHO room H2 t).2.2):=J (hH4.low.mono fun b hb=>⟨hb.1.imp id fun h=>by have:=HCWd.out.size;omega,hb.2⟩)
  have HX4q:Hid (Blk wc4 g4 [.int .i64 0,.int .i64 0]):=J (HX4t.out.heap (HK4.out.block g4 HX4t.out.lt HNF.out.2.2))
  clear hK4 hH4
  refine hK.out _ _ (HQ4.out _ (HK4.out.block _ HV2.out.blk.lt HNF.out.1) (HK4.out.block _ HX3t.out.lt HNF.out.2.1)) fun _=>?_
  clear hK K hHeld;rename_i hHeld;try simp only [Act.put,pA,pB,pC]
  refine rgT 6 _ hHeld ?_
  refine rgT 7 _ hHeld ?_
  refine rgO 8 fun K hK=>?_
  refine wp_store_blk 68 2 szWord _ _ rfl rfl rfl rfl HX4q.out rfl rfl rfl ?_
  intro W3 hF hs3 hBW hoth
  have HF3:=J hF;have HBW3:=J hBW;have HO3:=J hoth;have HS3:=J hs3
  clear hF hBW hs3 hoth
  refine hK.out _ _ (HQ4.out _ ((HO3.out _ (by have:=HVO.out.blk.lt;have:=HG3.out;omega)).trans (HK4.out.block _ HV2.out.blk.lt HNF.out.1)) ((HO3.out _ (by have:=HG3.out;omega)).trans (HK4.out.block _ HX3t.out.lt HNF.out.2.1))) fun _=>?_
  clear hK K hHeld;rename_i hHeld;try simp only [Act.put,pA,pB,pC]
  refine rgT 9 _ hHeld ?_
  refine rgD ?_
  clear hHeld
  go_wp2_with fail
  have hsx:=HKX.out.size
  have HPH2:Hid (PH room H2 L2):=J (by have:=HV2.out.ph;rwa [List.append_nil] at this)
  have hE:(putHO room H2 t).2.1=pputE room (yQ L) t∧(pputE room (yQ L) t=0→PH room (putHO room H2 t).2.2 (L2 ++ [(t,(putHO room H2 t).1)])∧(putHO room H2 t).2.2.names.length≤H2.names.length+yC [t])∧(pputE room (yQ L) t≠0→(putHO room H2 t).2.2=H2):=by
   have hp:=HPH2.out.putHO t
   rw [HEL.out] at hp
   rcases hp with ⟨f1,f2,f3,f4⟩ | ⟨f1,f2,f3,f4⟩ | ⟨f1,f2,f3,f4⟩
   ·have e:pputE room (yQ L) t=6:=by
     unfold pputE
     rw [if_neg (by simp [f3]),if_pos (by rw [HU2.out] at f4;exact f4)]
    rw [e]
    exact ⟨f1,fun h=>absurd h (by decide),fun _=>f2⟩
   ·exact ⟨f1,fun h=>absurd (f1.trans h) f2,fun _=>f4⟩
   exact ⟨f1.trans f2.symm,fun _=>⟨f3,f4⟩,fun h=>absurd f2 h⟩
  have hsz4:=HK4.out.size
  have hst:=HKT.out.size
  have hsw:=HKW.out.size
  have hg:=HG3.out
  have hkeep:Keep G w W3:=by
   have hb0:=HBW3.out 0 wc4 (Nat.zero_le _) (Below.refl _ _)
   refine ⟨hb0.os.trans (HK4.out.os.trans (HKT.out.os.trans HKW.out.os)),hb0.tape.trans (HK4.out.tape.trans (HKT.out.tape.trans HKW.out.tape)),hb0.output.trans (HK4.out.output.trans (HKT.out.output.trans HKW.out.output)),by rw [HS3.out];omega,fun k hk hn=>?_⟩
   rw [HO3.out k (by omega),HK4.out.block k (by omega) (fun hf=>?_),HKT.out.block k (by omega) (fun h1=>?_),HKW.out.block k hk fun hf=>hn (HG.out.1 k hf)]
   ·rcases (HG1.out k h1).1 with h2 | h2
    ·exact hn h2
    omega
   rcases HGG2.out.1 k hf with h1 | h1
   ·rcases (HG1.out k h1).1 with h2 | h2
    ·exact hn h2
    omega
   omega
  have hH3:HeapR (fun b=>(F2 b∨w2.heap.size≤b)∧b < wc4.heap.size) W3 B2 room (putHO room H2 t).2.2:=HH4.out.to (by rw [HS3.out];exact Nat.le_refl _) (fun _ h=>h) fun b hb _=>HO3.out b fun e=>by
   subst e
   rcases hb.1 with h1 | h1
   ·exact HNF.out.2.2 h1
   ·have:=HX4t.out.lt;omega
  have hup:∀ b,(G1 b∨wc.heap.size≤b)→G b∨w.heap.size≤b:=fun b h=>h.elim (fun h=>(HG1.out b h).1) fun h=>.inr (by omega)
  have hGt:(∀ b,((F2 b∨w2.heap.size≤b)∧b < wc4.heap.size)→G b∨w.heap.size≤b)∧(G pb∨w.heap.size≤pb)∧∀ b,v2.ownBlock=some b→G b∨w.heap.size≤b:=⟨fun b hb=>hb.1.elim (fun h=>hup b (HGG2.out.1 b h)) fun h=>.inr (by omega),.inl HG.out.2.1,fun b hb=>hup b (HGG2.out.2.2 b hb)⟩
  have hc3:∀ b,b < w2.heap.size→¬F2 b→b≠g4→W3.heap[b]?=w2.heap[b]?:=fun b hb hn h4=>(HO3.out b h4).trans (HK4.out.block b hb hn)
  have h24:pb≠g4∧∀ b,v2.ownBlock=some b→b≠g4:=⟨by have:=HVO.out.blk.lt;omega,fun b hb e=>by
   subst e
   rcases HGG2.out.2.2 _ hb with h | h
   ·exact (HG1.out _ h).2.2.2 rfl
   ·omega⟩
  have hV3:∀ (H3:HS) (Z:TW),HeapR (fun b=>(F2 b∨w2.heap.size≤b)∧b < wc4.heap.size) W3 B2 room H3→PH room H3 (L2 ++ Z)→PrV (fun b=>(F2 b∨w2.heap.size≤b)∧b < wc4.heap.size) W3 pb name room L2 Z B2 H3 v2:=fun H3 Z hh hp =>
   ⟨HV2.out.blk.heap (hc3 pb HV2.out.blk.lt HV2.out.fp h24.1),hh,HV2.out.ow.to (by rw [HS3.out];omega) fun b hb=>hc3 b (HV2.out.ow.block b hb).2 (HV2.out.fv b hb).1 (h24.2 b hb),hp,fun hf=>hf.1.elim HV2.out.fp fun h=>by have:=HV2.out.blk.lt;omega,fun b hb=>by rw [HS3.out];exact hb.2,fun b hb=>⟨fun hf=>hf.1.elim (HV2.out.fv b hb).1 fun h=>by have:=(HV2.out.ow.block b hb).2;omega,(HV2.out.fv b hb).2⟩⟩
  refine bodyPost_ret (yH Tryz.results31 szWord _ Tryz.underlying68 rfl rfl HF3.out rfl) rfl ⟨hkeep,(putHO room H2 t).1,L2,(putHO room H2 t).2.2.ws.length,?_,HEL.out,fun hz=>?_,fun hz=>?_⟩
  ·show Ending.returned (.tuple #[_,.int .i64 (putHO room H2 t).2.1])=_
   rw [hE.1]
  ·exact ⟨_,B2,_,v2,hV3 _ _ hH3 (hE.2.1 hz).1,by have:=(hE.2.1 hz).2;omega,rfl,hGt⟩
  rw [hE.2.2 hz] at hH3 ⊢
  exact ⟨_,B2,_,v2,hV3 _ _ hH3 (by rw [List.append_nil];exact HPH2.out),by omega,rfl,hGt⟩
 have hne6:(putHO room H t).2.1≠6:=by
  rcases hrest with h | h
  ·exact h.2.2.1
  rw [h.1];decide
 have qe:((putHO room H t).2.1 == 6)=false:=by simpa using hne6
 have HRS:=J hrest
 clear hrest hne6
 go_wp2_with (first | (refine yI 68 2 szWord _ _ rfl rfl rfl rfl rfl HX4w.out rfl rfl rfl ?_;intro W3 hF3 hs3 hBW3 hoth3;have HF3:=J hF3;have HBW3:=J hBW3;have HO3:=J hoth3;have HS3:=J hs3;clear hF3 hs3 hBW3 hoth3))
 have hsz:=HKW.out.size
 have hkeep:Keep G w W3:=by
  have hb0:=HBW3.out 0 wc (Nat.zero_le _) (Below.refl _ _)
  exact ⟨hb0.os.trans HKW.out.os,hb0.tape.trans HKW.out.tape,hb0.output.trans HKW.out.output,by rw [HS3.out];exact hsz,fun k hk hn=>(HO3.out k (by have:=HG3.out;omega)).trans (HKW.out.block k hk fun hf=>hn (HG.out.1 k hf))⟩
 have hH3:HeapR F1 W3 B room (putHO room H t).2.2:=HH1.out.to (by rw [HS3.out];exact Nat.le_refl _) (fun _ h=>h) fun b hb _=>HO3.out b fun e=>by
  subst e
  rcases (HF1.out _ hb).1 with h1 | h1
  ·have:=HVO.out.fl _ h1;have:=HG3.out;omega
  ·have:=HG3.out;omega
 have hF3:∀ b,F1 b→(F b∨w.heap.size≤b)∧b < W3.heap.size:=fun b hb=>⟨(HF1.out b hb).1.imp id fun h=>by have:=HG3.out;omega,by rw [HS3.out];exact (HF1.out b hb).2.2⟩
 have hGt:(∀ b,F1 b→G b∨w.heap.size≤b)∧(G pb∨w.heap.size≤pb)∧∀ b,vw.ownBlock=some b→G b∨w.heap.size≤b:=⟨fun b hb=>(hF3 b hb).1.imp (HG.out.1 b) id,.inl HG.out.2.1,fun b hb=>.inl (HG.out.2.2 b hb)⟩
 have hc3:∀ b,b < w.heap.size→¬F b→W3.heap[b]?=w.heap[b]?:=fun b hb hn=>(HO3.out b (by have:=HG3.out;omega)).trans (HKW.out.block b hb hn)
 refine bodyPost_ret (yH Tryz.results31 szWord _ Tryz.underlying68 rfl rfl HF3.out rfl) rfl ⟨hkeep,(putHO room H t).1,L,(putHO room H t).2.2.ws.length,?_,rfl,fun hz=>?_,fun hz=>?_⟩
 ·rcases HRS.out with h | h
  ·show Ending.returned (.tuple #[_,.int .i64 (putHO room H t).2.1])=_;rw [h.1]
  show Ending.returned (.tuple #[_,.int .i64 (putHO room H t).2.1])=_;rw [h.1,h.2.1]
 ·rcases HRS.out with h | h
  ·exact absurd (h.1.trans hz) h.2.1
  exact ⟨F1,B,_,vw,HVO.out.after (by rw [HS3.out];exact hsz) hc3 hH3 hF3 h.2.2.1 rfl,by have:=h.2.2.2;omega,rfl,hGt⟩
 rcases HRS.out with h | h
 ·rw [h.2.2.2] at hH3 ⊢
  exact ⟨F1,B,_,vw,HVO.out.after (by rw [HS3.out];exact hsz) hc3 hH3 hF3 (by rw [List.append_nil];exact HPH.out) rfl,hnb,rfl,hGt⟩
 exact absurd h.2.1 hz
def delE (room:Int) (us:List T) (t:T):Int:=if 20 < us.length then 2 else pputE room us t
def DelP (G:Nat→Prop) (w:World) (pb:Nat) (name:ByteArray) (room:Int) (nb:Nat) (us:List T) (t:T) (e:Ending) (w':World):Prop :=
 e=.returned (.int .i64 (delE room us t))∧Keep G w w'∧∃ (L':TW) (u':Nat),yQ L'=(if delE room us t=0 then us ++ [t] else us)∧PrR (fun b=>G b∨w.heap.size≤b) w' pb name room (nb+yC [t]) u' L' []
theorem pdel_c (G:Nat→Prop) (w:World) (pb:Nat) (name:ByteArray) (room:Int) (nb u:Nat) (L:TW) (t:T) (S:Nat→Prop) (v:Value) (h:PrR G w pb name room nb u L []) (hv:RT S w t v) (hS:∀ b,S b→b < w.heap.size∧¬G b) (hbt:yC [t]≤4294967296) (hl:L.length≤900) (hr:room≤1000) (hn:nb≤4294967296) :
  Calls Tryz.prog 7 #[.pointer (some ⟨pb,0,none⟩),v] w (DelP G w pb name room nb (yQ L) t):=by
 obtain ⟨a,cap,rfl,hcap,hrt⟩:=hv
 obtain ⟨W0,hW0⟩:=I (w.alloc (.cells #[.int .i64 t.kind,.int .i64 t.n,.string t.name,.slice a t.args.length cap] 25))
 obtain ⟨g3,hg3⟩:=I (w.heap.size)
 have HB0:Hid (Below w.heap.size w W0):=J (by rw [hW0];exact yA _ _)
 have HX3:Hid (Blk W0 g3 [.int .i64 t.kind,.int .i64 t.n,.string t.name,.slice a t.args.length cap]):=J (by rw [hW0,hg3];exact Blk.new _ _ _ _ rfl)
 have hs0:W0.heap.size=w.heap.size+1:=by rw [hW0];simp
 have HH0:=J (h.below HB0.out);have HHW:=J h
 have HT0:Hid (RT S W0 t (.agg #[.int .i64 t.kind,.int .i64 t.n,.string t.name,.slice a t.args.length cap])):=J (RT.below ⟨a,cap,rfl,hcap,hrt⟩ HB0.out)
 have HS0:Hid (∀ b,S b→b < W0.heap.size∧¬G b):=J fun b hb=>⟨by have:=(hS b hb).1;omega,(hS b hb).2⟩
 have HG:Hid ((∃ F:Nat→Prop,∀ b,F b→G b)∧G pb∧pb < w.heap.size):=J (by
  obtain ⟨F,B,H,v,hV,-,-,h1,h2,h3⟩:=h
  exact ⟨⟨F,h1⟩,h2,hV.blk.lt⟩)
 obtain ⟨F0,B0,H0,v0,hV0,-⟩:=HH0.out
 obtain ⟨a0,c0,e0,-⟩:=hV0.rx.form
 rw [wdsL_len] at e0
 subst e0
 have HVV:=J hV0
 have z2:=hV0.blk.cell 2 _ rfl
 obtain ⟨x0,x1,x2,x3⟩:=HX3.out.c4 0 1 2 3
 have HG3:Hid (g3=w.heap.size):=J hg3
 clear h hcap hrt hS hV0
 go_enter Tryz.func7,Tryz.ntmps7
 go_upto_region 1 with fail
 rw [←hW0,←hg3]
 clear hW0 hg3
 by_cases h20:20 < L.length
 ·have q20:(20:Int) < (L.length:Int):=by omega
  have hde:delE room (yQ L) t=2:=by unfold delE;rw [if_pos (by rw [tmsL_len];exact h20)]
  have HD:=J hde
  clear hde
  go_wp2_with fail
  go_ret
  rw [DelP,HD.out]
  exact ⟨rfl,Keep.of HB0.out,L,u,by rw [if_neg (by decide)],((HHW.out.below HB0.out).mono fun b hb _=>.inl hb).names (by omega)⟩
 have q20:¬(20:Int) < (L.length:Int):=by omega
 have HDE:Hid (delE room (yQ L) t=pputE room (yQ L) t):=J (by unfold delE;rw [if_neg (by rw [tmsL_len];exact h20)])
 go_wp2_with fail
 refine (pput_c G W0 pb name room nb u L t S _ HH0.out HT0.out HS0.out hbt (by omega) hr hn).mono ?_
 rintro e w1 ⟨hK,y,L1,u1,rfl,eL,h0,h1⟩
 have HK0:=J hK;have HEL:=J eL;have H0':=J h0;have H1':=J h1
 have hs1:=hK.size
 clear hK eL h0 h1 x0 x1 x2 x3 z2
 go_upto_region 4 with fail
 obtain ⟨W5,hW5⟩:=I (w1.alloc (.cells #[.int .i64 y.kind,.int .i64 y.n] 68))
 obtain ⟨g5,hg5⟩:=I (w1.heap.size)
 have HB5:Hid (Below w1.heap.size w1 W5):=J (by rw [hW5];exact yA _ _)
 have HX5:Hid (Blk W5 g5 [.int .i64 y.kind,.int .i64 y.n]):=J (by rw [hW5];exact Blk.new _ _ _ _ hg5)
 have HG5:Hid (g5=w1.heap.size):=J hg5
 have HK5:Hid (Keep G w W5):=J (((Keep.of HB0.out).trans HK0.out).then HB5.out)
 rw [←hW5,←hg5]
 clear hW5 hg5
 by_cases hz:pputE room (yQ L) t=0
 ·have qz:(pputE room (yQ L) t != 0)=false:=by simp [hz]
  have hde:delE room (yQ L) t=0:=HDE.out.trans hz
  have HDZ:=J hde
  obtain ⟨F1,B1,H1,v1,hV1,hn1,hu1,hG1⟩:=H0'.out hz
  have hV5:=hV1.below HB5.out
  obtain ⟨a1,c1,e1,-⟩:=hV5.rx.form
  rw [wdsL_len] at e1
  subst e1
  have HV5:=J hV5;have HN1:=J hn1;have HU1:=J hu1
  have HGO:Hid ((∀ b,F1 b→G b∨w.heap.size≤b)∧(G pb∨w.heap.size≤pb)∧∀ b,(Value.slice a1 L1.length c1).ownBlock=some b→G b∨w.heap.size≤b):=J ⟨fun b hb=>(hG1.1 b hb).imp id fun h=>by omega,.inl HG.out.2.1,fun b hb=>(hG1.2.2 b hb).imp id fun h=>by omega⟩
  have HN5:Hid (∀ b,(Value.slice a1 L1.length c1).ownBlock=some b→b≠g5):=J fun b hb e=>by have:=(hV1.ow.block b hb).2;have:=HG5.out;omega
  have hL1:L1.length≤900:=by have h:=congrArg List.length HEL.out;rw [tmsL_len,tmsL_len] at h;omega
  clear hV1 hV5 hn1 hu1 hG1 hz hde
  go_upto_region 6 with fail
  refine yK (fun w'=>w'.cell? ⟨g5,0,none⟩=some (.int .i64 y.kind)∧w'.cell? ⟨g5,1,none⟩=some (.int .i64 y.n)) (by as_aux_lemma=>kernel_rfl) (fun Wd h=>⟨(HX5.out.step h).cell 0 _ rfl,(HX5.out.step h).cell 1 _ rfl⟩) ?_
  intro Wd hB hWd hWd' hHeld
  have HVd:=J (HV5.out.below hB)
  have HX5d:=J (HX5.out.step hB)
  have HK1:=J (HK5.out.then hB)
  have bWd:=HVd.out.blk.cell 2 _ rfl
  have hBd:=HVd.out.blk.lt
  clear hB
  refine rgT 0 _ hHeld ?_
  refine rgT 1 _ hHeld ?_
  refine rgT 2 _ hHeld ?_
  refine rgT 3 _ hHeld ?_
  refine rgT 5 _ hHeld ?_
  refine rgW 4 6 (fun K hK=>?_) fun K hK=>?_
  ·skip
   go_simp
   skip
   refine hK.out _ _ (hHeld) fun _=>?_
   clear hK K hHeld;rename_i hHeld;try simp only [Act.put,pA,pB,pC]
   refine rgO 6 fun K hK=>?_
   refine buildW1 _ rfl (by rfl) ?_
   have b9:(Wd.alloc (.cells #[.int .i64 y.kind,.int .i64 y.n] 68)).cell? ⟨pb,2,none⟩=some (.slice a1 L1.length c1):=((yA Wd _).cell (p:=⟨pb,2,none⟩) hBd).trans bWd
   refine hK.out _ _ (⟨(HX5d.out.alloc _).cell 0 _ rfl,(HX5d.out.alloc _).cell 1 _ rfl⟩) fun _=>?_
   clear hK K hHeld;rename_i hHeld;try simp only [Act.put,pA,pB,pC]
   refine rgO 7 fun K hK=>?_
   refine wp_growW (v:=.slice a1 L1.length c1) (y:=y) (g0:=Wd.heap.size) _ _ rfl rfl (by rfl) (by rfl) rfl HVd.out.ow (wdsL_len _) (by omega) ?_
   intro gg cg w3 hO3 hB3 hG3 hP3
   have hl3:=hB3.size
   have hgb:=(hG3.block pb (by simp;omega) (fun he=>(HVd.out.fv pb he.symm).2 rfl)).trans (Below.heap_alloc Wd _ _ hBd)
   have hg5:=(hG3.block g5 (by simp;have:=HX5d.out.lt;omega) (fun he=>HN5.out g5 he.symm rfl)).trans (Below.heap_alloc Wd _ _ HX5d.out.lt)
   have b3:=(World.cell?_of_block (w:=Wd) (a:=⟨pb,2,none⟩) hgb).trans bWd
   have bf3:=fun o=>(World.frozen?_of_block (w:=Wd) (a:=⟨pb,o,none⟩) hgb).trans (HVd.out.blk.fr o)
   have HX53:Hid (Blk w3 g5 [.int .i64 y.kind,.int .i64 y.n]):=J (HX5d.out.heap hg5)
   have HO3:=J hO3;have HB3:=J hB3;have HG3:=J hG3;have HP3:=J hP3
   clear hO3 hB3 hG3 hP3 hgb hg5
   refine hK.out _ _ (⟨HX53.out.cell 0 _ rfl,HX53.out.cell 1 _ rfl⟩) fun _=>?_
   clear hK K hHeld;rename_i hHeld;try simp only [Act.put,pA,pB,pC]
   refine rgT 8 _ hHeld ?_
   refine rgT 9 _ hHeld ?_
   refine rgO 10 fun K hK=>?_
   go_simp
   skip
   refine hK.out _ _ (⟨(HX53.out.heap (yD w3 pb 2 _ g5 (by have:=HG5.out;have:=HG.out.2.2;omega))).cell 0 _ rfl,(HX53.out.heap (yD w3 pb 2 _ g5 (by have:=HG5.out;have:=HG.out.2.2;omega))).cell 1 _ rfl⟩) fun _=>?_
   clear hK K hHeld;rename_i hHeld;try simp only [Act.put,pA,pB,pC]
   refine rgD ?_
   clear hHeld
   go_wp2_with fail
   go_ret
   have hkp:Keep G w (w3.setCell ⟨pb,2,none⟩ (.slice (some ⟨gg,0,none⟩) (L1.length+1) cg)):=by
    refine Keep.setCell ?_ _ (.inl HG.out.2.1)
    have k1:Keep G w Wd:=HK1.out
    have k2:=keep_grown (F:=fun b=>G b∨w.heap.size≤b) HB3.out HG3.out fun b hb=>HGO.out.2.2 b hb
    exact ⟨k2.os.trans k1.os,k2.tape.trans k1.tape,k2.output.trans k1.output,by have:=k1.size;have:=k2.size;omega,fun k hk hn=>(k2.block k (by have:=k1.size;omega) fun h=>h.elim hn (by omega)).trans (k1.block k hk hn)⟩
   refine ⟨by rw [HDZ.out];rfl,hkp,L1 ++ [(t,y)],u1,?_,F1,B1,H1,.slice (some ⟨gg,0,none⟩) (L1.length+1) cg,?_,HN1.out,HU1.out,HGO.out.1,HGO.out.2.1,fun b hb=>?_⟩
   ·rw [if_pos HDZ.out]
    rw [show yQ (L1 ++ [(t,y)])=yQ L1 ++ [t] by simp [yQ],HEL.out]
   ·refine HVd.out.words' HB3.out.size (fun b hb hn=>(HG3.out.block b (by simp;omega) (fun e=>hn e.symm)).trans (Below.heap_alloc Wd _ _ hb)) (by have h:=HO3.out;rw [show wdsL (L1 ++ [(t,y)])=wdsL L1 ++ [y] by simp [wdsL]];exact h) (fun b hb=>?_) (by rw [List.append_nil];exact HVd.out.ph)
    obtain rfl:gg=b:=by simpa [Value.ownBlock] using hb
    exact HP3.out.imp id (by omega)
   obtain rfl:gg=b:=by simpa [Value.ownBlock] using hb
   exact HP3.out.elim (fun h=>HGO.out.2.2 _ h) fun h=>.inr (by have:=HK1.out.size;omega)
  skip
  refine buildW1 _ rfl (by rfl) ?_
  have b9:(Wd.alloc (.cells #[.int .i64 y.kind,.int .i64 y.n] 68)).cell? ⟨pb,2,none⟩=some (.slice a1 L1.length c1):=((yA Wd _).cell (p:=⟨pb,2,none⟩) hBd).trans bWd
  refine hK.out _ _ (⟨(HX5d.out.alloc _).cell 0 _ rfl,(HX5d.out.alloc _).cell 1 _ rfl⟩) fun _=>?_
  clear hK K hHeld;rename_i hHeld;try simp only [Act.put,pA,pB,pC]
  refine rgO 4 fun K hK=>?_
  go_simp
  skip
  refine hK.out _ _ (hHeld) fun _=>?_
  clear hK K hHeld;rename_i hHeld;try simp only [Act.put,pA,pB,pC]
  refine rgO 7 fun K hK=>?_
  refine wp_growW (v:=.slice a1 L1.length c1) (y:=y) (g0:=Wd.heap.size) _ _ rfl rfl (by rfl) (by rfl) rfl HVd.out.ow (wdsL_len _) (by omega) ?_
  intro gg cg w3 hO3 hB3 hG3 hP3
  have hl3:=hB3.size
  have hgb:=(hG3.block pb (by simp;omega) (fun he=>(HVd.out.fv pb he.symm).2 rfl)).trans (Below.heap_alloc Wd _ _ hBd)
  have hg5:=(hG3.block g5 (by simp;have:=HX5d.out.lt;omega) (fun he=>HN5.out g5 he.symm rfl)).trans (Below.heap_alloc Wd _ _ HX5d.out.lt)
  have b3:=(World.cell?_of_block (w:=Wd) (a:=⟨pb,2,none⟩) hgb).trans bWd
  have bf3:=fun o=>(World.frozen?_of_block (w:=Wd) (a:=⟨pb,o,none⟩) hgb).trans (HVd.out.blk.fr o)
  have HX53:Hid (Blk w3 g5 [.int .i64 y.kind,.int .i64 y.n]):=J (HX5d.out.heap hg5)
  have HO3:=J hO3;have HB3:=J hB3;have HG3:=J hG3;have HP3:=J hP3
  clear hO3 hB3 hG3 hP3 hgb hg5
  refine hK.out _ _ (⟨HX53.out.cell 0 _ rfl,HX53.out.cell 1 _ rfl⟩) fun _=>?_
  clear hK K hHeld;rename_i hHeld;try simp only [Act.put,pA,pB,pC]
  refine rgT 8 _ hHeld ?_
  refine rgT 9 _ hHeld ?_
  refine rgO 10 fun K hK=>?_
  go_simp
  skip
  refine hK.out _ _ (⟨(HX53.out.heap (yD w3 pb 2 _ g5 (by have:=HG5.out;have:=HG.out.2.2;omega))).cell 0 _ rfl,(HX53.out.heap (yD w3 pb 2 _ g5 (by have:=HG5.out;have:=HG.out.2.2;omega))).cell 1 _ rfl⟩) fun _=>?_
  clear hK K hHeld;rename_i hHeld;try simp only [Act.put,pA,pB,pC]
  refine rgD ?_
  clear hHeld
  go_wp2_with fail
  go_ret
  have hkp:Keep G w (w3.setCell ⟨pb,2,none⟩ (.slice (some ⟨gg,0,none⟩) (L1.length+1) cg)):=by
   refine Keep.setCell ?_ _ (.inl HG.out.2.1)
   have k1:Keep G w Wd:=HK1.out
   have k2:=keep_grown (F:=fun b=>G b∨w.heap.size≤b) HB3.out HG3.out fun b hb=>HGO.out.2.2 b hb
   exact ⟨k2.os.trans k1.os,k2.tape.trans k1.tape,k2.output.trans k1.output,by have:=k1.size;have:=k2.size;omega,fun k hk hn=>(k2.block k (by have:=k1.size;omega) fun h=>h.elim hn (by omega)).trans (k1.block k hk hn)⟩
  refine ⟨by rw [HDZ.out];rfl,hkp,L1 ++ [(t,y)],u1,?_,F1,B1,H1,.slice (some ⟨gg,0,none⟩) (L1.length+1) cg,?_,HN1.out,HU1.out,HGO.out.1,HGO.out.2.1,fun b hb=>?_⟩
  ·rw [if_pos HDZ.out]
   rw [show yQ (L1 ++ [(t,y)])=yQ L1 ++ [t] by simp [yQ],HEL.out]
  ·refine HVd.out.words' HB3.out.size (fun b hb hn=>(HG3.out.block b (by simp;omega) (fun e=>hn e.symm)).trans (Below.heap_alloc Wd _ _ hb)) (by have h:=HO3.out;rw [show wdsL (L1 ++ [(t,y)])=wdsL L1 ++ [y] by simp [wdsL]];exact h) (fun b hb=>?_) (by rw [List.append_nil];exact HVd.out.ph)
   obtain rfl:gg=b:=by simpa [Value.ownBlock] using hb
   exact HP3.out.imp id (by omega)
  obtain rfl:gg=b:=by simpa [Value.ownBlock] using hb
  exact HP3.out.elim (fun h=>HGO.out.2.2 _ h) fun h=>.inr (by have:=HK1.out.size;omega)
 have qz:(pputE room (yQ L) t != 0)=true:=by simpa using hz
 have hde:delE room (yQ L) t≠0:=by rw [HDE.out];exact hz
 have HZ:=J hz;have HDZ:=J hde
 clear hz hde
 go_wp2_with fail
 go_ret
 exact ⟨by rw [HDE.out];rfl,HK5.out,L1,u1,by rw [if_neg HDZ.out];exact HEL.out,(((H1'.out HZ.out).below HB5.out).mono fun b hb _=>hb.imp id fun h=>by omega).names (by omega)⟩
def newE (name:ByteArray) (room:Int) (t:T):Int:=if nameB name=false then 5 else if room < 0∨1000 < room then 1 else pputE room [] t
theorem OwnW.one (w:World) (y:Wrd):OwnW (w.alloc (.cells #[.int .i64 y.kind,.int .i64 y.n] 68)) (.slice (some ⟨w.heap.size,0,none⟩) 1 1) [y]:=by
 refine ⟨[.int .i64 y.kind,.int .i64 y.n],⟨by simp [wrdE],.inr ⟨w.heap.size,1,#[.int .i64 y.kind,.int .i64 y.n],rfl,Nat.zero_le _,heap_alloc_new _ _,by simp,by decide,by simp [wrdE],by simp [wrdE]⟩⟩,⟨[.int .i64 y.kind,.int .i64 y.n],[],rfl,rfl,rfl⟩⟩
def NewP (w:World) (name:ByteArray) (room:Int) (t:T) (e:Ending) (w':World):Prop :=
 Below w.heap.size w w'∧((newE name room t≠0∧e=.returned (.tuple #[.pointer none,.int .i64 (newE name room t)])) ∨
  (newE name room t=0∧∃ pb y,e=.returned (.tuple #[.pointer (some ⟨pb,0,none⟩),.int .i64 0])∧PrR (fun b=>w.heap.size≤b) w' pb name room (yC [t]) (szL [t]) [(t,y)] []))
theorem pnew_c (name:ByteArray) (room:Int) (t:T) (S:Nat→Prop) (w:World) (v:Value) (hv:RT S w t v) (hS:∀ b,S b→b < w.heap.size) (hb:yC [t]≤4294967296) (hs:name.size≤1099511627776) :
  Calls Tryz.prog 4 #[.string name,v,.int .i64 room] w (NewP w name room t):=by
 obtain ⟨a,cap,rfl,hcap,hrt⟩:=hv
 obtain ⟨W0,hW0⟩:=I (w.alloc (.cells #[.int .i64 t.kind,.int .i64 t.n,.string t.name,.slice a t.args.length cap] 25))
 obtain ⟨g4,hg4⟩:=I (w.heap.size)
 have HB0:Hid (Below w.heap.size w W0):=J (by rw [hW0];exact yA _ _)
 have HX4:Hid (Blk W0 g4 [.int .i64 t.kind,.int .i64 t.n,.string t.name,.slice a t.args.length cap]):=J (by rw [hW0];exact Blk.new _ _ _ _ hg4)
 have hs0:w.heap.size < W0.heap.size:=by rw [hW0];simp
 have HT0:Hid (RT S W0 t (.agg #[.int .i64 t.kind,.int .i64 t.n,.string t.name,.slice a t.args.length cap])):=J (RT.below ⟨a,cap,rfl,hcap,hrt⟩ HB0.out)
 have HSS:=J hS
 clear hcap hrt hS
 go_enter Tryz.func4,Tryz.ntmps4
 go_upto_region 1 with fail
 rw [←hW0,←hg4]
 clear hW0 hg4
 go_wp2_with fail
 refine (name_c name W0 hs).mono ?_
 rintro e wn ⟨rfl,rfl⟩
 by_cases hn:nameB name=false
 ·have HE:Hid (newE name room t=5):=J (by unfold newE;rw [if_pos hn])
  rw [hn]
  clear hn
  go_wp2_with fail
  go_ret2
  exact ⟨HB0.out,.inl ⟨by rw [HE.out];decide,by rw [HE.out];rfl⟩⟩
 have hn':nameB name=true:=by simpa using hn
 rw [hn']
 by_cases hr:room < 0∨1000 < room
 ·have HE:Hid (newE name room t=1):=J (by unfold newE;rw [if_neg hn,if_pos hr])
  clear hn hn'
  go_wp2_with fail
  refine (hnew_bad room W0 hr).mono ?_
  rintro e w1 ⟨rfl,rfl⟩
  go_wp2_with fail
  go_ret2
  exact ⟨HB0.out,.inl ⟨by rw [HE.out];decide,by rw [HE.out];rfl⟩⟩
 have HE:Hid (newE name room t=pputE room [] t):=J (by unfold newE;rw [if_neg hn,if_neg hr])
 have h0:0≤room:=by omega
 have h1:room≤1000:=by omega
 clear hn hn' hr
 go_wp2_with fail
 refine (hnew_ok room W0 h0 h1).mono ?_
 rintro e w1 ⟨rfl,hB1,hR1,hz1⟩
 obtain ⟨B,hBe⟩:∃ B,B=W0.heap.size:=⟨_,rfl⟩
 rw [←hBe] at hR1 hz1
 have HB1:=J hB1;have HR1:=J hR1
 have HBE:Hid (B=W0.heap.size∧w1.heap.size=W0.heap.size+1):=J ⟨hBe,by omega⟩
 rw [←hBe]
 have HX41:=J (HX4.out.step hB1)
 have HT1:=J (HT0.out.below hB1)
 clear hB1 hR1 hz1 hBe
 obtain ⟨x0,x1,x2,x3⟩:=HX41.out.c4 0 1 2 3
 go_wp2_with fail
 refine (hPut_c t (fun b=>b=B) S w1 B room ⟨[],[]⟩ _ HR1.out HT1.out (fun b hb=>by have:=HSS.out b hb;have:=HBE.out;omega) (by omega) (by simp) (by simp)).mono ?_
 rintro e w2 ⟨rfl,hK,hH⟩
 have hP:=(PH.new h0).putHO t
 obtain ⟨K,hKe⟩:∃ K,K=putHO room ⟨[],[]⟩ t:=⟨_,rfl⟩
 rw [←hKe] at hH hP
 rw [←hKe]
 have HB2:Hid (Below w.heap.size w w2):=J (HB0.out.trans ((HB1.out.trans (hK.below (B:=W0.heap.size) (by have:=HBE.out;omega) fun b hb=>by have:=HBE.out;omega)).mono (by omega)))
 have HH2:=J hH;have HP2:=J hP;have HK2:=J hK
 have HKE:=J hKe
 clear hK hH hP hKe x0 x1 x2 x3
 go_upto_region 7 with fail
 obtain ⟨W8,hW8⟩:=I (w2.alloc (.cells #[.int .i64 K.1.kind,.int .i64 K.1.n] 68))
 obtain ⟨g10,hg10⟩:=I (w2.heap.size)
 have HB8:Hid (Below w2.heap.size w2 W8):=J (by rw [hW8];exact yA _ _)
 have HX10:Hid (Blk W8 g10 [.int .i64 K.1.kind,.int .i64 K.1.n]):=J (by rw [hW8];exact Blk.new _ _ _ _ hg10)
 rw [←hW8,←hg10]
 clear hW8 hg10
 have HBW:Hid (Below w.heap.size w W8):=J (HB2.out.trans (HB8.out.mono HB2.out.size))
 by_cases hz:K.2.1=0
 ·have qz:(K.2.1 != 0)=false:=by simp [hz]
  have hok:newE name room t=0∧PH room K.2.2 [(t,K.1)]∧K.2.2.names.length≤yC [t]:=by
   rw [HE.out]
   rcases HP2.out with ⟨f1,-⟩ | ⟨-,f2,-⟩ | ⟨-,f2,f3,f4⟩
   ·rw [f1] at hz;exact absurd hz (by decide)
   ·exact absurd hz f2
   exact ⟨f2,f3,by simpa using f4⟩
  have HOK:=J hok
  have HZ:=J hz
  obtain ⟨x0,x1⟩:=HX10.out.c2 0 1
  clear hz hok
  go_wp2_with fail
  have hw0:=HBW.out.size
  have hw1:=HBE.out
  have hw2:=HK2.out.size
  have hw8:=HB8.out.size
  have hB:B < w2.heap.size:=by omega
  obtain ⟨W9,hW9⟩:=I ((W8.alloc (.cells #[.int .i64 K.1.kind,.int .i64 K.1.n] 68)).alloc (.cells #[.string name,.pointer (some ⟨B,0,none⟩),.slice (some ⟨W8.heap.size,0,none⟩) 1 1] 73))
  have hs9:W9.heap.size=W8.heap.size+2:=by rw [hW9];simp
  have hb9:Below W8.heap.size W8 W9:=by rw [hW9];exact (yA _ _).trans ((yA _ _).mono (by simp))
  have hX9:Blk W9 (W8.heap.size+1) [.string name,.pointer (some ⟨B,0,none⟩),.slice (some ⟨W8.heap.size,0,none⟩) 1 1]:=by rw [hW9];exact Blk.new _ _ _ _ (by simp)
  have hO9:OwnW W9 (.slice (some ⟨W8.heap.size,0,none⟩) 1 1) [K.1]:=by
   rw [hW9]
   exact (OwnW.one W8 K.1).to (by simp) fun b hb=>by
    obtain rfl:W8.heap.size=b:=by simpa [Value.ownBlock] using hb
    exact Below.heap_alloc _ _ _ (by simp)
  have hus:K.2.2.ws.length=szL [t]:=by
   have h:=HKE.out
   obtain ⟨h1,h2⟩:=putE_yes (t:=t) (by
    have:=HOK.out.1
    rw [HE.out] at this
    unfold pputE at this
    by_cases hp:putE t≠0
    ·rw [if_pos hp] at this;exact absurd this hp
    ·simpa using hp)
   by_cases h3:room < ((⟨[],[]⟩:HS).ws.length:Int)+szL [t]
   ·rw [putHO_full h1 h2 h3] at h
    have:=HZ.out
    rw [h] at this
    exact absurd this (by decide)
   rw [putHO_ok h1 h2 h3] at h
   rw [h]
   have:=(putW_len ⟨[],[]⟩ t).1
   simpa using this
  rw [←hW9]
  go_ret2
  refine ⟨HBW.out.trans (hb9.mono hw0),.inr ⟨HOK.out.1,W8.heap.size+1,K.1,by rw [HZ.out];rfl,fun b=>(b=B∨w1.heap.size≤b)∧b < w2.heap.size,B,K.2.2,.slice (some ⟨W8.heap.size,0,none⟩) 1 1,⟨hX9,(HH2.out.low.below HB8.out).below hb9,hO9,HOK.out.2.1,fun hf=>by omega,fun b hb=>by omega,fun b hb=>?_⟩,HOK.out.2.2,hus,fun b hb=>?_,?_,fun b hb=>?_⟩⟩
  ·obtain rfl:W8.heap.size=b:=by simpa [Value.ownBlock] using hb
   exact ⟨fun hf=>by omega,by omega⟩
  ·show w.heap.size≤b
   omega
  ·show w.heap.size≤_
   omega
  obtain rfl:W8.heap.size=b:=by simpa [Value.ownBlock] using hb
  exact hw0
 have qz:(K.2.1 != 0)=true:=by simpa using hz
 have hbad:newE name room t=K.2.1:=by
  rw [HE.out]
  rcases HP2.out with ⟨f1,f2,f3,f4⟩ | ⟨f1,-⟩ | ⟨f1,-⟩
  ·rw [f1];unfold pputE;rw [if_neg (by simp [f3]),if_pos (by simpa [szL] using f4)]
  ·exact f1.symm
  exact absurd f1 hz
 have HZ:=J hz;have HBD:=J hbad
 clear hz hbad
 go_wp2_with fail
 go_ret2
 exact ⟨HBW.out,.inl ⟨by rw [HBD.out];exact HZ.out,by rw [HBD.out];rfl⟩⟩
/-! ### Cells of words -/
def wcs (l:List Wrd):List Value:=l.flatMap fun x=>[.int .i64 x.kind,.int .i64 x.n]
theorem cells_wrdE {S:Nat→Prop} {w:World}:∀ {l:List Wrd} {cs:List Value},CellsX wrdE S w l cs↔cs=wcs l
 | [],cs=>Iff.rfl
 | x :: l,cs=>by
  constructor
  ·rintro ⟨c,cs',rfl,rfl,h⟩
   rw [cells_wrdE.1 h];rfl
  ·rintro rfl
   exact ⟨[.int .i64 x.kind,.int .i64 x.n],wcs l,rfl,rfl,cells_wrdE.2 rfl⟩
theorem wcs_len:∀ l:List Wrd,(wcs l).length=l.length * 2
 | []=>rfl
 | x :: l=>by
  have:=wcs_len l
  show (([.int .i64 x.kind,.int .i64 x.n]:List Value) ++ wcs l).length=_
  rw [List.length_append,this,List.length_cons];simp;omega
theorem wcs_get:∀ (l:List Wrd) (j:Nat),(wcs l)[j]?=(l[j / 2]?).map fun x=>if j % 2=0 then Value.int .i64 x.kind else Value.int .i64 x.n
 | [],j=>by simp [wcs]
 | x :: l,0=>rfl
 | x :: l,1=>rfl
 | x :: l,j+2=>by
  have h:=wcs_get l j
  show (([.int .i64 x.kind,.int .i64 x.n]:List Value) ++ wcs l)[j+2]?=_
  rw [List.getElem?_append_right (by simp),show (j+2) / 2=j / 2+1 by omega,List.getElem?_cons_succ,show (j+2) % 2=j % 2 by omega]
  simpa using h
theorem setAll_cells (g:Nat) (e:TypeId):∀ (cs:List Value) (i:Nat) (w:World) (cur:Array Value),w.heap[g]?=some (.cells cur e (0,0))→∃ cur',(setAll w g i cs).heap[g]?=some (.cells cur' e (0,0))∧cur'.size=cur.size ∧
  ∀ j,cur'[j]?=if i≤j∧j < i+cs.length∧j < cur.size then cs[j - i]? else cur[j]?
 | [],i,w,cur,h=>⟨cur,h,rfl,fun j=>by rw [if_neg (by simp only [List.length_nil];omega)]⟩
 | c :: cs,i,w,cur,h=>by
  obtain ⟨cur',h1,h2,h3⟩:=setAll_cells g e cs (i+1) _ _ (heap_setCell_same w g i cur e c h)
  refine ⟨cur',h1,by simpa using h2,fun j=>?_⟩
  rw [h3 j]
  simp only [Array.size_setIfInBounds,List.length_cons]
  by_cases hj:j=i
  ·subst hj
   rw [if_neg (by omega)]
   by_cases hl:j < cur.size
   ·rw [if_pos (by omega),Array.getElem?_setIfInBounds];simp [hl]
   ·rw [if_neg (by omega),Array.getElem?_setIfInBounds];simp [hl]
  ·by_cases hc:i≤j∧j < i+(cs.length+1)∧j < cur.size
   ·rw [if_pos (by omega),if_pos hc,show j - i=(j - (i+1))+1 by omega,List.getElem?_cons_succ]
   ·rw [if_neg (by omega),if_neg hc,Array.getElem?_setIfInBounds_ne (by omega)]
theorem OwnW.cur {w:World} {g n cap:Nat} {l:List Wrd} (h:OwnW w (.slice (some ⟨g,0,none⟩) n cap) l):n=l.length∧n≤cap∧cap≤maxLen∧∃ cur,w.heap[g]?=some (.cells cur 68 (0,0))∧cur.size=cap * 2∧∀ j,j < n * 2→cur[j]?=(wcs l)[j]?:=by
 obtain ⟨cs,⟨h1,h2⟩,hC⟩:=h
 rw [cells_wrdE.1 hC] at h1 h2
 rcases h2 with ⟨h2,-⟩ | ⟨g',cap',cur,ev,hg,hh,hn,hm,hcs,htk⟩
 ·cases h2
 simp only [Value.slice.injEq,Option.some.injEq,Addr.mk.injEq,and_true] at ev
 obtain ⟨rfl,rfl,rfl⟩:=ev
 refine ⟨rfl,hn,hm,cur,hh,hcs,fun j hj=>?_⟩
 rw [←htk,List.getElem?_take_of_lt (by exact hj),Array.getElem?_toList]
theorem OwnW.mk {w:World} {g cap:Nat} {l:List Wrd} {cur:Array Value} (hh:w.heap[g]?=some (.cells cur 68 (0,0))) (hn:l.length≤cap) (hm:cap≤maxLen) (hcs:cur.size=cap * 2) (hj:∀ j,j < l.length * 2→cur[j]?=(wcs l)[j]?):OwnW w (.slice (some ⟨g,0,none⟩) l.length cap) l:=by
 refine ⟨wcs l,⟨wcs_len l,.inr ⟨g,cap,cur,rfl,Nat.zero_le _,hh,hn,hm,hcs,?_⟩⟩,cells_wrdE.2 rfl⟩
 refine List.ext_getElem? fun j=>?_
 by_cases h:j < l.length * 2
 ·rw [List.getElem?_take_of_lt (by exact h),Array.getElem?_toList,hj j h]
 rw [List.getElem?_eq_none (by rw [List.length_take];show min (l.length * 2) _≤j;omega),List.getElem?_eq_none (by rw [wcs_len];omega)]
theorem wcs_erase (l:List Wrd) (i j:Nat) (hi:i < l.length) (hj:j < (l.length - 1) * 2):(wcs (l.eraseIdx i))[j]?=if j < i * 2 then (wcs l)[j]? else (wcs l)[j+2]?:=by
 rw [wcs_get,wcs_get,wcs_get,List.getElem?_eraseIdx,show (j+2) / 2=j / 2+1 by omega,show (j+2) % 2=j % 2 by omega]
 by_cases h:j < i * 2
 ·rw [if_pos (by omega),if_pos h]
 rw [if_neg (by omega),if_neg h]
theorem cell_cur {w:World} {g:Nat} {cur:Array Value} {e:TypeId} (h:w.heap[g]?=some (.cells cur e (0,0))) (j:Nat):w.cell? ⟨g,j,none⟩=cur[j]?:=by simp [World.cell?,h]
theorem fr_cur {w:World} {g:Nat} {cur:Array Value} {e:TypeId} (h:w.heap[g]?=some (.cells cur e (0,0))) (j:Nat):w.frozen? ⟨g,j,none⟩=false:=by simp [World.frozen?,h]
theorem wcs_one {l:List Wrd} {u:Value} (h:u∈wcs l):u.oneCell'=true:=by
 obtain ⟨x,-,hx⟩:=List.mem_flatMap.1 h
 rcases List.mem_cons.1 hx with rfl | hx
 ·rfl
 rw [List.mem_singleton.1 hx];rfl
theorem run_clear_word (w:World) (g n c:Nat) (ty:TypeId) (cur:Array Value) (h:w.heap[g]?=some (.cells cur 68 (0,0))) (hl:n * 2+2≤cur.size):(Builtin.clear_ #[71] ty #[.slice (some ⟨g,n * 2,none⟩) 1 c]).run Tryz.prog w=.ok (.tuple #[]) (setAll w g (n * 2) [.int .i64 0,.int .i64 0]):=by
 obtain ⟨i0,hi,hz0,hs2,hb⟩:=info_parts infoWord
 have hst:=run_storeCells_cells (P:=Tryz.prog) g (n * 2) [.int .i64 0,.int .i64 0] 0 w (fun j hj=>by
  have hj:j < 2:=hj
  rw [show n * 2+0+j=n * 2+j by omega,cell_cur h,Array.getElem?_eq_getElem (by omega)];rfl) (fun j hj=>fr_cur h _) (by
  intro u hu
  rcases List.mem_cons.1 hu with rfl | hu
  ·rfl
  ·rw [List.mem_singleton.1 hu];rfl)
 simp only [Nat.add_zero] at hst
 rw [setCells_all] at hst
 have hv:∀ w,(zeroValue 68).run Tryz.prog w=.ok (.agg #[.int .i64 0,.int .i64 0]) w:=fun w=>by
  simp [zeroValue,typeInfo,hi,hz0]
 have hzc:(Builtin.zeroCells (Value.agg #[.int .i64 0,.int .i64 0]).cells 1).toList=[.int .i64 0,.int .i64 0]:=by
  simp [Builtin.zeroCells,Value.cells]
  rfl
 simp [Builtin.clear_,run_underlying Tryz.underlying71,hv,hzc,hst]
section
variable {o:Oper} {a:Act} {Q:Exit→Act→World→Prop} {K:Act→World→Prop} {w:World}
theorem wp_append_room {s x:Nat} (ho:o.op=.call { callee:=.builtin .append,args:=#[.tmp s,.tmp x],argTypes:=#[71,71] }) {g n cap m c:Nat} (hs:a.eval (.tmp s)=.slice (some ⟨g,0,none⟩) n cap) {A:Addr} {news:List Value} (hx:a.eval (.tmp x)=.slice (some A) m c)
  (hl:news.length=m * 2) (hc:∀ j u,news[j]?=some u→w.cell? (A.add j)=some u) (hroom:n+m≤cap) (h1:∀ u∈news,u.oneCell'=true) (hsp:∀ j,j < news.length→(w.cell? ⟨g,n * 2+j,none⟩).isSome=true∧w.frozen? ⟨g,n * 2+j,none⟩=false)
  (hK:K (a.put o.dst (.slice (some ⟨g,0,none⟩) (n+m) cap)) (setAll w g (n * 2) news)):Oper.wp Tryz.prog o a w K Q:=by
 obtain ⟨i0,hi,hz,hs2,hb⟩:=info_parts infoWord
 have hs2':i0.size=2:=hs2
 have h2:=run_append_room_cells (P:=Tryz.prog) (w:=w) 71 o.type 68 i0 Tryz.underlying71 hi g 0 n cap A m c news (by rw [hs2',hl]) hc h1 hroom (fun j hj=>by rw [hs2',Nat.zero_add];exact (hsp j hj).1) (fun j hj=>by rw [hs2',Nat.zero_add];exact (hsp j hj).2)
 rw [hs2',Nat.zero_add,setCells_all] at h2
 unfold Oper.wp
 simp [execOp,ho,resolve,invoke,builtin,hs,hx,h2,Result.andThen]
 exact hK
end
theorem delW_c (w:World) (g cap:Nat) (l:List Wrd) (i:Nat) (h:OwnW w (.slice (some ⟨g,0,none⟩) l.length cap) l) (hi:i < l.length) (hl:l.length≤1000) :
  Calls Tryz.prog 39 #[.slice (some ⟨g,0,none⟩) l.length cap,.int .i64 (i:Int),.int .i64 ((i:Int)+1)] w fun e w'=>e=.returned (.slice (some ⟨g,0,none⟩) (l.length - 1) cap)∧OwnW w' (.slice (some ⟨g,0,none⟩) (l.length - 1) cap) (l.eraseIdx i)∧Keep (fun b=>b=g) w w':=by
 obtain ⟨-,hnc,hcm,cur,hh,hsz,hj⟩:=h.cur
 have HH:=J hh;have HJ:=J hj
 clear h hh hj
 go_enter Tryz.func39,Tryz.ntmps39
 go_upto_region 5 with fail
 have hic:i≤cap:=by omega
 have hjc:i+1≤cap:=by omega
 have hjn:i+1≤l.length:=by omega
 obtain ⟨A,hA,hAc⟩:∃ A:Addr,(if cap=i+1 then some (⟨g,0,none⟩:Addr) else some ⟨g,(i+1) * 2,none⟩)=some A∧(cap≠i+1→A=⟨g,(i+1) * 2,none⟩):=by
  by_cases hc:cap=i+1
  ·exact ⟨_,if_pos hc,fun h=>absurd hc h⟩
  ·exact ⟨_,if_neg hc,fun _=>rfl⟩
 have HAC:=J hAc
 clear hAc
 refine yK (fun _=>True) (by as_aux_lemma=>kernel_rfl) (fun _ _=>trivial) ?_
 intro Wd hB hWd hWd' hHeld
 have HBd:=J hB
 have HHd:Hid (Wd.heap[g]?=some (.cells cur 68 (0,0))):=J ((hB.block g (by have:=(Array.getElem?_eq_some_iff.1 HH.out).1;omega)).trans HH.out)
 clear hB
 refine rgT 0 _ hHeld ?_
 refine rgT 1 _ hHeld ?_
 refine rgT 2 _ hHeld ?_
 refine rgT 3 _ hHeld ?_
 refine rgT 4 _ hHeld ?_
 refine rg_take (i:=5) (v:=?_) rfl (by as_aux_lemma=>kernel_rfl) (by as_aux_lemma=>kernel_rfl) (by as_aux_lemma=>kernel_rfl) (by rfl) ?_ hHeld ?_
 rotate_left 1
 ·intro w hSw;(try dsimp only at hSw);go_simp;(try rw [if_pos (by omega)]);try (with_reducible rfl)
 try simp only [Act.put,pA,pB,pC]
 refine rgO 6 fun K hK=>?_
 refine wp_append_room (s:=22) (x:=25) rfl (g:=g) (n:=i) (cap:=cap) (by rfl) (A:=A) (m:=l.length - (i+1)) (c:=cap - (i+1)) (news:=(wcs l).drop ((i+1) * 2)) (by rfl) (by rw [List.length_drop,wcs_len];omega) (fun j u hu=>?_) (by omega) (fun u hu=>wcs_one (List.mem_of_mem_drop hu)) (fun j hj=>?_) ?_
 ·have hj:=(List.getElem?_eq_some_iff.1 hu).1
  rw [List.length_drop,wcs_len] at hj
  rw [List.getElem?_drop] at hu
  rw [HAC.out (by omega)]
  rw [Addr.add_lit]
  rw [cell_cur HHd.out,HJ.out _ (by omega),hu]
 ·rw [List.length_drop,wcs_len] at hj
  refine ⟨?_,fr_cur HHd.out _⟩
  rw [cell_cur HHd.out,HJ.out _ (by omega),wcs_get,List.getElem?_eq_getElem (by omega)]
  rfl
 obtain ⟨W1,hW1⟩:=I (setAll Wd g (i * 2) ((wcs l).drop ((i+1) * 2)))
 rw [←hW1]
 have HW1:=J hW1
 clear hW1
 refine hK.out _ _ (trivial) fun _=>?_
 clear hK K hHeld;rename_i hHeld;try simp only [Act.put,pA,pB,pC]
 refine rgT 7 _ hHeld ?_
 refine rgD ?_
 clear hHeld
 go_upto_region 6 with fail
 obtain ⟨N,hN⟩:∃ N,l.length=N+1:=⟨l.length - 1,by omega⟩
 obtain ⟨cur1,h1,h2,h3⟩:=setAll_cells g 68 ((wcs l).drop ((i+1) * 2)) (i * 2) Wd cur HHd.out
 rw [←HW1.out] at h1
 obtain ⟨W2,hW2⟩:=I (setAll W1 g (N * 2) [.int .i64 0,.int .i64 0])
 obtain ⟨cur2,k1,k2,k3⟩:=setAll_cells g 68 [.int .i64 0,.int .i64 0] (N * 2) W1 cur1 h1
 rw [←hW2] at k1
 have hcl:∀ ty,(Builtin.clear_ #[71] ty #[.slice (some ⟨g,N * 2,none⟩) 1 (cap - N)]).run Tryz.prog W1=.ok (.tuple #[]) W2:=fun ty=>by
  rw [hW2]
  exact run_clear_word W1 g N (cap - N) ty cur1 h1 (by rw [h2];omega)
 have hfin:OwnW W2 (.slice (some ⟨g,0,none⟩) N cap) (l.eraseIdx i)∧Keep (fun b=>b=g) w W2:=by
  have el:(l.eraseIdx i).length=N:=by rw [List.length_eraseIdx_of_lt hi];omega
  refine ⟨?_,?_⟩
  ·have:=OwnW.mk (l:=l.eraseIdx i) (cap:=cap) k1 (by omega) hcm (by omega) fun j hj=>?_
   ·rwa [el] at this
   rw [el] at hj
   rw [k3 j,if_neg (by omega),h3 j,List.length_drop,wcs_len,wcs_erase l i j hi (by omega)]
   by_cases hji:j < i * 2
   ·rw [if_neg (by omega),if_pos hji,HJ.out j (by omega)]
   rw [if_pos (by omega),if_neg hji,List.getElem?_drop,show (i+1) * 2+(j - i * 2)=j+2 by omega]
  have a1:=setAll_heap Wd g ((wcs l).drop ((i+1) * 2)) (i * 2)
  have a2:=setAll_heap W1 g [.int .i64 0,.int .i64 0] (N * 2)
  have b1:=setAll_below (Below.refl 0 Wd) g (Nat.zero_le _) ((wcs l).drop ((i+1) * 2)) (i * 2)
  have b2:=setAll_below (Below.refl 0 W1) g (Nat.zero_le _) [.int .i64 0,.int .i64 0] (N * 2)
  rw [←HW1.out] at a1 b1
  rw [←hW2] at a2 b2
  have k0:=HBd.out
  exact ⟨b2.os.trans (b1.os.trans k0.os),b2.tape.trans (b1.tape.trans k0.tape),b2.output.trans (b1.output.trans k0.output),by have:=k0.size;omega,fun k hk hn=>(a2.2 k hn).trans ((a1.2 k hn).trans (k0.block k hk))⟩
 have HFIN:=J hfin
 have hcN:¬cap=N:=by omega
 have hN1:N≤N+1:=by omega
 have hN2:N+1≤cap:=by omega
 have HN:=J hN
 rw [show i+(l.length - (i+1))=N by omega,hN]
 clear hN hW2 k1 k2 k3 h1 h2 h3 hfin hic hjc hjn hA hi hl hnc
 go_wp2_with fail
 go_ret
 have e:l.length - 1=N:=by have:=HN.out;omega
 rw [e]
 exact ⟨rfl,HFIN.out.1,HFIN.out.2⟩
theorem PrV.set0 {F:Nat→Prop} {w:World} {pb:Nat} {name:ByteArray} {room:Int} {p p':T×Wrd} {L Z Z':TW} {B:Nat} {H:HS} {g n cap:Nat} (h:PrV F w pb name room (p :: L) Z B H (.slice (some ⟨g,0,none⟩) n cap)) (hp:PH room H ((p' :: L) ++ Z')) :
  PrV F (setAll w g 0 [.int .i64 p'.2.kind,.int .i64 p'.2.n]) pb name room (p' :: L) Z' B H (.slice (some ⟨g,0,none⟩) n cap):=by
 have hg:=h.fv g rfl
 have ho:=(h.ow).set (i:=0) (by simp [wdsL]) p'.2
 have hs:∀ b,b≠g→(setAll w g 0 [.int .i64 p'.2.kind,.int .i64 p'.2.n]).heap[b]?=w.heap[b]?:=(setAll_heap w g _ 0).2
 have hz:=(setAll_heap w g [.int .i64 p'.2.kind,.int .i64 p'.2.n] 0).1
 exact ⟨h.blk.heap (hs pb fun e=>hg.2 e.symm),h.hp.to (by omega) (fun _ h=>h) fun b hb _=>hs b fun e=>hg.1 (e ▸ hb),ho,hp,h.fp,fun b hb=>by rw [hz];exact h.fl b hb,h.fv⟩
theorem pputE_num (room:Int) (us:List T) (t:T):pputE room (numT 0 :: us) t=pputE room us t:=by
 unfold pputE
 rw [szL_cons]
 simp [numT,szL]
def BecP (G:Nat→Prop) (w:World) (pb:Nat) (name:ByteArray) (room:Int) (nb:Nat) (st:T) (us:List T) (t:T) (e:Ending) (w':World):Prop :=
 e=.returned (.bool (pputE room us t == 0))∧Keep G w w'∧∃ (y:Wrd) (L':TW) (u':Nat),yQ L'=us∧PrR (fun b=>G b∨w.heap.size≤b) w' pb name room (nb+yC [t]+yC [st]) u' ((if pputE room us t=0 then t else st,y) :: L') []
theorem pbec_c (G:Nat→Prop) (w:World) (pb:Nat) (name:ByteArray) (room:Int) (nb u:Nat) (st:T) (x:Wrd) (L:TW) (t:T) (S:Nat→Prop) (v:Value) (h:PrR G w pb name room nb u ((st,x) :: L) []) (hv:RT S w t v) (hGl:∀ b,G b→b < w.heap.size) (hS:∀ b,S b→b < w.heap.size∧¬G b) (hbt:yC [t]≤4294967296) (hl:L.length≤800) (hr:room≤1000) (hn:nb+yC [t]≤4294967296) :
  Calls Tryz.prog 42 #[.pointer (some ⟨pb,0,none⟩),v] w (BecP G w pb name room nb st (yQ L) t):=by
 obtain ⟨a,cap,rfl,hcap,hrt⟩:=hv
 obtain ⟨W0,hW0⟩:=I (w.alloc (.cells #[.int .i64 t.kind,.int .i64 t.n,.string t.name,.slice a t.args.length cap] 25))
 obtain ⟨g3,hg3⟩:=I (w.heap.size)
 have HB0:Hid (Below w.heap.size w W0):=J (by rw [hW0];exact yA _ _)
 have HX3:Hid (Blk W0 g3 [.int .i64 t.kind,.int .i64 t.n,.string t.name,.slice a t.args.length cap]):=J (by rw [hW0,hg3];exact Blk.new _ _ _ _ rfl)
 have hs0:W0.heap.size=w.heap.size+1:=by rw [hW0];simp
 have HH0:=J (h.below HB0.out)
 have HOK:Hid (putE st=0∧(szL (yQ L):Int)+szL [st]≤room∧yC [st]≤4294967296):=J (by
  have h1:=h.le
  have e:szL (yQ ((st,x) :: L))=szL [st]+szL (yQ L):=by
   show szL (st :: yQ L)=_
   rw [szL_cons,szL_cons];simp [szL]
  obtain ⟨F,B,H,v,hV,-⟩:=h
  have hok:=hV.ph.ok (st,x) (by simp)
  refine ⟨?_,by omega,Nat.le_trans (chk_bulk hok.1) (by decide)⟩
  unfold putE
  rw [if_neg (by simp [hok.1]),if_neg (by simp [hok.2])])
 obtain ⟨F,B,H,vv,hV,hnb,hu,hG⟩:=h
 obtain ⟨gw,cw,ev⟩:=hV.ow.form0 (by simp [wdsL])
 rw [wdsL_len] at ev
 subst ev
 have HVW:=J hV;have HG:=J hG;have HNB:=J hnb
 have HGW:Hid (gw < w.heap.size∧gw≠pb∧pb < w.heap.size):=J ⟨(hV.ow.block gw rfl).2,(hV.fv gw rfl).2,hV.blk.lt⟩
 clear hV hG hnb hu
 have HT0:Hid (RT S W0 t (.agg #[.int .i64 t.kind,.int .i64 t.n,.string t.name,.slice a t.args.length cap])):=J (RT.below ⟨a,cap,rfl,hcap,hrt⟩ HB0.out)
 have HS0:Hid (∀ b,S b→b < w.heap.size∧¬G b):=J hS
 have HG3:Hid (g3=w.heap.size∧W0.heap.size=w.heap.size+1):=J ⟨hg3,hs0⟩
 have HGL:=J hGl
 clear hcap hrt hS hGl
 go_enter Tryz.func42,Tryz.ntmps42
 go_upto_region 1 with fail
 rw [←hW0,←hg3]
 clear hW0 hg3
 go_wp2_with fail
 refine (pstate_c G W0 pb name room nb u st x L [] HH0.out (by omega) hr (by omega)).mono ?_
 rintro e W1 ⟨ar,cr,rfl,hB1,hT1⟩
 have HB1:=J hB1;have HTS:=J hT1
 clear hB1 hT1
 go_upto_region 2 with fail
 obtain ⟨W2,hW2⟩:=I (W1.alloc (.cells #[.int .i64 st.kind,.int .i64 st.n,.string st.name,.slice ar st.args.length cr] 25))
 obtain ⟨g5,hg5⟩:=I (W1.heap.size)
 have HB2:Hid (Below W0.heap.size W0 W2):=J (by rw [hW2];exact yB HB1.out HB1.out.size (yA _ _))
 have HX5:Hid (Blk W2 g5 [.int .i64 st.kind,.int .i64 st.n,.string st.name,.slice ar st.args.length cr]):=J (by rw [hW2];exact Blk.new _ _ _ _ hg5)
 have HTS2:Hid (RT (fun b=>W0.heap.size≤b) W2 st (.agg #[.int .i64 st.kind,.int .i64 st.n,.string st.name,.slice ar st.args.length cr])):=J (by rw [hW2];exact HTS.out.below (yA _ _))
 have HG5:Hid (W0.heap.size≤g5):=J (by have:=HB1.out.size;omega)
 rw [←hW2,←hg5]
 clear hW2 hg5 HTS
 have HV2:=J ((HVW.out.below HB0.out).below HB2.out)
 have y2:=HV2.out.blk.cell 2 _ rfl
 obtain ⟨-,hnc,-,cur,hh,hsz,-⟩:=HV2.out.ow.cur
 have hnc':L.length+1≤cw:=by simpa using hnc
 obtain ⟨c0,q0⟩:∃ c,W2.cell? ⟨gw,0,none⟩=some c:=⟨_,by rw [cell_cur hh,Array.getElem?_eq_getElem (by omega)]⟩
 obtain ⟨c1,q1⟩:∃ c,W2.cell? ⟨gw,1,none⟩=some c:=⟨_,by rw [cell_cur hh,Array.getElem?_eq_getElem (by omega)]⟩
 have qf:∀ o,W2.frozen? ⟨gw,o,none⟩=false:=fun o=>fr_cur hh o
 clear hh hsz hnc hnc'
 go_upto_region 3 with fail
 obtain ⟨W3,hW3⟩:=I ((W2.setCell ⟨gw,0,none⟩ (.int .i64 1)).setCell ⟨gw,1,none⟩ (.int .i64 0))
 have hW3':W3=setAll W2 gw 0 [.int .i64 1,.int .i64 0]:=hW3
 have HS3:Hid (W3.heap.size=W2.heap.size∧∀ b,b≠gw→W3.heap[b]?=W2.heap[b]?):=J (by rw [hW3'];exact setAll_heap W2 gw _ 0)
 have HV3:Hid (PrV F W3 pb name room ((numT 0,⟨1,0⟩) :: L) [] B H (.slice (some ⟨gw,0,none⟩) (L.length+1) cw)):=J (by
  rw [hW3']
  have hp:PH room H (((numT 0,⟨1,0⟩) :: L) ++ []):=by
   rw [List.append_nil]
   have:=HV2.out.ph
   rw [List.append_nil] at this
   exact (this.sub (List.sublist_cons_self _ _)).num
  exact HV2.out.set0 (p':=(numT 0,⟨1,0⟩)) hp)
 have HPR3:Hid (PrR G W3 pb name room nb H.ws.length ((numT 0,⟨1,0⟩) :: L) []):=J ⟨F,B,H,_,HV3.out,HNB.out,rfl,HG.out⟩
 have HK3:Hid (Keep G w W3):=J (by
  have b1:=setAll_below (Below.refl 0 W2) gw (Nat.zero_le _) [.int .i64 1,.int .i64 0] 0
  rw [←hW3'] at b1
  have k0:Keep G w W2:=(Keep.of HB0.out).then HB2.out
  refine ⟨b1.os.trans k0.os,b1.tape.trans k0.tape,b1.output.trans k0.output,by have:=k0.size;have:=HS3.out.1;omega,fun k hk hn=>(HS3.out.2 k fun e=>hn (e ▸ HG.out.2.2 _ rfl)).trans (k0.block k hk hn)⟩)
 have HX33:Hid (Blk W3 g3 [.int .i64 t.kind,.int .i64 t.n,.string t.name,.slice a t.args.length cap]):=J ((HX3.out.step HB2.out).heap (HS3.out.2 g3 (by have:=HG3.out;have:=HGW.out;omega)))
 have HX53:Hid (Blk W3 g5 [.int .i64 st.kind,.int .i64 st.n,.string st.name,.slice ar st.args.length cr]):=J (HX5.out.heap (HS3.out.2 g5 (by have:=HG3.out;have:=HGW.out;have:=HG5.out;omega)))
 have HT3:Hid (RT S W3 t (.agg #[.int .i64 t.kind,.int .i64 t.n,.string t.name,.slice a t.args.length cap])):=J ((HT0.out.below HB2.out).to (fun _ h _=>h) fun b hb _=>HS3.out.2 b fun e=>(HS0.out b hb).2 (e ▸ HG.out.2.2 _ rfl))
 have HTS3:Hid (RT (fun b=>W0.heap.size≤b) W3 st (.agg #[.int .i64 st.kind,.int .i64 st.n,.string st.name,.slice ar st.args.length cr])):=J (HTS2.out.to (fun _ h _=>h) fun b hb _=>HS3.out.2 b (by have:=HG3.out;have:=HGW.out;omega))
 obtain ⟨x0,x1,x2,x3⟩:=HX33.out.c4 0 1 2 3
 rw [←hW3]
 clear hW3 hW3' q0 q1 qf y2
 go_wp2_with fail
 refine (pput_c G W3 pb name room nb _ ((numT 0,⟨1,0⟩) :: L) t S _ HPR3.out HT3.out (fun b hb=>⟨by have:=(HS0.out b hb).1;have:=HK3.out.size;omega,(HS0.out b hb).2⟩) hbt (by simp;omega) hr (by omega)).mono ?_
 rintro e W4 ⟨hK4,y,L1,u1,rfl,eL,h0,h1⟩
 have ez:pputE room (yQ ((numT 0,⟨1,0⟩) :: L)) t=pputE room (yQ L) t:=pputE_num room (yQ L) t
 rw [ez] at h0 h1
 rw [ez]
 obtain ⟨p6,L6,rfl,eL6,ep6⟩:∃ p6 L6,L1=p6 :: L6∧yQ L6=yQ L∧p6.1=numT 0:=by
  match L1,eL with
  | p6 :: L6,eL=>exact ⟨p6,L6,rfl,(List.cons.inj eL).2,(List.cons.inj eL).1⟩
 have HEL6:=J eL6;have HP6:=J ep6;have HK4:=J hK4;have H0':=J h0;have H1':=J h1
 clear eL eL6 ep6 hK4 h0 h1 ez x0 x1 x2 x3
 go_upto_region 4 with fail
 obtain ⟨W5,hW5⟩:=I (W4.alloc (.cells #[.int .i64 y.kind,.int .i64 y.n] 68))
 obtain ⟨g6,hg6⟩:=I (W4.heap.size)
 have HB5:Hid (Below W4.heap.size W4 W5):=J (by rw [hW5];exact yA _ _)
 have HX6a:Hid (Blk W5 g6 [.int .i64 y.kind,.int .i64 y.n]):=J (by rw [hW5];exact Blk.new _ _ _ _ hg6)
 have HG6a:Hid (g6=W4.heap.size):=J hg6
 have HK5:Hid (Keep G w W5):=J ((HK3.out.trans (HK4.out.mono fun _ _ h=>h)).then HB5.out)
 rw [←hW5,←hg6]
 clear hW5 hg6
 have hL6:L6.length≤800:=by have h:=congrArg List.length HEL6.out;rw [tmsL_len,tmsL_len] at h;omega
 by_cases hz:pputE room (yQ L) t=0
 ·have qz:(pputE room (yQ L) t != 0)=false:=by simp [hz]
  have qz2:(pputE room (yQ L) t == 0)=true:=by simp [hz]
  have HPZ:=J hz
  obtain ⟨y6,hy6⟩:∃ y6,y6=y:=⟨_,rfl⟩
  obtain ⟨F6,B6,H6,v6,hV6,hn6,hu6,hG6⟩:=H0'.out hz
  obtain ⟨gv,c6,ev⟩:=hV6.ow.form0 (by simp [wdsL])
  rw [wdsL_len] at ev
  subst ev
  have HNG:Hid (g6≠gv):=J (by have:=(hV6.ow.block gv rfl).2;have:=HG6a.out;omega)
  have HV6:=J (hV6.below HB5.out)
  have HNM6:Hid (H6.names.length≤nb+yC [t]+yC [st]):=J (by omega)
  have HG6:Hid ((∀ b,F6 b→G b∨w.heap.size≤b)∧(G pb∨w.heap.size≤pb)∧∀ b,(Value.slice (some ⟨gv,0,none⟩) (p6 :: L6).length c6).ownBlock=some b→G b∨w.heap.size≤b):=J ⟨fun b hb=>(hG6.1 b hb).imp id fun h=>by have:=HK3.out.size;omega,.inl HG.out.2.1,fun b hb=>(hG6.2.2 b hb).imp id fun h=>by have:=HK3.out.size;omega⟩
  have HX6:=HX6a
  have HK6:=HK5
  rw [←hy6] at HV6 HX6
  clear hz hy6 hV6 hn6 hu6 hG6
  go_upto_region 6 with fail
  refine yK (fun w'=>w'.cell? ⟨g6,0,none⟩=some (.int .i64 y6.kind)∧w'.cell? ⟨g6,1,none⟩=some (.int .i64 y6.n)) (by as_aux_lemma=>kernel_rfl) (fun Wd h=>⟨(HX6.out.step h).cell 0 _ rfl,(HX6.out.step h).cell 1 _ rfl⟩) ?_
  intro Wd hB hWd hWd' hHeld
  have HVd:=J (HV6.out.below hB)
  have HX6d:=J (HX6.out.step hB)
  have HKd:=J (HK6.out.then hB)
  have bWd:=HVd.out.blk.cell 2 _ rfl
  clear hB
  refine rgT 0 _ hHeld ?_
  refine rgT 1 _ hHeld ?_
  refine rgT 2 _ hHeld ?_
  refine rgT 4 _ hHeld ?_
  refine rgO 3 fun K hK=>?_
  go_simp
  skip
  refine hK.out _ _ (hHeld) fun _=>?_
  clear hK K hHeld;rename_i hHeld;try simp only [Act.put,pA,pB,pC]
  refine rgT 5 _ hHeld ?_
  refine rgO 6 fun K hK=>?_
  refine wp_store_mid 68 _ _ (by rfl) gv 0 #[.int .i64 y6.kind,.int .i64 y6.n] (by rfl) (by rfl) (HVd.out.ow.there (i:=0) (by simp [wdsL])) (by kernel_rfl) (by simp [Value.oneCell']) ?_
  rw [setCells_all]
  obtain ⟨W7,hW7⟩:=I (setAll Wd gv 0 [.int .i64 y6.kind,.int .i64 y6.n])
  have HS7:Hid (W7.heap.size=Wd.heap.size∧∀ b,b≠gv→W7.heap[b]?=Wd.heap[b]?):=J (by rw [hW7];exact setAll_heap Wd gv _ 0)
  have HW7:=J hW7
  rw [←hW7]
  clear hW7
  refine hK.out _ _ (⟨(HX6d.out.heap (HS7.out.2 g6 HNG.out)).cell 0 _ rfl,(HX6d.out.heap (HS7.out.2 g6 HNG.out)).cell 1 _ rfl⟩) fun _=>?_
  clear hK K hHeld;rename_i hHeld;try simp only [Act.put,pA,pB,pC]
  refine rgD ?_
  clear hHeld
  go_wp2_with fail
  go_ret
  have hp6:PH room H6 (((t,y6) :: L6) ++ []):=by
   rw [List.append_nil]
   exact (HVd.out.ph.perm (L':=(t,y6) :: p6 :: L6) (List.perm_append_comm (l₁:=p6 :: L6) (l₂:=[(t,y6)]))).sub (.cons_cons _ (.cons _ (List.Sublist.refl _)))
  have hV7:=HVd.out.set0 (p':=(t,y6)) hp6
  rw [←HW7.out] at hV7
  have hk7:Keep G w W7:=by
   have b1:=setAll_below (Below.refl 0 Wd) gv (Nat.zero_le _) [.int .i64 y6.kind,.int .i64 y6.n] 0
   rw [←HW7.out] at b1
   have k0:=HKd.out
   refine ⟨b1.os.trans k0.os,b1.tape.trans k0.tape,b1.output.trans k0.output,by have:=k0.size;have:=HS7.out.1;omega,fun k hk hn=>(HS7.out.2 k fun e=>?_).trans (k0.block k hk hn)⟩
   rw [e] at hk hn
   rcases HG6.out.2.2 gv rfl with h1 | h1
   ·exact hn h1
   omega
  exact ⟨by rw [show (pputE room (yQ L) t == 0)=true by simp [HPZ.out]];rfl,hk7,y6,L6,H6.ws.length,HEL6.out,F6,B6,H6,_,by rw [if_pos HPZ.out];exact hV7,HNM6.out,rfl,HG6.out⟩
 have qz:(pputE room (yQ L) t != 0)=true:=by simpa using hz
 have qz2:(pputE room (yQ L) t == 0)=false:=by simpa using hz
 have HPZ:=J hz
 obtain ⟨G5,hG5⟩:∃ G5:Nat→Prop,G5=fun b=>(G b∨W3.heap.size≤b)∧b < W4.heap.size:=⟨_,rfl⟩
 have HG5':Hid (∀ b,G5 b↔((G b∨W3.heap.size≤b)∧b < W4.heap.size)):=J (by rw [hG5];exact fun _=>Iff.rfl)
 have HPR5:Hid (PrR G5 W5 pb name room nb u1 (p6 :: L6) []):=J (by rw [hG5];exact (H1'.out hz).low.below HB5.out)
 clear hG5
 have hsz:=HK3.out.size
 have hsz4:=HK4.out.size
 have HNS:Hid (∀ b,(W0.heap.size≤b∧b < W3.heap.size)→¬G b∧¬G5 b):=J fun b hb=>by
  have h1:¬G b:=fun hg=>by have:=HGL.out b hg;have:=HG3.out;omega
  exact ⟨h1,fun hg=>by rcases ((HG5'.out b).1 hg).1 with h | h;exact h1 h;omega⟩
 have HTS5:Hid (RT (fun b=>W0.heap.size≤b∧b < W3.heap.size) W5 st (.agg #[.int .i64 st.kind,.int .i64 st.n,.string st.name,.slice ar st.args.length cr])):=J ((HTS3.out.to (S':=fun b=>W0.heap.size≤b∧b < W3.heap.size) (fun b hb hl=>⟨hb,hl⟩) fun _ _ _=>rfl).to (fun _ h _=>h) fun b hb hl=>(HB5.out.block b (by omega)).trans (HK4.out.block b hl (HNS.out b hb).1))
 have HX55:Hid (Blk W5 g5 [.int .i64 st.kind,.int .i64 st.n,.string st.name,.slice ar st.args.length cr]):=J ((HX53.out.heap (HK4.out.block g5 HX53.out.lt (HNS.out g5 ⟨HG5.out,HX53.out.lt⟩).1)).step HB5.out)
 obtain ⟨z0,z1,z2,z3⟩:=HX55.out.c4 0 1 2 3
 clear hz
 go_wp2_with fail
 refine (pput_c G5 W5 pb name room nb u1 (p6 :: L6) st _ _ HPR5.out HTS5.out (fun b hb=>⟨by have:=HB5.out.size;omega,(HNS.out b hb).2⟩) HOK.out.2.2 (by simp;omega) hr (by omega)).mono ?_
 rintro e W6 ⟨hKp,yb,L7,u7,rfl,eL7,hA,-⟩
 have epz:pputE room (yQ (p6 :: L6)) st=0:=by
  rw [show yQ (p6 :: L6)=numT 0 :: yQ L by show p6.1 :: yQ L6=_;rw [HP6.out,HEL6.out],pputE_num]
  unfold pputE
  rw [if_neg (by simp [HOK.out.1]),if_neg (by have:=HOK.out.2.1;omega)]
 rw [epz]
 obtain ⟨p7,L8,rfl,eL8⟩:∃ p7 L8,L7=p7 :: L8∧yQ L8=yQ L:=by
  match L7,eL7 with
  | p7 :: L8,eL7=>exact ⟨p7,L8,rfl,((List.cons.inj eL7).2).trans HEL6.out⟩
 have HA:=J (hA epz)
 have HKp:=J hKp
 have HEL8:=J eL8
 have hl8:L8.length≤800:=by have h:=congrArg List.length eL8;rw [tmsL_len,tmsL_len] at h;omega
 have HX6p:Hid (Blk W6 g6 [.int .i64 y.kind,.int .i64 y.n]):=J (HX6a.out.heap (hKp.block g6 HX6a.out.lt fun hg=>by have:=((HG5'.out g6).1 hg).2;have:=HG6a.out;omega))
 clear hA hKp eL7 eL8 epz z0 z1 z2 z3
 go_wp2_with (first | (refine yI 68 2 szWord _ _ rfl rfl rfl rfl rfl HX6p.out rfl rfl rfl ?_;intro Wt hFt hst hBWt hotht;have HXt:=J hFt;have HSt:=J hst;have HBWt:=J hBWt;have HOt:=J hotht;clear hFt hst hBWt hotht;go_upto_region 6 with fail))
 obtain ⟨F6,B6,H6,v6,hV6,hn6,hu6,hG6⟩:=HA.out
 obtain ⟨gv,c6,ev⟩:=hV6.ow.form0 (by simp [wdsL])
 rw [wdsL_len] at ev
 subst ev
 have hn6g:∀ b,(G5 b∨W5.heap.size≤b)→b≠g6∧(G b∨w.heap.size≤b):=fun b hb=>by
  have h1:=HG6a.out
  have h2:=HB5.out.size
  have h3:=HX6a.out.lt
  rcases hb with hb | hb
  ·have h4:=(HG5'.out b).1 hb
   exact ⟨by omega,h4.1.imp id fun h=>by omega⟩
  ·exact ⟨by omega,.inr (by omega)⟩
 have HNG:Hid (g6≠gv):=J fun e=>(hn6g gv (hG6.2.2 gv rfl)).1 e.symm
 have HV6:Hid (PrV F6 Wt pb name room (p7 :: L8) [(st,yb)] B6 H6 (.slice (some ⟨gv,0,none⟩) (p7 :: L8).length c6)):=J (hV6.to (by rw [HSt.out];exact Nat.le_refl _) fun b hb _=>HOt.out b (by
  rcases hb with hb | rfl | hb
  ·exact (hn6g b (hG6.1 b hb)).1
  ·exact (hn6g b hG6.2.1).1
  ·exact (hn6g b (hG6.2.2 b hb)).1))
 have HX6:=HXt
 have HNM6:Hid (H6.names.length≤nb+yC [t]+yC [st]):=J (by omega)
 have HG6:Hid ((∀ b,F6 b→G b∨w.heap.size≤b)∧(G pb∨w.heap.size≤pb)∧∀ b,(Value.slice (some ⟨gv,0,none⟩) (p7 :: L8).length c6).ownBlock=some b→G b∨w.heap.size≤b):=J ⟨fun b hb=>(hn6g b (hG6.1 b hb)).2,(hn6g pb hG6.2.1).2,fun b hb=>(hn6g b (hG6.2.2 b hb)).2⟩
 have HK6:Hid (Keep G w Wt):=J (by
  have k5:=HK5.out
  have kp:=HKp.out
  have b0:=HBWt.out 0 W6 (Nat.zero_le _) (Below.refl _ _)
  have h5:=HK5.out.size
  have h6:=HKp.out.size
  refine ⟨b0.os.trans (kp.os.trans k5.os),b0.tape.trans (kp.tape.trans k5.tape),b0.output.trans (kp.output.trans k5.output),by rw [HSt.out];omega,fun k hk hn=>?_⟩
  rw [HOt.out k (by have:=HG6a.out;omega),kp.block k (by omega) (fun hg=>?_),k5.block k hk hn]
  rcases ((HG5'.out k).1 hg).1 with h | h
  ·exact hn h
  ·omega)
 clear hn6g hV6 hn6 hu6 hG6
 refine yK (fun w'=>w'.cell? ⟨g6,0,none⟩=some (.int .i64 yb.kind)∧w'.cell? ⟨g6,1,none⟩=some (.int .i64 yb.n)) (by as_aux_lemma=>kernel_rfl) (fun Wd h=>⟨(HX6.out.step h).cell 0 _ rfl,(HX6.out.step h).cell 1 _ rfl⟩) ?_
 intro Wd hB hWd hWd' hHeld
 have HVd:=J (HV6.out.below hB)
 have HX6d:=J (HX6.out.step hB)
 have HKd:=J (HK6.out.then hB)
 have bWd:=HVd.out.blk.cell 2 _ rfl
 clear hB
 refine rgT 0 _ hHeld ?_
 refine rgT 1 _ hHeld ?_
 refine rgT 2 _ hHeld ?_
 refine rgT 4 _ hHeld ?_
 refine rgO 3 fun K hK=>?_
 go_simp
 skip
 refine hK.out _ _ (hHeld) fun _=>?_
 clear hK K hHeld;rename_i hHeld;try simp only [Act.put,pA,pB,pC]
 refine rgT 5 _ hHeld ?_
 refine rgO 6 fun K hK=>?_
 refine wp_store_mid 68 _ _ (by rfl) gv 0 #[.int .i64 yb.kind,.int .i64 yb.n] (by rfl) (by rfl) (HVd.out.ow.there (i:=0) (by simp [wdsL])) (by kernel_rfl) (by simp [Value.oneCell']) ?_
 rw [setCells_all]
 obtain ⟨W7,hW7⟩:=I (setAll Wd gv 0 [.int .i64 yb.kind,.int .i64 yb.n])
 have HS7:Hid (W7.heap.size=Wd.heap.size∧∀ b,b≠gv→W7.heap[b]?=Wd.heap[b]?):=J (by rw [hW7];exact setAll_heap Wd gv _ 0)
 have HW7:=J hW7
 rw [←hW7]
 clear hW7
 refine hK.out _ _ (⟨(HX6d.out.heap (HS7.out.2 g6 HNG.out)).cell 0 _ rfl,(HX6d.out.heap (HS7.out.2 g6 HNG.out)).cell 1 _ rfl⟩) fun _=>?_
 clear hK K hHeld;rename_i hHeld;try simp only [Act.put,pA,pB,pC]
 refine rgD ?_
 clear hHeld
 go_wp2_with fail
 go_ret
 have hp7:PH room H6 (((st,yb) :: L8) ++ []):=by
  rw [List.append_nil]
  exact (HVd.out.ph.perm (L':=(st,yb) :: p7 :: L8) (List.perm_append_comm (l₁:=p7 :: L8) (l₂:=[(st,yb)]))).sub (.cons_cons _ (.cons _ (List.Sublist.refl _)))
 have hV7:=HVd.out.set0 (p':=(st,yb)) hp7
 rw [←HW7.out] at hV7
 have hk7:Keep G w W7:=by
  have b1:=setAll_below (Below.refl 0 Wd) gv (Nat.zero_le _) [.int .i64 yb.kind,.int .i64 yb.n] 0
  rw [←HW7.out] at b1
  have k0:=HKd.out
  refine ⟨b1.os.trans k0.os,b1.tape.trans k0.tape,b1.output.trans k0.output,by have:=k0.size;have:=HS7.out.1;omega,fun k hk hn=>(HS7.out.2 k fun e=>?_).trans (k0.block k hk hn)⟩
  rw [e] at hk hn
  rcases HG6.out.2.2 gv rfl with h1 | h1
  ·exact hn h1
  omega
 exact ⟨by rw [show (pputE room (yQ L) t == 0)=false by simpa using HPZ.out];rfl,hk7,yb,L8,H6.ws.length,HEL8.out,F6,B6,H6,_,by rw [if_neg HPZ.out];exact hV7,HNM6.out,rfl,HG6.out⟩
theorem RX.rslQ {R S:Nat→Prop} {w:World} {ts:List T} {v:Value} (h:RX termE R S w ts v):RSl (fun b=>R b∨S b) w ts v:=by
 obtain ⟨a,cap,cs,rfl,h1,h2,h3⟩:=h
 exact RSl2.rsl ⟨a,cap,cs,rfl,h1,cells_termE.1 h2,h3⟩
theorem RQ.formT {P F:Nat→Prop} {w0 w:World} {bs:List (Nat×List Value)} {rs:List Rw} {v:Value} {us:List T} (h:RQ P F w0 bs w (rT v us :: rs)):∃ a c,v=.slice a us.length c:=by
 obtain ⟨a,c,e,-⟩:=(h.rx mS0).form
 exact ⟨a,c,e⟩
def MailI (w:World) (L:TW) (v3 v4:Value) (wr:World):Prop :=
 ∃ (k:Nat) (us:List T) (P:Nat→Prop),1≤k∧k≤L.length∧v4=.int .i64 (k:Int)∧us=((yQ L).take k).drop 1∧(∀ b,P b→w.heap.size≤b)∧RQ P (fun _=>False) w [] wr [rT v3 us]
theorem pmail_c (G:Nat→Prop) (w:World) (pb:Nat) (name:ByteArray) (room:Int) (nb u:Nat) (L:TW) (h:PrR G w pb name room nb u L []) (hl:1≤L.length∧L.length≤900) (hr:room≤1000) (hn:nb≤137438953472) :
  Calls Tryz.prog 20 #[.pointer (some ⟨pb,0,none⟩)] w fun e w'=>∃ v,e=.returned v∧Below w.heap.size w w'∧RSl (fun b=>w.heap.size≤b) w' ((yQ L).drop 1) v:=by
 have HH:=J h
 obtain ⟨F,B,H,v,hV,-⟩:=h
 obtain ⟨a0,c0,e0,-⟩:=hV.rx.form
 rw [wdsL_len] at e0
 subst e0
 have HV:=J hV
 clear hV
 go_enter Tryz.func20,Tryz.ntmps20
 go_wp2_with fail
 go_loopw [3,4] (fun v3 v4 wr=>MailI w L v3 v4 wr) (fun _ v4 _=>L.length - (intOf v4).toNat)
 case atStart=>exact ⟨1,[],fun _=>False,Nat.le_refl _,hl.1,rfl,by simp,fun _ h=>h.elim,(RQ.start (fun _=>False) w fun b hb=>hb.elim).nil termF⟩
 obtain ⟨k,us,P,hk1,hkl,rfl,hus,hP,hR⟩:=hrel
 have HUS:=J hus;have HP:=J hP;have HR:=J hR
 have y2:=(HV.out.below hR.bel).blk.cell 2 _ rfl
 obtain ⟨a3,c3,rfl⟩:=hR.formT
 have hul:us.length≤900:=by rw [hus];simp [yQ];omega
 have hbel:=hR.bel.size
 clear hus hP hR
 by_cases hlt:k < L.length
 ·have qk:(k:Int) < (L.length:Int):=by omega
  go_wp2_with fail
  refine (pget_c G wr pb name room nb u L [] (HH.out.below HR.out.bel) k hlt (by omega) hr hn).mono ?_
  rintro e w1 ⟨ar,cr,rfl,hB,hT⟩
  obtain ⟨t,ht⟩:∃ t,t=L[k].1:=⟨_,rfl⟩
  rw [←ht] at hT
  rw [←ht]
  have HT:=J hT;have HTE:=J ht
  have HR1:Hid (RQ (fun b=>P b∨(wr.heap.size≤b∧b < w1.heap.size)) (fun _=>False) w [] w1 [rT (.slice a3 us.length c3) us]):=J (HR.out.belowP hB)
  have HS1:=J hB.size
  clear hB hT ht y2
  obtain ⟨Wb,hWb⟩:=I (w1.alloc (.cells #[.int .i64 t.kind,.int .i64 t.n,.string t.name,.slice ar t.args.length cr] 25))
  obtain ⟨gz,hgz⟩:=I (w1.heap.size)
  have HRA:Hid (RQ (fun b=>P b∨(wr.heap.size≤b∧b < w1.heap.size)) (fun _=>False) w [(gz,[.int .i64 t.kind,.int .i64 t.n,.string t.name,.slice ar t.args.length cr])] Wb [rT (.slice a3 us.length c3) us]):=J (by rw [hWb];exact HR1.out.alloc #[.int .i64 t.kind,.int .i64 t.n,.string t.name,.slice ar t.args.length cr] _ hgz)
  have HTA:Hid (RT (fun b=>P b∨(wr.heap.size≤b∧b < w1.heap.size)) Wb t (.agg #[.int .i64 t.kind,.int .i64 t.n,.string t.name,.slice ar t.args.length cr])):=J (by rw [hWb];exact HT.out.to (fun b hb hl=>.inr ⟨hb,hl⟩) fun b _ hl=>(yA _ _).block b hl)
  have HWB:=J hWb
  have HGZ:=J hgz
  clear hWb hgz
  go_wp2_with (rw [←HWB.out,←HGZ.out];refine append_growQ _ _ rfl termF rfl [] [] (v:=.slice a3 us.length c3) (xs:=us) (y:=t) (g0:=gz) (c:=[.int .i64 t.kind,.int .i64 t.n,.string t.name,.slice ar t.args.length cr]) (by rfl) (by rfl) HRA.out mS0 (termE_of HTA.out) rfl (by omega) ?_;intro gn on cn wn hz hzg;have HZ:=J (hz.sub (bs':=[]) (by simp));clear hz hzg)
  go_roundw
  case rel =>
   refine ⟨k+1,us ++ [t],_,by omega,by omega,by go_num,?_,fun b hb=>?_,HZ.out⟩
   ·rw [List.take_add_one,List.getElem?_eq_getElem (by rw [tmsL_len];exact hlt),Option.toList_some,List.drop_append_of_le_length (by rw [List.length_take,tmsL_len];omega),←HUS.out,HTE.out]
    simp [yQ]
   rcases hb with hb | hb
   ·exact HP.out b hb
   omega
  case measure=>simp [intOf];omega
 have qk:¬(k:Int) < (L.length:Int):=by omega
 go_wp2_with fail
 go_ret
 have hk:k=L.length:=by omega
 have e:us=(yQ L).drop 1:=by rw [HUS.out,hk,List.take_of_length_le (by rw [tmsL_len];exact Nat.le_refl _)]
 refine ⟨_,rfl,HR.out.bel,?_⟩
 have h1:=RX.rslQ (HR.out.rx mS0)
 first | rw [←List.drop_one,←e] | rw [←e]
 exact h1.to (fun b hb _=>hb.elim (fun h=>(HR.out.lt mS0 b h).1) fun h=>HP.out b h) fun _ _ _=>rfl
theorem pfree_c (w:World):Calls Tryz.prog 65 #[] w fun e w'=>∃ v,e=.returned v∧Below w.heap.size w w'∧RSl (fun b=>w.heap.size≤b) w' freeL v:=by
 go_enter Tryz.func65,Tryz.ntmps65
 go_wp2_with fail
 refine (repeat_c _ w.heap.size (by go_simp) (by go_simp) (by go_simp) (by go_simp)).mono ?_
 rintro e w1 ⟨v,rfl,hB,hr⟩
 go_wp2_with fail
 go_ret
 exact ⟨_,rfl,(yA _ _).trans (hB.mono (by simp)),hr.mono fun b hb=>by simp at hb;omega⟩
structure Dst where
 bd:List T
 next:Int
 sends:List (Int×T)
 spawns:List (Int×ByteArray×T)
 links:List Int
 fate:Int
 bad:Bool
def pidTm (n:Int):T:=⟨3,n,⟨#[]⟩,[]⟩
def doA (self:Int) (d:Dst) (a:Deed):Dst :=
 if a.kind=1 then
  { d with sends:=d.sends ++ [((reckO d.bd self a.to).1.n,(reckO d.bd self a.what).1)],bad:=((d.bad || (reckO d.bd self a.to).2 != 0) || (reckO d.bd self a.to).1.kind != 3) || (reckO d.bd self a.what).2 != 0 }
 else if a.kind=2 then
  { d with spawns:=d.spawns ++ [(d.next,a.name,(reckO d.bd self a.what).1)],bad:=(d.bad || !((d.bd.getD a.var.toNat yJ).kind == 6)) || (reckO d.bd self a.what).2 != 0,bd:=d.bd.set a.var.toNat (pidTm d.next),next:=d.next+1 }
 else if a.kind=3 then
  { d with links:=d.links ++ [(reckO d.bd self a.to).1.n],bad:=(d.bad || (reckO d.bd self a.to).2 != 0) || (reckO d.bd self a.to).1.kind != 3 }
 else if a.kind=4 then { d with fate:=1 }
 else d
structure TakT where
 message:T
 fate:Int
 sends:List (Int×T)
 spawns:List (Int×ByteArray×T)
 links:List Int
def actO (room:Int) (self next:Int) (st:T) (ml:List T) (m:T) (c:Clau) (bd:List T):TakT×T :=
 let d:=c.acts.foldl (doA self) ⟨bd,next,[],[],[],0,false⟩
 let r:=reckO d.bd self c.next
 if (d.bad || r.2 != 0)=true then (⟨m,2,[],[],[]⟩,st)
 else if pputE room ml r.1=0 then (⟨m,d.fate,d.sends,d.spawns,d.links⟩,r.1)
 else (⟨m,3,[],[],[]⟩,st)
def stepO (cs:List Clau) (room:Int) (self next:Int) (st:T) (ml:List T):Option (TakT×T×List T) :=
 (msFirst cs st 1 ml).map fun x=>((actO room self next st (ml.eraseIdx (x.1 - 1)) (ml.getD (x.1 - 1) yJ) x.2.1 x.2.2).1,(actO room self next st (ml.eraseIdx (x.1 - 1)) (ml.getD (x.1 - 1) yJ) x.2.1 x.2.2).2,ml.eraseIdx (x.1 - 1))
theorem doA_len (self:Int) (d:Dst) (a:Deed) (h:d.bd.length=4):(doA self d a).bd.length=4:=by
 unfold doA
 repeat' split
 all_goals simp [h]
def sndE:El (Int×T) where
 k:=5
 C:=fun S w x cs=>∃ a cap,cs=[.int .i64 x.1,.int .i64 x.2.kind,.int .i64 x.2.n,.string x.2.name,.slice a x.2.args.length cap]∧RT S w x.2 (.agg #[.int .i64 x.2.kind,.int .i64 x.2.n,.string x.2.name,.slice a x.2.args.length cap])
 len:=by rintro S w x cs ⟨a,cap,rfl,-⟩;rfl
 one:=by rintro S w x cs ⟨a,cap,rfl,-⟩;simp [Value.oneCell']
 «to»:=by rintro S S' w w' x cs ⟨a,cap,rfl,h⟩ hs hc;exact ⟨a,cap,rfl,h.to hs hc⟩
def spnE:El (Int×ByteArray×T) where
 k:=6
 C:=fun S w x cs=>∃ a cap,cs=[.int .i64 x.1,.string x.2.1,.int .i64 x.2.2.kind,.int .i64 x.2.2.n,.string x.2.2.name,.slice a x.2.2.args.length cap]∧RT S w x.2.2 (.agg #[.int .i64 x.2.2.kind,.int .i64 x.2.2.n,.string x.2.2.name,.slice a x.2.2.args.length cap])
 len:=by rintro S w x cs ⟨a,cap,rfl,-⟩;rfl
 one:=by rintro S w x cs ⟨a,cap,rfl,-⟩;simp [Value.oneCell']
 «to»:=by rintro S S' w w' x cs ⟨a,cap,rfl,h⟩ hs hc;exact ⟨a,cap,rfl,h.to hs hc⟩
def sndF:ElT sndE where
 e:=103
 sl:=47
 bytes:=64
 z:=.agg #[.int .i64 0,.int .i64 0,.int .i64 0,.string ⟨#[]⟩,.slice none 0 0]
 hund:=Tryz.underlying47
 info:=by kernel_rfl
 hzs:=rfl
 hk:=by decide
 hb:=by decide
def spnF:ElT spnE where
 e:=108
 sl:=48
 bytes:=80
 z:=.agg #[.int .i64 0,.string ⟨#[]⟩,.int .i64 0,.int .i64 0,.string ⟨#[]⟩,.slice none 0 0]
 hund:=Tryz.underlying48
 info:=by kernel_rfl
 hzs:=rfl
 hk:=by decide
 hb:=by decide
def lnkF:ElT intE where
 e:=3
 sl:=41
 bytes:=8
 z:=.int .i64 0
 hund:=Tryz.underlying41
 info:=info3
 hzs:=rfl
 hk:=by decide
 hb:=by decide
def rSnd (v:Value) (l:List (Int×T)):Rw:=⟨_,sndE,sndF,v,l⟩
def rSpn (v:Value) (l:List (Int×ByteArray×T)):Rw:=⟨_,spnE,spnF,v,l⟩
def rLnk (v:Value) (l:List Int):Rw:=⟨_,intE,lnkF,v,l⟩
theorem RQ.moreK {P F:Nat→Prop} {w0 w w':World} {bs:List (Nat×List Value)} {rs:List Rw} (h:RQ P F w0 bs w rs) (hK:Keep F w w') :
  RQ (fun b=>P b∨(w.heap.size≤b∧b < w'.heap.size)) F w0 bs w' rs:=by
 have h1:=h.keep hK fun b hb=>⟨.inl hb,by have:=(h.fh b hb).2.1;have:=hK.size;omega⟩
 have hs:=hK.size
 refine ⟨h1.bel,fun b hb=>?_,fun r hr=>?_,h1.ap,h1.fh,h1.bk⟩
 ·rcases hb with hb | hb
  ·exact h1.pb b hb
  exact ⟨hb.2,fun hf=>by have:=(h.fh b hf).2.1;omega,fun r hr e=>by have:=(h.lt hr b e).2;omega⟩
 obtain ⟨cs,h2,h3⟩:=h1.ok r hr
 exact ⟨cs,h2,h3.to (fun b hb _=>⟨.inl hb.1,hb.2⟩) fun _ _ _=>rfl⟩
theorem OwnG.mono {P P':Nat→Prop} {base:Nat} {w:World} {v:Value} {ts:List T} (h:OwnG P base w v ts) (hp:∀ b,P b→P' b):OwnG P' base w v ts :=
 OwnT.to h (Nat.le_refl _) (fun b hb _=>⟨hp b hb.1,hb.2⟩) fun _ _ _=>rfl
theorem OwnG.rslO {P:Nat→Prop} {base:Nat} {w:World} {v:Value} {ts:List T} (h:OwnG P base w v ts):RSl (fun b=>v.ownBlock=some b∨P b) w ts v :=
 (OwnT.rsl2 h).rsl.mono fun b hb=>hb.imp id (·.1)
structure DoM (P Qz:Nat→Prop) (wz w0 w:World) (db bb bc:Nat) (cs:List Value) (bd:List T) (bs:List (Nat×List Value)) (rs:List Rw):Prop where
 rq:RQ P (fun b=>b=db∨b=bb) w0 bs w rs
 blk:Blk w db cs
 bd:OwnG P w0.heap.size w (.slice (some ⟨bb,0,none⟩) 4 bc) bd
 ne:db≠bb
 qp:∀ b,Qz b→P b
 qf:∀ b,Qz b→w.heap[b]?=wz.heap[b]?
section
variable {P P' Qz:Nat→Prop} {wz w0 w w':World} {db bb bc:Nat} {cs cs':List Value} {bd:List T} {bs:List (Nat×List Value)} {rs:List Rw}
theorem DoM.lt (h:DoM P Qz wz w0 w db bb bc cs bd bs rs):w0.heap.size≤db∧db < w.heap.size∧w0.heap.size≤bb∧bb < w.heap.size:=⟨(h.rq.fh db (.inl rfl)).1,(h.rq.fh db (.inl rfl)).2.1,(h.rq.fh bb (.inr rfl)).1,(h.rq.fh bb (.inr rfl)).2.1⟩
theorem DoM.pn (h:DoM P Qz wz w0 w db bb bc cs bd bs rs) {b:Nat} (hb:P b):b < w.heap.size∧b≠db∧b≠bb:=⟨(h.rq.pb b hb).1,fun e=>(h.rq.pb b hb).2.1 (.inl e),fun e=>(h.rq.pb b hb).2.1 (.inr e)⟩
theorem DoM.rslB (h:DoM P Qz wz w0 w db bb bc cs bd bs rs):RSl (fun b=>b < w.heap.size∧b≠db) w bd (.slice (some ⟨bb,0,none⟩) 4 bc):=by
 refine h.bd.rslO.mono fun b hb=>?_
 rcases hb with hb | hb
 ·obtain rfl:bb=b:=by simpa [Value.ownBlock] using hb
  exact ⟨h.lt.2.2.2,fun e=>h.ne e.symm⟩
 exact ⟨(h.pn hb).1,(h.pn hb).2.1⟩
theorem DoM.cell (h:DoM P Qz wz w0 w db bb bc cs bd bs rs) {g:Nat} {c:List Value} (hg:(g,c)∈bs) (j:Nat) (u:Value) (hu:c[j]?=some u):w.cell? ⟨g,j,none⟩=some u:=h.rq.cell hg j u hu
theorem DoM.sub (h:DoM P Qz wz w0 w db bb bc cs bd bs rs) {bs':List (Nat×List Value)} (hs:∀ p∈bs',p∈bs):DoM P Qz wz w0 w db bb bc cs bd bs' rs:=⟨h.rq.sub hs,h.blk,h.bd,h.ne,h.qp,h.qf⟩
theorem DoM.below (h:DoM P Qz wz w0 w db bb bc cs bd bs rs) (hB:Below w.heap.size w w'):DoM P Qz wz w0 w' db bb bc cs bd bs rs:=⟨h.rq.below hB,h.blk.step hB,h.bd.below hB,h.ne,h.qp,fun b hb=>(hB.block b (h.pn (h.qp b hb)).1).trans (h.qf b hb)⟩
theorem DoM.alloc (h:DoM P Qz wz w0 w db bb bc cs bd bs rs) (c:Array Value) (e:TypeId) {g:Nat} (hg:g=w.heap.size):DoM P Qz wz w0 (w.alloc (.cells c e)) db bb bc cs bd ((g,c.toList) :: bs) rs:=⟨h.rq.alloc c e hg,h.blk.alloc _,h.bd.alloc _,h.ne,h.qp,fun b hb=>((yA w _).block b (h.pn (h.qp b hb)).1).trans (h.qf b hb)⟩
theorem DoM.keep (h:DoM P Qz wz w0 w db bb bc cs bd bs rs) (hK:Keep (fun b=>b=db) w w') (hX:Blk w' db cs'):DoM (fun b=>P b∨(w.heap.size≤b∧b < w'.heap.size)) Qz wz w0 w' db bb bc cs' bd bs rs:=by
 refine ⟨h.rq.moreK (hK.mono fun b _ hb=>.inl hb),hX,(h.bd.to hK.size fun b hb hl=>hK.block b hl ?_).mono fun b hb=>.inl hb,h.ne,fun b hb=>.inl (h.qp b hb),fun b hb=>(hK.block b (h.pn (h.qp b hb)).1 (h.pn (h.qp b hb)).2.1).trans (h.qf b hb)⟩
 rcases hb with hb | hb
 ·exact (h.pn hb).2.1
 obtain rfl:bb=b:=by simpa [Value.ownBlock] using hb
 exact fun e=>h.ne e.symm
theorem DoM.set (h:DoM P Qz wz w0 w db bb bc cs bd bs rs) (j:Nat) (u:Value) (hj:j < cs.length):DoM P Qz wz w0 (w.setCell ⟨db,j,none⟩ u) db bb bc (cs.set j u) bd bs rs:=by
 have hK:Keep (fun b=>b=db∨b=bb) w (w.setCell ⟨db,j,none⟩ u):=(Keep.refl _ _).setCell _ (.inl (.inl rfl))
 refine ⟨h.rq.keep hK fun b hb=>⟨.inl hb,?_⟩,h.blk.set j u hj,h.bd.to (by simp) fun b hb hl=>yD w db j u b ?_,h.ne,h.qp,fun b hb=>(yD w db j u b (h.pn (h.qp b hb)).2.1).trans (h.qf b hb)⟩
 ·rcases hb with rfl | rfl
  ·simpa using h.lt.2.1
  simpa using h.lt.2.2.2
 rcases hb with hb | hb
 ·exact (h.pn hb).2.1
 obtain rfl:bb=b:=by simpa [Value.ownBlock] using hb
 exact fun e=>h.ne e.symm
theorem DoM.grown {l1 l2:List Rw} {r:Rw} {rs':List Rw} (h:DoM P Qz wz w0 w db bb bc cs bd bs (l1 ++ r :: l2)) (hg:w.grownBy w' r.v.ownBlock) (hq:RQ P (fun b=>b=db∨b=bb) w0 bs w' rs'):DoM P Qz wz w0 w' db bb bc cs bd bs rs':=by
 refine ⟨hq,h.blk.heap (h.rq.stay hg db (.inr (.inl rfl))),h.bd.to hg.size fun b hb _=>h.rq.stay hg b ?_,h.ne,h.qp,fun b hb=>(h.rq.stay hg b (.inl (h.qp b hb))).trans (h.qf b hb)⟩
 rcases hb with hb | hb
 ·exact .inl hb
 obtain rfl:bb=b:=by simpa [Value.ownBlock] using hb
 exact .inr (.inr rfl)
theorem DoM.store {k:Nat} {t:T} {c0 c1 c2 c3:Value} (h:DoM P Qz wz w0 w db bb bc cs bd bs rs) (hk:k < bd.length) (hr:RT P w t (.agg #[c0,c1,c2,c3])) :
  DoM P Qz wz w0 ((((w.setCell ⟨bb,k * 4,none⟩ c0).setCell ⟨bb,k * 4+1,none⟩ c1).setCell ⟨bb,k * 4+2,none⟩ c2).setCell ⟨bb,k * 4+3,none⟩ c3) db bb bc cs (bd.set k t) bs rs:=by
 have hK:Keep (fun b=>b=db∨b=bb) w ((((w.setCell ⟨bb,k * 4,none⟩ c0).setCell ⟨bb,k * 4+1,none⟩ c1).setCell ⟨bb,k * 4+2,none⟩ c2).setCell ⟨bb,k * 4+3,none⟩ c3):=by
  refine Keep.setCell ?_ _ (.inl (.inr rfl))
  refine Keep.setCell ?_ _ (.inl (.inr rfl))
  refine Keep.setCell ?_ _ (.inl (.inr rfl))
  exact (Keep.refl _ _).setCell _ (.inl (.inr rfl))
 refine ⟨h.rq.keep hK fun b hb=>⟨.inl hb,?_⟩,h.blk.heap ?_,h.bd.store hk hr fun b hb _=>⟨hb,(h.pn hb).2.2⟩,h.ne,h.qp,fun b hb=>?_⟩
 ·rcases hb with rfl | rfl
  ·simpa using h.lt.2.1
  simpa using h.lt.2.2.2
 ·simp only [yD _ _ _ _ _ h.ne]
 have hn:=(h.pn (h.qp b hb)).2.2
 simp only [yD _ _ _ _ _ hn]
 exact h.qf b hb
theorem DoM.there (h:DoM P Qz wz w0 w db bb bc cs bd bs rs) {k:Nat} (hk:k < bd.length):w.there bb (k * 4) 4:=by
 obtain ⟨ab,capb,eb,-,hrb⟩:=h.rslB
 simp only [Value.slice.injEq] at eb
 obtain ⟨rfl,-,rfl⟩:=eb
 obtain ⟨ua,uc,-,d0,d1,d2,d3,-⟩:=hrb.elem k hk
 (try simp only [Nat.zero_add] at d0 d1 d2 d3)
 have hf:=h.bd.frozen
 intro j hj
 match j,hj with
 | 0,_=>exact ⟨by rw [show k * 4+0=k * 4 from rfl,d0];rfl,hf _⟩
 | 1,_=>exact ⟨by rw [d1];rfl,hf _⟩
 | 2,_=>exact ⟨by rw [d2];rfl,hf _⟩
 | 3,_=>exact ⟨by rw [d3];rfl,hf _⟩
end
def outC (fate:Int) (vs vp vl:Value):List Value:=[.int .i64 0,.int .i64 0,.string ⟨#[]⟩,.slice none 0 0,.int .i64 fate,vs,vp,vl]
def DoS (P Qz:Nat→Prop) (wz w0 w:World) (db bb bc:Nat) (self:Int) (d:Dst) (bs:List (Nat×List Value)) (vs vp vl:Value):Prop :=
 DoM P Qz wz w0 w db bb bc (doerC (.slice (some ⟨bb,0,none⟩) 4 bc) self d.next (outC d.fate vs vp vl) d.bad) d.bd bs [rSnd vs d.sends,rSpn vp d.spawns,rLnk vl d.links]
theorem bulk_pidTm (n:Int):yC [pidTm n]=1:=by simp [pidTm,yG,yC,ByteArray.size]
theorem bulk_zeroT:yC [yJ]=1:=by simp [yJ,yG,yC,ByteArray.size]
theorem reckO_small (bd:List T) (self:Int) (x:T):yC [(reckO bd self x).1]≤1809:=by
 have hz:=bulk_zeroT
 unfold reckO
 repeat' split
 ·show yC [yJ]≤_;omega
 ·show yC [yJ]≤_;omega
 ·show yC [yJ]≤_;omega
 ·rename_i t h
  unfold valF at h
  obtain ⟨u,hu,h⟩:=Option.bind_eq_some_iff.1 h
  split at h
  ·rename_i hc
   simp only [Option.some.injEq] at h
   subst h
   exact chk_bulk hc
  cases h
 show yC [yJ]≤_;omega
theorem doA_small (self:Int) (d:Dst) (a:Deed) (h:∀ t∈d.bd,yC [t]≤2000):∀ t∈(doA self d a).bd,yC [t]≤2000:=by
 have hp:=bulk_pidTm d.next
 intro t ht
 unfold doA at ht
 repeat' split at ht
 ·exact h t ht
 ·rcases List.mem_or_eq_of_mem_set ht with h1 | h1
  ·exact h t h1
  subst h1;omega
 ·exact h t ht
 ·exact h t ht
 exact h t ht
theorem doA_rows (self:Int) (d:Dst) (a:Deed) {n:Nat} (h:d.sends.length≤n∧d.spawns.length≤n∧d.links.length≤n):(doA self d a).sends.length≤n+1∧(doA self d a).spawns.length≤n+1∧(doA self d a).links.length≤n+1:=by
 unfold doA
 repeat' split
 all_goals (refine ⟨?_,?_,?_⟩ <;> (try simp) <;> omega)
def actsOk (c:Clau):Prop:=c.acts.length≤8∧∀ d∈c.acts,d.kind=2→0≤d.var∧d.var≤3
theorem toA_prog {l:List Behv} (h:(toA l).2=0):progOk l=true:=by
 cases e:progOk l
 ·unfold toA at h;rw [e] at h;simp at h
 rfl
theorem toA_clau {l:List Behv} (h:(toA l).2=0) {b:Behv} (hb:b∈l):b.clauses.length≤6∧∀ c∈b.clauses,actsOk c:=by
 have hp:=toA_prog h
 unfold progOk at hp
 simp only [Bool.and_eq_true,decide_eq_true_eq] at hp
 have h1:=List.all_eq_true.1 hp.2 b hb
 unfold behvOk at h1
 simp only [Bool.and_eq_true,decide_eq_true_eq] at h1
 refine ⟨h1.1.2.2,fun c hc=>?_⟩
 have h2:=List.all_eq_true.1 h1.2 c hc
 unfold clauOk at h2
 simp only [Bool.and_eq_true,decide_eq_true_eq] at h2
 refine ⟨h2.1,fun d hd hk=>?_⟩
 have h3:=List.all_eq_true.1 h2.2 d hd
 unfold deedOk at h3
 rw [if_neg (by omega),if_pos hk] at h3
 simp only [Bool.and_eq_true,decide_eq_true_eq] at h3
 omega
def zeroTak:TakT:=⟨yJ,0,[],[],[]⟩
def stepE (l:List Behv) (name:ByteArray) (room self next:Int) (us:List T):(TakT×Int)×List T :=
 if (toA l).2≠0 then ((zeroTak,(toA l).2),us)
 else if self < 1∨99 < self∨next < 1∨92 < next then ((zeroTak,1),us)
 else if namedI name l < 0 then ((zeroTak,4),us)
 else match stepO (l.getD (namedI name l).toNat ⟨⟨#[]⟩,[]⟩).clauses room self next (us.getD 0 yJ) us.tail with
  | none=>((zeroTak,4),us)
  | some x=>((x.1,0),x.2.1 :: x.2.2)
def takC (S:Nat→Prop) (w:World) (t:TakT) (cs:List Value):Prop :=
 ∃ a cap vs vp vl,cs=[.int .i64 t.message.kind,.int .i64 t.message.n,.string t.message.name,.slice a t.message.args.length cap,.int .i64 t.fate,vs,vp,vl]∧RT S w t.message (.agg #[.int .i64 t.message.kind,.int .i64 t.message.n,.string t.message.name,.slice a t.message.args.length cap]) ∧
  RX sndE S S w t.sends vs∧RX spnE S S w t.spawns vp∧RX intE S S w t.links vl
theorem takC.to {S S':Nat→Prop} {w w':World} {t:TakT} {cs:List Value} (h:takC S w t cs) (hs:∀ b,S b→b < w.heap.size→S' b) (hc:∀ b,S b→b < w.heap.size→w'.heap[b]?=w.heap[b]?):takC S' w' t cs:=by
 obtain ⟨a,cap,vs,vp,vl,rfl,h1,h2,h3,h4⟩:=h
 exact ⟨a,cap,vs,vp,vl,rfl,h1.to hs hc,h2.to hs hs fun b hb=>hc b (hb.elim id id),h3.to hs hs fun b hb=>hc b (hb.elim id id),h4.to hs hs fun b hb=>hc b (hb.elim id id)⟩
theorem zeroTak_c (S:Nat→Prop) (w:World):takC S w zeroTak [.int .i64 0,.int .i64 0,.string ⟨#[]⟩,.slice none 0 0,.int .i64 0,.slice none 0 0,.slice none 0 0,.slice none 0 0] :=
 ⟨none,0,_,_,_,rfl,zeroT_rt _ _,RX.nil _ _ _,RX.nil _ _ _,RX.nil _ _ _⟩
def StepP (G:Nat→Prop) (w:World) (pb:Nat) (name:ByteArray) (room:Int) (nb:Nat) (r:(TakT×Int)×List T) (e:Ending) (w':World):Prop :=
 ∃ cs,e=.returned (.tuple #[.agg cs.toArray,.int .i64 r.1.2])∧takC (fun b=>w.heap.size≤b) w' r.1.1 cs∧Keep G w w'∧∃ (L':TW) (u':Nat),yQ L'=r.2∧PrR (fun b=>G b∨w.heap.size≤b) w' pb name room (nb+4000) u' L' []
def QR (S:Nat→Prop) (w:World) (qb:Nat) (name:ByteArray) (room:Int) (st:T) (ml:List T):Prop :=
 ∃ (a:Option Addr) (c:Nat) (vm:Value),Blk w qb [.string name,.int .i64 room,.int .i64 st.kind,.int .i64 st.n,.string st.name,.slice a st.args.length c,vm]∧RT S w st (.agg #[.int .i64 st.kind,.int .i64 st.n,.string st.name,.slice a st.args.length c])∧RSl S w ml vm∧∀ b,S b→b < w.heap.size∧b≠qb
section
variable {S:Nat→Prop} {w w':World} {qb:Nat} {name:ByteArray} {room:Int} {st:T} {ml:List T}
theorem QR.to (h:QR S w qb name room st ml) (hl:w.heap.size≤w'.heap.size) (hc:∀ b,(S b∨b=qb)→b < w.heap.size→w'.heap[b]?=w.heap[b]?):QR S w' qb name room st ml:=by
 obtain ⟨a,c,vm,h1,h2,h3,h4⟩:=h
 exact ⟨a,c,vm,⟨by have:=h1.lt;omega,fun j u hu=>(World.cell?_of_block (hc qb (.inr rfl) h1.lt)).trans (h1.cell j u hu),fun o=>(World.frozen?_of_block (hc qb (.inr rfl) h1.lt)).trans (h1.fr o)⟩,h2.to (fun _ h _=>h) fun b hb hl=>hc b (.inl hb) hl,h3.to (fun _ h _=>h) fun b hb hl=>hc b (.inl hb) hl,fun b hb=>⟨by have:=(h4 b hb).1;omega,(h4 b hb).2⟩⟩
theorem QR.below (h:QR S w qb name room st ml) (hB:Below w.heap.size w w'):QR S w' qb name room st ml:=h.to hB.size fun b _ hl=>hB.block b hl
theorem QR.lt (h:QR S w qb name room st ml):qb < w.heap.size:=by obtain ⟨a,c,vm,h1,-⟩:=h;exact h1.lt
end
def RNewP (S:Nat→Prop) (w:World) (name:ByteArray) (room:Int) (t:T) (e:Ending) (w':World):Prop :=
 Below w.heap.size w w'∧((newE name room t≠0∧e=.returned (.tuple #[.pointer none,.int .i64 (newE name room t)])) ∨
  (newE name room t=0∧∃ qb,e=.returned (.tuple #[.pointer (some ⟨qb,0,none⟩),.int .i64 0])∧w.heap.size≤qb∧QR S w' qb name room t []))
theorem rnewp_c (name:ByteArray) (room:Int) (t:T) (S:Nat→Prop) (w:World) (v:Value) (hv:RT S w t v) (hS:∀ b,S b→b < w.heap.size) (hb:yC [t]≤4294967296) (hs:name.size≤1099511627776) :
  Calls Tryz.prog 5 #[.string name,v,.int .i64 room] w (RNewP S w name room t):=by
 obtain ⟨a,cap,rfl,hcap,hrt⟩:=hv
 obtain ⟨W0,hW0⟩:=I (w.alloc (.cells #[.int .i64 t.kind,.int .i64 t.n,.string t.name,.slice a t.args.length cap] 25))
 obtain ⟨g4,hg4⟩:=I (w.heap.size)
 have HB0:Hid (Below w.heap.size w W0):=J (by rw [hW0];exact yA _ _)
 have HX4:Hid (Blk W0 g4 [.int .i64 t.kind,.int .i64 t.n,.string t.name,.slice a t.args.length cap]):=J (by rw [hW0];exact Blk.new _ _ _ _ hg4)
 have HT0:Hid (RT S W0 t (.agg #[.int .i64 t.kind,.int .i64 t.n,.string t.name,.slice a t.args.length cap])):=J (RT.below ⟨a,cap,rfl,hcap,hrt⟩ HB0.out)
 have HSS:=J hS
 obtain ⟨x0,x1,x2,x3⟩:=HX4.out.c4 0 1 2 3
 clear hcap hrt hS
 go_enter Tryz.func5,Tryz.ntmps5
 go_upto_region 1 with fail
 rw [←hW0,←hg4]
 clear hW0 hg4
 go_wp2_with fail
 refine (rname_c name W0 hs).mono ?_
 rintro e wn ⟨rfl,rfl⟩
 by_cases hn:nameB name=false
 ·have HE:Hid (newE name room t=5):=J (by unfold newE;rw [if_pos hn])
  rw [hn]
  clear hn
  go_wp2_with fail
  go_ret2
  exact ⟨HB0.out,.inl ⟨by rw [HE.out];decide,by rw [HE.out];rfl⟩⟩
 have hn':nameB name=true:=by simpa using hn
 rw [hn']
 go_wp2_with fail
 refine (in_c room 0 1000 W0).mono ?_
 rintro e wi ⟨rfl,rfl⟩
 by_cases hr:room < 0∨1000 < room
 ·have HE:Hid (newE name room t=1):=J (by unfold newE;rw [if_neg hn,if_pos hr])
  have hi:inB room 0 1000=false:=by simp [inB];omega
  rw [hi]
  clear hn hn' hr hi
  go_wp2_with fail
  go_ret2
  exact ⟨HB0.out,.inl ⟨by rw [HE.out];decide,by rw [HE.out];rfl⟩⟩
 have HE0:Hid (newE name room t=pputE room [] t):=J (by unfold newE;rw [if_neg hn,if_neg hr])
 have hi:inB room 0 1000=true:=by simp [inB];omega
 rw [hi]
 clear hn hn' hr hi
 go_wp2_with fail
 refine (rputable_c t S W0 _ HT0.out (fun b hb=>by have:=HSS.out b hb;have:=HB0.out.size;omega) (by omega)).mono ?_
 rintro e w1 ⟨rfl,hB1⟩
 have HB1:=J hB1
 have HBW:Hid (Below w.heap.size w w1):=J (yB HB0.out HB0.out.size hB1)
 obtain ⟨x0,x1,x2,x3⟩:=(HX4.out.step hB1).c4 0 1 2 3
 clear hB1
 by_cases hp:putE t=0
 rotate_left 1
 ·have HE:Hid (newE name room t=putE t):=J (by rw [HE0.out];unfold pputE;rw [if_pos hp])
  have HNE:=J hp
  have hpb:(putE t != 0)=true:=by simpa using hp
  clear hp
  go_wp2_with fail
  go_ret2
  exact ⟨HBW.out,.inl ⟨by rw [HE.out];exact HNE.out,by rw [HE.out];rfl⟩⟩
 have HP0:=J hp
 rw [hp]
 clear hp
 go_wp2_with fail
 refine (rsize_c t S w1 _ (HT0.out.below HB1.out) (by omega)).mono ?_
 rintro e w2 ⟨rfl,hB2⟩
 have HBW2:Hid (Below w.heap.size w w2):=J (yB HBW.out HBW.out.size hB2)
 have HT2:=J ((HT0.out.below HB1.out).below hB2)
 have HX2:=J ((HX4.out.step HB1.out).step hB2)
 obtain ⟨x0,x1,x2,x3⟩:=HX2.out.c4 0 1 2 3
 clear hB2
 have hz:szL ([]:List T)=0:=by simp [szL]
 by_cases hf:room < (szL [t]:Int)
 ·have HE:Hid (newE name room t=6):=J (by rw [HE0.out];unfold pputE;rw [if_neg (by simp [HP0.out]),if_pos (by rw [hz];omega)])
  clear hz
  go_wp2_with fail
  go_ret2
  exact ⟨HBW2.out,.inl ⟨by rw [HE.out];decide,by rw [HE.out];rfl⟩⟩
 have HE:Hid (newE name room t=0):=J (by rw [HE0.out];unfold pputE;rw [if_neg (by simp [HP0.out]),if_neg (by rw [hz];omega)])
 have hf':(szL [t]:Int)≤room:=by omega
 clear hf hz
 go_wp2_with fail
 go_ret2
 refine ⟨HBW2.out.trans ((yA _ _).mono HBW2.out.size),.inr ⟨HE.out,w2.heap.size,rfl,HBW2.out.size,a,cap,.slice none 0 0,Blk.new _ _ _ _ rfl,HT2.out.alloc _,⟨none,0,rfl,⟨Nat.le_refl _,fun _=>rfl⟩,by simp [RTs]⟩,fun b hb=>?_⟩⟩
 have h1:=HSS.out b hb
 have h2:=HBW2.out.size
 exact ⟨by simp;omega,by omega⟩
theorem rlive_c (S:Nat→Prop) (w:World) (qb:Nat) (name:ByteArray) (room:Int) (st:T) (ml:List T) (h:QR S w qb name room st ml) (hs:yC [st]≤1099511627776) (hm:∀ m∈ml,yC [m]≤1099511627776) (hz:szL (st :: ml)≤1099511627776) (hl:ml.length≤1099511627776) :
  Calls Tryz.prog 15 #[.pointer (some ⟨qb,0,none⟩)] w fun e w'=>e=.returned (.int .i64 (szL (st :: ml):Nat))∧Below w.heap.size w w':=by
 obtain ⟨a,c,vm,hX,hT,⟨am,cm,rfl,hcm,hrm⟩,hS⟩:=h
 have HX:=J hX;have HT:=J hT;have HM:=J hrm;have HMB:=J hm
 obtain ⟨x2,x3,x4,x5⟩:=hX.c4 2 3 4 5
 clear hX hT hrm hm hS hcm
 go_enter Tryz.func15,Tryz.ntmps15
 go_wp2_with fail
 refine (rsize_c st S w _ HT.out hs).mono ?_
 rintro e w1 ⟨rfl,hB1⟩
 have HB1:=J hB1
 clear hB1 x2 x3 x4 x5
 go_wp2_with fail
 go_loopw [3,4] (fun v3 v4 wr=>∃ k:Nat,k≤ml.length∧v4=.int .i64 (k:Int)∧v3=.int .i64 (szL (st :: ml.take k):Nat)∧Below w.heap.size w wr) (fun _ v4 _=>ml.length - (intOf v4).toNat)
 case atStart=>exact ⟨0,Nat.zero_le _,rfl,rfl,HB1.out⟩
 obtain ⟨k,hk,rfl,rfl,hB⟩:=hrel
 have HB:=J hB
 have x6:=(HX.out.step hB).cell 6 _ rfl
 clear hB
 by_cases hlt:k < ml.length
 ·obtain ⟨b6,o6,rfl⟩:=HM.out.addr (by omega)
  obtain ⟨a6,c6,-,d0,d1,d2,d3,hE⟩:=(HM.out.below HB.out).elem k hlt
  obtain ⟨mm,hmm⟩:∃ t,t=ml[k]:=⟨_,rfl⟩
  have hadd:IntKind.i64.wrap ((szL (st :: ml.take k):Int)+(szL [ml[k]]:Int))=((szL (st :: ml.take (k+1)):Nat):Int):=by
   have h1:szL (st :: ml.take (k+1))=szL (st :: ml.take k)+szL [ml[k]]:=by rw [take_snoc' ml k hlt,←List.cons_append,szL_append]
   have h2:szL (st :: ml)=szL (st :: ml.take (k+1))+szL (ml.drop (k+1)):=by
    have e:st :: ml=(st :: ml.take (k+1)) ++ ml.drop (k+1):=by simp
    rw [e,szL_append];first | done | simp
   rw [IntKind.wrap_i64];omega
  have hwk:IntKind.i64.wrap ((k:Int)+1)=(k:Int)+1:=by rw [IntKind.wrap_i64];omega
  rw [←hmm] at d0 d1 d2 d3 hE hadd
  have HE:=J hE;have HMM:Hid (yC [mm]≤1099511627776):=J (HMB.out mm (by rw [hmm];exact List.getElem_mem hlt))
  have qk:(k:Int) < (ml.length:Int):=by omega
  clear hE hmm
  go_wp2_with fail
  refine (rsize_c mm S _ _ HE.out HMM.out).mono ?_
  rintro e w2 ⟨rfl,hB2⟩
  have HB2:Hid (Below w.heap.size w w2):=J (yB HB.out HB.out.size hB2)
  clear hB2 d0 d1 d2 d3 x6
  go_wp2_with fail
  go_roundw
  case rel=>exact ⟨k+1,by omega,by first | rfl | (congr 1) | go_num,by first | rfl | rw [hadd],HB2.out⟩
  case measure=>simp [intOf];omega
 have hkk:k=ml.length:=by omega
 have HKK:Hid (szL (st :: ml)=szL (st :: ml.take k)):=J (by rw [hkk,List.take_of_length_le (Nat.le_refl _)])
 have qk:¬(k:Int) < (ml.length:Int):=by omega
 clear hkk
 go_wp2_with fail
 go_ret
 exact ⟨by rw [HKK.out];rfl,HB.out⟩
end Go.Proofs.YtedfepnekjjmnabGreat
