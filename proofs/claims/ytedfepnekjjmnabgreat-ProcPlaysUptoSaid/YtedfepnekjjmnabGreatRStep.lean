/-
  The reference's Step. Conditions: it lies as said; the program is one; bounds.
-/
import Derived.Test.YtedfepnekjjmnabGreatJk
namespace Go.Proofs.YtedfepnekjjmnabGreat
open Go.RowKit
set_option linter.unusedSimpArgs false
set_option linter.unusedVariables false
set_option maxRecDepth 100000
set_option maxHeartbeats 16000000
theorem rstep_c (S Sc:Nat→Prop) (w:World) (qb:Nat) (name:ByteArray) (room:Int) (st:T) (ml:List T) (l:List Behv) (al:Option Addr) (cl:Nat) (self next:Int) (h:QR S w qb name room st ml) (hv:RX behvE Sc Sc w l (.slice al l.length cl)) (hS:∀ b,Sc b→b < w.heap.size∧b≠qb)
  (hto:(toA l).2=0) (hsn:¬(self < 1∨99 < self∨next < 1∨92 < next)) (hbl:behvsB l≤1048576) (hck:∀ x∈st :: ml,yE x=0∧yF [x]=true∧yC [x]≤2000) (hz:szL (st :: ml)≤1000) (hr:0≤room∧room≤1000) (hl:ml.length≤100) :
  Calls Tryz.prog 10 #[.pointer (some ⟨qb,0,none⟩),.slice al l.length cl,.int .i64 self,.int .i64 next] w (RStepP S Sc w qb name room (stepE l name room self next (st :: ml))):=by
 have HQ0:=J h
 obtain ⟨a,c0,vm,hX,hT,hM,hSS⟩:=h
 obtain ⟨am,cm,rfl,hcm,hrm⟩:=hM
 obtain ⟨W0,hW0⟩:=I (w.alloc (.cells #[.int .i64 0,.int .i64 0,.string ⟨#[]⟩,.slice none 0 0,.int .i64 0,.slice none 0 0,.slice none 0 0,.slice none 0 0] 43))
 obtain ⟨g8,hg8⟩:=I (w.heap.size)
 have HB0:Hid (Below w.heap.size w W0):=J (by rw [hW0];exact yA _ _)
 have HX8:Hid (Blk W0 g8 [.int .i64 0,.int .i64 0,.string ⟨#[]⟩,.slice none 0 0,.int .i64 0,.slice none 0 0,.slice none 0 0,.slice none 0 0]):=J (by rw [hW0];exact Blk.new _ _ _ _ hg8)
 have HG8:Hid (g8=w.heap.size∧W0.heap.size=w.heap.size+1):=J ⟨hg8,by rw [hW0];simp⟩
 have HXQ:Hid (Blk w qb [.string name,.int .i64 room,.int .i64 st.kind,.int .i64 st.n,.string st.name,.slice a st.args.length c0,.slice am ml.length cm]):=J hX
 have HTS:Hid (RT S w st (.agg #[.int .i64 st.kind,.int .i64 st.n,.string st.name,.slice a st.args.length c0])):=J hT
 have HML:Hid (RX termE S S w ml (.slice am ml.length cm)):=J (RSl.rxT ⟨am,cm,rfl,hcm,hrm⟩)
 have HRM:Hid (RTs S w ml am 0):=J hrm
 have HCM:Hid (CapOk am ml.length cm):=J hcm
 have HQL:Hid (qb < w.heap.size):=J hX.lt
 have HSS:=J hSS;have HV:=J hv;have HSC:=J hS;have HTO:=J hto;have HSN:=J hsn;have HBL:=J hbl;have HCK:=J hck;have HZ:=J hz;have HR:=J hr;have HLL:=J hl
 have hlen:=behvsB_len l
 have hll:l.length≤1099511627776:=by omega
 have HBB:Hid (behvsB l≤1048576):=J hbl
 have x0:=(HXQ.out.step HB0.out).cell 0 _ rfl
 clear hX hT hcm hrm hSS hv hS hto hsn hbl hck hz hr hlen
 go_enter Tryz.func10,Tryz.ntmps10
 go_upto_region 1 with fail
 rw [←hW0,←hg8]
 clear hW0 hg8
 go_wp2_with fail
 refine (rnamed_c l name Sc al cl W0 (HV.out.below HB0.out) hll).mono ?_
 rintro e wn ⟨he,hwn⟩
 subst he
 obtain rfl:W0=wn:=hwn.symm
 rcases namedI_cases name l with hni | ⟨k,hni,hk⟩
 ·have HSE:Hid (stepE l name room self next (st :: ml)=((zeroTak,4),st :: ml)):=J (stepE_name HTO.out HSN.out hni)
  rw [hni]
  clear hni x0
  go_wp2_with (first | (refine yI 43 8 szRTaken _ _ rfl rfl rfl rfl rfl HX8.out rfl rfl rfl ?_;intro W7 hF hs7 hBW hoth;have HF:=J hF;have HFB:=J hBW;have HOTH:=J hoth;have HFS:=J hs7;clear hF hBW hoth))
  refine bodyPost_ret (yH Tryz.results10 szRTaken _ Tryz.underlying43 rfl rfl HF.out rfl) rfl (RStepP.early (n:=4) HSE.out rfl (HFB.out _ _ (by have:=HG8.out;omega) HB0.out) HQ0.out)
 obtain ⟨b1,o1,rfl⟩:=HV.out.addr (by decide) (by omega)
 obtain ⟨cc,⟨ac,pc,rfl,hbr⟩,hc2⟩:=HV.out.elem k hk
 have h1:=(hc2 1 _ rfl).2
 have h1r:=(hc2 1 _ rfl).1
 obtain ⟨bh,hbh⟩:∃ b,b=l[k]:=⟨_,rfl⟩
 rw [←hbh] at h1 hbr
 have h1:w.cell? ⟨b1,o1+k * 2+1,none⟩=some (.slice ac bh.clauses.length pc):=h1
 have HP1:Hid (w.cell? ⟨b1,o1+k * 2+1,none⟩=some (.slice ac bh.clauses.length pc)∧b1 < w.heap.size):=J ⟨h1,(HSC.out b1 h1r).1⟩
 have HCL:Hid (RX clauE Sc Sc w bh.clauses (.slice ac bh.clauses.length pc)):=J hbr
 have HBH:=J hbh;have HNI:=J hni;have HKK:=J hk
 have HMEM:Hid (bh∈l):=J (by rw [hbh];exact List.getElem_mem hk)
 have hcl6:=(toA_clau HTO.out HMEM.out).1
 have qk:(k:Int) < (l.length:Int):=by omega
 have qk0:¬(k:Int) < 0:=by omega
 rw [hni]
 clear hc2 h1 h1r hbr hbh hni x0
 go_upto_region 5 with fail
 obtain ⟨W1,hW1⟩:=I (W0.alloc (.cells #[.int .i64 6,.int .i64 0,.string ⟨#[]⟩,.slice none 0 0] 25))
 obtain ⟨g11,hg11⟩:=I (W0.heap.size)
 have HB1:Hid (Below w.heap.size w W1):=J (by rw [hW1];exact yB HB0.out HB0.out.size (yA _ _))
 have HX81:Hid (Blk W1 g8 [.int .i64 0,.int .i64 0,.string ⟨#[]⟩,.slice none 0 0,.int .i64 0,.slice none 0 0,.slice none 0 0,.slice none 0 0]):=J (by rw [hW1];exact HX8.out.alloc _)
 have HX11:Hid (Blk W1 g11 [.int .i64 6,.int .i64 0,.string ⟨#[]⟩,.slice none 0 0]):=J (by rw [hW1];exact Blk.new _ _ _ _ hg11)
 have HG11:Hid (g8=w.heap.size∧g11=w.heap.size+1∧W1.heap.size=w.heap.size+2):=J ⟨HG8.out.1,by have:=HG8.out;omega,by rw [hW1];have:=HG8.out;simp;omega⟩
 rw [←hW1,←hg11]
 clear hW1 hg11
 go_wp2_with fail
 go_loopw [12] (fun v12 wr=>∃ i:Nat,i≤ml.length∧v12=.int .i64 (i:Int)∧Below W1.heap.size W1 wr∧∀ j (h:j < ml.length),j < i→clFirst st ml[j] bh.clauses=none) (fun v12 _=>ml.length - (intOf v12).toNat)
 case atStart=>exact ⟨0,Nat.zero_le _,rfl,Below.refl _ _,fun j _ h=>absurd h (Nat.not_lt_zero _)⟩
 obtain ⟨i,hi,rfl,hB,hN⟩:=hrel
 have HB:=J hB;have HN:=J hN
 clear hB hN
 obtain ⟨wo,rfl⟩:∃ wo:World,wo=wr:=⟨_,rfl⟩
 have HBo:Hid (Below w.heap.size w wo):=J (yB HB1.out HB1.out.size HB.out)
 have y6:=(HXQ.out.step HBo.out).cell 6 _ rfl
 by_cases hlt:i < ml.length
 rotate_left 1
 ·have HSE:Hid (stepE l name room self next (st :: ml)=((zeroTak,4),st :: ml)):=J (stepE_none HTO.out HSN.out HNI.out HKK.out (by rw [←HBH.out];exact msFirst_none _ _ _ _ fun j hj=>HN.out j hj (by omega)))
  have HX8o:Hid (Blk wo g8 [.int .i64 0,.int .i64 0,.string ⟨#[]⟩,.slice none 0 0,.int .i64 0,.slice none 0 0,.slice none 0 0,.slice none 0 0]):=J (HX81.out.step HB.out)
  have qi:¬(i:Int) < (ml.length:Int):=by omega
  go_wp2_with (first | (refine yI 43 8 szRTaken _ _ rfl rfl rfl rfl rfl HX8o.out rfl rfl rfl ?_;intro W7 hF hs7 hBW hoth;have HF:=J hF;have HFB:=J hBW;have HOTH:=J hoth;have HFS:=J hs7;clear hF hBW hoth))
  refine bodyPost_ret (yH Tryz.results10 szRTaken _ Tryz.underlying43 rfl rfl HF.out rfl) rfl (RStepP.early (n:=4) HSE.out rfl (HFB.out _ _ (by have:=HG8.out;omega) HBo.out) HQ0.out)
 obtain ⟨bm,om,rfl⟩:=HML.out.addr (by decide) (by omega)
 obtain ⟨ami,pmi,hSm,d0,d1,d2,d3,hE⟩:=HRM.out.elem i hlt
 obtain ⟨m,hm⟩:∃ m,m=ml[i]:=⟨_,rfl⟩
 rw [←hm] at d0 d1 d2 d3 hE
 have HMD:Hid (w.cell? ⟨bm,om+i * 4,none⟩=some (.int .i64 m.kind)∧w.cell? ⟨bm,om+i * 4+1,none⟩=some (.int .i64 m.n)∧w.cell? ⟨bm,om+i * 4+2,none⟩=some (.string m.name)∧w.cell? ⟨bm,om+i * 4+3,none⟩=some (.slice ami m.args.length pmi)∧bm < w.heap.size∧bm≠qb):=J ⟨d0,d1,d2,d3,(HSS.out bm hSm).1,(HSS.out bm hSm).2⟩
 have HMI:Hid (RT S w m (.agg #[.int .i64 m.kind,.int .i64 m.n,.string m.name,.slice ami m.args.length pmi])):=J hE
 have HME:Hid (m=ml[i]):=J hm
 have HMM:Hid (m∈ml):=J (by rw [hm];exact List.getElem_mem hlt)
 have qi:(i:Int) < (ml.length:Int):=by omega
 clear d0 d1 d2 d3 hE hm hSm
 go_wp2_with fail
 go_loopw [13] (fun v13 wr=>∃ j:Nat,j≤bh.clauses.length∧v13=.int .i64 (j:Int)∧Below W1.heap.size W1 wr∧∀ q (h:q < bh.clauses.length),q < j→clFit bh.clauses[q] st m=none) (fun v13 _=>bh.clauses.length - (intOf v13).toNat)
 case atStart=>exact ⟨0,Nat.zero_le _,rfl,HB.out,fun j _ h=>absurd h (Nat.not_lt_zero _)⟩
 obtain ⟨j,hj,rfl,hB,hN2⟩:=hrel
 have HB2:=J hB;have HN2:=J hN2
 clear hB hN2
 obtain ⟨wi,rfl⟩:∃ wi:World,wi=wr:=⟨_,rfl⟩
 have HBi:Hid (Below w.heap.size w wi):=J (yB HB1.out HB1.out.size HB2.out)
 have z1:=(HBi.out.cell HP1.out.2).trans HP1.out.1
 by_cases hlj:j < bh.clauses.length
 rotate_left 1
 ·have HNN:Hid (clFirst st m bh.clauses=none):=J (clFirst_none _ _ _ fun c hc=>by
   obtain ⟨q,hq,rfl⟩:=List.getElem_of_mem hc
   exact HN2.out q hq (by omega))
  have qj:¬(j:Int) < (bh.clauses.length:Int):=by omega
  go_wp2_with fail
  go_roundw
  case rel=>exact ⟨i+1,by omega,by go_num,HB2.out,fun q hq hqi=>by
   rcases Nat.lt_or_ge q i with h | h
   ·exact HN.out q hq h
   ·obtain rfl:q=i:=by omega
    rw [←HME.out];exact HNN.out⟩
  case measure=>simp [intOf];omega
 skip
 obtain ⟨b2,o2,hac⟩:=HCL.out.addr (by decide) (by omega)
 have HCL2:=HCL.out
 rw [hac] at HCL2 z1
 obtain ⟨cells,hcc1,hcc2⟩:=HCL2.elem j hlj
 obtain ⟨c,hc⟩:∃ c,c=bh.clauses[j]:=⟨_,rfl⟩
 rw [←hc] at hcc1
 obtain ⟨a1,p1,a2,p2,a3,p3,a4,p4,rfl,hr1,hr2,hr3,hr4⟩:=hcc1
 have hcell:∀ n u,([.int .i64 c.state.kind,.int .i64 c.state.n,.string c.state.name,.slice a1 c.state.args.length p1,.int .i64 c.message.kind,.int .i64 c.message.n,.string c.message.name,.slice a2 c.message.args.length p2,.slice a3 c.acts.length p3,.int .i64 c.next.kind,.int .i64 c.next.n,.string c.next.name,.slice a4 c.next.args.length p4]:List Value)[n]?=some u→wi.cell? ⟨b2,o2+j * 13+n,none⟩=some u:=fun n u h=>(HBi.out.cell (HSC.out _ (hcc2 n u h).1).1).trans (hcc2 n u h).2
 have z10:wi.cell? ⟨b2,o2+j * 13,none⟩=some (.int .i64 c.state.kind):=hcell 0 _ rfl
 have z11:wi.cell? ⟨b2,o2+j * 13+1,none⟩=some (.int .i64 c.state.n):=hcell 1 _ rfl
 have z12:wi.cell? ⟨b2,o2+j * 13+2,none⟩=some (.string c.state.name):=hcell 2 _ rfl
 have z13:wi.cell? ⟨b2,o2+j * 13+3,none⟩=some (.slice a1 c.state.args.length p1):=hcell 3 _ rfl
 have z14:wi.cell? ⟨b2,o2+j * 13+4,none⟩=some (.int .i64 c.message.kind):=hcell 4 _ rfl
 have z15:wi.cell? ⟨b2,o2+j * 13+5,none⟩=some (.int .i64 c.message.n):=hcell 5 _ rfl
 have z16:wi.cell? ⟨b2,o2+j * 13+6,none⟩=some (.string c.message.name):=hcell 6 _ rfl
 have z17:wi.cell? ⟨b2,o2+j * 13+7,none⟩=some (.slice a2 c.message.args.length p2):=hcell 7 _ rfl
 have z18:wi.cell? ⟨b2,o2+j * 13+8,none⟩=some (.slice a3 c.acts.length p3):=hcell 8 _ rfl
 have z19:wi.cell? ⟨b2,o2+j * 13+9,none⟩=some (.int .i64 c.next.kind):=hcell 9 _ rfl
 have z20:wi.cell? ⟨b2,o2+j * 13+10,none⟩=some (.int .i64 c.next.n):=hcell 10 _ rfl
 have z21:wi.cell? ⟨b2,o2+j * 13+11,none⟩=some (.string c.next.name):=hcell 11 _ rfl
 have z22:wi.cell? ⟨b2,o2+j * 13+12,none⟩=some (.slice a4 c.next.args.length p4):=hcell 12 _ rfl
 have HCC:Hid (c=bh.clauses[j]):=J hc
 have HCM2:Hid (c∈bh.clauses):=J (by rw [hc];exact List.getElem_mem hlj)
 have HR1:=J hr1;have HR2:=J hr2;have HR3:=J hr3;have HR4:=J hr4
 have HCB:Hid (yC [c.state]≤1048576∧yC [c.message]≤1048576∧yC [c.next]≤1048576∧∀ d∈c.acts,deedB d≤1048576):=J (by
  have h:=clausB_bulk HMEM.out HCM2.out
  have h0:=HBB.out
  exact ⟨by omega,by omega,by omega,fun d hd=>by have:=h.2.2.2 d hd;omega⟩)
 have qj:(j:Int) < (bh.clauses.length:Int):=by omega
 clear hcc2 hcell hc hr1 hr2 hr3 hr4 HCL2
 go_upto_region 12 with fail
 obtain ⟨W2,hW2⟩:=I (wi.alloc (.cells #[.int .i64 c.state.kind,.int .i64 c.state.n,.string c.state.name,.slice a1 c.state.args.length p1,.int .i64 c.message.kind,.int .i64 c.message.n,.string c.message.name,.slice a2 c.message.args.length p2,.slice a3 c.acts.length p3,.int .i64 c.next.kind,.int .i64 c.next.n,.string c.next.name,.slice a4 c.next.args.length p4] 82))
 obtain ⟨g14,hg14⟩:=I (wi.heap.size)
 have HXC:Hid (Blk W2 g14 [.int .i64 c.state.kind,.int .i64 c.state.n,.string c.state.name,.slice a1 c.state.args.length p1,.int .i64 c.message.kind,.int .i64 c.message.n,.string c.message.name,.slice a2 c.message.args.length p2,.slice a3 c.acts.length p3,.int .i64 c.next.kind,.int .i64 c.next.n,.string c.next.name,.slice a4 c.next.args.length p4]):=J (by rw [hW2];exact Blk.new _ _ _ _ hg14)
 have HBC1:Hid (Below W1.heap.size W1 W2):=J (by rw [hW2];exact yB HB2.out HB2.out.size (yA _ _))
 have HBC:Hid (Below w.heap.size w W2):=J (yB HB1.out HB1.out.size HBC1.out)
 have HG14:Hid (g14=wi.heap.size∧W2.heap.size=wi.heap.size+1∧W1.heap.size≤wi.heap.size):=J ⟨hg14,by rw [hW2];simp,HB2.out.size⟩
 rw [←hW2,←hg14]
 clear hW2 hg14 hac z1 y6 z10 z11 z12 z13 z14 z15 z16 z17 z18 z19 z20 z21 z22
 have HX11c:Hid (Blk W2 g11 [.int .i64 6,.int .i64 0,.string ⟨#[]⟩,.slice none 0 0]):=J (HX11.out.step HBC1.out)
 have HXQc:Hid (Blk W2 qb [.string name,.int .i64 room,.int .i64 st.kind,.int .i64 st.n,.string st.name,.slice a st.args.length c0,.slice (some ⟨bm,om,none⟩) ml.length cm]):=J (HXQ.out.step HBC.out)
 have HQ12:Hid (∀ w':World,Below W2.heap.size W2 w'→w'.cell? ⟨g14,0,none⟩=some (.int .i64 c.state.kind)∧w'.cell? ⟨g14,1,none⟩=some (.int .i64 c.state.n)∧w'.cell? ⟨g14,2,none⟩=some (.string c.state.name)∧w'.cell? ⟨g14,3,none⟩=some (.slice a1 c.state.args.length p1)∧w'.cell? ⟨qb,2,none⟩=some (.int .i64 st.kind)∧w'.cell? ⟨qb,3,none⟩=some (.int .i64 st.n)∧w'.cell? ⟨qb,4,none⟩=some (.string st.name)∧w'.cell? ⟨qb,5,none⟩=some (.slice a st.args.length c0)∧w'.cell? ⟨g11,0,none⟩=some (.int .i64 6)∧w'.cell? ⟨g11,1,none⟩=some (.int .i64 0)∧w'.cell? ⟨g11,2,none⟩=some (.string ⟨#[]⟩)∧w'.cell? ⟨g11,3,none⟩=some (.slice none 0 0)):=J fun w' h=>⟨(HXC.out.step h).cell 0 _ rfl,(HXC.out.step h).cell 1 _ rfl,(HXC.out.step h).cell 2 _ rfl,(HXC.out.step h).cell 3 _ rfl,(HXQc.out.step h).cell 2 _ rfl,(HXQc.out.step h).cell 3 _ rfl,(HXQc.out.step h).cell 4 _ rfl,(HXQc.out.step h).cell 5 _ rfl,(HX11c.out.step h).cell 0 _ rfl,(HX11c.out.step h).cell 1 _ rfl,(HX11c.out.step h).cell 2 _ rfl,(HX11c.out.step h).cell 3 _ rfl⟩
 refine yK (fun w'=>w'.cell? ⟨g14,0,none⟩=some (.int .i64 c.state.kind)∧w'.cell? ⟨g14,1,none⟩=some (.int .i64 c.state.n)∧w'.cell? ⟨g14,2,none⟩=some (.string c.state.name)∧w'.cell? ⟨g14,3,none⟩=some (.slice a1 c.state.args.length p1)∧w'.cell? ⟨qb,2,none⟩=some (.int .i64 st.kind)∧w'.cell? ⟨qb,3,none⟩=some (.int .i64 st.n)∧w'.cell? ⟨qb,4,none⟩=some (.string st.name)∧w'.cell? ⟨qb,5,none⟩=some (.slice a st.args.length c0)∧w'.cell? ⟨g11,0,none⟩=some (.int .i64 6)∧w'.cell? ⟨g11,1,none⟩=some (.int .i64 0)∧w'.cell? ⟨g11,2,none⟩=some (.string ⟨#[]⟩)∧w'.cell? ⟨g11,3,none⟩=some (.slice none 0 0)) (by as_aux_lemma=>kernel_rfl) (fun Wd h=>HQ12.out _ h) ?_
 intro X0 hB hWd hWd' hHeld
 have HV0:=J hB
 clear hB
 refine rgT 0 _ hHeld ?_
 refine rgT 1 _ hHeld ?_
 refine rgT 2 _ hHeld ?_
 refine rgT 3 _ hHeld ?_
 refine rgT 4 _ hHeld ?_
 refine rgT 5 _ hHeld ?_
 refine rgT 6 _ hHeld ?_
 refine rgT 7 _ hHeld ?_
 refine rgT 8 _ hHeld ?_
 refine rgT 9 _ hHeld ?_
 refine rgO 10 fun K hK=>?_
 refine build4 _ _ _ _ rfl (by rfl) (by rfl) (by rfl) (by rfl) ?_
 obtain ⟨X1,hX1⟩:=I (X0.alloc (.cells #[.int .i64 6,.int .i64 0,.string ⟨#[]⟩,.slice none 0 0,.int .i64 6,.int .i64 0,.string ⟨#[]⟩,.slice none 0 0,.int .i64 6,.int .i64 0,.string ⟨#[]⟩,.slice none 0 0,.int .i64 6,.int .i64 0,.string ⟨#[]⟩,.slice none 0 0] 25))
 obtain ⟨gf,hgf⟩:=I (X0.heap.size)
 have HV1:Hid (Below W2.heap.size W2 X1):=J (by rw [hX1];exact yB HV0.out HV0.out.size (yA _ _))
 have HFR:Hid (RSl (fun b=>b=gf) X1 freeL (.slice (some ⟨gf,0,none⟩) 4 4)):=J (by rw [hX1,hgf];exact free_new X0)
 have HGF:Hid (gf=X0.heap.size∧X1.heap.size=X0.heap.size+1):=J ⟨hgf,by rw [hX1];simp⟩
 show K _ (X0.alloc (.cells #[.int .i64 6,.int .i64 0,.string ⟨#[]⟩,.slice none 0 0,.int .i64 6,.int .i64 0,.string ⟨#[]⟩,.slice none 0 0,.int .i64 6,.int .i64 0,.string ⟨#[]⟩,.slice none 0 0,.int .i64 6,.int .i64 0,.string ⟨#[]⟩,.slice none 0 0] 25))
 rw [←hX1,←hgf]
 clear hX1 hgf
 refine hK.out _ _ (HQ12.out _ HV1.out) fun _=>?_
 clear hK K hHeld;rename_i hHeld;try simp only [Act.put,pA,pB,pC]
 refine rgO 11 fun K hK=>?_
 go_simp
 go_at_call 33
 have HS1:Hid (w.heap.size≤X1.heap.size∧W2.heap.size≤X0.heap.size):=J ⟨by have:=HBC.out.size;have:=HV1.out.size;omega,HV0.out.size⟩
 have HB01:Hid (Below w.heap.size w X1):=J (yB HBC.out HBC.out.size HV1.out)
 refine (rfitsO_c (fun b=>(S b∨Sc b∨W2.heap.size≤b)∧b < X1.heap.size) c.state st freeL X1 _ _ _ ((HR1.out.below HB01.out).to (fun b hb hl=>⟨.inr (.inl hb),hl⟩) fun _ _ _=>rfl) ((HTS.out.below HB01.out).to (fun b hb hl=>⟨.inl hb,hl⟩) fun _ _ _=>rfl) (HFR.out.to (fun b hb hl=>by subst hb;exact ⟨.inr (.inr (by have:=HGF.out;have:=HS1.out;have:=HBC.out.size;omega)),hl⟩) fun _ _ _=>rfl) (by have:=HCB.out.1;omega) (by have:=(HCK.out st mS0).2.2;omega) (by have:=bulk_eachP 2000 freeL freeL_small;have h4:freeL.length=4:=rfl;omega) rfl (check_form4 (toA_checks HTO.out HMEM.out HCM2.out).1) (fun b hb=>hb.2)).mono ?_
 rintro e X2 ⟨v1,rfl,hB,hown⟩
 obtain ⟨r1,hr1⟩:∃ o,o=fitO c.state st freeL:=⟨_,rfl⟩
 rw [←hr1] at hown
 rw [←hr1]
 have HRO1:=J hr1;have HOW1:=J hown
 obtain ⟨ok1,hok1⟩:∃ b,b=r1.isSome:=⟨_,rfl⟩
 rw [←hok1]
 have HOK1:=J hok1
 have HV2:Hid (Below W2.heap.size W2 X2):=J (yB HV1.out HV1.out.size hB)
 clear hB hown hr1 hok1
 refine hK.out _ _ (HQ12.out _ HV2.out) fun _=>?_
 clear hK K hHeld;rename_i hHeld;try simp only [Act.put,pA,pB,pC]
 refine rgT 12 _ hHeld ?_
 refine rgT 13 _ hHeld ?_
 refine rgT 14 _ hHeld ?_
 refine rgT 15 _ hHeld ?_
 refine rgT 16 _ hHeld ?_
 refine rgD ?_
 clear hHeld
 have HB12:Hid (Below W1.heap.size W1 X2):=J (yB HBC1.out HBC1.out.size HV2.out)
 cases ok1
 ·have HF:Hid (clFit c st m=none):=J (by
   rw [(clFit_fitO ⟨(toA_checks HTO.out HMEM.out HCM2.out).1,(toA_checks HTO.out HMEM.out HCM2.out).2.1⟩ ⟨(HCK.out st mS0).1,(HCK.out st mS0).2.1⟩ ⟨(HCK.out m (mT HMM.out)).1,(HCK.out m (mT HMM.out)).2.1⟩),←HRO1.out]
   cases hr:r1 with
   | none=>rfl
   | some x=>have:=HOK1.out;rw [hr] at this;cases this)
  go_wp2_with fail
  go_roundw
  case rel=>exact ⟨j+1,by omega,by go_num,HB12.out,fun q hq hqj=>by
   rcases Nat.lt_or_ge q j with h | h
   ·exact HN2.out q hq h
   ·obtain rfl:q=j:=by omega
    rw [←HCC.out];exact HF.out⟩
  case measure=>simp [intOf];omega
 obtain ⟨bd1,hbd1⟩:∃ x,r1=some x:=Option.isSome_iff_exists.1 HOK1.out.symm
 have h1:=HOW1.out HOK1.out.symm
 rw [hbd1] at h1
 obtain ⟨bb1,bc1,rfl,hown1⟩:=h1
 have HF1:Hid (fitO c.state st freeL=some bd1):=J (by rw [←HRO1.out,hbd1])
 have HO1:Hid (OwnG (fun b=>(S b∨Sc b∨W2.heap.size≤b)∧b < X1.heap.size) (X1.heap.size+2) X2 (.slice (some ⟨bb1,0,none⟩) 4 bc1) bd1):=J hown1
 have HBD1:Hid (bd1.length=4∧(∀ y∈bd1,yC [y]≤2000)∧yC bd1≤8000):=J (fitO_out HF1.out rfl (HCK.out st mS0).2.2 freeL_small)
 have HBX:Hid (Below w.heap.size w X2):=J (yB HBC.out HBC.out.size HV2.out)
 have HXC2:=J (HXC.out.step HV2.out)
 have HXQ2:=J (HXQc.out.step HV2.out)
 clear hbd1 hown1
 have HQ14:Hid (∀ w':World,Below X2.heap.size X2 w'→w'.cell? ⟨g14,4,none⟩=some (.int .i64 c.message.kind)∧w'.cell? ⟨g14,5,none⟩=some (.int .i64 c.message.n)∧w'.cell? ⟨g14,6,none⟩=some (.string c.message.name)∧w'.cell? ⟨g14,7,none⟩=some (.slice a2 c.message.args.length p2)∧w'.cell? ⟨qb,6,none⟩=some (.slice (some ⟨bm,om,none⟩) ml.length cm)∧w'.cell? ⟨bm,om+i * 4,none⟩=some (.int .i64 m.kind)∧w'.cell? ⟨bm,om+i * 4+1,none⟩=some (.int .i64 m.n)∧w'.cell? ⟨bm,om+i * 4+2,none⟩=some (.string m.name)∧w'.cell? ⟨bm,om+i * 4+3,none⟩=some (.slice ami m.args.length pmi)):=J fun w' h=>⟨(HXC2.out.step h).cell 4 _ rfl,(HXC2.out.step h).cell 5 _ rfl,(HXC2.out.step h).cell 6 _ rfl,(HXC2.out.step h).cell 7 _ rfl,(HXQ2.out.step h).cell 6 _ rfl,((yB HBX.out HBX.out.size h).cell HMD.out.2.2.2.2.1).trans HMD.out.1,((yB HBX.out HBX.out.size h).cell HMD.out.2.2.2.2.1).trans HMD.out.2.1,((yB HBX.out HBX.out.size h).cell HMD.out.2.2.2.2.1).trans HMD.out.2.2.1,((yB HBX.out HBX.out.size h).cell HMD.out.2.2.2.2.1).trans HMD.out.2.2.2.1⟩
 go_upto_region 14 with fail
 refine yK (fun w'=>w'.cell? ⟨g14,4,none⟩=some (.int .i64 c.message.kind)∧w'.cell? ⟨g14,5,none⟩=some (.int .i64 c.message.n)∧w'.cell? ⟨g14,6,none⟩=some (.string c.message.name)∧w'.cell? ⟨g14,7,none⟩=some (.slice a2 c.message.args.length p2)∧w'.cell? ⟨qb,6,none⟩=some (.slice (some ⟨bm,om,none⟩) ml.length cm)∧w'.cell? ⟨bm,om+i * 4,none⟩=some (.int .i64 m.kind)∧w'.cell? ⟨bm,om+i * 4+1,none⟩=some (.int .i64 m.n)∧w'.cell? ⟨bm,om+i * 4+2,none⟩=some (.string m.name)∧w'.cell? ⟨bm,om+i * 4+3,none⟩=some (.slice ami m.args.length pmi)) (by as_aux_lemma=>kernel_rfl) (fun Wd h=>HQ14.out _ h) ?_
 intro X3 hB hWd hWd' hHeld
 refine rgT 0 _ hHeld ?_
 refine rgT 1 _ hHeld ?_
 refine rgT 2 _ hHeld ?_
 refine rgT 3 _ hHeld ?_
 refine rgT 4 _ hHeld ?_
 refine rgT 5 _ hHeld ?_
 refine rgT 6 _ hHeld ?_
 refine rgT 7 _ hHeld ?_
 refine rgT 8 _ hHeld ?_
 refine rgT 9 _ hHeld ?_
 refine rgO 10 fun K hK=>?_
 go_simp
 go_at_call 33
 have HV3:=J hB
 have HB03:Hid (Below w.heap.size w X3):=J (yB HBX.out HBX.out.size HV3.out)
 have HO3:=J (HO1.out.below HV3.out)
 have HS3:Hid (w.heap.size≤X3.heap.size∧X1.heap.size≤X3.heap.size∧W2.heap.size≤X1.heap.size∧w.heap.size+2≤W2.heap.size):=J ⟨HB03.out.size,by have h1:=(HO3.out.block bb1 rfl);omega,HV1.out.size,by have:=HG14.out;have:=HG11.out;omega⟩
 clear hB
 refine (rfitsO_c (fun b=>(S b∨Sc b∨W2.heap.size≤b)∧b < X3.heap.size) c.message m bd1 X3 _ _ _ ((HR2.out.below HB03.out).to (fun b hb hl=>⟨.inr (.inl hb),hl⟩) fun _ _ _=>rfl) ((HMI.out.below HB03.out).to (fun b hb hl=>⟨.inl hb,hl⟩) fun _ _ _=>rfl) (((OwnT.rsl2 HO3.out).rsl).to (fun b hb hl=>⟨by
   rcases hb with hb | hb
   ·have hb:(Value.slice (some ⟨bb1,0,none⟩) 4 bc1).ownBlock=some b:=hb
    obtain rfl:bb1=b:=by simpa [Value.ownBlock] using hb
    exact .inr (.inr (by have:=HO3.out.block bb1 rfl;have:=HS3.out;omega))
   ·exact hb.1.1,hl⟩) fun _ _ _=>rfl) (by have:=HCB.out.2.1;omega) (by have:=(HCK.out m (mT HMM.out)).2.2;omega) (by have:=HBD1.out.2.2;omega) HBD1.out.1 (check_form4 (toA_checks HTO.out HMEM.out HCM2.out).2.1) (fun b hb=>hb.2)).mono ?_
 rintro e X4 ⟨v2,rfl,hB,hown⟩
 obtain ⟨r2,hr2⟩:∃ o,o=fitO c.message m bd1:=⟨_,rfl⟩
 rw [←hr2] at hown
 rw [←hr2]
 have HRO2:=J hr2;have HOW2:=J hown
 obtain ⟨ok2,hok2⟩:∃ b,b=r2.isSome:=⟨_,rfl⟩
 rw [←hok2]
 have HOK2:=J hok2
 have HV4:Hid (Below X3.heap.size X3 X4):=J hB
 have HV24:Hid (Below X2.heap.size X2 X4):=J (yB HV3.out HV3.out.size hB)
 clear hB hown hr2 hok2
 refine hK.out _ _ (HQ14.out _ HV24.out) fun _=>?_
 clear hK K hHeld;rename_i hHeld;try simp only [Act.put,pA,pB,pC]
 refine rgT 11 _ hHeld ?_
 refine rgT 12 _ hHeld ?_
 refine rgT 13 _ hHeld ?_
 refine rgT 14 _ hHeld ?_
 refine rgT 15 _ hHeld ?_
 refine rgD ?_
 clear hHeld
 have HB14:Hid (Below W1.heap.size W1 X4):=J (yB HB12.out HB12.out.size HV24.out)
 cases ok2
 ·have HF:Hid (clFit c st m=none):=J (by
   rw [(clFit_fitO ⟨(toA_checks HTO.out HMEM.out HCM2.out).1,(toA_checks HTO.out HMEM.out HCM2.out).2.1⟩ ⟨(HCK.out st mS0).1,(HCK.out st mS0).2.1⟩ ⟨(HCK.out m (mT HMM.out)).1,(HCK.out m (mT HMM.out)).2.1⟩),HF1.out]
   show fitO c.message m bd1=none
   rw [←HRO2.out]
   cases hr:r2 with
   | none=>rfl
   | some x=>have:=HOK2.out;rw [hr] at this;cases this)
  go_wp2_with fail
  go_roundw
  case rel=>exact ⟨j+1,by omega,by go_num,HB14.out,fun q hq hqj=>by
   rcases Nat.lt_or_ge q j with h | h
   ·exact HN2.out q hq h
   ·obtain rfl:q=j:=by omega
    rw [←HCC.out];exact HF.out⟩
  case measure=>simp [intOf];omega
 obtain ⟨bd,hbd⟩:∃ x,r2=some x:=Option.isSome_iff_exists.1 HOK2.out.symm
 have h1:=HOW2.out HOK2.out.symm
 rw [hbd] at h1
 obtain ⟨bb,bc,rfl,hown2⟩:=h1
 have HF2:Hid (clFit c st m=some bd):=J (by
  rw [(clFit_fitO ⟨(toA_checks HTO.out HMEM.out HCM2.out).1,(toA_checks HTO.out HMEM.out HCM2.out).2.1⟩ ⟨(HCK.out st mS0).1,(HCK.out st mS0).2.1⟩ ⟨(HCK.out m (mT HMM.out)).1,(HCK.out m (mT HMM.out)).2.1⟩),HF1.out]
  show fitO c.message m bd1=some bd
  rw [←HRO2.out,hbd])
 have HO4:Hid (OwnG (fun b=>(S b∨Sc b∨W2.heap.size≤b)∧b < X3.heap.size) (X3.heap.size+2) X4 (.slice (some ⟨bb,0,none⟩) 4 bc) bd):=J hown2
 have HMS:Hid (msFirst bh.clauses st 1 ml=some (i+1,c,bd)):=J (by
  have h:=msFirst_some bh.clauses st ml 1 i hlt HN.out (c:=c) (bd:=bd) (by
   rw [←HME.out,HCC.out]
   exact clFirst_some st m bh.clauses j hlj HN2.out (by rw [←HCC.out];exact HF2.out))
  rw [h,Nat.add_comm])
 have HBX4:Hid (Below w.heap.size w X4):=J (yB HBX.out HBX.out.size HV24.out)
 have HXQ4:=J (HXQ2.out.step HV24.out)
 have HXC4:=J (HXC2.out.step HV24.out)
 have HX84:Hid (Blk X4 g8 [.int .i64 0,.int .i64 0,.string ⟨#[]⟩,.slice none 0 0,.int .i64 0,.slice none 0 0,.slice none 0 0,.slice none 0 0]):=J (HX81.out.step HB14.out)
 clear hbd hown2
 have q6:=HXQ4.out.cell 6 _ rfl
 obtain ⟨e0,e1,e2,e3,-,-⟩:=HMD.out
 have e0:=(HBX4.out.cell HMD.out.2.2.2.2.1).trans e0
 have e1:=(HBX4.out.cell HMD.out.2.2.2.2.1).trans e1
 have e2:=(HBX4.out.cell HMD.out.2.2.2.2.1).trans e2
 have e3:=(HBX4.out.cell HMD.out.2.2.2.2.1).trans e3
 go_upto_region 17 with fail
 obtain ⟨X5,hX5⟩:=I (X4.alloc (.cells #[.int .i64 m.kind,.int .i64 m.n,.string m.name,.slice ami m.args.length pmi] 25))
 obtain ⟨g17,hg17⟩:=I (X4.heap.size)
 have HX17:Hid (Blk X5 g17 [.int .i64 m.kind,.int .i64 m.n,.string m.name,.slice ami m.args.length pmi]):=J (by rw [hX5];exact Blk.new _ _ _ _ hg17)
 have HV5:Hid (Below X4.heap.size X4 X5):=J (by rw [hX5];exact yA _ _)
 have HG17:Hid (g17=X4.heap.size∧X5.heap.size=X4.heap.size+1):=J ⟨hg17,by rw [hX5];simp⟩
 rw [←hX5,←hg17]
 clear hX5 hg17 q6 e0 e1 e2 e3
 have HBX5:Hid (Below w.heap.size w X5):=J (yB HBX4.out HBX4.out.size HV5.out)
 have HXQ5:=J (HXQ4.out.step HV5.out)
 go_cut [] (fun wx=>∃ vm:Value,RSl (fun b=>S b∨X5.heap.size≤b) wx (ml.eraseIdx i) vm∧Blk wx qb [.string name,.int .i64 room,.int .i64 st.kind,.int .i64 st.n,.string st.name,.slice a st.args.length c0,vm]∧Keep (fun b=>b=qb) X5 wx)
 case first =>
  refine yK (fun _=>True) (by as_aux_lemma=>kernel_rfl) (fun _ _=>trivial) ?_
  intro Y0 hB hWd hWd' hHeld
  have HBY0:Hid (Below X5.heap.size X5 Y0):=J hB
  have HXQY:=J (HXQ5.out.step hB)
  have HBWY:Hid (Below w.heap.size w Y0):=J (yB HBX5.out HBX5.out.size hB)
  have HQY:Hid (qb < Y0.heap.size):=J (by have:=HQL.out;have:=HBWY.out.size;omega)
  have HTL:Hid ((ml.take i).length=i):=J (by rw [List.length_take];omega)
  have HMY:=J (HML.out.below HBWY.out)
  have HR0:Hid (RQ S (fun _=>False) Y0 [] Y0 [rT (.slice none 0 0) []]):=J ((RQ.start S Y0 fun b hb=>by have:=(HSS.out b hb).1;have:=HBWY.out.size;omega).nil termF)
  have HMY0:Hid (RX termE S S Y0 (ml.take i) (.slice (some ⟨bm,om,none⟩) i cm)):=J (HMY.out.takeX i cm (by omega) ⟨by have:=HCM.out.1;omega,by simp⟩)
  obtain ⟨ad,had⟩:∃ ad:Option Addr,ad=if cm=i+1 then some ⟨bm,om,none⟩ else some ⟨bm,om+(i+1) * 4,none⟩:=⟨_,rfl⟩
  have HAD:=J had
  have had2:(if cm=i+1 then some ⟨bm,om,none⟩ else some ⟨bm,om+(i+1) * 4,none⟩)=ad:=had.symm
  clear had
  have HMD0:Hid (RX termE S S Y0 (ml.drop (i+1)) (.slice ad (ml.length - (i+1)) (cm - (i+1)))):=J (by
   have hc:=HCM.out.1
   rw [HAD.out]
   split
   ·have e0:ml.length - (i+1)=0:=by omega
    have e1:ml.drop (i+1)=[]:=List.drop_eq_nil_of_le (by omega)
    rw [e0,e1]
    exact ⟨_,_,[],rfl,⟨by simp,by simp⟩,rfl,by simp⟩
   ·exact HMY.out.dropX (i+1) (cm - (i+1)) (by omega))
  have hwi:IntKind.i64.wrap ((i:Int)+1)=((i+1:Nat):Int):=by rw [IntKind.wrap_i64];omega
  clear hB
  refine rgT 0 _ hHeld ?_
  refine rgT 1 _ hHeld ?_
  refine rgT 2 _ hHeld ?_
  refine rgT 3 _ hHeld ?_
  refine rgT 5 _ hHeld ?_
  refine rgT 8 _ hHeld ?_
  refine rgT 9 _ hHeld ?_
  refine rgT 10 _ hHeld ?_
  refine rgT 12 _ hHeld ?_
  refine rgT 13 _ hHeld ?_
  refine rgW 4 11 (fun K hK=>?_) fun K hK=>?_
  ·skip
   have zm:=(HXQY.out.step HR0.out.bel).cell 6 _ rfl
   go_simp
   clear zm
   refine hK.out _ _ (trivial) fun _=>?_
   clear hK K hHeld;rename_i hHeld;try simp only [Act.put,pA,pB,pC]
   refine rg_take (i:=6) (v:=?_) rfl (by as_aux_lemma=>kernel_rfl) (by as_aux_lemma=>kernel_rfl) (by as_aux_lemma=>kernel_rfl) (by rfl) ?_ hHeld ?_
   rotate_left 1
   ·intro w hSw;(try dsimp only at hSw);go_simp;(try rw [if_pos (by have:=HCM.out.1;omega)]);try (with_reducible rfl)
   try simp only [Act.put,pA,pB,pC]
   refine rgW 7 11 (fun K hK=>?_) fun K hK=>?_
   ·skip
    refine wp_manyQ (w:=Y0) _ _ termF rfl [] [] (v:=.slice none 0 0) (xs:=[]) (ys:=ml.take i) (by rfl) (by rfl) HR0.out (HMY0.out) (fun b hb=>hb) (by rw [HTL.out];have:=HLL.out;simp;omega) ?_
    intro v1 Y1 hz hzg hv1
    obtain ⟨gv1,cv1,hv1⟩:=hv1
    rw [HTL.out,List.length_nil,Nat.zero_add] at hv1
    subst hv1
    simp only [List.nil_append] at hz
    have HR1:Hid (RQ S (fun _=>False) Y0 [] Y1 [rT (.slice gv1 i cv1) (ml.take i)]):=J hz
    clear hz hzg
    refine hK.out _ _ (trivial) fun _=>?_
    clear hK K hHeld;rename_i hHeld;try simp only [Act.put,pA,pB,pC]
    refine rgO 11 fun K hK=>?_
    have zm:=(HXQY.out.step HR1.out.bel).cell 6 _ rfl
    go_simp
    clear zm
    refine hK.out _ _ (trivial) fun _=>?_
    clear hK K hHeld;rename_i hHeld;try simp only [Act.put,pA,pB,pC]
    refine rg_take (i:=14) (v:=?_) rfl (by as_aux_lemma=>kernel_rfl) (by as_aux_lemma=>kernel_rfl) (by as_aux_lemma=>kernel_rfl) (by rfl) ?_ hHeld ?_
    rotate_left 1
    ·intro w hSw;(try dsimp only at hSw);go_simp;(try rw [if_pos (by omega)]);try (with_reducible rfl)
    try simp only [Act.put,pA,pB,pC]
    refine rgO 15 fun K hK=>?_
    refine wp_manyQ (w:=Y1) _ _ termF rfl [] [] (v:=.slice gv1 i cv1) (xs:=ml.take i) (ys:=ml.drop (i+1)) (by rfl) (by rfl) HR1.out (HMD0.out.below HR1.out.bel) (fun b hb=>hb) (by rw [HTL.out,List.length_drop];have:=HLL.out;omega) ?_
    intro v2 Y2 hz hzg hv2
    obtain ⟨gv2,cv2,hv2⟩:=hv2
    rw [HTL.out,List.length_drop] at hv2
    subst hv2
    have HR2:Hid (RQ S (fun _=>False) Y0 [] Y2 [rT (.slice gv2 (i+(ml.length - (i+1))) cv2) (ml.take i ++ ml.drop (i+1))]):=J hz
    clear hz hzg
    refine hK.out _ _ (trivial) fun _=>?_
    clear hK K hHeld;rename_i hHeld;try simp only [Act.put,pA,pB,pC]
    refine rgT 16 _ hHeld ?_
    refine rgT 17 _ hHeld ?_
    refine rgO 18 fun K hK=>?_
    have zb:=HXQY.out.step HR2.out.bel
    have zf:=zb.fr
    have zc:=zb.cell 6 _ rfl
    have zl:=zb.lt
    go_simp
    obtain ⟨Y9,hY9⟩:=I (Y2.setCell ⟨qb,6,none⟩ (.slice gv2 (i+(ml.length - (i+1))) cv2))
    have HX9:Hid (Blk Y9 qb [.string name,.int .i64 room,.int .i64 st.kind,.int .i64 st.n,.string st.name,.slice a st.args.length c0,.slice gv2 (i+(ml.length - (i+1))) cv2]):=J (by rw [hY9];exact zb.set 6 _ (by simp))
    have HO9:Hid (∀ b,b≠qb→Y9.heap[b]?=Y2.heap[b]?):=J fun b hb=>by rw [hY9];exact yD _ qb 6 _ b hb
    have HK9:Hid (Keep (fun b=>b=qb) Y0 Y9):=J (by rw [hY9];exact (Keep.of HR2.out.bel).setCell _ (.inl rfl))
    have HSZ9:Hid (Y9.heap.size=Y2.heap.size):=J (by rw [hY9];simp)
    rw [←hY9]
    clear hY9 zb zf zc zl
    refine hK.out _ _ (trivial) fun _=>?_
    clear hK K hHeld;rename_i hHeld;try simp only [Act.put,pA,pB,pC]
    refine rgD ?_
    clear hHeld
    clear hwi had2
    go_wp2_with fail
    go_meet
    have HROW:=J (RX.rslQ (HR2.out.rx mS0))
    refine ⟨_,?_,HX9.out,(Keep.of HBY0.out).trans (HK9.out.mono fun _ _ h=>h)⟩
    rw [List.eraseIdx_eq_take_drop_succ]
    refine HROW.out.to (fun b hb hl=>?_) (fun b hb hl=>?_)
    ·rcases hb with hb | hb
     ·have h:=(HR2.out.lt mS0 b hb).1
      exact .inr (by have:=HBY0.out.size;omega)
     exact .inl hb
    rcases hb with hb | hb
    ·have h:=(HR2.out.lt mS0 b hb).1
     exact HO9.out b (by have:=HQY.out;omega)
    exact HO9.out b (HSS.out b hb).2
   skip
   have zm:=(HXQY.out.step HR0.out.bel).cell 6 _ rfl
   go_simp
   clear zm
   refine hK.out _ _ (trivial) fun _=>?_
   clear hK K hHeld;rename_i hHeld;try simp only [Act.put,pA,pB,pC]
   refine rg_take (i:=14) (v:=?_) rfl (by as_aux_lemma=>kernel_rfl) (by as_aux_lemma=>kernel_rfl) (by as_aux_lemma=>kernel_rfl) (by rfl) ?_ hHeld ?_
   rotate_left 1
   ·intro w hSw;(try dsimp only at hSw);go_simp;(try rw [if_pos (by omega)]);try (with_reducible rfl)
   try simp only [Act.put,pA,pB,pC]
   refine rgO 7 fun K hK=>?_
   refine wp_manyQ (w:=Y0) _ _ termF rfl [] [] (v:=.slice none 0 0) (xs:=[]) (ys:=ml.take i) (by rfl) (by rfl) HR0.out (HMY0.out) (fun b hb=>hb) (by rw [HTL.out];have:=HLL.out;simp;omega) ?_
   intro v1 Y1 hz hzg hv1
   obtain ⟨gv1,cv1,hv1⟩:=hv1
   rw [HTL.out,List.length_nil,Nat.zero_add] at hv1
   subst hv1
   simp only [List.nil_append] at hz
   have HR1:Hid (RQ S (fun _=>False) Y0 [] Y1 [rT (.slice gv1 i cv1) (ml.take i)]):=J hz
   clear hz hzg
   refine hK.out _ _ (trivial) fun _=>?_
   clear hK K hHeld;rename_i hHeld;try simp only [Act.put,pA,pB,pC]
   refine rgO 15 fun K hK=>?_
   refine wp_manyQ (w:=Y1) _ _ termF rfl [] [] (v:=.slice gv1 i cv1) (xs:=ml.take i) (ys:=ml.drop (i+1)) (by rfl) (by rfl) HR1.out (HMD0.out.below HR1.out.bel) (fun b hb=>hb) (by rw [HTL.out,List.length_drop];have:=HLL.out;omega) ?_
   intro v2 Y2 hz hzg hv2
   obtain ⟨gv2,cv2,hv2⟩:=hv2
   rw [HTL.out,List.length_drop] at hv2
   subst hv2
   have HR2:Hid (RQ S (fun _=>False) Y0 [] Y2 [rT (.slice gv2 (i+(ml.length - (i+1))) cv2) (ml.take i ++ ml.drop (i+1))]):=J hz
   clear hz hzg
   refine hK.out _ _ (trivial) fun _=>?_
   clear hK K hHeld;rename_i hHeld;try simp only [Act.put,pA,pB,pC]
   refine rgT 16 _ hHeld ?_
   refine rgT 17 _ hHeld ?_
   refine rgO 18 fun K hK=>?_
   have zb:=HXQY.out.step HR2.out.bel
   have zf:=zb.fr
   have zc:=zb.cell 6 _ rfl
   have zl:=zb.lt
   go_simp
   obtain ⟨Y9,hY9⟩:=I (Y2.setCell ⟨qb,6,none⟩ (.slice gv2 (i+(ml.length - (i+1))) cv2))
   have HX9:Hid (Blk Y9 qb [.string name,.int .i64 room,.int .i64 st.kind,.int .i64 st.n,.string st.name,.slice a st.args.length c0,.slice gv2 (i+(ml.length - (i+1))) cv2]):=J (by rw [hY9];exact zb.set 6 _ (by simp))
   have HO9:Hid (∀ b,b≠qb→Y9.heap[b]?=Y2.heap[b]?):=J fun b hb=>by rw [hY9];exact yD _ qb 6 _ b hb
   have HK9:Hid (Keep (fun b=>b=qb) Y0 Y9):=J (by rw [hY9];exact (Keep.of HR2.out.bel).setCell _ (.inl rfl))
   have HSZ9:Hid (Y9.heap.size=Y2.heap.size):=J (by rw [hY9];simp)
   rw [←hY9]
   clear hY9 zb zf zc zl
   refine hK.out _ _ (trivial) fun _=>?_
   clear hK K hHeld;rename_i hHeld;try simp only [Act.put,pA,pB,pC]
   refine rgD ?_
   clear hHeld
   clear hwi had2
   go_wp2_with fail
   go_meet
   have HROW:=J (RX.rslQ (HR2.out.rx mS0))
   refine ⟨_,?_,HX9.out,(Keep.of HBY0.out).trans (HK9.out.mono fun _ _ h=>h)⟩
   rw [List.eraseIdx_eq_take_drop_succ]
   refine HROW.out.to (fun b hb hl=>?_) (fun b hb hl=>?_)
   ·rcases hb with hb | hb
    ·have h:=(HR2.out.lt mS0 b hb).1
     exact .inr (by have:=HBY0.out.size;omega)
    exact .inl hb
   rcases hb with hb | hb
   ·have h:=(HR2.out.lt mS0 b hb).1
    exact HO9.out b (by have:=HQY.out;omega)
   exact HO9.out b (HSS.out b hb).2
  skip
  have zm:=(HXQY.out.step HR0.out.bel).cell 6 _ rfl
  go_simp
  clear zm
  refine hK.out _ _ (trivial) fun _=>?_
  clear hK K hHeld;rename_i hHeld;try simp only [Act.put,pA,pB,pC]
  refine rg_take (i:=14) (v:=?_) rfl (by as_aux_lemma=>kernel_rfl) (by as_aux_lemma=>kernel_rfl) (by as_aux_lemma=>kernel_rfl) (by rfl) ?_ hHeld ?_
  rotate_left 1
  ·intro w hSw;(try dsimp only at hSw);go_simp;(try rw [if_pos (by omega)]);try (with_reducible rfl)
  try simp only [Act.put,pA,pB,pC]
  refine rgO 4 fun K hK=>?_
  have zm:=(HXQY.out.step HR0.out.bel).cell 6 _ rfl
  go_simp
  clear zm
  refine hK.out _ _ (trivial) fun _=>?_
  clear hK K hHeld;rename_i hHeld;try simp only [Act.put,pA,pB,pC]
  refine rg_take (i:=6) (v:=?_) rfl (by as_aux_lemma=>kernel_rfl) (by as_aux_lemma=>kernel_rfl) (by as_aux_lemma=>kernel_rfl) (by rfl) ?_ hHeld ?_
  rotate_left 1
  ·intro w hSw;(try dsimp only at hSw);go_simp;(try rw [if_pos (by have:=HCM.out.1;omega)]);try (with_reducible rfl)
  try simp only [Act.put,pA,pB,pC]
  refine rgO 7 fun K hK=>?_
  refine wp_manyQ (w:=Y0) _ _ termF rfl [] [] (v:=.slice none 0 0) (xs:=[]) (ys:=ml.take i) (by rfl) (by rfl) HR0.out (HMY0.out) (fun b hb=>hb) (by rw [HTL.out];have:=HLL.out;simp;omega) ?_
  intro v1 Y1 hz hzg hv1
  obtain ⟨gv1,cv1,hv1⟩:=hv1
  rw [HTL.out,List.length_nil,Nat.zero_add] at hv1
  subst hv1
  simp only [List.nil_append] at hz
  have HR1:Hid (RQ S (fun _=>False) Y0 [] Y1 [rT (.slice gv1 i cv1) (ml.take i)]):=J hz
  clear hz hzg
  refine hK.out _ _ (trivial) fun _=>?_
  clear hK K hHeld;rename_i hHeld;try simp only [Act.put,pA,pB,pC]
  refine rgO 15 fun K hK=>?_
  refine wp_manyQ (w:=Y1) _ _ termF rfl [] [] (v:=.slice gv1 i cv1) (xs:=ml.take i) (ys:=ml.drop (i+1)) (by rfl) (by rfl) HR1.out (HMD0.out.below HR1.out.bel) (fun b hb=>hb) (by rw [HTL.out,List.length_drop];have:=HLL.out;omega) ?_
  intro v2 Y2 hz hzg hv2
  obtain ⟨gv2,cv2,hv2⟩:=hv2
  rw [HTL.out,List.length_drop] at hv2
  subst hv2
  have HR2:Hid (RQ S (fun _=>False) Y0 [] Y2 [rT (.slice gv2 (i+(ml.length - (i+1))) cv2) (ml.take i ++ ml.drop (i+1))]):=J hz
  clear hz hzg
  refine hK.out _ _ (trivial) fun _=>?_
  clear hK K hHeld;rename_i hHeld;try simp only [Act.put,pA,pB,pC]
  refine rgT 16 _ hHeld ?_
  refine rgT 17 _ hHeld ?_
  refine rgO 18 fun K hK=>?_
  have zb:=HXQY.out.step HR2.out.bel
  have zf:=zb.fr
  have zc:=zb.cell 6 _ rfl
  have zl:=zb.lt
  go_simp
  obtain ⟨Y9,hY9⟩:=I (Y2.setCell ⟨qb,6,none⟩ (.slice gv2 (i+(ml.length - (i+1))) cv2))
  have HX9:Hid (Blk Y9 qb [.string name,.int .i64 room,.int .i64 st.kind,.int .i64 st.n,.string st.name,.slice a st.args.length c0,.slice gv2 (i+(ml.length - (i+1))) cv2]):=J (by rw [hY9];exact zb.set 6 _ (by simp))
  have HO9:Hid (∀ b,b≠qb→Y9.heap[b]?=Y2.heap[b]?):=J fun b hb=>by rw [hY9];exact yD _ qb 6 _ b hb
  have HK9:Hid (Keep (fun b=>b=qb) Y0 Y9):=J (by rw [hY9];exact (Keep.of HR2.out.bel).setCell _ (.inl rfl))
  have HSZ9:Hid (Y9.heap.size=Y2.heap.size):=J (by rw [hY9];simp)
  rw [←hY9]
  clear hY9 zb zf zc zl
  refine hK.out _ _ (trivial) fun _=>?_
  clear hK K hHeld;rename_i hHeld;try simp only [Act.put,pA,pB,pC]
  refine rgD ?_
  clear hHeld
  clear hwi had2
  go_wp2_with fail
  go_meet
  have HROW:=J (RX.rslQ (HR2.out.rx mS0))
  refine ⟨_,?_,HX9.out,(Keep.of HBY0.out).trans (HK9.out.mono fun _ _ h=>h)⟩
  rw [List.eraseIdx_eq_take_drop_succ]
  refine HROW.out.to (fun b hb hl=>?_) (fun b hb hl=>?_)
  ·rcases hb with hb | hb
   ·have h:=(HR2.out.lt mS0 b hb).1
    exact .inr (by have:=HBY0.out.size;omega)
   exact .inl hb
  rcases hb with hb | hb
  ·have h:=(HR2.out.lt mS0 b hb).1
   exact HO9.out b (by have:=HQY.out;omega)
  exact HO9.out b (HSS.out b hb).2
 obtain ⟨vm2,hml2,hxq2,hkp⟩:=hcut
 have HMW:=J hml2;have HXQW:=J hxq2;have HKP:=J hkp
 have HSZW:Hid (X5.heap.size≤wc.heap.size∧bb < X4.heap.size∧X3.heap.size+2≤bb):=J ⟨hkp.size,(HO4.out.block bb rfl).2,(HO4.out.block bb rfl).1⟩
 have HXCW:Hid (Blk wc g14 [.int .i64 c.state.kind,.int .i64 c.state.n,.string c.state.name,.slice a1 c.state.args.length p1,.int .i64 c.message.kind,.int .i64 c.message.n,.string c.message.name,.slice a2 c.message.args.length p2,.slice a3 c.acts.length p3,.int .i64 c.next.kind,.int .i64 c.next.n,.string c.next.name,.slice a4 c.next.args.length p4]):=J ((HXC4.out.step HV5.out).keep hkp (by have:=HG14.out;have:=HQL.out;have:=HS3.out;omega))
 have HX17W:Hid (Blk wc g17 [.int .i64 m.kind,.int .i64 m.n,.string m.name,.slice ami m.args.length pmi]):=J (HX17.out.keep hkp (by have:=HG17.out;have:=HQL.out;have:=HBX4.out.size;omega))
 have HX8W:Hid (Blk wc g8 [.int .i64 0,.int .i64 0,.string ⟨#[]⟩,.slice none 0 0,.int .i64 0,.slice none 0 0,.slice none 0 0,.slice none 0 0]):=J ((HX84.out.step HV5.out).keep hkp (by have:=HG8.out;have:=HQL.out;omega))
 have HEW:Hid (∀ b,b≠qb→b < w.heap.size→wc.heap[b]?=w.heap[b]?):=J fun b hb hl=>(hkp.block b (by have:=HBX5.out.size;omega) hb).trans (HBX5.out.block b hl)
 have HSB:Hid (∀ b,(S b∨Sc b)→b < w.heap.size∧b≠qb):=J fun b hb=>hb.elim (HSS.out b) (HSC.out b)
 have HSZ2:Hid (w.heap.size+2≤W2.heap.size∧g8=w.heap.size∧W2.heap.size≤X3.heap.size∧X3.heap.size≤X4.heap.size∧X4.heap.size < X5.heap.size):=J ⟨HS3.out.2.2.2,HG8.out.1,by have:=HS3.out;omega,HV4.out.size,by have:=HG17.out;omega⟩
 have HCW:Hid (clauC (fun b=>S b∨Sc b) wc c [.int .i64 c.state.kind,.int .i64 c.state.n,.string c.state.name,.slice a1 c.state.args.length p1,.int .i64 c.message.kind,.int .i64 c.message.n,.string c.message.name,.slice a2 c.message.args.length p2,.slice a3 c.acts.length p3,.int .i64 c.next.kind,.int .i64 c.next.n,.string c.next.name,.slice a4 c.next.args.length p4]):=J ⟨a1,p1,a2,p2,a3,p3,a4,p4,rfl,HR1.out.to (fun b hb _=>.inr hb) (fun b hb hl=>HEW.out b (HSC.out b hb).2 (HSC.out b hb).1),HR2.out.to (fun b hb _=>.inr hb) (fun b hb hl=>HEW.out b (HSC.out b hb).2 (HSC.out b hb).1),HR3.out.to (fun b hb _=>.inr hb) (fun b hb _=>.inr hb) (fun b hb hl=>HEW.out b (HSC.out b (hb.elim id id)).2 (HSC.out b (hb.elim id id)).1),HR4.out.to (fun b hb _=>.inr hb) (fun b hb hl=>HEW.out b (HSC.out b hb).2 (HSC.out b hb).1)⟩
 have HMIW:Hid (RT (fun b=>S b∨Sc b) wc m (.agg #[.int .i64 m.kind,.int .i64 m.n,.string m.name,.slice ami m.args.length pmi])):=J (HMI.out.to (fun b hb _=>.inl hb) fun b hb hl=>HEW.out b (HSS.out b hb).2 (HSS.out b hb).1)
 have HOW:Hid (OwnG (fun b=>(S b∨Sc b∨W2.heap.size≤b)∧b < X3.heap.size) (X3.heap.size+2) wc (.slice (some ⟨bb,0,none⟩) 4 bc) bd):=J (HO4.out.to (by have:=HSZW.out;have:=HSZ2.out;omega) fun b hb hl=>by
  have hq:=HQL.out;have h1:=HSZW.out;have h2:=HSZ2.out
  refine (hkp.block b (by omega) ?_).trans (HV5.out.block b hl)
  rcases hb with hb | hb
  ·rcases hb.1 with h | h | h
   ·exact (HSS.out b h).2
   ·exact (HSC.out b h).2
   ·omega
  ·obtain rfl:bb=b:=by simpa [Value.ownBlock] using hb
   omega)
 have HQRW:Hid (QR (fun b=>(S b∨X5.heap.size≤b)∧b < wc.heap.size∧b≠qb) wc qb name room st (ml.eraseIdx i)):=J ⟨a,c0,vm2,hxq2,HTS.out.to (fun b hb hl=>⟨.inl hb,by have:=HBX5.out.size;have:=hkp.size;omega,(HSS.out b hb).2⟩) (fun b hb hl=>HEW.out b (HSS.out b hb).2 hl),hml2.to (fun b hb hl=>⟨hb,hl,hb.elim (fun h=>(HSS.out b h).2) fun h=>by have:=HBX5.out.size;have:=HQL.out;omega⟩) (fun _ _ _=>rfl),fun b hb=>hb.2⟩
 have HINW:Hid (∀ b,((fun b=>(S b∨X5.heap.size≤b)∧b < wc.heap.size∧b≠qb) b∨(fun b=>(S b∨Sc b∨W2.heap.size≤b)∧b < X3.heap.size) b∨(S b∨Sc b))→(fun b=>(S b∨Sc b∨W2.heap.size≤b)∧b < wc.heap.size∧b≠qb∧b≠bb) b∧b < wc.heap.size):=J fun b hb=>by
  have hq:=HQL.out;have h1:=HSZW.out;have h2:=HSZ2.out
  have hlt:(S b∨Sc b)→(fun b=>(S b∨Sc b∨W2.heap.size≤b)∧b < wc.heap.size∧b≠qb∧b≠bb) b∧b < wc.heap.size:=fun h=>by
   have h3:=HSB.out b h
   exact ⟨⟨h.imp id .inl,by omega,h3.2,by omega⟩,by omega⟩
  rcases hb with hb | hb | hb
  ·rcases hb.1 with h | h
   ·exact hlt (.inl h)
   ·exact ⟨⟨.inr (.inr (by omega)),hb.2.1,hb.2.2,by omega⟩,hb.2.1⟩
  ·rcases hb.1 with h | h | h
   ·exact hlt (.inl h)
   ·exact hlt (.inr h)
   ·have h3:=hb.2
    exact ⟨⟨.inr (.inr h),by omega,by omega,by omega⟩,by omega⟩
  ·exact hlt hb
 obtain ⟨z10,z11,z12,z13,z14,z15,z16,z17,z18,z19,z20,z21,z22⟩:=HXCW.out.c13 0 1 2 3 4 5 6 7 8 9 10 11 12
 obtain ⟨y0,y1,y2,y3⟩:=HX17W.out.c4 0 1 2 3
 obtain ⟨⟨tk,st2⟩,hrr⟩:∃ r,r=actO room self next st (ml.eraseIdx i) m c bd:=⟨_,rfl⟩
 have HRR:=J hrr
 clear hrr hml2 hxq2 hkp
 go_wp2_with fail
 refine (ract_c (fun b=>(S b∨Sc b∨W2.heap.size≤b)∧b < wc.heap.size∧b≠qb∧b≠bb) (fun b=>(S b∨X5.heap.size≤b)∧b < wc.heap.size∧b≠qb) (fun b=>(S b∨Sc b∨W2.heap.size≤b)∧b < X3.heap.size) (fun b=>S b∨Sc b) wc X3.heap.size (X3.heap.size+2) qb bb bc name room st (ml.eraseIdx i) m c [.int .i64 c.state.kind,.int .i64 c.state.n,.string c.state.name,.slice a1 c.state.args.length p1,.int .i64 c.message.kind,.int .i64 c.message.n,.string c.message.name,.slice a2 c.message.args.length p2,.slice a3 c.acts.length p3,.int .i64 c.next.kind,.int .i64 c.next.n,.string c.next.name,.slice a4 c.next.args.length p4] bd self next _ HQRW.out HCW.out HMIW.out HOW.out ⟨by omega,by have:=HSZ2.out;have:=HSZW.out;omega,by have:=HSZ2.out;have:=HQL.out;omega⟩ (fun b hb=>⟨hb.2.2.1,hb.2.2.2,hb.2.1⟩) HINW.out
  (toA_checks HTO.out HMEM.out HCM2.out).2.2.1 (toA_checks HTO.out HMEM.out HCM2.out).2.2.2 ((toA_clau HTO.out HMEM.out).2 c HCM2.out) (clFit_bound HF2.out) (clFit_out HF2.out (HCK.out st mS0).2.2 (HCK.out m (mT HMM.out)).2.2).2 (by have:=HSN.out;omega) (by have:=HSN.out;omega) ⟨HCB.out.2.2.1,HCB.out.2.2.2⟩ ⟨(HCK.out st mS0).2.2,fun x hx=>(HCK.out x (mT ((eraseIdx_sub ml i).subset hx))).2.2⟩ (by have h1:=szL_erase ml i;have h2:=HZ.out;rw [szL_pair] at h2 ⊢;omega) HR.out (by have h1:=(eraseIdx_sub ml i).length_le;have h2:=HLL.out;omega)).mono ?_
 rw [←HRR.out]
 rintro e w6 ⟨cs,rfl,htk,hkk,hqr⟩
 have htk:takC _ w6 tk cs:=htk
 have hqr:QR _ w6 qb name room st2 (ml.eraseIdx i):=hqr
 have HTK0:=J htk
 obtain ⟨ak,pk,vs,vp,vl,rfl,-,hs2,hs3,hs4⟩:=htk
 have o1:vs.oneCell'=true:=by obtain ⟨a,c,e,-⟩:=hs2.form;have e:vs=_:=e;rw [e];rfl
 have o2:vp.oneCell'=true:=by obtain ⟨a,c,e,-⟩:=hs3.form;have e:vp=_:=e;rw [e];rfl
 have o3:vl.oneCell'=true:=by obtain ⟨a,c,e,-⟩:=hs4.form;have e:vl=_:=e;rw [e];rfl
 have HKK2:=J hkk;have HQR2:=J hqr
 have HX86:Hid (Blk w6 g8 [.int .i64 0,.int .i64 0,.string ⟨#[]⟩,.slice none 0 0,.int .i64 0,.slice none 0 0,.slice none 0 0,.slice none 0 0]):=J (HX8W.out.keep hkk (by have:=HSZ2.out;have:=HQL.out;omega))
 clear hs2 hs3 hs4 hkk hqr z10 z11 z12 z13 z14 z15 z16 z17 z18 z19 z20 z21 z22 y0 y1 y2 y3
 go_wp2_with (first | (refine yI 43 8 szRTaken _ _ rfl rfl rfl rfl rfl HX86.out rfl rfl (by simp only [List.toList_toArray,List.all_cons,List.all_nil,o1,o2,o3,Bool.and_true];rfl) ?_;intro W9 hF hs9 hBW hoth;have HF:=J hF;have HFB:=J hBW;have HOTH:=J hoth;have HFS:=J hs9;clear hF hBW hoth))
 have HSTE:Hid (stepE l name room self next (st :: ml)=((tk,0),st2 :: ml.eraseIdx i)):=J ((stepE_some HTO.out HSN.out HNI.out HKK.out (by rw [←HBH.out];exact HMS.out) hlt HME.out.symm).trans (by rw [←HRR.out]))
 refine bodyPost_ret (yH Tryz.results10 szRTaken _ Tryz.underlying43 rfl rfl HF.out rfl) rfl (RStepP.fin (N:=X3.heap.size) HSTE.out rfl HTK0.out HQR2.out HBX5.out HKP.out HKK2.out (HFB.out 0 _ (Nat.zero_le _) (Below.refl _ _)) HOTH.out HFS.out (by have:=HSZ2.out;omega) (by have:=HSZ2.out;omega) HQL.out fun b hb hl=>by
  have h1:=HSZ2.out;have h2:=HSZW.out;have h0:=HQL.out
  have hA:(fun b=>(S b∨Sc b∨W2.heap.size≤b)∧b < wc.heap.size∧b≠qb∧b≠bb) b→(S b∨Sc b∨w.heap.size≤b)∧b≠g8:=fun h=>by
   rcases h.1 with h3 | h3 | h3
   ·exact ⟨.inl h3,by have:=(HSS.out b h3).1;omega⟩
   ·exact ⟨.inr (.inl h3),by have:=(HSC.out b h3).1;omega⟩
   ·exact ⟨.inr (.inr (by omega)),by omega⟩
  rcases hb with hb | hb
  ·rcases hb with hb | hb
   ·exact hA hb
   ·exact ⟨.inr (.inr (by omega)),by omega⟩
  ·rcases hb.1 with hb | hb
   ·exact hA hb
   ·exact ⟨.inr (.inr (by omega)),by omega⟩)
end Go.Proofs.YtedfepnekjjmnabGreat
