/-
  A process: Step. Conditions: it lies as PrR says; few names, few words; the program is small.
-/
import Derived.Test.YtedfepnekjjmnabGreatProc14
import Derived.Test.YtedfepnekjjmnabGreatJj
import Derived.Test.YtedfepnekjjmnabGreatJi
import Derived.Test.YtedfepnekjjmnabGreatJc
namespace Go.Proofs.YtedfepnekjjmnabGreat
open Go.RowKit
set_option linter.unusedSimpArgs false
set_option linter.unusedVariables false
set_option maxRecDepth 100000
set_option maxHeartbeats 16000000
theorem pstep_c (G:Nat→Prop) (w:World) (pb:Nat) (name:ByteArray) (room:Int) (nb u:Nat) (st:T) (x:Wrd) (L:TW) (l:List Behv) (al:Option Addr) (cl:Nat) (self next:Int) (S:Nat→Prop) (h:PrR G w pb name room nb u ((st,x) :: L) []) (hGl:∀ b,G b→b < w.heap.size) (hv:RX behvE S S w l (.slice al l.length cl)) (hS:∀ b,S b→b < w.heap.size∧¬G b)
  (hbl:behvsB l≤1048576) (hl:L.length≤700) (hr:room≤1000) (hn:nb≤2147483648) :
  Calls Tryz.prog 11 #[.pointer (some ⟨pb,0,none⟩),.slice al l.length cl,.int .i64 self,.int .i64 next] w (StepP G w pb name room nb (stepE l name room self next (st :: yQ L))):=by
 obtain ⟨W0,hW0⟩:=I (w.alloc (.cells #[.int .i64 0,.int .i64 0,.string ⟨#[]⟩,.slice none 0 0,.int .i64 0,.slice none 0 0,.slice none 0 0,.slice none 0 0] 50))
 obtain ⟨g8,hg8⟩:=I (w.heap.size)
 have HB0:Hid (Below w.heap.size w W0):=J (by rw [hW0];exact yA _ _)
 have HX0:Hid (Blk W0 g8 [.int .i64 0,.int .i64 0,.string ⟨#[]⟩,.slice none 0 0,.int .i64 0,.slice none 0 0,.slice none 0 0,.slice none 0 0]):=J (by rw [hW0];exact Blk.new _ _ _ _ hg8)
 have HG8:Hid (g8=w.heap.size∧W0.heap.size=w.heap.size+1):=J ⟨hg8,by rw [hW0];simp⟩
 have HH:=J h;have HV:=J hv;have HSS:=J hS;have HGL:=J hGl
 obtain ⟨⟨tt,te⟩,hto⟩:∃ r,r=toA l:=⟨_,rfl⟩
 have HTO:=J hto
 have hlen:=behvsB_len l
 clear h hv hS hto hGl
 go_enter Tryz.func11,Tryz.ntmps11
 go_upto_region 1 with fail
 rw [←hW0,←hg8]
 clear hW0 hg8
 go_wp2_with fail
 refine (to_c l al cl S W0 (HV.out.to (fun _ h _=>h) (fun _ h _=>h) fun b hb hl=>HB0.out.block b hl) (fun b hb=>by have:=HSS.out b hb;have:=HG8.out;omega) (by omega)).mono ?_
 rintro e w1 hP
 rw [←HTO.out] at hP
 obtain ⟨ta,tc,rfl,hB1,-⟩:=hP
 have HB1:=J hB1
 clear hB1
 go_upto_region 2 with fail
 obtain ⟨W1,hW1⟩:=I (w1.alloc (.cells #[.int .i64 tt.kind,.int .i64 tt.n,.string tt.name,.slice ta tt.args.length tc] 25))
 have HB1:Hid (Below W0.heap.size W0 W1):=J (by rw [hW1];exact yB HB1.out HB1.out.size (yA _ _))
 rw [←hW1]
 clear hW1
 have HBW1:Hid (Below w.heap.size w W1):=J (HB0.out.trans (HB1.out.mono (by have:=HG8.out;omega)))
 have HX1:=J (HX0.out.step HB1.out)
 have HH1:=J (HH.out.below HBW1.out)
 by_cases hte:te=0
 rotate_left 1
 ·have HSE:Hid (stepE l name room self next (st :: yQ L)=((zeroTak,te),yQ ((st,x) :: L))):=J (by
   have h1:(toA l).2=te:=by rw [←HTO.out]
   rw [stepE_to (by rw [h1];exact hte),h1];rfl)
  have hne:(te != 0)=true:=by simpa using hte
  clear hte
  go_wp2_with (first | (refine yI 50 8 szTaken _ _ rfl rfl rfl rfl rfl HX1.out rfl rfl rfl ?_;intro W7 hF hs7 hBW hoth;have HF:=J hF;have HFB:=J hBW;have HOTH:=J hoth;have HFS:=J hs7;clear hF hBW hoth))
  refine bodyPost_ret (yH Tryz.results11 szTaken _ Tryz.underlying50 rfl rfl HF.out rfl) rfl (StepP.early (n:=te) HSE.out rfl (HFB.out _ _ (by have:=HG8.out;omega) HBW1.out) HH.out)
 subst hte
 have HT0:Hid ((toA l).2=0):=J (by rw [←HTO.out])
 by_cases hsn:self < 1∨99 < self∨next < 1∨92 < next
 ·have HSE:Hid (stepE l name room self next (st :: yQ L)=((zeroTak,1),yQ ((st,x) :: L))):=J (stepE_arg HT0.out hsn)
  by_cases k1:self < 1
  ·clear hsn
   go_wp2_with (first | (refine yI 50 8 szTaken _ _ rfl rfl rfl rfl rfl HX1.out rfl rfl rfl ?_;intro W7 hF hs7 hBW hoth;have HF:=J hF;have HFB:=J hBW;have HOTH:=J hoth;have HFS:=J hs7;clear hF hBW hoth))
   refine bodyPost_ret (yH Tryz.results11 szTaken _ Tryz.underlying50 rfl rfl HF.out rfl) rfl (StepP.early (n:=1) HSE.out rfl (HFB.out _ _ (by have:=HG8.out;omega) HBW1.out) HH.out)
  have k1:=Int.not_lt.1 k1
  by_cases k2:99 < self
  ·clear hsn
   go_wp2_with (first | (refine yI 50 8 szTaken _ _ rfl rfl rfl rfl rfl HX1.out rfl rfl rfl ?_;intro W7 hF hs7 hBW hoth;have HF:=J hF;have HFB:=J hBW;have HOTH:=J hoth;have HFS:=J hs7;clear hF hBW hoth))
   refine bodyPost_ret (yH Tryz.results11 szTaken _ Tryz.underlying50 rfl rfl HF.out rfl) rfl (StepP.early (n:=1) HSE.out rfl (HFB.out _ _ (by have:=HG8.out;omega) HBW1.out) HH.out)
  have k2:=Int.not_lt.1 k2
  by_cases k3:next < 1
  ·clear hsn
   go_wp2_with (first | (refine yI 50 8 szTaken _ _ rfl rfl rfl rfl rfl HX1.out rfl rfl rfl ?_;intro W7 hF hs7 hBW hoth;have HF:=J hF;have HFB:=J hBW;have HOTH:=J hoth;have HFS:=J hs7;clear hF hBW hoth))
   refine bodyPost_ret (yH Tryz.results11 szTaken _ Tryz.underlying50 rfl rfl HF.out rfl) rfl (StepP.early (n:=1) HSE.out rfl (HFB.out _ _ (by have:=HG8.out;omega) HBW1.out) HH.out)
  have k3:=Int.not_lt.1 k3
  have k4:92 < next:=by omega
  clear hsn
  go_wp2_with (first | (refine yI 50 8 szTaken _ _ rfl rfl rfl rfl rfl HX1.out rfl rfl rfl ?_;intro W7 hF hs7 hBW hoth;have HF:=J hF;have HFB:=J hBW;have HOTH:=J hoth;have HFS:=J hs7;clear hF hBW hoth))
  refine bodyPost_ret (yH Tryz.results11 szTaken _ Tryz.underlying50 rfl rfl HF.out rfl) rfl (StepP.early (n:=1) HSE.out rfl (HFB.out _ _ (by have:=HG8.out;omega) HBW1.out) HH.out)
 have HSN:=J hsn
 have k1:1≤self:=by omega
 have k2:self≤99:=by omega
 have k3:1≤next:=by omega
 have k4:next≤92:=by omega
 clear hsn
 obtain ⟨F,B,H,vv,hV,hnb,hu,hG⟩:=HH.out
 have HVV:=J hV;have HNB:=J (And.intro hnb hu);have HG:=J hG
 clear hV hnb hu hG
 have y0:=(HVV.out.below HBW1.out).blk.cell 0 _ rfl
 go_upto_region 6 with fail
 go_wp2_with fail
 refine (named_c l name S al cl W1 (HV.out.to (fun _ h _=>h) (fun _ h _=>h) fun b hb hl=>HBW1.out.block b hl) (fun b hb=>by have:=HSS.out b hb;have:=HBW1.out.size;omega) (by omega)).mono ?_
 rintro e w2 ⟨hB2,hcase⟩
 have HB2:Hid (Below w.heap.size w w2):=J (yB HBW1.out HBW1.out.size hB2)
 have HX2:=J (HX1.out.step hB2)
 clear hB2 y0
 rcases hcase with ⟨hni,rfl⟩ | ⟨k,hk,ab,pbh,hni,rfl,hRX⟩
 ·have HSE:Hid (stepE l name room self next (st :: yQ L)=((zeroTak,4),yQ ((st,x) :: L))):=J (stepE_name HT0.out HSN.out hni)
  clear hni
  go_upto_region 7 with fail
  obtain ⟨W2,hW2⟩:=I (w2.alloc (.cells #[.string ⟨#[]⟩,.slice none 0 0] 79))
  have HB2':Hid (Below w.heap.size w W2):=J (by rw [hW2];exact yB HB2.out HB2.out.size (yA _ _))
  have HX2':Hid (Blk W2 g8 [.int .i64 0,.int .i64 0,.string ⟨#[]⟩,.slice none 0 0,.int .i64 0,.slice none 0 0,.slice none 0 0,.slice none 0 0]):=J (by rw [hW2];exact HX2.out.alloc _)
  rw [←hW2]
  clear hW2
  go_wp2_with (first | (refine yI 50 8 szTaken _ _ rfl rfl rfl rfl rfl HX2'.out rfl rfl rfl ?_;intro W7 hF hs7 hBW hoth;have HF:=J hF;have HFB:=J hBW;have HOTH:=J hoth;have HFS:=J hs7;clear hF hBW hoth))
  refine bodyPost_ret (yH Tryz.results11 szTaken _ Tryz.underlying50 rfl rfl HF.out rfl) rfl (StepP.early (n:=4) HSE.out rfl (HFB.out _ _ (by have:=HG8.out;omega) HB2'.out) HH.out)
 obtain ⟨bh,hbh⟩:∃ b,b=l[k]:=⟨_,rfl⟩
 rw [←hbh] at hRX
 rw [←hbh]
 have HBH:=J hbh;have HRX:=J hRX;have HNI:=J hni
 have HMEM:Hid (bh∈l):=J (by rw [hbh];exact List.getElem_mem hk)
 clear hbh hRX hni
 go_upto_region 9 with fail
 obtain ⟨W2,hW2⟩:=I (w2.alloc (.cells #[.string bh.name,.slice ab bh.clauses.length pbh] 79))
 obtain ⟨g12,hg12⟩:=I (w2.heap.size)
 have HB2':Hid (Below w.heap.size w W2):=J (by rw [hW2];exact yB HB2.out HB2.out.size (yA _ _))
 have HX2':Hid (Blk W2 g8 [.int .i64 0,.int .i64 0,.string ⟨#[]⟩,.slice none 0 0,.int .i64 0,.slice none 0 0,.slice none 0 0,.slice none 0 0]):=J (by rw [hW2];exact HX2.out.alloc _)
 have HX12:Hid (Blk W2 g12 [.string bh.name,.slice ab bh.clauses.length pbh]):=J (by rw [hW2];exact Blk.new _ _ _ _ hg12)
 have HRX2:Hid (RX clauE S S W2 bh.clauses (.slice ab bh.clauses.length pbh)):=J (by rw [hW2];exact HRX.out.below (yA _ _))
 rw [←hW2,←hg12]
 clear hW2 hg12 HRX HX2 HB2
 have HH2:=J (HH.out.below HB2'.out)
 obtain ⟨y0,y1⟩:=HX12.out.c2 0 1
 have hcl:=(toA_clau HT0.out HMEM.out).1
 go_wp2_with fail
 refine (pfound_c G W2 pb name room nb u st x L S bh.name bh.clauses ab pbh HH2.out HRX2.out (fun b hb=>by have:=HSS.out b hb;have:=HB2'.out.size;omega) (fun c hc=>by have:=clausB_bulk HMEM.out hc;omega) (by omega) (by omega) hr (by omega)).mono ?_
 rintro e w3 ⟨hB3,hm⟩
 have HB3:=J hB3
 clear hB3 y0 y1
 have HOK:Hid (∀ p∈((st,x) :: L:TW),yE p.1=0∧yF [p.1]=true):=J fun p hp=>HVV.out.ph.ok p (by simpa using hp)
 have HBK:Hid (yC [st]≤2000∧∀ m∈yQ L,yC [m]≤2000):=J ⟨Nat.le_trans (chk_bulk (HOK.out (st,x) (by simp)).1) (by decide),fun m hm=>by
  obtain ⟨p,hp,rfl⟩:=List.mem_map.1 hm
  exact Nat.le_trans (chk_bulk (HOK.out p (mT hp)).1) (by decide)⟩
 have HX3:=J (HX2'.out.step HB3.out)
 have HBW3:Hid (Below w.heap.size w w3):=J (yB HB2'.out HB2'.out.size HB3.out)
 cases hms:msFirst bh.clauses st 1 (yQ L) with
 | none =>
  rw [hms] at hm
  have hm:e=.returned (.tuple #[.int .i64 0,.agg #[.int .i64 0,.int .i64 0,.string ⟨#[]⟩,.slice none 0 0,.int .i64 0,.int .i64 0,.string ⟨#[]⟩,.slice none 0 0,.slice none 0 0,.int .i64 0,.int .i64 0,.string ⟨#[]⟩,.slice none 0 0],.slice none 0 0]):=hm
  subst hm
  have HSE:Hid (stepE l name room self next (st :: yQ L)=((zeroTak,4),yQ ((st,x) :: L))):=J (stepE_none HT0.out HSN.out HNI.out hk (by rw [←HBH.out];exact hms))
  clear hms
  go_upto_region 10 with fail
  obtain ⟨W3,hW3⟩:=I (w3.alloc (.cells #[.int .i64 0,.int .i64 0,.string ⟨#[]⟩,.slice none 0 0,.int .i64 0,.int .i64 0,.string ⟨#[]⟩,.slice none 0 0,.slice none 0 0,.int .i64 0,.int .i64 0,.string ⟨#[]⟩,.slice none 0 0] 82))
  have HB3':Hid (Below w.heap.size w W3):=J (by rw [hW3];exact yB HBW3.out HBW3.out.size (yA _ _))
  have HX3':Hid (Blk W3 g8 [.int .i64 0,.int .i64 0,.string ⟨#[]⟩,.slice none 0 0,.int .i64 0,.slice none 0 0,.slice none 0 0,.slice none 0 0]):=J (by rw [hW3];exact HX3.out.alloc _)
  rw [←hW3]
  clear hW3
  go_wp2_with (first | (refine yI 50 8 szTaken _ _ rfl rfl rfl rfl rfl HX3'.out rfl rfl rfl ?_;intro W7 hF hs7 hBW hoth;have HF:=J hF;have HFB:=J hBW;have HOTH:=J hoth;have HFS:=J hs7;clear hF hBW hoth))
  refine bodyPost_ret (yH Tryz.results11 szTaken _ Tryz.underlying50 rfl rfl HF.out rfl) rfl (StepP.early (n:=4) HSE.out rfl (HFB.out _ _ (by have:=HG8.out;omega) HB3'.out) HH.out)
 | some q =>
  obtain ⟨i,c,bd⟩:=q
  rw [hms] at hm
  obtain ⟨vc,vb,rfl,hcl2,base,bb,bc,hbase,rfl,hown⟩:=hm
  obtain ⟨hcm,hi1,hi2,hbl4,hbs4⟩:=msFirst_out HBK.out.1 HBK.out.2 hms
  obtain ⟨j,hij⟩:∃ j,i=j+1:=⟨i - 1,by omega⟩
  have HIJ:=J hij
  have HMS:=J hms;have HCM:=J hcm;have HB4:=J (And.intro hbl4 hbs4)
  obtain ⟨a1,p1,a2,p2,a3,p3,a4,p4,hvc,hr1,hr2,hr3,hr4⟩:=hcl2
  obtain rfl:vc=#[.int .i64 c.state.kind,.int .i64 c.state.n,.string c.state.name,.slice a1 c.state.args.length p1,.int .i64 c.message.kind,.int .i64 c.message.n,.string c.message.name,.slice a2 c.message.args.length p2,.slice a3 c.acts.length p3,.int .i64 c.next.kind,.int .i64 c.next.n,.string c.next.name,.slice a4 c.next.args.length p4]:=by rw [←Array.toList_inj];exact hvc
  have HR3:=J hr3;have HR4:=J hr4
  have HOW:Hid (OwnG (fun b=>base≤b∧b < w3.heap.size) base w3 (.slice (some ⟨bb,0,none⟩) 4 bc) bd):=J (OwnT.to hown (Nat.le_refl _) (fun b hb _=>⟨⟨hb.1,hb.2.1⟩,hb.2⟩) fun _ _ _=>rfl)
  have HBB:Hid (base≤bb∧bb < w3.heap.size∧W2.heap.size≤base):=J ⟨(HOW.out.block bb rfl).1,(HOW.out.block bb rfl).2,hbase⟩
  clear hms hcm hvc hr1 hr2 hr3 hr4 hown hbase hbl4 hbs4
  have hjl:j < L.length:=by rw [tmsL_len] at hi2;omega
  have hil:i < L.length+1:=by omega
  have HAR:Hid (j < L.length∧i < L.length+1∧1≤i):=J ⟨hjl,hil,hi1⟩
  have qi:((i:Int) == 0)=false:=by simp;omega
  clear hij hi1 hi2 hjl hil
  go_upto_region 12 with fail
  obtain ⟨W3,hW3⟩:=I (w3.alloc (.cells #[.int .i64 c.state.kind,.int .i64 c.state.n,.string c.state.name,.slice a1 c.state.args.length p1,.int .i64 c.message.kind,.int .i64 c.message.n,.string c.message.name,.slice a2 c.message.args.length p2,.slice a3 c.acts.length p3,.int .i64 c.next.kind,.int .i64 c.next.n,.string c.next.name,.slice a4 c.next.args.length p4] 82))
  obtain ⟨g15,hg15⟩:=I (w3.heap.size)
  have HK3:Hid (Below w3.heap.size w3 W3):=J (by rw [hW3];exact yA _ _)
  have HX15:Hid (Blk W3 g15 [.int .i64 c.state.kind,.int .i64 c.state.n,.string c.state.name,.slice a1 c.state.args.length p1,.int .i64 c.message.kind,.int .i64 c.message.n,.string c.message.name,.slice a2 c.message.args.length p2,.slice a3 c.acts.length p3,.int .i64 c.next.kind,.int .i64 c.next.n,.string c.next.name,.slice a4 c.next.args.length p4]):=J (by rw [hW3];exact Blk.new _ _ _ _ hg15)
  have HG15:Hid (g15=w3.heap.size∧W3.heap.size=w3.heap.size+1):=J ⟨hg15,by rw [hW3];simp⟩
  rw [←hW3,←hg15]
  clear hW3 hg15
  have HBW:Hid (Below w.heap.size w W3):=J (yB HBW3.out HBW3.out.size HK3.out)
  have HHW:=J (HH.out.below HBW.out)
  go_wp2_with fail
  refine (pget_c G W3 pb name room nb u ((st,x) :: L) [] HHW.out i (by have:=HAR.out;simp;omega) (by simp;omega) hr (by omega)).mono ?_
  rintro e w4 ⟨am,cm,rfl,hB4,hT4⟩
  obtain ⟨m,hm⟩:∃ m,m=(yQ L)[j]'(by rw [tmsL_len];exact HAR.out.1):=⟨_,rfl⟩
  have hm2:(((st,x) :: L:TW)[i]'(by have:=HAR.out;simp;omega)).1=m:=by (have hij:=HIJ.out);subst hij;rw [hm];simp [yQ]
  rw [hm2] at hT4
  rw [hm2]
  have HM:=J hm
  have HTM:=J hT4;have HK4:=J hB4
  clear hm hm2 hT4 hB4
  go_upto_region 13 with fail
  obtain ⟨W4,hW4⟩:=I (w4.alloc (.cells #[.int .i64 m.kind,.int .i64 m.n,.string m.name,.slice am m.args.length cm] 25))
  obtain ⟨g17,hg17⟩:=I (w4.heap.size)
  have HX17:Hid (Blk W4 g17 [.int .i64 m.kind,.int .i64 m.n,.string m.name,.slice am m.args.length cm]):=J (by rw [hW4];exact Blk.new _ _ _ _ hg17)
  have HK34:Hid (Below W3.heap.size W3 W4):=J (by rw [hW4];exact yB HK4.out HK4.out.size (yA _ _))
  have HTM4:Hid (RT (fun b=>W3.heap.size≤b∧b < w4.heap.size) W4 m (.agg #[.int .i64 m.kind,.int .i64 m.n,.string m.name,.slice am m.args.length cm])):=J (by rw [hW4];exact HTM.out.to (fun b hb hl=>⟨hb,hl⟩) fun b _ hl=>(yA _ _).block b hl)
  have HG17:Hid (g17=w4.heap.size∧W4.heap.size=w4.heap.size+1):=J ⟨hg17,by rw [hW4];simp⟩
  have hsw4:=HK4.out.size
  rw [←hW4,←hg17]
  clear hW4 hg17 HTM
  have HBW4:Hid (Below w.heap.size w W4):=J (yB HBW.out HBW.out.size HK34.out)
  obtain ⟨gw,cw,ev⟩:=HVV.out.ow.form0 (by simp [wdsL])
  subst ev
  obtain ⟨wl,hwl⟩:∃ wl,wl=wdsL ((st,x) :: L):=⟨_,rfl⟩
  have HV4:=J (HVV.out.below HBW4.out)
  rw [←hwl] at HVV HV4 HG
  have HWLL:Hid (wl.length=L.length+1):=J (by rw [hwl,wdsL_len];rfl)
  have HWL:=J hwl
  clear hwl
  have z2:=HV4.out.blk.cell 2 _ rfl
  have hwr:IntKind.i64.wrap ((i:Int)+1)=(i:Int)+1:=by (have:=HAR.out);rw [IntKind.wrap_i64];omega
  go_wp2_with fail
  refine (delW_c W4 gw cw wl i (by have:=HV4.out.ow;rwa [←HWL.out] at this) (by have:=HAR.out;have:=HWLL.out;omega) (by have:=HWLL.out;omega)).mono ?_
  rintro e w5 ⟨rfl,hO5,hK5⟩
  have HO5:=J hO5;have HK5:=J hK5
  clear hO5 hK5 z2
  have HGN:Hid (gw≠pb∧pb < w.heap.size∧gw < w.heap.size∧G pb∧G gw):=J ⟨(HVV.out.fv gw rfl).2,HVV.out.blk.lt,(HVV.out.ow.block gw rfl).2,HG.out.2.1,HG.out.2.2 gw rfl⟩
  have HP5:=J (HV4.out.blk.keep HK5.out (fun e=>HGN.out.1 e.symm))
  have zf:=HP5.out.fr
  have zc:=HP5.out.cell 2 _ rfl
  have zl:=HP5.out.lt
  go_upto_region 14 with fail
  obtain ⟨W5,hW5⟩:=I (w5.setCell ⟨pb,2,none⟩ (.slice (some ⟨gw,0,none⟩) (wl.length - 1) cw))
  have HPR5:Hid (PrR G W5 pb name room nb u (((st,x) :: L).eraseIdx i) []):=J (by rw [hW5];exact PrR.erase HWL.out HV4.out HNB.out.1 HNB.out.2 HG.out.1 HGN.out.2.2.2.1 HGN.out.2.2.2.2 HO5.out HK5.out)
  have HK45:Hid (Keep (fun b=>b=gw∨b=pb) W4 W5):=J (by rw [hW5];exact (HK5.out.mono fun b _ hb=>.inl hb).setCell _ (.inl (.inr rfl)))
  rw [←hW5]
  clear hW5 zf zc zl
  go_upto_region 15 with fail
  obtain ⟨W6,hW6⟩:=I (W5.alloc (.cells #[(.slice (some ⟨bb,0,none⟩) 4 bc),.int .i64 self,.int .i64 next,.int .i64 0,.int .i64 0,.string ⟨#[]⟩,.slice none 0 0,.int .i64 0,.slice none 0 0,.slice none 0 0,.slice none 0 0,.bool false] 98))
  obtain ⟨db,hdb⟩:=I (W5.heap.size)
  obtain ⟨N,hN⟩:∃ N,N=W2.heap.size:=⟨_,rfl⟩
  have HXD:Hid (Blk W6 db (doerC (.slice (some ⟨bb,0,none⟩) 4 bc) self next (outC 0 (.slice none 0 0) (.slice none 0 0) (.slice none 0 0)) false)):=J (by rw [hW6];exact Blk.new _ _ _ _ hdb)
  have HPR6:Hid (PrR G W6 pb name room nb u (((st,x) :: L).eraseIdx i) []):=J (by rw [hW6];exact HPR5.out.below (yA _ _))
  have HK46:Hid (Keep (fun b=>b=gw∨b=pb) W4 W6):=J (by rw [hW6];exact HK45.out.alloc _)
  have HSZ:Hid (w.heap.size+1≤N∧N≤w3.heap.size∧W3.heap.size=w3.heap.size+1∧W3.heap.size≤w4.heap.size∧W4.heap.size=w4.heap.size+1∧W4.heap.size≤db∧db+1=W6.heap.size∧g8=w.heap.size∧g15=w3.heap.size∧g17=w4.heap.size∧N≤base∧base≤bb∧bb < w3.heap.size∧pb < w.heap.size∧gw < w.heap.size):=J (by
   have q1:=HG8.out;have q2:=HB2'.out.size;have q3:=HB3.out.size;have q4:=HG15.out;have q5:=HG17.out;have q6:=HK45.out.size;have q7:=HBB.out;have q8:=HGN.out
   have q9:=HX2'.out.lt
   have q10:W6.heap.size=W5.heap.size+1:=by rw [hW6];simp
   omega)
  rw [←hW6,←hdb]
  clear hW6 hdb
  have HC46:Hid (∀ b,b < W4.heap.size→b≠gw→b≠pb→W6.heap[b]?=W4.heap[b]?):=J fun b hb h1 h2=>HK46.out.block b hb fun h=>h.elim h1 h2
  have HC36:Hid (∀ b,b < w3.heap.size→b≠gw→b≠pb→W6.heap[b]?=w3.heap[b]?):=J fun b hb h1 h2=>(HC46.out b (by have:=HSZ.out;omega) h1 h2).trans ((HK34.out.block b (by have:=HSZ.out;omega)).trans (HK3.out.block b hb))
  have HX8:Hid (Blk W6 g8 [.int .i64 0,.int .i64 0,.string ⟨#[]⟩,.slice none 0 0,.int .i64 0,.slice none 0 0,.slice none 0 0,.slice none 0 0]):=J (HX3.out.heap (HC36.out g8 (by have:=HSZ.out;omega) (by have:=HSZ.out;omega) (by have:=HSZ.out;omega)))
  have HX15':Hid (Blk W6 g15 [.int .i64 c.state.kind,.int .i64 c.state.n,.string c.state.name,.slice a1 c.state.args.length p1,.int .i64 c.message.kind,.int .i64 c.message.n,.string c.message.name,.slice a2 c.message.args.length p2,.slice a3 c.acts.length p3,.int .i64 c.next.kind,.int .i64 c.next.n,.string c.next.name,.slice a4 c.next.args.length p4]):=J ((HX15.out.step HK34.out).heap (HC46.out g15 (by have:=HSZ.out;omega) (by have:=HSZ.out;omega) (by have:=HSZ.out;omega)))
  have HX17':Hid (Blk W6 g17 [.int .i64 m.kind,.int .i64 m.n,.string m.name,.slice am m.args.length cm]):=J (HX17.out.heap (HC46.out g17 (by have:=HSZ.out;omega) (by have:=HSZ.out;omega) (by have:=HSZ.out;omega)))
  have HTM6:Hid (RT (fun b=>W3.heap.size≤b∧b < w4.heap.size) W6 m (.agg #[.int .i64 m.kind,.int .i64 m.n,.string m.name,.slice am m.args.length cm])):=J (HTM4.out.to (fun _ h _=>h) fun b hb _=>HC46.out b (by have:=HSZ.out;omega) (by have:=HSZ.out;omega) (by have:=HSZ.out;omega))
  have HOW6:Hid (OwnG (fun b=>base≤b∧b < w3.heap.size) base W6 (.slice (some ⟨bb,0,none⟩) 4 bc) bd):=J (HOW.out.to (by have:=HSZ.out;omega) fun b hb hl=>by
   have hge:base≤b:=by
    rcases hb with hb | hb
    ·exact hb.1
    ·obtain rfl:bb=b:=by simpa [Value.ownBlock] using hb
     exact HBB.out.1
   exact HC36.out b hl (by have:=HSZ.out;omega) (by have:=HSZ.out;omega))
  obtain ⟨P0,hP0,hcut,hD0⟩:=DoS.start (N:=N) (bs:=[(g8,[.int .i64 0,.int .i64 0,.string ⟨#[]⟩,.slice none 0 0,.int .i64 0,.slice none 0 0,.slice none 0 0,.slice none 0 0]),(g15,[.int .i64 c.state.kind,.int .i64 c.state.n,.string c.state.name,.slice a1 c.state.args.length p1,.int .i64 c.message.kind,.int .i64 c.message.n,.string c.message.name,.slice a2 c.message.args.length p2,.slice a3 c.acts.length p3,.int .i64 c.next.kind,.int .i64 c.next.n,.string c.next.name,.slice a4 c.next.args.length p4]),(g17,[.int .i64 m.kind,.int .i64 m.n,.string m.name,.slice am m.args.length cm])]) (Qz:=fun b=>W3.heap.size≤b∧b < w4.heap.size) (self:=self) (next:=next) (by have:=HSZ.out;omega) HXD.out HOW6.out (fun b hb _=>by have:=HSZ.out;omega) (by have:=HSZ.out;omega) (by have:=HSZ.out;omega) (by have:=HSZ.out;omega)
   (fun p hp=>by
    have hz:=HSZ.out
    simp only [List.mem_cons,List.not_mem_nil,or_false] at hp
    rcases hp with rfl | rfl | rfl
    ·exact ⟨HX8.out,by show g8≠db;omega,by show g8≠bb;omega⟩
    ·exact ⟨HX15'.out,by show g15≠db;omega,by show g15≠bb;omega⟩
    ·exact ⟨HX17'.out,by show g17≠db;omega,by show g17≠bb;omega⟩) (fun b hb=>by have:=HSZ.out;omega)
  have HCUT:=J (cut_below W6 N (by have:=HSZ.out;omega)).2
  obtain ⟨w0,hw0⟩:∃ v,v=W6.cut N:=⟨_,rfl⟩
  rw [←hw0] at hcut hD0 HCUT
  have HW0:=J hcut;have HD0:=J hD0;have HP0:=J hP0
  clear hcut hD0 hP0 hw0 hN
  have HSB:Hid (∀ wr:World,Below N w0 wr→∀ b,S b→wr.heap[b]?=w3.heap[b]?):=J fun wr hB b hb=>by
   have hz:=HSZ.out
   have h1:=HSS.out b hb
   have hg:b≠gw∧b≠pb:=⟨fun e=>h1.2 (e ▸ HGN.out.2.2.2.2),fun e=>h1.2 (e ▸ HGN.out.2.2.2.1)⟩
   exact (hB.block b (by omega)).trans ((HCUT.out.block b (by omega)).symm.trans (HC36.out b (by omega) hg.1 hg.2))
  have z8:=HX15'.out.cell 8 _ rfl
  have hac:=((toA_clau HT0.out HMEM.out).2 c HCM.out).1
  have HAO:Hid (actsOk c∧∀ d∈c.acts,deedB d≤1048576):=J ⟨(toA_clau HT0.out HMEM.out).2 c HCM.out,fun d hd=>by have:=(clausB_bulk HMEM.out HCM.out).2.2.2 d hd;omega⟩
  go_wp2_with fail
  clear z8
  go_loopw [90] (fun v90 wr=>∃ (k:Nat) (P:Nat→Prop) (vs vp vl:Value),k≤c.acts.length∧v90=.int .i64 (k:Int)∧(∀ b,P b→N≤b)∧W6.heap.size≤wr.heap.size∧DoS P (fun b=>W3.heap.size≤b∧b < w4.heap.size) W6 w0 wr db bb bc self (foldA self ⟨bd,next,[],[],[],0,false⟩ (c.acts.take k)) [(g8,[.int .i64 0,.int .i64 0,.string ⟨#[]⟩,.slice none 0 0,.int .i64 0,.slice none 0 0,.slice none 0 0,.slice none 0 0]),(g15,[.int .i64 c.state.kind,.int .i64 c.state.n,.string c.state.name,.slice a1 c.state.args.length p1,.int .i64 c.message.kind,.int .i64 c.message.n,.string c.message.name,.slice a2 c.message.args.length p2,.slice a3 c.acts.length p3,.int .i64 c.next.kind,.int .i64 c.next.n,.string c.next.name,.slice a4 c.next.args.length p4]),(g17,[.int .i64 m.kind,.int .i64 m.n,.string m.name,.slice am m.args.length cm])] vs vp vl) (fun v90 _=>c.acts.length - (intOf v90).toNat)
  case atStart=>exact ⟨0,P0,_,_,_,Nat.zero_le _,rfl,HP0.out,Nat.le_refl _,HD0.out⟩
  case round =>
   obtain ⟨k,P,vs,vp,vl,hkl,rfl,hP,hsz,hD⟩:=hrel
   have HP:=J hP;have HD:=J hD
   have HBN:Hid (Below N w0 wr):=J (by have:=hD.rq.bel;rwa [HW0.out] at this)
   clear hP hD
   by_cases hlt:k < c.acts.length
   ·obtain ⟨b3,o3,rfl⟩:=HR3.out.addr (by decide) (by omega)
    have HRW:Hid (RX deedE S S wr c.acts (.slice (some ⟨b3,o3,none⟩) c.acts.length p3)):=J (HR3.out.to (fun _ h _=>h) (fun _ h _=>h) fun b hb _=>HSB.out wr HBN.out b (hb.elim id id))
    obtain ⟨cells,hc1,hc2⟩:=HRW.out.elem k hlt
    obtain ⟨d,hd⟩:∃ d,d=c.acts[k]:=⟨_,rfl⟩
    rw [←hd] at hc1
    obtain ⟨q1,n1,q2,n2,rfl,ht1,ht2⟩:=hc1
    have hcell:∀ i u,([.int .i64 d.kind,.int .i64 d.to.kind,.int .i64 d.to.n,.string d.to.name,.slice q1 d.to.args.length n1,.int .i64 d.what.kind,.int .i64 d.what.n,.string d.what.name,.slice q2 d.what.args.length n2,.string d.name,.int .i64 d.var]:List Value)[i]?=some u→wr.cell? ⟨b3,o3+k * 11+i,none⟩=some u:=fun i u h=>(hc2 i u h).2
    have z0:wr.cell? ⟨b3,o3+k * 11,none⟩=some (.int .i64 d.kind):=hcell 0 _ rfl
    have z1:wr.cell? ⟨b3,o3+k * 11+1,none⟩=some (.int .i64 d.to.kind):=hcell 1 _ rfl
    have z2:wr.cell? ⟨b3,o3+k * 11+2,none⟩=some (.int .i64 d.to.n):=hcell 2 _ rfl
    have z3:wr.cell? ⟨b3,o3+k * 11+3,none⟩=some (.string d.to.name):=hcell 3 _ rfl
    have z4:wr.cell? ⟨b3,o3+k * 11+4,none⟩=some (.slice q1 d.to.args.length n1):=hcell 4 _ rfl
    have z5:wr.cell? ⟨b3,o3+k * 11+5,none⟩=some (.int .i64 d.what.kind):=hcell 5 _ rfl
    have z6:wr.cell? ⟨b3,o3+k * 11+6,none⟩=some (.int .i64 d.what.n):=hcell 6 _ rfl
    have z7:wr.cell? ⟨b3,o3+k * 11+7,none⟩=some (.string d.what.name):=hcell 7 _ rfl
    have z8:wr.cell? ⟨b3,o3+k * 11+8,none⟩=some (.slice q2 d.what.args.length n2):=hcell 8 _ rfl
    have z9:wr.cell? ⟨b3,o3+k * 11+9,none⟩=some (.string d.name):=hcell 9 _ rfl
    have z10:wr.cell? ⟨b3,o3+k * 11+10,none⟩=some (.int .i64 d.var):=hcell 10 _ rfl
    have HDD:=J hd
    have HT1:Hid (RT S wr d.to _):=J ht1;have HT2:Hid (RT S wr d.what _):=J ht2
    have qk:(k:Int) < (c.acts.length:Int):=by omega
    clear hc2 hcell hd ht1 ht2
    go_upto_region 18 with fail
    obtain ⟨W7,hW7⟩:=I (wr.alloc (.cells #[.int .i64 d.kind,.int .i64 d.to.kind,.int .i64 d.to.n,.string d.to.name,.slice q1 d.to.args.length n1,.int .i64 d.what.kind,.int .i64 d.what.n,.string d.what.name,.slice q2 d.what.args.length n2,.string d.name,.int .i64 d.var] 84))
    obtain ⟨g20,hg20⟩:=I (wr.heap.size)
    have HX20:Hid (Blk W7 g20 [.int .i64 d.kind,.int .i64 d.to.kind,.int .i64 d.to.n,.string d.to.name,.slice q1 d.to.args.length n1,.int .i64 d.what.kind,.int .i64 d.what.n,.string d.what.name,.slice q2 d.what.args.length n2,.string d.name,.int .i64 d.var]):=J (by rw [hW7];exact Blk.new _ _ _ _ hg20)
    have HD7:=J (DoM.below HD.out (yA wr (.cells #[.int .i64 d.kind,.int .i64 d.to.kind,.int .i64 d.to.n,.string d.to.name,.slice q1 d.to.args.length n1,.int .i64 d.what.kind,.int .i64 d.what.n,.string d.what.name,.slice q2 d.what.args.length n2,.string d.name,.int .i64 d.var] 84)))
    rw [←hW7] at HD7
    have HV7:Hid (deedC S W7 d [.int .i64 d.kind,.int .i64 d.to.kind,.int .i64 d.to.n,.string d.to.name,.slice q1 d.to.args.length n1,.int .i64 d.what.kind,.int .i64 d.what.n,.string d.what.name,.slice q2 d.what.args.length n2,.string d.name,.int .i64 d.var]):=J (by rw [hW7];exact ⟨q1,n1,q2,n2,rfl,HT1.out.alloc _,HT2.out.alloc _⟩)
    have HS7:Hid (wr.heap.size≤W7.heap.size):=J (by rw [hW7];simp)
    rw [←hW7,←hg20]
    clear hW7 hg20 z0 z1 z2 z3 z4 z5 z6 z7 z8 z9 z10
    obtain ⟨z0,z1,z2,z3,z4,z5,z6,z7,z8,z9,z10⟩:=HX20.out.c11 0 1 2 3 4 5 6 7 8 9 10
    have HFN:Hid (0≤(foldA self ⟨bd,next,[],[],[],0,false⟩ (c.acts.take k)).next∧(foldA self ⟨bd,next,[],[],[],0,false⟩ (c.acts.take k)).next≤1000):=J (by
     have h1:=foldA_next self (c.acts.take k) ⟨bd,next,[],[],[],0,false⟩
     have h2:(c.acts.take k).length≤8:=by rw [List.length_take];omega
     simp only at h1
     omega)
    have HFR:Hid ((foldA self ⟨bd,next,[],[],[],0,false⟩ (c.acts.take k)).sends.length≤1000∧(foldA self ⟨bd,next,[],[],[],0,false⟩ (c.acts.take k)).spawns.length≤1000∧(foldA self ⟨bd,next,[],[],[],0,false⟩ (c.acts.take k)).links.length≤1000):=J (by
     have h1:=foldA_rows self (c.acts.take k) ⟨bd,next,[],[],[],0,false⟩ 0 ⟨by simp,by simp,by simp⟩
     have h2:(c.acts.take k).length≤8:=by rw [List.length_take];omega
     omega)
    go_wp2_with fail
    refine (ddo_c P (fun b=>W3.heap.size≤b∧b < w4.heap.size) W6 w0 W7 db bb bc self (foldA self ⟨bd,next,[],[],[],0,false⟩ (c.acts.take k)) _ vs vp vl d [.int .i64 d.kind,.int .i64 d.to.kind,.int .i64 d.to.n,.string d.to.name,.slice q1 d.to.args.length n1,.int .i64 d.what.kind,.int .i64 d.what.n,.string d.what.name,.slice q2 d.what.args.length n2,.string d.name,.int .i64 d.var] S HD7.out HV7.out (fun b hb=>by have:=HSS.out b hb;have:=HSZ.out;have:=HW0.out;omega) (foldA_len _ _ _ HB4.out.1) (foldA_small _ _ _ HB4.out.2) (HAO.out.2 d (by rw [HDD.out];exact List.getElem_mem _)) HFR.out HFN.out (HAO.out.1.2 d (by rw [HDD.out];exact List.getElem_mem _))).mono ?_
    rintro e w8 ⟨rfl,hs8,P',vs',vp',vl',hD8,hP8⟩
    have HD8:=J hD8;have HP8:=J hP8
    clear hD8 hP8 z0 z1 z2 z3 z4 z5 z6 z7 z8 z9 z10
    go_wp2_with fail
    go_roundw
    case rel =>
     refine ⟨k+1,P',vs',vp',vl',by omega,by go_num,fun b hb=>?_,by have:=HS7.out;omega,?_⟩
     ·rcases HP8.out b hb with h1 | h1
      ·exact HP.out b h1
      ·have:=HS7.out;have:=HSZ.out;omega
     ·rw [foldA_snoc self ⟨bd,next,[],[],[],0,false⟩ hlt,←HDD.out]
      exact HD8.out
    case measure=>simp [intOf];omega
   ·have hkk:k=c.acts.length:=by omega
    subst hkk
    have hD':=HD.out
    rw [List.take_of_length_le (Nat.le_refl _)] at hD'
    obtain ⟨dd,hdd⟩:∃ dd,dd=foldA self ⟨bd,next,[],[],[],0,false⟩ c.acts:=⟨_,rfl⟩
    rw [←hdd] at hD'
    have HDD:=J hdd
    have HDE:Hid (DoM P (fun b=>W3.heap.size≤b∧b < w4.heap.size) W6 w0 wr db bb bc (doerC (.slice (some ⟨bb,0,none⟩) 4 bc) self dd.next (outC dd.fate vs vp vl) dd.bad) dd.bd [(g8,[.int .i64 0,.int .i64 0,.string ⟨#[]⟩,.slice none 0 0,.int .i64 0,.slice none 0 0,.slice none 0 0,.slice none 0 0]),(g15,[.int .i64 c.state.kind,.int .i64 c.state.n,.string c.state.name,.slice a1 c.state.args.length p1,.int .i64 c.message.kind,.int .i64 c.message.n,.string c.message.name,.slice a2 c.message.args.length p2,.slice a3 c.acts.length p3,.int .i64 c.next.kind,.int .i64 c.next.n,.string c.next.name,.slice a4 c.next.args.length p4]),(g17,[.int .i64 m.kind,.int .i64 m.n,.string m.name,.slice am m.args.length cm])] [rSnd vs dd.sends,rSpn vp dd.spawns,rLnk vl dd.links]):=J hD'
    have HDS:Hid (dd.bd.length=4∧∀ t∈dd.bd,yC [t]≤2000):=J (by rw [hdd];exact ⟨foldA_len _ _ _ HB4.out.1,foldA_small _ _ _ HB4.out.2⟩)
    have HNB2:Hid (yC dd.bd≤8000∧yC [c.next]≤1048576):=J (by
     have h1:=bulk_eachP 2000 dd.bd HDS.out.2
     rw [HDS.out.1] at h1
     have:=(clausB_bulk HMEM.out HCM.out).2.2.1
     omega)
    have HR4W:Hid (RT S wr c.next (.agg #[.int .i64 c.next.kind,.int .i64 c.next.n,.string c.next.name,.slice a4 c.next.args.length p4])):=J (HR4.out.to (fun _ h _=>h) fun b hb _=>HSB.out wr HBN.out b hb)
    obtain ⟨⟨t,n⟩,hrt⟩:∃ r,r=reckO dd.bd self c.next:=⟨_,rfl⟩
    have HRT:=J hrt
    have HTB:Hid (yC [t]≤1809):=J (by
     have:=reckO_small dd.bd self c.next
     rwa [←hrt] at this)
    have HSW:=J hsz
    clear hD' hdd hrt HD hsz hlt hkl
    have z9:=HDE.out.cell mS1 9 _ rfl
    have z10:=HDE.out.cell mS1 10 _ rfl
    have z11:=HDE.out.cell mS1 11 _ rfl
    have z12:=HDE.out.cell mS1 12 _ rfl
    have qk:¬(c.acts.length:Int) < (c.acts.length:Int):=by omega
    go_wp2_with fail
    refine (dval_c db _ self dd.next _ rfl dd.bad dd.bd c.next (fun b=>b < wr.heap.size∧b≠db) wr _ HDE.out.blk (HR4W.out.to (fun b hb _=>by have:=HSS.out b hb;have:=HSZ.out;have:=HSW.out;omega) fun _ _ _=>rfl) HDE.out.rslB (fun b hb=>hb) (by have:=HNB2.out;omega)).mono ?_
    intro e w9 hcall
    rw [←HRT.out] at hcall
    obtain ⟨ar,cr,rfl,hK9,hX9,hT9⟩:=hcall
    obtain ⟨b9,hb9⟩:∃ b,b=(dd.bad || n != 0):=⟨_,rfl⟩
    have hX9:Blk w9 db (doerC (.slice (some ⟨bb,0,none⟩) 4 bc) self dd.next (outC dd.fate vs vp vl) (dd.bad || n != 0)):=hX9
    rw [←hb9] at hX9
    have HB9:=J hb9
    have HD9:Hid (DoM (fun b=>P b∨(wr.heap.size≤b∧b < w9.heap.size)) (fun b=>W3.heap.size≤b∧b < w4.heap.size) W6 w0 w9 db bb bc (doerC (.slice (some ⟨bb,0,none⟩) 4 bc) self dd.next (outC dd.fate vs vp vl) b9) dd.bd [(g8,[.int .i64 0,.int .i64 0,.string ⟨#[]⟩,.slice none 0 0,.int .i64 0,.slice none 0 0,.slice none 0 0,.slice none 0 0]),(g15,[.int .i64 c.state.kind,.int .i64 c.state.n,.string c.state.name,.slice a1 c.state.args.length p1,.int .i64 c.message.kind,.int .i64 c.message.n,.string c.message.name,.slice a2 c.message.args.length p2,.slice a3 c.acts.length p3,.int .i64 c.next.kind,.int .i64 c.next.n,.string c.next.name,.slice a4 c.next.args.length p4]),(g17,[.int .i64 m.kind,.int .i64 m.n,.string m.name,.slice am m.args.length cm])] [rSnd vs dd.sends,rSpn vp dd.spawns,rLnk vl dd.links]):=J (HDE.out.keep hK9 hX9)
    have HT9:=J hT9;have HK9:=J hK9
    clear hb9 hX9 hK9 hT9 z9 z10 z11 z12
    go_upto_region 21 with fail
    obtain ⟨W9,hW9⟩:=I (w9.alloc (.cells #[.int .i64 t.kind,.int .i64 t.n,.string t.name,.slice ar t.args.length cr] 25))
    obtain ⟨g21,hg21⟩:=I (w9.heap.size)
    have HX21:Hid (Blk W9 g21 [.int .i64 t.kind,.int .i64 t.n,.string t.name,.slice ar t.args.length cr]):=J (by rw [hW9];exact Blk.new _ _ _ _ hg21)
    have HT21:Hid (RT (fun b=>wr.heap.size≤b∧b < w9.heap.size) W9 t (.agg #[.int .i64 t.kind,.int .i64 t.n,.string t.name,.slice ar t.args.length cr])):=J (by rw [hW9];exact HT9.out.to (fun b hb hl=>⟨hb,hl⟩) fun b _ hl=>(yA _ _).block b hl)
    have HD21:Hid (DoM (fun b=>P b∨(wr.heap.size≤b∧b < w9.heap.size)) (fun b=>W3.heap.size≤b∧b < w4.heap.size) W6 w0 W9 db bb bc (doerC (.slice (some ⟨bb,0,none⟩) 4 bc) self dd.next (outC dd.fate vs vp vl) b9) dd.bd [(g8,[.int .i64 0,.int .i64 0,.string ⟨#[]⟩,.slice none 0 0,.int .i64 0,.slice none 0 0,.slice none 0 0,.slice none 0 0]),(g15,[.int .i64 c.state.kind,.int .i64 c.state.n,.string c.state.name,.slice a1 c.state.args.length p1,.int .i64 c.message.kind,.int .i64 c.message.n,.string c.message.name,.slice a2 c.message.args.length p2,.slice a3 c.acts.length p3,.int .i64 c.next.kind,.int .i64 c.next.n,.string c.next.name,.slice a4 c.next.args.length p4]),(g17,[.int .i64 m.kind,.int .i64 m.n,.string m.name,.slice am m.args.length cm])] [rSnd vs dd.sends,rSpn vp dd.spawns,rLnk vl dd.links]):=J (by rw [hW9];exact HD9.out.below (yA _ _))
    have HS9:Hid (W6.heap.size≤wr.heap.size∧wr.heap.size≤w9.heap.size∧W9.heap.size=w9.heap.size+1):=J ⟨HSW.out,HK9.out.size,by rw [hW9];simp⟩
    rw [←hW9,←hg21]
    clear hW9 hg21
    have HB9N:Hid (Below N w0 W9):=J (by have:=HD21.out.rq.bel;rwa [HW0.out] at this)
    have HKW6:Hid (Keep G w W6):=J ((Keep.of HBW4.out).trans (HK46.out.mono fun b _ hb=>by
     rcases hb with rfl | rfl
     ·exact HGN.out.2.2.2.2
     ·exact HGN.out.2.2.2.1))
    have HKW9:Hid (Keep G w W9):=J (keep_cut HKW6.out HCUT.out HB9N.out (by have:=HSZ.out;omega) (by have:=HS9.out;omega))
    have HPR9:Hid (PrR G W9 pb name room nb u ((st,x) :: L.eraseIdx j) []):=J (by
     have h1:=HPR6.out
     rw [HIJ.out] at h1
     exact PrR.to h1 (by have:=HS9.out;omega) fun b hb _=>(HB9N.out.block b (by have:=HGL.out b hb;have:=HSZ.out;omega)).trans (HCUT.out.block b (by have:=HGL.out b hb;have:=HSZ.out;omega)).symm)
    have HTM9:Hid (RT (fun b=>W3.heap.size≤b∧b < w4.heap.size) W9 m (.agg #[.int .i64 m.kind,.int .i64 m.n,.string m.name,.slice am m.args.length cm])):=J (HTM6.out.to (fun _ h _=>h) fun b hb _=>HD21.out.qf b hb)
    have HSE0:Hid (stepE l name room self next (st :: yQ L)=(((actO room self next st ((yQ L).eraseIdx j) m c bd).1,0),(actO room self next st ((yQ L).eraseIdx j) m c bd).2 :: (yQ L).eraseIdx j)):=J (stepE_some HT0.out HSN.out HNI.out hk (by rw [←HBH.out,←HIJ.out];exact HMS.out) (by rw [tmsL_len];exact HAR.out.1) HM.out.symm)
    have HML:Hid (yQ (L.eraseIdx j)=(yQ L).eraseIdx j):=J (eraseIdx_map _ _ _)
    have HX8F:Hid (Blk W9 g8 [.int .i64 0,.int .i64 0,.string ⟨#[]⟩,.slice none 0 0,.int .i64 0,.slice none 0 0,.slice none 0 0,.slice none 0 0]):=J (HD21.out.rq.bk _ mS0).1
    have z11:=HD21.out.blk.cell 11 _ rfl
    cases b9
    rotate_left 1
    ·have HSE:Hid (stepE l name room self next (st :: yQ L)=((⟨m,2,[],[],[]⟩,0),st :: (yQ L).eraseIdx j)):=J (by rw [HSE0.out,actO_bad HDD.out HRT.out HB9.out.symm])
     have m0:=HD21.out.cell mS2 0 _ rfl
     have m1:=HD21.out.cell mS2 1 _ rfl
     have m2:=HD21.out.cell mS2 2 _ rfl
     have m3:=HD21.out.cell mS2 3 _ rfl
     go_wp2_with (first | (refine yI 50 8 szTaken _ _ rfl rfl rfl rfl rfl HX8F.out rfl rfl rfl ?_;intro W10 hF hs10 hBW hoth;have HF:=J hF;have HFB:=J hBW;have HOTH:=J hoth;have HFS:=J hs10;clear hF hBW hoth))
     refine bodyPost_ret (yH Tryz.results11 szTaken _ Tryz.underlying50 rfl rfl HF.out rfl) rfl (StepP.fin (L':=(st,x) :: L.eraseIdx j) HSE.out rfl ⟨am,cm,_,_,_,rfl,HTM9.out.to (fun b hb _=>by have:=HSZ.out;show w.heap.size≤b;omega) fun b hb _=>HOTH.out b (by have:=HSZ.out;omega),RX.nil _ _ _,RX.nil _ _ _,RX.nil _ _ _⟩ (HKW9.out.other (HFB.out 0 _ (Nat.zero_le _) (Below.refl _ _)) HOTH.out (by have:=HSZ.out;omega)) (by rw [←HML.out];rfl) ((HPR9.out.to (Nat.le_of_eq HFS.out.symm) fun b hb _=>HOTH.out b (by have:=HGL.out b hb;have:=HSZ.out;omega)).mono fun b hb _=>.inl hb) (by have:=HTB.out;have:=HBK.out.1;omega))
    ·have y0:=HX21.out.cell 0 _ rfl
     obtain ⟨y1,y2,y3⟩:=HX21.out.c3 1 2 3
     go_wp2_with fail
     refine (pbec_c G W9 pb name room nb u st x (L.eraseIdx j) t (fun b=>wr.heap.size≤b∧b < w9.heap.size) _ HPR9.out HT21.out (fun b hb=>by have:=HGL.out b hb;have:=HSZ.out;have:=HS9.out;omega) (fun b hb=>⟨by have:=HS9.out;omega,fun hg=>by have:=HGL.out b hg;have:=HSZ.out;have:=HS9.out;omega⟩) (by have:=HTB.out;omega) (by have:=(eraseIdx_sub L j).length_le;omega) hr (by have:=HTB.out;omega)).mono ?_
     rintro e w10 ⟨rfl,hK10,yy,L2,u2,hL2,hPR10⟩
     rw [HML.out] at hL2 hPR10
     rw [HML.out]
     have HK10:=J hK10;have HL2:=J hL2;have HPR10:=J hPR10
     have HNG:Hid (∀ b,w.heap.size≤b→¬G b):=J fun b hb hg=>by have:=HGL.out b hg;omega
     have HX8G:Hid (Blk w10 g8 [.int .i64 0,.int .i64 0,.string ⟨#[]⟩,.slice none 0 0,.int .i64 0,.slice none 0 0,.slice none 0 0,.slice none 0 0]):=J (HX8F.out.keep HK10.out (HNG.out g8 (by have:=HSZ.out;omega)))
     have HX17G:Hid (Blk w10 g17 [.int .i64 m.kind,.int .i64 m.n,.string m.name,.slice am m.args.length cm]):=J ((HD21.out.rq.bk _ mS2).1.keep HK10.out (HNG.out g17 (by have:=HSZ.out;omega)))
     have HKW10:Hid (Keep G w w10):=J (HKW9.out.trans HK10.out)
     have HTM10:Hid (RT (fun b=>W3.heap.size≤b∧b < w4.heap.size) w10 m (.agg #[.int .i64 m.kind,.int .i64 m.n,.string m.name,.slice am m.args.length cm])):=J (HTM9.out.keep HK10.out fun b hb=>HNG.out b (by have:=HSZ.out;omega))
     clear hK10 hL2 hPR10 y0 y1 y2 y3 z11
     obtain ⟨pe,hpe⟩:∃ pe,pe=pputE room ((yQ L).eraseIdx j) t:=⟨_,rfl⟩
     rw [←hpe] at HPR10
     rw [←hpe]
     have HPE:=J hpe
     clear hpe
     by_cases hp:pe=0
     rotate_left 1
     ·have HSE:Hid (stepE l name room self next (st :: yQ L)=((⟨m,3,[],[],[]⟩,0),st :: (yQ L).eraseIdx j)):=J (by rw [HSE0.out,actO_full HDD.out HRT.out HB9.out.symm (by rw [←HPE.out];exact hp)])
      rw [if_neg hp] at HPR10
      have hpb:(pe == 0)=false:=by simpa using hp
      clear hp
      obtain ⟨m0,m1,m2,m3⟩:=HX17G.out.c4 0 1 2 3
      go_wp2_with (first | (refine yI 50 8 szTaken _ _ rfl rfl rfl rfl rfl HX8G.out rfl rfl rfl ?_;intro W10 hF hs10 hBW hoth;have HF:=J hF;have HFB:=J hBW;have HOTH:=J hoth;have HFS:=J hs10;clear hF hBW hoth))
      refine bodyPost_ret (yH Tryz.results11 szTaken _ Tryz.underlying50 rfl rfl HF.out rfl) rfl (StepP.fin (L':=(st,yy) :: L2) HSE.out rfl ⟨am,cm,_,_,_,rfl,HTM10.out.to (fun b hb _=>by have:=HSZ.out;show w.heap.size≤b;omega) fun b hb _=>HOTH.out b (by have:=HSZ.out;omega),RX.nil _ _ _,RX.nil _ _ _,RX.nil _ _ _⟩ (HKW10.out.other (HFB.out 0 _ (Nat.zero_le _) (Below.refl _ _)) HOTH.out (by have:=HSZ.out;omega)) (by rw [←HL2.out];rfl) ((HPR10.out.to (Nat.le_of_eq HFS.out.symm) fun b hb _=>HOTH.out b (by have:=HSZ.out;have:=HS9.out;rcases hb with hb | hb;(have:=HGL.out b hb;omega);omega)).mono fun b hb _=>hb.imp id fun h=>by have:=HSZ.out;have:=HS9.out;omega) (by have:=HTB.out;have:=HBK.out.1;omega))
     ·subst hp
      have HSE:Hid (stepE l name room self next (st :: yQ L)=((⟨m,dd.fate,dd.sends,dd.spawns,dd.links⟩,0),t :: (yQ L).eraseIdx j)):=J (by rw [HSE0.out,actO_ok HDD.out HRT.out HB9.out.symm HPE.out.symm])
      rw [if_pos rfl] at HPR10
      have HXG:Hid (Blk w10 db (doerC (.slice (some ⟨bb,0,none⟩) 4 bc) self dd.next (outC dd.fate vs vp vl) false)):=J (HD21.out.blk.keep HK10.out (HNG.out db (by have:=HSZ.out;omega)))
      obtain ⟨m0,m1,m2,m3⟩:=HX17G.out.c4 0 1 2 3
      obtain ⟨d3,d4,d5,d6⟩:=HXG.out.c4 3 4 5 6
      have zf:=HXG.out.fr
      have zl:=HXG.out.lt
      go_upto_region 26 with fail
      obtain ⟨W11,hW11⟩:=I ((((w10.setCell ⟨db,3,none⟩ (.int .i64 m.kind)).setCell ⟨db,4,none⟩ (.int .i64 m.n)).setCell ⟨db,5,none⟩ (.string m.name)).setCell ⟨db,6,none⟩ (.slice am m.args.length cm))
      have HX11:Hid (Blk W11 db [(.slice (some ⟨bb,0,none⟩) 4 bc),.int .i64 self,.int .i64 dd.next,.int .i64 m.kind,.int .i64 m.n,.string m.name,.slice am m.args.length cm,.int .i64 dd.fate,vs,vp,vl,.bool false]):=J (by rw [hW11];exact (((HXG.out.set 3 (.int .i64 m.kind) (by simp [doerC,outC])).set 4 (.int .i64 m.n) (by simp [doerC,outC])).set 5 (.string m.name) (by simp [doerC,outC])).set 6 (.slice am m.args.length cm) (by simp [doerC,outC]))
      have H11:Hid (∀ b,b≠db→W11.heap[b]?=w10.heap[b]?):=J fun b hb=>by rw [hW11];simp only [yD _ _ _ _ _ hb]
      have HS11:Hid (W11.heap.size=w10.heap.size):=J (by rw [hW11];simp)
      have HKW11:Hid (Keep G w W11):=J (by
       rw [hW11]
       have hdb:G db∨w.heap.size≤db:=.inr (by have:=HSZ.out;omega)
       exact (((HKW10.out.setCell _ hdb).setCell _ hdb).setCell _ hdb).setCell _ hdb)
      rw [←hW11]
      clear hW11 m0 m1 m2 m3 d3 d4 d5 d6 zf zl
      have HX8K:Hid (Blk W11 g8 [.int .i64 0,.int .i64 0,.string ⟨#[]⟩,.slice none 0 0,.int .i64 0,.slice none 0 0,.slice none 0 0,.slice none 0 0]):=J (HX8G.out.heap (H11.out g8 (by have:=HSZ.out;omega)))
      have HTM11:Hid (RT (fun b=>W3.heap.size≤b∧b < w4.heap.size) W11 m (.agg #[.int .i64 m.kind,.int .i64 m.n,.string m.name,.slice am m.args.length cm])):=J (HTM10.out.to (fun _ h _=>h) fun b hb _=>H11.out b (by have:=HSZ.out;omega))
      have HPR11:Hid (PrR (fun b=>G b∨W9.heap.size≤b) W11 pb name room (nb+yC [t]+yC [st]) u2 ((t,yy) :: L2) []):=J (HPR10.out.to (Nat.le_of_eq HS11.out.symm) fun b hb _=>H11.out b (by have:=HSZ.out;have:=HS9.out;rcases hb with hb | hb;(have:=HGL.out b hb;omega);omega))
      obtain ⟨x3,x4,x5,x6,x7,x8,x9,x10⟩:=HX11.out.c8 3 4 5 6 7 8 9 10
      have o1:vs.oneCell'=true:=by obtain ⟨a,c,e,-⟩:=(HD21.out.rq.rx mS0).form;have e:vs=_:=e;rw [e];rfl
      have o2:vp.oneCell'=true:=by obtain ⟨a,c,e,-⟩:=(HD21.out.rq.rx mS1).form;have e:vp=_:=e;rw [e];rfl
      have o3:vl.oneCell'=true:=by obtain ⟨a,c,e,-⟩:=(HD21.out.rq.rx mS2).form;have e:vl=_:=e;rw [e];rfl
      go_wp2_with (first | (refine yI 50 8 szTaken _ _ rfl rfl rfl rfl rfl HX8K.out rfl rfl (by simp only [List.toList_toArray,List.all_cons,List.all_nil,o1,o2,o3,Bool.and_true];rfl) ?_;intro W12 hF hs12 hBW hoth;have HF:=J hF;have HFB:=J hBW;have HOTH:=J hoth;have HFS:=J hs12;clear hF hBW hoth))
      have HEQ:Hid (∀ b,N≤b→b≠db→b < W9.heap.size→W12.heap[b]?=W9.heap[b]?):=J fun b hb hn hl=>(HOTH.out b (by have:=HSZ.out;omega)).trans ((H11.out b hn).trans (HK10.out.block b hl (HNG.out b (by have:=HSZ.out;omega))))
      have HPN:Hid (∀ b,(fun b=>P b∨(wr.heap.size≤b∧b < w9.heap.size)) b→N≤b∧b≠db):=J fun b hb=>⟨by
       have hz:=HSZ.out;have h9:=HS9.out
       rcases hb with hb | hb
       ·exact HP.out b hb
       ·omega,(HD21.out.pn hb).2.1⟩
      have HROW:Hid (∀ r∈([rSnd vs dd.sends,rSpn vp dd.spawns,rLnk vl dd.links]:List Rw),RX r.E (fun b=>w.heap.size≤b) (fun b=>w.heap.size≤b) W12 r.l r.v):=J fun r hr=>by
       have h1:∀ b,r.v.ownBlock=some b→N≤b∧b≠db:=fun b hb=>⟨by have:=(HD21.out.rq.lt hr b hb).1;have:=HW0.out;omega,fun e=>(HD21.out.rq.fh db (.inl rfl)).2.2 r hr (e ▸ hb)⟩
       refine (HD21.out.rq.rx hr).to (fun b hb _=>by have:=h1 b hb;have:=HSZ.out;show w.heap.size≤b;omega) (fun b hb _=>by have:=HPN.out b hb;have:=HSZ.out;show w.heap.size≤b;omega) fun b hb hl=>?_
       rcases hb with hb | hb
       ·exact HEQ.out b (HPN.out b hb).1 (HPN.out b hb).2 hl
       ·exact HEQ.out b (h1 b hb).1 (h1 b hb).2 hl
      refine bodyPost_ret (yH Tryz.results11 szTaken _ Tryz.underlying50 rfl rfl HF.out rfl) rfl (StepP.fin (L':=(t,yy) :: L2) HSE.out rfl ⟨am,cm,vs,vp,vl,rfl,HTM11.out.to (fun b hb _=>by have:=HSZ.out;show w.heap.size≤b;omega) fun b hb _=>HOTH.out b (by have:=HSZ.out;omega),HROW.out _ mS0,HROW.out _ mS1,HROW.out _ mS2⟩ (HKW11.out.other (HFB.out 0 _ (Nat.zero_le _) (Below.refl _ _)) HOTH.out (by have:=HSZ.out;omega)) (by rw [←HL2.out];rfl) ((HPR11.out.to (Nat.le_of_eq HFS.out.symm) fun b hb _=>HOTH.out b (by have:=HSZ.out;have:=HS9.out;rcases hb with hb | hb;(have:=HGL.out b hb;omega);omega)).mono fun b hb _=>hb.imp id fun h=>by have:=HSZ.out;have:=HS9.out;omega) (by have:=HTB.out;have:=HBK.out.1;omega))
end Go.Proofs.YtedfepnekjjmnabGreat
