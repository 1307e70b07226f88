/-
  clerklaw.ProcPlays, walked: it returns true. Conditions: bounds on what is handed in.
-/
import Derived.Test.YtedfepnekjjmnabGreatJk
import Derived.Test.YtedfepnekjjmnabGreatRStep
import Derived.Test.YtedfepnekjjmnabGreatRTo
import Derived.Test.YtedfepnekjjmnabGreatProc15
namespace Go.Proofs.YtedfepnekjjmnabGreat
open Go.RowKit
set_option linter.unusedSimpArgs false
set_option linter.unusedVariables false
set_option maxRecDepth 100000
set_option maxHeartbeats 16000000
theorem procplays_walk (l:List Behv) (name:ByteArray) (st:T) (room:Int) (cl:List PC) (S:Nat→Prop) (w:World) (vl vst vcl:Value) (hv:RX behvE S S w l vl) (hst:RT S w st vst) (hcl:RX pcE S S w cl vcl) (hS:∀ b,S b→b < w.heap.size)
  (hb:behvsB l+name.size+yC [st]+pcsB cl≤1048577) :
  Calls Tryz.prog 3 #[vl,.string name,vst,.int .i64 room,vcl] w fun e w'=>e=.returned (.bool true)∧Below w.heap.size w w':=by
 have hp1:1≤pcsB cl:=pcsB_pos cl
 obtain ⟨al,capl,rfl,-⟩:=hv.form
 obtain ⟨ac,capc,rfl,-⟩:=hcl.form
 obtain ⟨sa,sc,rfl,hcap,hrt⟩:=hst
 have HST0:Hid (RT S w st (.agg #[.int .i64 st.kind,.int .i64 st.n,.string st.name,.slice sa st.args.length sc])):=J ⟨sa,sc,rfl,hcap,hrt⟩
 obtain ⟨W0,hW0⟩:=I (w.alloc (.cells #[.int .i64 st.kind,.int .i64 st.n,.string st.name,.slice sa st.args.length sc] 25))
 obtain ⟨g7,hg7⟩:=I (w.heap.size)
 have HB0:Hid (Below w.heap.size w W0):=J (by rw [hW0];exact yA _ _)
 have HX7:Hid (Blk W0 g7 [.int .i64 st.kind,.int .i64 st.n,.string st.name,.slice sa st.args.length sc]):=J (by rw [hW0];exact Blk.new _ _ _ _ hg7)
 have HV:=J hv;have HCL:=J hcl;have HSS:=J hS;have HBB:=J hb
 clear hv hcl hS hcap hrt
 go_enter Tryz.func3,Tryz.ntmps3
 go_upto_region 1 with fail
 rw [←hW0,←hg7]
 clear hW0 hg7
 obtain ⟨ne,hne⟩:∃ n,n=newE name room st:=⟨_,rfl⟩
 have HNE:=J hne
 clear hne
 obtain ⟨z0,z1,z2,z3⟩:=HX7.out.c4 0 1 2 3
 go_wp2_with fail
 refine (pnew_c name room st S W0 _ (HST0.out.below HB0.out) (fun b hb=>by have:=HSS.out b hb;have:=HB0.out.size;omega) (by omega) (by omega)).mono ?_
 rintro e w1 ⟨hB1,hcase1⟩
 rw [←HNE.out] at hcase1
 have HB1:Hid (Below W0.heap.size W0 w1):=J hB1
 have HBw1:Hid (Below w.heap.size w w1):=J (yB HB0.out HB0.out.size hB1)
 have HX71:=J (HX7.out.step hB1)
 clear hB1 z0 z1 z2 z3
 rcases hcase1 with ⟨hz,rfl⟩ | ⟨hz,pb,y,rfl,hP⟩
 ·have hzb:(ne != 0)=true:=by simpa using hz
  obtain ⟨z0,z1,z2,z3⟩:=HX71.out.c4 0 1 2 3
  go_wp2_with fail
  refine (rnewp_c name room st S w1 _ (HST0.out.below HBw1.out) (fun b hb=>by have:=HSS.out b hb;have:=HBw1.out.size;omega) (by omega) (by omega)).mono ?_
  rintro e w2 ⟨hB2,hcase2⟩
  rw [←HNE.out] at hcase2
  have HB2:Hid (Below w1.heap.size w1 w2):=J hB2
  have HBw2:Hid (Below w.heap.size w w2):=J (yB HBw1.out HBw1.out.size hB2)
  clear hB2 z0 z1 z2 z3
  rcases hcase2 with ⟨-,rfl⟩ | ⟨h,-⟩
  ·have hee:(ne == ne)=true:=by simp
   have hen:(ne != ne)=false:=by simp
   go_wp2_with fail
   go_ret
   exact ⟨rfl,HBw2.out⟩
  exact absurd h hz
 have HP1:=J hP.low
 clear hP
 obtain ⟨z0,z1,z2,z3⟩:=HX71.out.c4 0 1 2 3
 go_wp2_with fail
 refine (rnewp_c name room st S w1 _ (HST0.out.below HBw1.out) (fun b hb=>by have:=HSS.out b hb;have:=HBw1.out.size;omega) (by omega) (by omega)).mono ?_
 rintro e w2 ⟨hB2,hcase2⟩
 rw [←HNE.out] at hcase2
 have HB2:Hid (Below w1.heap.size w1 w2):=J hB2
 have HBw2:Hid (Below w.heap.size w w2):=J (yB HBw1.out HBw1.out.size hB2)
 clear hB2 z0 z1 z2 z3
 rcases hcase2 with ⟨h,-⟩ | ⟨-,qb,rfl,hqb,hQ⟩
 ·exact absurd hz h
 subst hz
 have HRM:Hid (0≤room∧room≤1000):=J (newE_room HNE.out.symm)
 have HD2:Hid (Duo w pb qb name room (fun b=>W0.heap.size≤b∧b < w1.heap.size) S (yC [st]) (szL [st]) [(st,y)] st [] w2):=J (by
  have s0:=HB0.out.size;have s1:=HB1.out.size;have s2:=HB2.out.size
  exact ⟨HBw2.out,HP1.out.below HB2.out,hQ,fun b hb=>⟨by omega,by omega,fun h=>by have:=HSS.out b h;omega,by omega⟩,by omega⟩)
 clear hqb hQ
 by_cases h60:60 < cl.length
 ·have h60i:(60:Int) < (cl.length:Int):=by omega
  go_wp2_with fail
  go_ret
  exact ⟨rfl,HBw2.out⟩
 have h60i:(cl.length:Int)≤60:=by omega
 obtain ⟨⟨pt,bad⟩,hbad⟩:∃ r,r=toA l:=⟨_,rfl⟩
 have HBAD:=J hbad
 clear hbad
 go_wp2_with fail
 refine (rto_c l al capl S w2 (HV.out.below HBw2.out) (fun b hb=>by have:=HSS.out b hb;have:=HBw2.out.size;omega) (by omega)).mono ?_
 rw [←HBAD.out]
 rintro e w3 ⟨ta,tc,rfl,hB3,-⟩
 have hD3:=HD2.out.below hB3
 go_upto_region 8 with fail
 obtain ⟨W3,hW3⟩:=I (w3.alloc (.cells #[.int .i64 pt.kind,.int .i64 pt.n,.string pt.name,.slice ta pt.args.length tc] 25))
 obtain ⟨g15,hg15⟩:=I (w3.heap.size)
 have HD3:Hid (Duo w pb qb name room (fun b=>W0.heap.size≤b∧b < w1.heap.size) S (yC [st]) (szL [st]) [(st,y)] st [] W3):=J (by rw [hW3];exact hD3.below (yA _ _))
 rw [←hW3,←hg15]
 clear hW3 hg15 hB3 hD3
 go_wp2_with fail
 go_loopw [62] (fun v62 wr=>∃ k:Nat,k≤cl.length∧v62=.int .i64 (k:Int)∧DuoP w pb qb name room (1048600 * (k+1)) k wr) (fun v62 _=>cl.length - (intOf v62).toNat)
 case atStart=>exact ⟨0,Nat.zero_le _,rfl,DuoP.mono (n:=yC [st]) (m:=0) ⟨_,_,_,_,_,_,HD3.out,rfl,by simp,fun x hx=>by (obtain rfl:=List.mem_singleton.1 hx);exact newE_ck HNE.out.symm⟩ (by omega) (Nat.le_refl _)⟩
 obtain ⟨k,hk,rfl,hDP⟩:=hrel
 obtain ⟨G,Q,u,L,s0,m0,hD,hL,hml,hck⟩:=hDP
 obtain ⟨wo,rfl⟩:∃ wo:World,wo=wr:=⟨_,rfl⟩
 have HDR:=J hD;have HLR:=J hL;have HCKR:=J hck
 have HBr:Hid (Below w.heap.size w wo):=J hD.bel
 clear hD hL hck
 by_cases hlt:k < cl.length
 rotate_left 1
 ·have hii:¬(k:Int) < (cl.length:Int):=by omega
  go_wp2_with fail
  go_ret
  exact ⟨rfl,HBr.out⟩
 obtain ⟨b4,o4,rfl⟩:=HCL.out.addr (by decide) (by omega)
 have HCW:Hid (RX pcE S S wo cl (.slice (some ⟨b4,o4,none⟩) cl.length capc)):=J (HCL.out.below HBr.out)
 obtain ⟨cells,hc1,hc2⟩:=HCW.out.elem k hlt
 obtain ⟨X,hX⟩:∃ X,X=cl[k]:=⟨_,rfl⟩
 rw [←hX] at hc1
 obtain ⟨ax,cx,rfl,hxt⟩:=hc1
 have HXB:Hid (yC [X.t]≤1048600):=J (by have:=pcsB_mem (show X∈cl by rw [hX];exact List.getElem_mem hlt);omega)
 have hcell:∀ i u,([.int .i64 X.kind,.int .i64 X.self,.int .i64 X.t.kind,.int .i64 X.t.n,.string X.t.name,.slice ax X.t.args.length cx]:List Value)[i]?=some u→wo.cell? ⟨b4,o4+k * 6+i,none⟩=some u:=fun i u h=>(hc2 i u h).2
 have z0:wo.cell? ⟨b4,o4+k * 6,none⟩=some (.int .i64 X.kind):=hcell 0 _ rfl
 have z1:wo.cell? ⟨b4,o4+k * 6+1,none⟩=some (.int .i64 X.self):=hcell 1 _ rfl
 have z2:wo.cell? ⟨b4,o4+k * 6+2,none⟩=some (.int .i64 X.t.kind):=hcell 2 _ rfl
 have z3:wo.cell? ⟨b4,o4+k * 6+3,none⟩=some (.int .i64 X.t.n):=hcell 3 _ rfl
 have z4:wo.cell? ⟨b4,o4+k * 6+4,none⟩=some (.string X.t.name):=hcell 4 _ rfl
 have z5:wo.cell? ⟨b4,o4+k * 6+5,none⟩=some (.slice ax X.t.args.length cx):=hcell 5 _ rfl
 have HXT:Hid (RT S w X.t (.agg #[.int .i64 X.t.kind,.int .i64 X.t.n,.string X.t.name,.slice ax X.t.args.length cx])):=J (hxt.to (fun _ h _=>h) fun b hb _=>(HBr.out.block b (HSS.out b hb)).symm)
 have qk:(k:Int) < (cl.length:Int):=by omega
 clear hc2 hcell hX hxt
 go_upto_region 11 with fail
 obtain ⟨W1,hW1⟩:=I (wo.alloc (.cells #[.int .i64 X.kind,.int .i64 X.self,.int .i64 X.t.kind,.int .i64 X.t.n,.string X.t.name,.slice ax X.t.args.length cx] 37))
 obtain ⟨g18,hg18⟩:=I (wo.heap.size)
 have HX18:Hid (Blk W1 g18 [.int .i64 X.kind,.int .i64 X.self,.int .i64 X.t.kind,.int .i64 X.t.n,.string X.t.name,.slice ax X.t.args.length cx]):=J (by rw [hW1];exact Blk.new _ _ _ _ hg18)
 have HD1:Hid (Duo w pb qb name room G Q (1048600 * (k+1)) u L s0 m0 W1):=J (by rw [hW1];exact HDR.out.below (yA _ _))
 have HNG:Hid (¬G g18∧¬Q g18∧g18≠qb∧g18 < W1.heap.size∧w.heap.size≤g18):=J ⟨fun h=>by have:=(HDR.out.ga _ h).2.1;omega,fun h=>by have:=(HDR.out.rq.sl _ h).1;omega,by have:=HDR.out.rq.lt;omega,HX18.out.lt,by have:=HBr.out.size;omega⟩
 rw [←hW1,←hg18]
 clear hW1 hg18 z0 z1 z2 z3 z4 z5
 have HCK:Hid (∀ x∈s0 :: m0,yE x=0∧yF [x]=true∧yC [x]≤2000):=J fun x hx=>⟨(HCKR.out x hx).1,(HCKR.out x hx).2,HDR.out.rp.small x (by rw [HLR.out];exact hx)⟩
 have HSZM:Hid (szL (s0 :: m0)≤1000∧m0.length≤60∧L.length=m0.length+1∧k≤60):=J (by
  have h1:=HDR.out.rp.le
  rw [HLR.out] at h1
  have h2:=congrArg List.length HLR.out
  rw [tmsL_len,List.length_cons] at h2
  have:=HRM.out
  omega)
 have x0:=HX18.out.cell 0 _ rfl
 go_upto_block 2 with fail
 clear x0
 go_cut [] (fun wx=>DuoP w pb qb name room (1048600 * (k+1+1)) (k+1) wx)
 case first =>
  by_cases hk0:X.kind=0
  ·have k0:(X.kind == 0)=true:=by simp [hk0]
   clear hk0
   go_upto_region 13 with fail
   refine yK (fun w'=>w'.cell? ⟨g18,2,none⟩=some (.int .i64 X.t.kind)∧w'.cell? ⟨g18,3,none⟩=some (.int .i64 X.t.n)∧w'.cell? ⟨g18,4,none⟩=some (.string X.t.name)∧w'.cell? ⟨g18,5,none⟩=some (.slice ax X.t.args.length cx)) (by as_aux_lemma=>kernel_rfl) (fun Wd h=>⟨(J (HX18.out.step h)).out.cell 2 _ rfl,(J (HX18.out.step h)).out.cell 3 _ rfl,(J (HX18.out.step h)).out.cell 4 _ rfl,(J (HX18.out.step h)).out.cell 5 _ rfl⟩) ?_
   intro V0 hB hWd hWd' hHeld
   have HT0:=J (HD1.out.below hB)
   have HG0:=J (HX18.out.step hB)
   clear hB
   refine rgT 0 _ hHeld ?_
   refine rgT 1 _ hHeld ?_
   refine rgT 2 _ hHeld ?_
   refine rgT 4 _ hHeld ?_
   refine rgT 5 _ hHeld ?_
   refine rgT 6 _ hHeld ?_
   refine rgO 3 fun K hK=>?_
   go_simp
   go_at_call 7
   refine (pdel_c G V0 pb name room _ u L X.t S _ HT0.out.rp (HXT.out.to (fun _ h _=>h) fun b hb _=>HT0.out.bel.block b (HSS.out b hb)) (fun b hb=>⟨by have:=HSS.out b hb;have:=HT0.out.bel.size;omega,fun hg=>by have:=(HT0.out.ga b hg).1;have:=HSS.out b hb;omega⟩) (by have:=HXB.out;omega) (by have:=HSZM.out;omega) HRM.out.2 (by have:=HSZM.out;omega)).mono ?_
   rintro e V1 ⟨rfl,hK,L1,u1,hL1,hP1⟩
   have HT1:=J (HT0.out.stepP hK hP1)
   rw [HLR.out] at hL1
   have HL1:=J hL1
   have HG1:Hid (Blk V1 g18 [.int .i64 X.kind,.int .i64 X.self,.int .i64 X.t.kind,.int .i64 X.t.n,.string X.t.name,.slice ax X.t.args.length cx]):=J (HG0.out.keep hK HNG.out.1)
   rw [HLR.out]
   clear hK hP1 hL1
   refine hK.out _ _ (⟨HG1.out.cell 2 _ rfl,HG1.out.cell 3 _ rfl,HG1.out.cell 4 _ rfl,HG1.out.cell 5 _ rfl⟩) fun _=>?_
   clear hK K hHeld;rename_i hHeld;try simp only [Act.put,pA,pB,pC]
   refine rgO 7 fun K hK=>?_
   go_simp
   go_at_call 8
   refine (rpdel_c Q S V1 qb name room s0 m0 X.t _ HT1.out.rq (HXT.out.to (fun _ h _=>h) fun b hb _=>HT1.out.bel.block b (HSS.out b hb)) (fun b hb=>by have:=HSS.out b hb;have:=HT1.out.bel.size;have:=HT1.out.qn;exact ⟨by omega,by omega⟩) ⟨(HCK.out s0 mS0).2.2,fun m hm=>(HCK.out m (mT hm)).2.2⟩ (by have:=HXB.out;omega) HSZM.out.1 (by have:=HSZM.out;omega)).mono ?_
   rintro e V2 ⟨rfl,hK,Q2,hQ2,hQR⟩
   have HT2:=J (HT1.out.stepQ hK hQR fun b hb=>(hQ2 b hb).imp id fun h=>h.imp (HSS.out b) id)
   have HG2:Hid (Blk V2 g18 [.int .i64 X.kind,.int .i64 X.self,.int .i64 X.t.kind,.int .i64 X.t.n,.string X.t.name,.slice ax X.t.args.length cx]):=J (HG1.out.keep hK HNG.out.2.2.1)
   clear hK hQ2 hQR
   refine hK.out _ _ (⟨HG2.out.cell 2 _ rfl,HG2.out.cell 3 _ rfl,HG2.out.cell 4 _ rfl,HG2.out.cell 5 _ rfl⟩) fun _=>?_
   clear hK K hHeld;rename_i hHeld;try simp only [Act.put,pA,pB,pC]
   refine rgT 8 _ hHeld ?_
   refine rgD ?_
   clear hHeld
   have hde:(delE room (s0 :: m0) X.t != delE room (s0 :: m0) X.t)=false:=by simp
   go_wp2_with fail
   go_meet
   have HDZ:=HL1.out
   by_cases hd:delE room (s0 :: m0) X.t=0
   ·have h2:=HT2.out
    rw [if_pos hd] at h2 HDZ
    refine DuoP.mono ⟨_,_,_,L1,s0,m0 ++ [X.t],h2,HDZ,?_,delE_ck hd fun x hx=>⟨(HCK.out x hx).1,(HCK.out x hx).2.1⟩⟩ (by have:=HXB.out;omega) (Nat.le_refl _)
    simp;omega
   have h2:=HT2.out
   rw [if_neg hd] at h2 HDZ
   exact DuoP.mono ⟨_,_,_,L1,s0,m0,h2,HDZ,hml,HCKR.out⟩ (by have:=HXB.out;omega) (by omega)
  have k0:(X.kind == 0)=false:=by simpa using hk0
  by_cases hk1:X.kind=1
  ·have k1:(X.kind == 1)=true:=by simp [hk1]
   clear hk1 hk0
   obtain ⟨nx,hnx⟩:∃ n,n=IntKind.i64.wrap (X.self+1):=⟨_,rfl⟩
   have hnx':IntKind.i64.wrap (X.self+1)=nx:=hnx.symm
   clear hnx
   obtain ⟨⟨⟨tk,te⟩,us⟩,hrr⟩:∃ r,r=stepE l name room X.self nx (s0 :: m0):=⟨_,rfl⟩
   have HRR:=J hrr
   clear hrr
   go_upto_region 17 with fail
   obtain ⟨W2,hW2⟩:=I (W1.alloc (.cells #[.int .i64 0,.int .i64 0,.string ⟨#[]⟩,.slice none 0 0,.int .i64 0,.slice none 0 0,.slice none 0 0,.slice none 0 0] 43))
   obtain ⟨g19,hg19⟩:=I (W1.heap.size)
   have HX19:Hid (Blk W2 g19 [.int .i64 0,.int .i64 0,.string ⟨#[]⟩,.slice none 0 0,.int .i64 0,.slice none 0 0,.slice none 0 0,.slice none 0 0]):=J (by rw [hW2];exact Blk.new _ _ _ _ hg19)
   have HB12:Hid (Below W1.heap.size W1 W2):=J (by rw [hW2];exact yA _ _)
   have HG19:Hid (g19=W1.heap.size∧W2.heap.size=W1.heap.size+1):=J ⟨hg19,by rw [hW2];simp⟩
   rw [←hW2,←hg19]
   clear hW2 hg19
   have HD12:=J (HD1.out.below HB12.out)
   have HX182:=J (HX18.out.step HB12.out)
   have x1:=HX182.out.cell 1 _ rfl
   go_upto_block 3 with fail
   clear x1
   go_cut [20] (fun v20 wx=>∃ (Q2:Nat→Prop) (st2:T) (ml2:List T) (cs:List Value),v20=.int .i64 te∧Duo w pb qb name room G Q2 (1048600 * (k+1)) u L st2 ml2 wx∧us=st2 :: ml2∧takC (fun b=>¬G b∧b < wx.heap.size) wx tk cs∧Blk wx g19 cs∧Blk wx g18 [.int .i64 X.kind,.int .i64 X.self,.int .i64 X.t.kind,.int .i64 X.t.n,.string X.t.name,.slice ax X.t.args.length cx])
   case first =>
    have x1:=HX182.out.cell 1 _ rfl
    have hbe:bad=(toA l).2:=congrArg Prod.snd HBAD.out
    have HBE:=J hbe
    clear hbe
    by_cases hto:bad=0
    ·have HTO:Hid ((toA l).2=0):=J (by rw [←HBE.out];exact hto)
     clear HBE HBAD
     subst hto
     by_cases hsn:X.self < 1∨99 < X.self∨nx < 1∨92 < nx
     ·have hr2:=HRR.out
      rw [stepE_arg HTO.out hsn] at hr2
      simp only [Prod.mk.injEq] at hr2
      obtain ⟨⟨rfl,rfl⟩,rfl⟩:=hr2
      have HSN:=J hsn
      clear hsn
      go_wp2_with fail
      refine (in_c X.self 1 99 W2).mono ?_
      rintro e w' ⟨he,hw⟩
      subst he
      obtain rfl:W2=w':=hw
      by_cases hq1:inB X.self 1 99=true
      ·have HQ1:=J hq1
       rw [hq1]
       clear hq1
       go_wp2_with fail
       refine (in_c nx 1 92 W2).mono ?_
       rintro e w' ⟨he,hw⟩
       subst he
       obtain rfl:W2=w':=hw
       have hq2:inB nx 1 92=false:=by
        have h1:=HSN.out;have h2:=HQ1.out
        unfold inB at h2 ⊢
        simp at h2 ⊢
        omega
       rw [hq2]
       clear hq2
       go_wp2_with fail
       go_meet
       exact ⟨Q,s0,m0,_,rfl,HD12.out,rfl,zeroTak_c _ _,HX19.out,HX182.out⟩
      have hq1:inB X.self 1 99=false:=by simpa using hq1
      rw [hq1]
      clear hq1
      go_wp2_with fail
      go_meet
      exact ⟨Q,s0,m0,_,rfl,HD12.out,rfl,zeroTak_c _ _,HX19.out,HX182.out⟩
     have HSN:=J hsn
     clear hsn
     have HQ12:Hid (inB X.self 1 99=true∧inB nx 1 92=true):=J (by
      have h1:=HSN.out
      unfold inB
      simp
      omega)
     go_wp2_with fail
     refine (in_c X.self 1 99 W2).mono ?_
     rintro e w' ⟨he,hw⟩
     subst he
     obtain rfl:W2=w':=hw
     rw [HQ12.out.1]
     go_wp2_with fail
     refine (in_c nx 1 92 W2).mono ?_
     rintro e w' ⟨he,hw⟩
     subst he
     obtain rfl:W2=w':=hw
     rw [HQ12.out.2]
     go_wp2_with fail
     refine (rstep_c Q S W2 qb name room s0 m0 l al capl X.self nx HD12.out.rq (HV.out.below HD12.out.bel) (fun b hb=>by have:=HSS.out b hb;have:=HD12.out.bel.size;have:=HD12.out.qn;exact ⟨by omega,by omega⟩) HTO.out HSN.out (by omega) HCK.out HSZM.out.1 HRM.out (by have:=HSZM.out;omega)).mono ?_
     rw [←HRR.out]
     rintro e V3 ⟨cs,he,hT,hK,st2,ml2,hus,hQR⟩
     subst he
     have hT:takC (fun b=>Q b∨S b∨W2.heap.size≤b) V3 tk cs:=hT
     have hus:us=st2 :: ml2:=hus
     have HQB:Hid (∀ b,(Q b∨S b∨W2.heap.size≤b)→¬G b∧b≠g19):=J fun b hb=>by
      have h1:=HG19.out
      rcases hb with h | h | h
      ·exact ⟨fun hg=>(HD1.out.ga b hg).2.2.1 h,by have:=(HD1.out.rq.sl b h).1;omega⟩
      ·have h2:=HSS.out b h
       have h3:=HD1.out.bel.size
       exact ⟨fun hg=>by have:=(HD1.out.ga b hg).1;omega,by omega⟩
      ·exact ⟨fun hg=>by have:=(HD1.out.ga b hg).2.1;omega,by omega⟩
     have HT3:=J (HD12.out.stepQ hK hQR fun b hb=>by
      rcases hb.1 with h | h | h
      ·exact .inl h
      ·exact .inr (.inl (HSS.out b h))
      ·exact .inr (.inr h))
     have HX193:=J (HX19.out.keep hK (by have:=HG19.out;have:=HD1.out.rq.lt;omega))
     have HX183:=J (HX182.out.keep hK HNG.out.2.2.1)
     have HT0:=J hT
     have HUS:=J hus
     obtain ⟨aK,pK,vs,vp,vl,rfl,-,hs2,hs3,hs4⟩:=hT
     have o1:vs.oneCell'=true:=by obtain ⟨a,c,e,-⟩:=hs2.form;have e:vs=_:=e;rw [e];rfl
     have o2:vp.oneCell'=true:=by obtain ⟨a,c,e,-⟩:=hs3.form;have e:vp=_:=e;rw [e];rfl
     have o3:vl.oneCell'=true:=by obtain ⟨a,c,e,-⟩:=hs4.form;have e:vl=_:=e;rw [e];rfl
     clear hs2 hs3 hs4 hK hQR hus
     go_wp2_with (first | (refine yI 43 8 szRTaken _ _ rfl rfl rfl rfl rfl HX193.out rfl rfl (by simp only [List.toList_toArray,List.all_cons,List.all_nil,o1,o2,o3,Bool.and_true];rfl) ?_;intro W9 hF hs9 hBW hoth;have HF:=J hF;have HFB:=J hBW;have HOTH:=J hoth;have HFS:=J hs9;clear hF hBW hoth))
     go_meet
     refine ⟨_,st2,ml2,_,rfl,HT3.out.other (g:=g19) (HFB.out _ _ (by have:=HG19.out;have:=HD1.out.bel.size;omega) HT3.out.bel) HFS.out HOTH.out (fun h=>by have:=(HD1.out.ga _ h).2.1;have:=HG19.out;omega) (fun h=>(HQB.out _ h.1).2 rfl) (by have:=HG19.out;have:=HD1.out.rq.lt;omega),HUS.out,HT0.out.to (fun b hb hl=>⟨(HQB.out b hb).1,by have:=HFS.out;omega⟩) (fun b hb hl=>HOTH.out b (HQB.out b hb).2),HF.out,HX183.out.heap (HOTH.out g18 (by have:=HNG.out;have:=HG19.out;omega))⟩
    have hr2:=HRR.out
    rw [stepE_to (by rw [←HBE.out];exact hto),←HBE.out] at hr2
    simp only [Prod.mk.injEq] at hr2
    obtain ⟨⟨rfl,rfl⟩,rfl⟩:=hr2
    have hbn:(te != 0)=true:=by simpa using hto
    clear hto
    go_wp2_with fail
    go_meet
    exact ⟨Q,s0,m0,_,rfl,HD12.out,rfl,zeroTak_c _ _,HX19.out,HX182.out⟩
   obtain ⟨Q2,st2,ml2,cs,rfl,hD,hus,hT,h19,h18⟩:=hcut
   have HTC:=J hD;have HUS:=J hus;have HTK:=J hT
   obtain ⟨aB,pB,vs,vp,vl,rfl,hrm,hrs,hrp,hrl⟩:=hT
   obtain ⟨sB,cB,es,-⟩:=hrs.form
   obtain ⟨rB,dB,ep,-⟩:=hrp.form
   obtain ⟨kB,eB,ek,-⟩:=hrl.form
   subst es ep ek
   clear hrm hrs hrp hrl
   have HX19c:Hid (Blk wc g19 [.int .i64 tk.message.kind,.int .i64 tk.message.n,.string tk.message.name,.slice aB tk.message.args.length pB,.int .i64 tk.fate,.slice sB tk.sends.length cB,.slice rB tk.spawns.length dB,.slice kB tk.links.length eB]):=J h19
   have HX18c:=J h18
   have HTK:Hid (takC (fun b=>¬G b∧b < wc.heap.size) wc tk [.int .i64 tk.message.kind,.int .i64 tk.message.n,.string tk.message.name,.slice aB tk.message.args.length pB,.int .i64 tk.fate,.slice sB tk.sends.length cB,.slice rB tk.spawns.length dB,.slice kB tk.links.length eB]):=HTK
   clear hD hus h19 h18
   obtain ⟨xa,L2,rfl,hL2⟩:=tmsL_cons HLR.out
   have HL2:=J hL2
   have HLn2:Hid (L2.length=m0.length):=J (by have:=congrArg List.length hL2;rw [tmsL_len] at this;exact this)
   clear hL2
   have x1:=HX18c.out.cell 1 _ rfl
   go_wp2_with fail
   refine (pstep_c G wc pb name room _ u s0 xa L2 l al capl X.self nx S HTC.out.rp (fun b hb=>(HTC.out.ga b hb).2.1) (HV.out.below HTC.out.bel) (fun b hb=>⟨by have:=HSS.out b hb;have:=HTC.out.bel.size;omega,fun hg=>by have:=(HTC.out.ga b hg).1;have:=HSS.out b hb;omega⟩) (by omega) (by have:=HLn2.out;have:=HSZM.out;omega) HRM.out.2 (by have:=HSZM.out;omega)).mono ?_
   rw [HL2.out,←HRR.out]
   rintro e V1 ⟨cs1,he,hTA,hK,L1,u1,hL1,hP1⟩
   subst he
   have HT1:=J (HTC.out.stepP hK hP1)
   have HX191:=J (HX19c.out.keep hK (fun hg=>by have:=(HD1.out.ga _ hg).2.1;have:=HG19.out;omega))
   have HTK1:=J (HTK.out.to (S':=fun _=>True) (w':=V1) (fun _ _ _=>trivial) fun b hb hl=>hK.block b hl hb.1)
   have hL1:yQ L1=us:=hL1
   have HL1:=J hL1
   have hTA:takC (fun b=>wc.heap.size≤b) V1 tk cs1:=hTA
   have HTA0:=J hTA
   clear hK hP1 hL1 x1
   obtain ⟨aA,pA,vs,vp,vl,rfl,hrm,hrs,hrp,hrl⟩:=hTA
   obtain ⟨sA,cA,es,-⟩:=hrs.form
   obtain ⟨rA,dA,ep,-⟩:=hrp.form
   obtain ⟨kA,eA,ek,-⟩:=hrl.form
   subst es ep ek
   clear hrm hrs hrp hrl
   have HTA0:Hid (takC (fun b=>wc.heap.size≤b) V1 tk [.int .i64 tk.message.kind,.int .i64 tk.message.n,.string tk.message.name,.slice aA tk.message.args.length pA,.int .i64 tk.fate,.slice sA tk.sends.length cA,.slice rA tk.spawns.length dA,.slice kA tk.links.length eA]):=HTA0
   go_upto_region 24 with fail
   obtain ⟨W5,hW5⟩:=I (V1.alloc (.cells #[.int .i64 tk.message.kind,.int .i64 tk.message.n,.string tk.message.name,.slice aA tk.message.args.length pA,.int .i64 tk.fate,.slice sA tk.sends.length cA,.slice rA tk.spawns.length dA,.slice kA tk.links.length eA] 50))
   obtain ⟨g22,hg22⟩:=I (V1.heap.size)
   have HX22:Hid (Blk W5 g22 [.int .i64 tk.message.kind,.int .i64 tk.message.n,.string tk.message.name,.slice aA tk.message.args.length pA,.int .i64 tk.fate,.slice sA tk.sends.length cA,.slice rA tk.spawns.length dA,.slice kA tk.links.length eA]):=J (by rw [hW5];exact Blk.new _ _ _ _ hg22)
   have HB15:Hid (Below V1.heap.size V1 W5):=J (by rw [hW5];exact yA _ _)
   rw [←hW5,←hg22]
   clear hW5 hg22
   have HT5:=J (HT1.out.below HB15.out)
   have HX195:=J (HX191.out.step HB15.out)
   have HTB5:=J (HTK1.out.to (S':=fun _=>True) (w':=W5) (fun _ _ _=>trivial) fun b _ hl=>HB15.out.block b hl)
   have HTA5:=J (HTA0.out.to (S':=fun _=>True) (w':=W5) (fun _ _ _=>trivial) fun b _ hl=>HB15.out.block b hl)
   have HMSG:Hid (yC [tk.message]≤2000):=J (by
    have h1:=stepE_msg l name room X.self nx s0 m0 (fun t ht=>(HCK.out t (mT ht)).2.2)
    rw [←HRR.out] at h1
    exact h1)
   have HOUT:Hid (OutsB 8 tk.sends tk.spawns tk.links):=J (by
    have h1:=stepE_outs (l:=l) (name:=name) (room:=room) (self:=X.self) (next:=nx) (HCK.out s0 mS0).2.2 (fun m hm=>(HCK.out m (mT hm)).2.2)
    rw [←HRR.out] at h1
    exact h1)
   have HULN:Hid (ml2.length≤k+1):=J (by
    have h1:=stepE_len l name room X.self nx s0 m0
    rw [←HRR.out] at h1
    have h2:us.length≤m0.length+1:=h1.2
    rw [HUS.out,List.length_cons] at h2
    omega)
   have HCK2:Hid (∀ x∈st2 :: ml2,yE x=0∧yF [x]=true):=J (by
    have h1:=stepE_ck (l:=l) (name:=name) (room:=room) (self:=X.self) (next:=nx) (fun x hx=>⟨(HCK.out x hx).1,(HCK.out x hx).2.1⟩)
    rw [←HRR.out] at h1
    rw [←HUS.out]
    exact h1)
   have f0:(te != te)=false:=by simp
   have x0:=HX22.out.cell 0 _ rfl
   have y0:=HX195.out.cell 0 _ rfl
   have x1:=HX22.out.cell 1 _ rfl
   have y1:=HX195.out.cell 1 _ rfl
   have x2:=HX22.out.cell 2 _ rfl
   have y2:=HX195.out.cell 2 _ rfl
   have x3:=HX22.out.cell 3 _ rfl
   have y3:=HX195.out.cell 3 _ rfl
   have x4:=HX22.out.cell 4 _ rfl
   have y4:=HX195.out.cell 4 _ rfl
   have x5:=HX22.out.cell 5 _ rfl
   have y5:=HX195.out.cell 5 _ rfl
   have x6:=HX22.out.cell 6 _ rfl
   have y6:=HX195.out.cell 6 _ rfl
   have x7:=HX22.out.cell 7 _ rfl
   have y7:=HX195.out.cell 7 _ rfl
   go_wp2_with fail
   refine (sametaken_c tk [.int .i64 tk.message.kind,.int .i64 tk.message.n,.string tk.message.name,.slice aA tk.message.args.length pA,.int .i64 tk.fate,.slice sA tk.sends.length cA,.slice rA tk.spawns.length dA,.slice kA tk.links.length eA] [.int .i64 tk.message.kind,.int .i64 tk.message.n,.string tk.message.name,.slice aB tk.message.args.length pB,.int .i64 tk.fate,.slice sB tk.sends.length cB,.slice rB tk.spawns.length dB,.slice kB tk.links.length eB] _ _ W5 HTA5.out HTB5.out (by have:=HMSG.out;omega) (fun x hx=>by have:=HOUT.out.1 x hx;omega) (fun x hx=>by have:=HOUT.out.2.1 x hx;omega) (by have:=HOUT.out.2.2;omega)).mono ?_
   rintro e V6 ⟨rfl,hB⟩
   have HT6:=J (HT5.out.below hB)
   clear hB x0 y0 x1 y1 x2 y2 x3 y3 x4 y4 x5 y5 x6 y6 x7 y7
   go_wp2_with fail
   go_meet
   exact DuoP.mono ⟨_,_,_,L1,st2,ml2,HT6.out,by rw [HL1.out,HUS.out],HULN.out,HCK2.out⟩ (by omega) (Nat.le_refl _)
  have k1:(X.kind == 1)=false:=by simpa using hk1
  by_cases hk2:X.kind=2
  ·have k2:(X.kind == 2)=true:=by simp [hk2]
   clear hk1 hk0 hk2
   go_wp2_with fail
   refine (ptidy_c G W1 pb name room _ u L HD1.out.rp HRM.out.2 (by have:=HSZM.out;omega)).mono ?_
   rintro e V1 ⟨rfl,hK,L1,hL1,hP1⟩
   have HT1:=J (HD1.out.stepP hK hP1)
   rw [HLR.out] at hL1
   have HL1:=J hL1
   have HSL:Hid (szL (yQ L)=szL (s0 :: m0)):=J (by rw [HLR.out])
   clear hK hP1 hL1
   go_wp2_with fail
   refine (pused_c _ V1 pb name room _ _ L1 [] HT1.out.rp).mono ?_
   rintro e V2 ⟨he,hV2⟩
   subst he
   obtain rfl:V1=V2:=hV2
   rw [HSL.out]
   go_wp2_with fail
   refine (rlive_c Q V1 qb name room s0 m0 HT1.out.rq (by have:=(HCK.out s0 mS0).2.2;omega) (fun m hm=>by have:=(HCK.out m (mT hm)).2.2;omega) (by have:=HSZM.out;omega) (by have:=HSZM.out;omega)).mono ?_
   rintro e V3 ⟨rfl,hB⟩
   have HT3:=J (HT1.out.below hB)
   have hnn:(((szL (s0 :: m0):Nat):Int) != ((szL (s0 :: m0):Nat):Int))=false:=by simp
   clear hB
   go_wp2_with fail
   go_meet
   exact DuoP.mono ⟨_,_,_,L1,s0,m0,HT3.out,HL1.out,hml,HCKR.out⟩ (by omega) (by omega)
  have k2:(X.kind == 2)=false:=by simpa using hk2
  clear hk1 hk0 hk2
  go_wp2_with fail
  go_meet
  exact DuoP.mono ⟨G,Q,u,L,s0,m0,HD1.out,HLR.out,hml,HCKR.out⟩ (by omega) (by omega)
 obtain ⟨G,Q,u,L,s0,m0,hD,hL,hml2,hck2⟩:=hcut
 obtain ⟨xa,L2,rfl,hL2⟩:=tmsL_cons hL
 have HDC:=J hD;have HLC:=J hL;have HCKC:=J hck2;have HL2:=J hL2
 have HKN:Hid (k≤60):=J HSZM.out.2.2.2
 have HLn2:Hid (L2.length≤61∧m0.length≤61∧m0.length≤k+1):=J (by
  have h1:=congrArg List.length hL2
  rw [tmsL_len] at h1
  have:=HKN.out
  omega)
 have HSMB:Hid (yC [s0]≤2000∧yC m0≤140000∧(∀ m∈m0,yC [m]≤2000)∧szL (s0 :: m0)≤1000):=J (by
  have h1:∀ t∈s0 :: m0,yC [t]≤2000:=fun t ht=>hD.rp.small t (by rw [hL];exact ht)
  have h2:=bulk_eachP 2000 m0 fun t ht=>h1 t (mT ht)
  have h3:=hD.rp.le
  rw [hL] at h3
  have:=HLn2.out;have:=HRM.out
  exact ⟨h1 s0 mS0,by omega,fun m hm=>h1 m (mT hm),by omega⟩)
 have hul:¬((u:Int) < ((szL (s0 :: m0):Nat):Int)):=by
  have h3:=hD.rp.le
  rw [hL] at h3
  omega
 have hur:¬(room < (u:Int)):=by
  have h3:=hD.rp.le
  omega
 obtain ⟨qa,qc,vm,hX,hT,⟨am,cm,rfl,hcm,hrm⟩,-⟩:=hD.rq
 have HXQ:=J hX;have HQT:=J hT
 have HQM:Hid (RSl Q wc m0 (.slice am m0.length cm)):=J ⟨am,cm,rfl,hcm,hrm⟩
 have HQ30:Hid (∀ w':World,Below wc.heap.size wc w'→w'.cell? ⟨qb,0,none⟩=some (.string name)∧w'.cell? ⟨qb,2,none⟩=some (.int .i64 s0.kind)∧w'.cell? ⟨qb,3,none⟩=some (.int .i64 s0.n)∧w'.cell? ⟨qb,4,none⟩=some (.string s0.name)∧w'.cell? ⟨qb,5,none⟩=some (.slice qa s0.args.length qc)∧w'.cell? ⟨qb,6,none⟩=some (.slice am m0.length cm)):=J fun w' h=>⟨(HXQ.out.step h).cell 0 _ rfl,(HXQ.out.step h).cell 2 _ rfl,(HXQ.out.step h).cell 3 _ rfl,(HXQ.out.step h).cell 4 _ rfl,(HXQ.out.step h).cell 5 _ rfl,(HXQ.out.step h).cell 6 _ rfl⟩
 clear hD hL hck2 hL2 hX hT hcm hrm
 go_upto_region 30 with fail
 refine yK (fun w'=>w'.cell? ⟨qb,0,none⟩=some (.string name)∧w'.cell? ⟨qb,2,none⟩=some (.int .i64 s0.kind)∧w'.cell? ⟨qb,3,none⟩=some (.int .i64 s0.n)∧w'.cell? ⟨qb,4,none⟩=some (.string s0.name)∧w'.cell? ⟨qb,5,none⟩=some (.slice qa s0.args.length qc)∧w'.cell? ⟨qb,6,none⟩=some (.slice am m0.length cm)) (by as_aux_lemma=>kernel_rfl) (fun Wd h=>HQ30.out _ h) ?_
 intro V0 hB hWd hWd' hHeld
 have HV0:=J hB
 clear hB
 refine rgT 0 _ hHeld ?_
 refine rgT 2 _ hHeld ?_
 refine rgT 3 _ hHeld ?_
 refine rgT 4 _ hHeld ?_
 refine rgT 5 _ hHeld ?_
 refine rgO 1 fun K hK=>?_
 go_simp
 go_at_call 16
 refine (pname_c G V0 pb name room _ u ((s0,xa) :: L2) [] (HDC.out.rp.below HV0.out)).mono ?_
 rintro e V9 ⟨he,hV⟩
 subst he
 obtain rfl:V0=V9:=hV
 refine hK.out _ _ (HQ30.out _ HV0.out) fun _=>?_
 clear hK K hHeld;rename_i hHeld;try simp only [Act.put,pA,pB,pC]
 refine rgT 6 _ hHeld ?_
 refine rgT 7 _ hHeld ?_
 refine rgT 8 _ hHeld ?_
 refine rgT 10 _ hHeld ?_
 refine rgT 11 _ hHeld ?_
 refine rgT 12 _ hHeld ?_
 refine rgT 13 _ hHeld ?_
 refine rgO 9 fun K hK=>?_
 go_simp
 go_at_call 18
 refine (pstate_c G V0 pb name room _ u s0 xa L2 [] (HDC.out.rp.below HV0.out) (by have:=HLn2.out;omega) HRM.out.2 (by have:=HKN.out;omega)).mono ?_
 rintro e V1 ⟨ar,cr,rfl,hB,hT⟩
 have HV1:Hid (Below wc.heap.size wc V1):=J (yB HV0.out HV0.out.size hB)
 have HS1:=J (hT.mono (S':=fun _=>True) fun _ _=>trivial)
 clear hB hT
 refine hK.out _ _ (HQ30.out _ HV1.out) fun _=>?_
 clear hK K hHeld;rename_i hHeld;try simp only [Act.put,pA,pB,pC]
 refine rgO 14 fun K hK=>?_
 go_simp
 go_at_call 17
 refine (same_c s0 s0 (fun _=>True) V1 _ _ HS1.out ((HQT.out.below HV1.out).mono fun _ _=>trivial) (by have:=HSMB.out;omega) (by have:=HSMB.out;omega)).mono ?_
 rw [same_self]
 rintro e V2 ⟨rfl,hB⟩
 have HV2:Hid (Below wc.heap.size wc V2):=J (yB HV1.out HV1.out.size hB)
 clear hB
 refine hK.out _ _ (HQ30.out _ HV2.out) fun _=>?_
 clear hK K hHeld;rename_i hHeld;try simp only [Act.put,pA,pB,pC]
 refine rgT 15 _ hHeld ?_
 refine rgT 16 _ hHeld ?_
 refine rgT 17 _ hHeld ?_
 refine rgT 18 _ hHeld ?_
 refine rgT 20 _ hHeld ?_
 refine rgT 21 _ hHeld ?_
 refine rgT 22 _ hHeld ?_
 refine rgT 23 _ hHeld ?_
 refine rgO 19 fun K hK=>?_
 go_simp
 go_at_call 20
 refine (pmail_c G V2 pb name room _ u ((s0,xa) :: L2) (HDC.out.rp.below HV2.out) ⟨by simp,by have:=HLn2.out;simp;omega⟩ HRM.out.2 (by have:=HKN.out;omega)).mono ?_
 rintro e V3 ⟨va,rfl,hB,hM⟩
 have hM:RSl (fun b=>V2.heap.size≤b) V3 (yQ L2) va:=hM
 rw [HL2.out] at hM
 have HV3:Hid (Below wc.heap.size wc V3):=J (yB HV2.out HV2.out.size hB)
 have HM3:=J (hM.mono (S':=fun _=>True) fun _ _=>trivial)
 clear hB hM
 refine hK.out _ _ (HQ30.out _ HV3.out) fun _=>?_
 clear hK K hHeld;rename_i hHeld;try simp only [Act.put,pA,pB,pC]
 refine rgO 24 fun K hK=>?_
 go_simp
 go_at_call 19
 refine (sameTerms_c (fun _=>True) m0 m0 V3 _ _ HM3.out ((HQM.out.below HV3.out).mono fun _ _=>trivial) (by have:=HSMB.out;omega) (by have:=HSMB.out;omega)).mono ?_
 rw [sameL_self]
 rintro e V4 ⟨rfl,hB⟩
 have HV4:Hid (Below wc.heap.size wc V4):=J (yB HV3.out HV3.out.size hB)
 clear hB
 refine hK.out _ _ (HQ30.out _ HV4.out) fun _=>?_
 clear hK K hHeld;rename_i hHeld;try simp only [Act.put,pA,pB,pC]
 refine rgT 25 _ hHeld ?_
 refine rgT 26 _ hHeld ?_
 refine rgT 27 _ hHeld ?_
 refine rgT 28 _ hHeld ?_
 refine rgT 30 _ hHeld ?_
 refine rgO 29 fun K hK=>?_
 go_simp
 go_at_call 14
 refine (pused_c G V4 pb name room _ u ((s0,xa) :: L2) [] (HDC.out.rp.below HV4.out)).mono ?_
 rintro e V9 ⟨he,hV⟩
 subst he
 obtain rfl:V4=V9:=hV
 refine hK.out _ _ (HQ30.out _ HV4.out) fun _=>?_
 clear hK K hHeld;rename_i hHeld;try simp only [Act.put,pA,pB,pC]
 refine rgO 31 fun K hK=>?_
 go_simp
 go_at_call 15
 refine (rlive_c Q V4 qb name room s0 m0 (HDC.out.rq.below HV4.out) (by have:=HSMB.out;omega) (fun m hm=>by have:=HSMB.out.2.2.1 m hm;omega) (by have:=HSMB.out;omega) (by have:=HLn2.out;omega)).mono ?_
 rintro e V5 ⟨rfl,hB⟩
 have HV5:Hid (Below wc.heap.size wc V5):=J (yB HV4.out HV4.out.size hB)
 clear hB
 refine hK.out _ _ (HQ30.out _ HV5.out) fun _=>?_
 clear hK K hHeld;rename_i hHeld;try simp only [Act.put,pA,pB,pC]
 refine rgT 32 _ hHeld ?_
 refine rgT 33 _ hHeld ?_
 refine rgT 34 _ hHeld ?_
 refine rgT 35 _ hHeld ?_
 refine rgT 37 _ hHeld ?_
 refine rgO 36 fun K hK=>?_
 go_simp
 go_at_call 14
 refine (pused_c G V5 pb name room _ u ((s0,xa) :: L2) [] (HDC.out.rp.below HV5.out)).mono ?_
 rintro e V9 ⟨he,hV⟩
 subst he
 obtain rfl:V5=V9:=hV
 refine hK.out _ _ (HQ30.out _ HV5.out) fun _=>?_
 clear hK K hHeld;rename_i hHeld;try simp only [Act.put,pA,pB,pC]
 refine rgT 38 _ hHeld ?_
 refine rgT 39 _ hHeld ?_
 refine rgD ?_
 clear hHeld
 go_wp2_with fail
 go_roundw
 case rel=>exact ⟨k+1,by omega,by go_num,⟨G,Q,u,_,s0,m0,HDC.out.below HV5.out,HLC.out,HLn2.out.2.2,HCKC.out⟩⟩
 case measure=>simp [intOf];omega
end Go.Proofs.YtedfepnekjjmnabGreat
