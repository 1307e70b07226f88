/-
  clerkref.To: what tells a program as a term. No condition but a bound.
-/
import Derived.Test.YtedfepnekjjmnabGreatJf
import Derived.Test.YtedfepnekjjmnabGreatJc
namespace Go.Proofs.YtedfepnekjjmnabGreat
open Go.RowKit
set_option linter.unusedSimpArgs false
set_option linter.unusedVariables false
set_option maxRecDepth 100000
set_option maxHeartbeats 40000000
def RowRel {X:Type} (S:Nat→Prop) (B:World) (q0:Bool) (xs:List X) (ok:X→Bool) (tm:X→T) (hd:List T) (s4 row i:Value) (wi:World):Prop :=
 ∃ (k:Nat) (q:Bool) (L:List T),k≤xs.length∧i=.int .i64 k∧s4=.bool q∧q=(q0 && (xs.take k).all ok)∧L.length≤k+hd.length∧(q=true→L=hd ++ (xs.take k).map tm) ∧
  OwnG (fun b=>S b∨B.heap.size≤b) B.heap.size wi row L∧Below B.heap.size B wi
theorem rtoA_bad {l:List Behv} (h:progOk l=false):toA l=(yJ,5):=by unfold toA;rw [if_neg (by simp [h])]
theorem rtoA_check {l:List Behv} (h:progOk l=true) (hc:yE (progT l)≠0):toA l=(yJ,yE (progT l)):=by unfold toA;rw [if_pos h,if_neg hc]
theorem rtoA_ok {l:List Behv} (h:progOk l=true) (hc:yE (progT l)=0):toA l=(progT l,0):=by unfold toA;rw [if_pos h,if_pos hc]
theorem rto_c (l:List Behv) (a:Option Addr) (cap:Nat) (S:Nat→Prop) (w:World) (hv:RX behvE S S w l (.slice a l.length cap)) (hS:∀ x,S x→x < w.heap.size) (hb:behvsB l≤8589934592) :
  Calls Tryz.prog 6 #[.slice a l.length cap] w (RToPost w (toA l)):=by
 have hlb:=behvsB_len l
 have HV:=J hv
 have HS:=J hS
 obtain ⟨q0,hq0⟩:∃ q0,q0=inB (l.length:Int) 1 7:=⟨_,rfl⟩
 have HQ0:=J hq0
 clear hv hS hq0
 go_enter Tryz.func6,Tryz.ntmps6
 go_upto_region 1 with fail
 obtain ⟨W0,hW0⟩:=I (w.alloc (.cells #[.int .i64 0,.int .i64 0,.string ⟨#[]⟩,.slice none 0 0] 25))
 have HZ:Hid (Blk W0 w.heap.size [.int .i64 0,.int .i64 0,.string ⟨#[]⟩,.slice none 0 0]):=J (by rw [hW0];exact Blk.new _ _ _ _ rfl)
 have HB0:Hid (Below w.heap.size w W0):=J (by rw [hW0];exact yA _ _)
 have HV0:=J (HV.out.below HB0.out)
 have hs0:w.heap.size+1≤W0.heap.size:=by rw [hW0];simp
 rw [←hW0]
 clear hW0
 go_wp2_with fail
 refine (in_c _ _ _ _).mono ?_
 rintro e w' ⟨he,hw⟩
 rw [←HQ0.out] at he
 subst he
 obtain rfl:W0=w':=hw
 go_wp2_with fail
 refine (word_Ratom ⟨#[99,111,100,101]⟩ _).mono ?_
 rintro e w1 ⟨rfl,hB⟩
 have hs1:=hB.size
 have HB1:=J hB
 clear hB
 go_wp2_with fail
 obtain ⟨W2,hW2⟩:=I (w1.alloc (.cells #[.int .i64 2,.int .i64 0,.string ⟨#[99,111,100,101]⟩,.slice none 0 0] 25))
 have HO2:Hid (OwnG (fun b=>S b∨W0.heap.size≤b) W0.heap.size W2 (.slice (some ⟨w1.heap.size,0,none⟩) 1 1) [yP sCode]):=J (by rw [hW2];exact OwnG.lit (n:=1) (S:=fun _=>False) (CellsT.word sCode CellsT.nil) (fun _ hb=>hb.elim) (by omega) rfl (by omega) rfl)
 have HB2:Hid (Below W0.heap.size W0 W2):=J (by rw [hW2];exact HB1.out.alloc (by omega) _)
 rw [←hW2]
 clear hW2
 go_loopw [4,6,7] (fun s4 s6 i wr=>RowRel S W0 q0 l behvOk behvT [yP sCode] s4 s6 i wr) (fun _ _ i _=>l.length - (intOf i).toNat)
 case atStart=>exact ⟨0,q0,_,Nat.zero_le _,rfl,rfl,by simp,by simp,fun _=>rfl,HO2.out,HB2.out⟩
 obtain ⟨k,q,L,hkl,rfl,rfl,hq,hLl,hL,hO,hB⟩:=hrel
 obtain ⟨ar,capr,rfl⟩:=hO.form
 have hsz:=hB.size
 have HO:=J hO
 have HB:=J hB
 have HQ:=J hq
 have HL:=J hL
 have hLl':L.length≤k+1:=hLl
 have HVr:=J (HV0.out.below HB.out)
 have HBr:Hid (Below w.heap.size w wr):=J (HB0.out.trans (HB.out.mono (by omega)))
 clear hO hB hq hL hLl
 by_cases hlt:k < l.length
 ·skip
  obtain ⟨ba,oa,rfl⟩:=HVr.out.addr (by decide) (by omega)
  obtain ⟨cells,hC,hcells⟩:=HVr.out.elem k hlt
  have hbk:=behvsB_mem (List.getElem_mem hlt)
  obtain ⟨b,hbl⟩:∃ b,b=l[k]:=⟨_,rfl⟩
  rw [←hbl] at hC hbk
  obtain ⟨e0,f0,rfl,hX⟩:=hC
  obtain ⟨wo,rfl⟩:∃ wo:World,wo=wr:=⟨_,rfl⟩
  have d0:wo.cell? ⟨ba,oa+k * 2,none⟩=some (.string b.name):=(hcells 0 _ rfl).2
  have d1:wo.cell? ⟨ba,oa+k * 2+1,none⟩=some (.slice e0 b.clauses.length f0):=(hcells 1 _ rfl).2
  have hbaw:ba < wo.heap.size:=World.block_lt_of_cell? _ _ d0
  have HX:=J hX
  have HBL:=J hbl
  have hik:(k:Int) < l.length:=by omega
  have hbn:b.name.size≤behvB b∧clausB b.clauses≤behvB b:=by unfold behvB;omega
  have hlc:=clausB_len b.clauses
  obtain ⟨nb,hnb⟩:∃ nb,nameB b.name=nb:=⟨_,rfl⟩
  obtain ⟨ib,hib⟩:∃ ib,inB (b.clauses.length:Int) 1 6=ib:=⟨_,rfl⟩
  have HNB:=J hnb
  have HIB:=J hib
  obtain ⟨qn,hq1⟩:∃ qn,qn=(q && (nb && ib)):=⟨_,rfl⟩
  have HQN:=J hq1
  have HQ1:Hid (qn=(q && (nameB b.name && inB (b.clauses.length:Int) 1 6))):=J (by rw [hq1,hnb,hib])
  clear hX hbl hcells hnb hib hq1
  go_upto_region 7 with fail
  go_cut [4] (fun s4 wx=>s4=.bool qn∧Below wo.heap.size wo wx∧wx=wo)
  case first =>
   as_aux_lemma =>
    cases q
    ·skip
     go_wp2_with fail
     go_meet
     exact ⟨(congrArg Value.bool (show qn=false from HQN.out)).symm,Below.refl _ _,rfl⟩
    ·skip
     cases nb
     ·skip
      go_wp2_with fail
      refine (rname_c b.name _ (by omega)).mono ?_
      rintro e w' ⟨he,hw⟩
      rw [HNB.out] at he
      subst he
      obtain rfl:wo=w':=hw
      go_wp2_with fail
      go_meet
      exact ⟨(congrArg Value.bool (show qn=false from HQN.out)).symm,Below.refl _ _,rfl⟩
     ·skip
      cases ib
      ·skip
       go_wp2_with fail
       refine (rname_c b.name _ (by omega)).mono ?_
       rintro e w' ⟨he,hw⟩
       rw [HNB.out] at he
       subst he
       obtain rfl:wo=w':=hw
       go_wp2_with fail
       refine (in_c _ 1 6 _).mono ?_
       rintro e w' ⟨he,hw⟩
       rw [HIB.out] at he
       subst he
       obtain rfl:wo=w':=hw
       go_wp2_with fail
       go_meet
       exact ⟨(congrArg Value.bool (show qn=false from HQN.out)).symm,Below.refl _ _,rfl⟩
      ·skip
       go_wp2_with fail
       refine (rname_c b.name _ (by omega)).mono ?_
       rintro e w' ⟨he,hw⟩
       rw [HNB.out] at he
       subst he
       obtain rfl:wo=w':=hw
       go_wp2_with fail
       refine (in_c _ 1 6 _).mono ?_
       rintro e w' ⟨he,hw⟩
       rw [HIB.out] at he
       subst he
       obtain rfl:wo=w':=hw
       go_wp2_with fail
       go_meet
       exact ⟨(congrArg Value.bool (show qn=true from HQN.out)).symm,Below.refl _ _,rfl⟩
  obtain ⟨rfl,-,hwc⟩:=hcut
  obtain rfl:wo=wc:=hwc.symm
  obtain ⟨q1,rfl⟩:∃ q1:Bool,q1=qn:=⟨_,rfl⟩
  clear HQN HNB HIB
 
  have HQS:Hid (∀ w':World,Below wo.heap.size wo w'→w'.cell? ⟨ba,oa+k * 2,none⟩=some (.string b.name)):=J fun w' h=>(h.cell (p:=⟨ba,oa+k * 2,none⟩) hbaw).trans d0
  go_upto_region 8 with fail
  refine yK (fun w'=>w'.cell? ⟨ba,oa+k * 2,none⟩=some (.string b.name)) (by as_aux_lemma=>kernel_rfl) (HQS.out) ?_
  intro Wd hB hWd hWd' hHeld
  have HCWd:=J hB
  clear hB
  refine rgT 1 _ hHeld ?_
  refine rgT 2 _ hHeld ?_
  refine rgT 3 _ hHeld ?_
  refine rgT 4 _ hHeld ?_
  refine rgT 5 _ hHeld ?_
  refine rgO 0 fun K hK=>?_
  go_simp
  go_at_call 28
  refine (word_Ratom ⟨#[98,101,104]⟩ _).mono ?_
  rintro e wa ⟨rfl,hB⟩
  have hzwa:=hB.size
  have HCwa:Hid (Below wo.heap.size wo wa):=J (yB HCWd.out (by omega) hB)
  clear hB
  refine hK.out _ _ (HQS.out _ HCwa.out) fun _=>?_
  clear hK K hHeld;rename_i hHeld;try simp only [Act.put,pA,pB,pC]
  refine rgO 6 fun K hK=>?_
  go_simp
  go_at_call 28
  refine (word_Ratom b.name _).mono ?_
  rintro e wb ⟨rfl,hB⟩
  have hzwb:=hB.size
  have HCwb:Hid (Below wo.heap.size wo wb):=J (yB HCwa.out (by omega) hB)
  clear hB
  refine hK.out _ _ (HQS.out _ HCwb.out) fun _=>?_
  clear hK K hHeld;rename_i hHeld;try simp only [Act.put,pA,pB,pC]
  refine rgO 7 fun K hK=>?_
  refine build2 _ _ rfl (by rfl) (by rfl) ?_
  obtain ⟨wl,hwl⟩:=I (wb.alloc (.cells #[.int .i64 2,.int .i64 0,.string ⟨#[98,101,104]⟩,.slice none 0 0,.int .i64 2,.int .i64 0,.string b.name,.slice none 0 0] 25))
  have hzwl:wb.heap.size+1≤wl.heap.size:=by rw [hwl];simp
  have HOl:Hid (OwnG (fun x=>S x∨wo.heap.size≤x) wo.heap.size wl (.slice (some ⟨wb.heap.size,0,none⟩) 2 2) [yP sBeh,yP b.name]):=J (by rw [hwl];exact OwnG.lit (n:=2) (S:=fun _=>False) (CellsT.word sBeh (CellsT.word b.name CellsT.nil)) (fun _ hb=>hb.elim) (by omega) rfl (by omega) rfl)
  have hB:Below wb.heap.size wb wl:=by rw [hwl];exact yA _ _
  have HCwl:Hid (Below wo.heap.size wo wl):=J (yB HCwb.out (by omega) hB)
  rw [←hwl]
  clear hwl hB
  refine hK.out _ _ (HQS.out _ HCwl.out) fun _=>?_
  clear hK K hHeld;rename_i hHeld;try simp only [Act.put,pA,pB,pC]
  refine rgT 8 _ hHeld ?_
  refine rgD ?_
  clear hHeld
  go_wp2_with fail
  go_loopw [4,8,9] (fun s4 s8 i wi=>RowRel S wo q1 b.clauses clauOk clauT [yP sBeh,yP b.name] s4 s8 i wi) (fun _ _ i _=>b.clauses.length - (intOf i).toNat)
  case atStart=>exact ⟨0,q1,_,Nat.zero_le _,rfl,rfl,by simp,by simp,fun _=>rfl,HOl.out,HCwl.out⟩
  as_aux_lemma =>
   obtain ⟨j,q2,Lb,hjl,rfl,rfl,hq2,hLbl,hLb,hOb,hBb⟩:=hrel
   obtain ⟨ab,capb,rfl⟩:=hOb.form
   obtain ⟨wk,rfl⟩:∃ wk:World,wk=wr:=⟨_,rfl⟩
   have hszk:=hBb.size
   have HOb:=J hOb
   have HBb:=J hBb
   have HQ2:=J hq2
   have HLb:=J hLb
   have hLbm:Lb.length≤j+2:=hLbl
   have HXk:=J (HX.out.below hBb)
   have d1k:wk.cell? ⟨ba,oa+k * 2+1,none⟩=some (.slice e0 b.clauses.length f0):=(hBb.cell (p:=⟨ba,oa+k * 2+1,none⟩) hbaw).trans d1
   clear hOb hBb hq2 hLb hLbl
   by_cases hlj:j < b.clauses.length
   ·obtain ⟨be,oe,rfl⟩:=HXk.out.addr (by decide) (by omega)
    obtain ⟨cells2,hC2,hcells2⟩:=HXk.out.elem j hlj
    have hbj:=clausB_mem (List.getElem_mem hlj)
    obtain ⟨c,hc⟩:∃ c,c=b.clauses[j]:=⟨_,rfl⟩
    rw [←hc] at hC2 hbj
    obtain ⟨e1,f1,e2,f2,e3,f3,e4,f4,rfl,ht1,ht2,htA,ht4⟩:=hC2
    have HR:Hid (wk.rangeAt be (oe+j * 13) [.int .i64 c.state.kind,.int .i64 c.state.n,.string c.state.name,.slice e1 c.state.args.length f1,.int .i64 c.message.kind,.int .i64 c.message.n,.string c.message.name,.slice e2 c.message.args.length f2,.slice e3 c.acts.length f3,.int .i64 c.next.kind,.int .i64 c.next.n,.string c.next.name,.slice e4 c.next.args.length f4]):=J (fun i u hu=>(hcells2 i u hu).2)
    have HT1:=J ht1
    have HT2:=J ht2
    have HT4:=J ht4
    have HCM:=J hc
    have hij:(j:Int) < b.clauses.length:=by omega
    have hik:(k:Int) < l.length:=by omega
    have hbd:=deedsB_len c.acts
    have hba:deedsB c.acts≤clauB c:=by unfold clauB;omega
    have HTAk:=J htA
    clear hc ht1 ht2 htA ht4 hcells2
    go_upto_region 13 with (refine load_at (o:=⟨some 69,.load 82 (.tmp 68),_,_,_,_⟩) 82 13 szClau _ Tryz.underlying82 rfl _ rfl rfl rfl HR.out rfl ?_)
    obtain ⟨W10,hW10⟩:=I (wk.alloc (.cells #[.int .i64 c.state.kind,.int .i64 c.state.n,.string c.state.name,.slice e1 c.state.args.length f1,.int .i64 c.message.kind,.int .i64 c.message.n,.string c.message.name,.slice e2 c.message.args.length f2,.slice e3 c.acts.length f3,.int .i64 c.next.kind,.int .i64 c.next.n,.string c.next.name,.slice e4 c.next.args.length f4] 82))
    obtain ⟨g10,hg10⟩:=I (wk.heap.size)
    have HX10:Hid (Blk W10 g10 [.int .i64 c.state.kind,.int .i64 c.state.n,.string c.state.name,.slice e1 c.state.args.length f1,.int .i64 c.message.kind,.int .i64 c.message.n,.string c.message.name,.slice e2 c.message.args.length f2,.slice e3 c.acts.length f3,.int .i64 c.next.kind,.int .i64 c.next.n,.string c.next.name,.slice e4 c.next.args.length f4]):=J (by rw [hW10];exact Blk.new _ _ _ _ hg10)
    have HB10:Hid (Below wk.heap.size wk W10):=J (by rw [hW10];exact yA _ _)
    have HTA10:=J (HTAk.out.below HB10.out)
    have hs10:wk.heap.size+1≤W10.heap.size:=by rw [hW10];simp
    have h101:wk.heap.size≤g10:=by omega
    have h102:g10≤wk.heap.size:=by omega
    rw [←hW10,←hg10]
    clear hW10 hg10
    obtain ⟨q3,hq3⟩:∃ q3,q3=(q2 && decide ((c.acts.length:Int)≤8)):=⟨_,rfl⟩
    have HQ3:=J hq3
    have y8:=HX10.out.cell 8 _ rfl
    clear hq3
    go_cut [4] (fun s4 wx=>s4=.bool q3∧wx=W10)
    case first =>
     as_aux_lemma =>
      cases q2
      ·have HQF:Hid (q3=false):=J (by rw [HQ3.out];rfl)
       go_wp2_with fail
       go_meet
       exact ⟨by rw [HQF.out],rfl⟩
      ·have HQF:Hid (q3=decide ((c.acts.length:Int)≤8)):=J (by rw [HQ3.out];rfl)
       go_wp2_with fail
       go_meet
       exact ⟨by rw [HQF.out],rfl⟩
    case rest =>
     obtain ⟨rfl,hwc⟩:=hcut
     obtain rfl:W10=wc:=hwc.symm
     clear y8
     go_wp2_with fail
     go_loopw [4,11,12] (fun s4 s11 i wi=>RowRel S W10 q3 c.acts deedOk deedT [] s4 s11 i wi) (fun _ _ i _=>c.acts.length - (intOf i).toNat)
     case atStart=>exact ⟨0,q3,[],Nat.zero_le _,rfl,rfl,by simp,by simp,fun _=>rfl,OwnG.nil _ _ _,Below.refl _ _⟩
     case round =>
      as_aux_lemma =>
       obtain ⟨m,q4,La,hml,rfl,rfl,hq4,hLal,hLa,hOa,hBa⟩:=hrel
       obtain ⟨aa,capa,rfl⟩:=hOa.form
       obtain ⟨wj,rfl⟩:∃ wj:World,wj=wr:=⟨_,rfl⟩
       have hszj:=hBa.size
       have HOa:=J hOa
       have HBa:=J hBa
       have HQ4:=J hq4
       have HLa:=J hLa
       have hLam:La.length≤m:=hLal
       have y8j:wj.cell? ⟨g10,8,none⟩=some (.slice e3 c.acts.length f3):=(HX10.out.below hBa (by omega)).cell 8 _ rfl
       have HBi:Hid (Below wk.heap.size wk wj):=J (HB10.out.trans (hBa.mono (by omega)))
       have HOBa:=J hOa.block
       clear hOa hBa hq4 hLa hLal
       by_cases hlm:m < c.acts.length
       ·obtain ⟨bb,ob,rfl⟩:=HTA10.out.addr (by decide) (by omega)
        obtain ⟨cells3,hD,hdc⟩:=HTA10.out.elem m hlm
        have hbj:=deedsB_mem (List.getElem_mem hlm)
        obtain ⟨d,hd⟩:∃ d,d=c.acts[m]:=⟨_,rfl⟩
        rw [←hd] at hD hbj
        obtain ⟨b1,p1,b2,p2,rfl,hr1,hr2⟩:=hD
        have hbbw:=HS.out bb (hdc 0 _ rfl).1
        have HRD:Hid (wj.rangeAt bb (ob+m * 11) [.int .i64 d.kind,.int .i64 d.to.kind,.int .i64 d.to.n,.string d.to.name,.slice b1 d.to.args.length p1,.int .i64 d.what.kind,.int .i64 d.what.n,.string d.what.name,.slice b2 d.what.args.length p2,.string d.name,.int .i64 d.var]):=J (fun i u hu=>(HBa.out.cell (p:=⟨bb,_,none⟩) (show bb < W10.heap.size by omega)).trans (hdc i u hu).2)
        have HR1:=J hr1
        have HR2:=J hr2
        have HDM:=J hd
        have him:(m:Int) < c.acts.length:=by omega
        have hbd1:yC [d.to]≤deedB d∧yC [d.what]≤deedB d∧d.name.size≤deedB d:=by unfold deedB;omega
        clear hd hr1 hr2 hdc
        go_upto_region 21 with (refine load_at (o:=⟨some 88,.load 84 (.tmp 87),_,_,_,_⟩) 84 11 szDeed _ Tryz.underlying84 rfl _ rfl rfl rfl HRD.out rfl ?_)
        obtain ⟨W13,hW13⟩:=I (wj.alloc (.cells #[.int .i64 d.kind,.int .i64 d.to.kind,.int .i64 d.to.n,.string d.to.name,.slice b1 d.to.args.length p1,.int .i64 d.what.kind,.int .i64 d.what.n,.string d.what.name,.slice b2 d.what.args.length p2,.string d.name,.int .i64 d.var] 84))
        obtain ⟨g13,hg13⟩:=I (wj.heap.size)
        have HX13:Hid (Blk W13 g13 [.int .i64 d.kind,.int .i64 d.to.kind,.int .i64 d.to.n,.string d.to.name,.slice b1 d.to.args.length p1,.int .i64 d.what.kind,.int .i64 d.what.n,.string d.what.name,.slice b2 d.what.args.length p2,.string d.name,.int .i64 d.var]):=J (by rw [hW13];exact Blk.new _ _ _ _ hg13)
        have HB13:Hid (Below wj.heap.size wj W13):=J (by rw [hW13];exact yA _ _)
        have HO13:=J (HOa.out.below HB13.out)
        have HB1013:Hid (Below W10.heap.size W10 W13):=J (HBa.out.trans (HB13.out.mono (by omega)))
        have hs13:wj.heap.size+1≤W13.heap.size:=by rw [hW13];simp
        have h131:wj.heap.size≤g13:=by omega
        have h132:g13≤wj.heap.size:=by omega
        rw [←hW13,←hg13]
        clear hW13 hg13
        by_cases hkd:d.kind=1
        ·as_aux_lemma =>
          obtain ⟨bn,e1⟩:∃ bn,(d.name.toList == ([]:List UInt8))=bn:=⟨_,rfl⟩
          obtain ⟨bv,e2⟩:∃ bv,(d.var == 0)=bv:=⟨_,rfl⟩
          obtain ⟨eto,e3⟩:∃ eto,emptyB d.to=eto:=⟨_,rfl⟩
          obtain ⟨ewh,e4⟩:∃ ewh,emptyB d.what=ewh:=⟨_,rfl⟩
          obtain ⟨nb,e5⟩:∃ nb,nameB d.name=nb:=⟨_,rfl⟩
          obtain ⟨ib,e6⟩:∃ ib,inB d.var 0 3=ib:=⟨_,rfl⟩
          have HE3:=J e3
          have HE4:=J e4
          have HE5:=J e5
          have HE6:=J e6
          have HOK:Hid (deedOk d=(bn && bv)):=J (by unfold deedOk;simp only [dbareB,hkd,e1,e2,e3,e4,e5,e6];first | rfl | (simp [e6];done) | (rw [←e6];rfl))
          have hkb1:(d.kind == 1)=true:=by rw [hkd];rfl
          have HDT:Hid (deedT d=tupT [yP sSend,d.to,d.what]):=J (by unfold deedT;simp [hkd])
          clear hkd e3 e4 e5 e6
          have HQS:Hid (∀ w':World,w'.heap[g13]?=W13.heap[g13]?→w'.cell? ⟨g13,1,none⟩=some (.int .i64 d.to.kind)∧w'.cell? ⟨g13,2,none⟩=some (.int .i64 d.to.n)∧w'.cell? ⟨g13,3,none⟩=some (.string d.to.name)∧w'.cell? ⟨g13,4,none⟩=some (.slice b1 d.to.args.length p1)∧w'.cell? ⟨g13,5,none⟩=some (.int .i64 d.what.kind)∧w'.cell? ⟨g13,6,none⟩=some (.int .i64 d.what.n)∧w'.cell? ⟨g13,7,none⟩=some (.string d.what.name)∧w'.cell? ⟨g13,8,none⟩=some (.slice b2 d.what.args.length p2)):=J fun w' eg=>⟨(World.cell?_of_block (w:=W13) eg).trans (HX13.out.cell 1 _ rfl),(World.cell?_of_block (w:=W13) eg).trans (HX13.out.cell 2 _ rfl),(World.cell?_of_block (w:=W13) eg).trans (HX13.out.cell 3 _ rfl),(World.cell?_of_block (w:=W13) eg).trans (HX13.out.cell 4 _ rfl),(World.cell?_of_block (w:=W13) eg).trans (HX13.out.cell 5 _ rfl),(World.cell?_of_block (w:=W13) eg).trans (HX13.out.cell 6 _ rfl),(World.cell?_of_block (w:=W13) eg).trans (HX13.out.cell 7 _ rfl),(World.cell?_of_block (w:=W13) eg).trans (HX13.out.cell 8 _ rfl)⟩
          go_upto_region 22 with fail
          refine yK (fun w'=>w'.cell? ⟨g13,1,none⟩=some (.int .i64 d.to.kind)∧w'.cell? ⟨g13,2,none⟩=some (.int .i64 d.to.n)∧w'.cell? ⟨g13,3,none⟩=some (.string d.to.name)∧w'.cell? ⟨g13,4,none⟩=some (.slice b1 d.to.args.length p1)∧w'.cell? ⟨g13,5,none⟩=some (.int .i64 d.what.kind)∧w'.cell? ⟨g13,6,none⟩=some (.int .i64 d.what.n)∧w'.cell? ⟨g13,7,none⟩=some (.string d.what.name)∧w'.cell? ⟨g13,8,none⟩=some (.slice b2 d.what.args.length p2)) (by as_aux_lemma=>kernel_rfl) (fun Wd h=>HQS.out _ (h.block g13 (by omega))) ?_
          intro Wd hB hWd hWd' hHeld
          have EGWd:Hid (Wd.heap[g13]?=W13.heap[g13]?):=J (hB.block g13 (by omega))
          have HCWd:=J hB
          clear hB
          refine rgT 0 _ hHeld ?_
          refine rgT 2 _ hHeld ?_
          refine rgT 3 _ hHeld ?_
          refine rgT 4 _ hHeld ?_
          refine rgT 5 _ hHeld ?_
          refine rgO 1 fun K hK=>?_
          go_simp
          go_at_call 28
          refine (word_Ratom ⟨#[115,101,110,100]⟩ _).mono ?_
          rintro e wa ⟨rfl,hB⟩
          have hzwa:=hB.size
          have EGwa:Hid (wa.heap[g13]?=W13.heap[g13]?):=J ((hB.block g13 (by omega)).trans EGWd.out)
          have HCwa:Hid (Below W13.heap.size W13 wa):=J (yB HCWd.out (by omega) hB)
          clear hB
          refine hK.out _ _ (HQS.out _ EGwa.out) fun _=>?_
          clear hK K hHeld;rename_i hHeld;try simp only [Act.put,pA,pB,pC]
          refine rgO 6 fun K hK=>?_
          refine build3 _ _ _ rfl (by rfl) (by rfl) (by rfl) ?_
          obtain ⟨wl,hwl⟩:=I (wa.alloc (.cells #[.int .i64 2,.int .i64 0,.string ⟨#[115,101,110,100]⟩,.slice none 0 0,.int .i64 d.to.kind,.int .i64 d.to.n,.string d.to.name,.slice b1 d.to.args.length p1,.int .i64 d.what.kind,.int .i64 d.what.n,.string d.what.name,.slice b2 d.what.args.length p2] 25))
          have hzwl:wa.heap.size+1≤wl.heap.size:=by rw [hwl];simp
          have hzwl':wl.heap.size≤wa.heap.size+1:=by rw [hwl];simp
          have hzle:wl.heap.size=wa.heap.size+1:=by omega
          have HLT:Hid (∀ w',Below wl.heap.size wl w'→RT (fun x=>S x∨W13.heap.size≤x) w' (deedT d) (.agg #[.int .i64 4,.int .i64 0,.string ⟨#[]⟩,.slice (some ⟨wa.heap.size,0,none⟩) 3 3])):=J (fun w' h=>by rw [HDT.out];exact tup_lit (S:=fun x=>S x∨W13.heap.size≤x) (w:=wa) (CellsT.word sSend (CellsT.tm ((HR1.out.below (HB1013.out.trans (HCwa.out.mono (by omega)))).mono fun x hx=>.inl hx) (CellsT.tm ((HR2.out.below (HB1013.out.trans (HCwa.out.mono (by omega)))).mono fun x hx=>.inl hx) CellsT.nil))) 25 rfl rfl (by show Below (wa.heap.size+1) (wa.alloc (.cells #[.int .i64 2,.int .i64 0,.string ⟨#[115,101,110,100]⟩,.slice none 0 0,.int .i64 d.to.kind,.int .i64 d.to.n,.string d.to.name,.slice b1 d.to.args.length p1,.int .i64 d.what.kind,.int .i64 d.what.n,.string d.what.name,.slice b2 d.what.args.length p2] 25)) w';rw [←hwl,←hzle];exact h) (fun x hx _=>hx) (.inr (by omega)))
          clear hzle
          have hB:Below wa.heap.size wa wl:=by rw [hwl];exact yA _ _
          have EGwl:Hid (wl.heap[g13]?=W13.heap[g13]?):=J ((hB.block g13 (by omega)).trans EGwa.out)
          have HCwl:Hid (Below W13.heap.size W13 wl):=J (yB HCwa.out (by omega) hB)
          obtain ⟨gn,hgn⟩:=I (wa.heap.size)
          rw [←hgn] at HLT
          rw [←hwl,←hgn]
          clear hwl hB hgn
          refine hK.out _ _ (HQS.out _ EGwl.out) fun _=>?_
          clear hK K hHeld;rename_i hHeld;try simp only [Act.put,pA,pB,pC]
          refine rgO 7 fun K hK=>?_
          go_simp
          go_at_call 29
          refine (tuple_c _ _ _ _).mono ?_
          rintro e wt ⟨rfl,hB⟩
          have hzwt:=hB.size
          have EGwt:Hid (wt.heap[g13]?=W13.heap[g13]?):=J ((hB.block g13 (by omega)).trans EGwl.out)
          have HCwt:Hid (Below W13.heap.size W13 wt):=J (yB HCwl.out (by omega) hB)
          have HRT:=J (HLT.out _ hB)
          clear hB
          refine hK.out _ _ (HQS.out _ EGwt.out) fun _=>?_
          clear hK K hHeld;rename_i hHeld;try simp only [Act.put,pA,pB,pC]
          refine rgO 8 fun K hK=>?_
          refine build1 _ rfl (by rfl) ?_
          refine hK.out _ _ (HQS.out _ ((Below.heap_alloc wt (.cells #[.int .i64 4,.int .i64 0,.string ⟨#[]⟩,.slice (some ⟨gn,0,none⟩) 3 3] 25) g13 (by omega)).trans EGwt.out)) fun _=>?_
          clear hK K hHeld;rename_i hHeld;try simp only [Act.put,pA,pB,pC]
          refine rgO 9 fun K hK=>?_
          refine wp_grow (v:=.slice aa La.length capa) (g0:=wt.heap.size) _ _ rfl rfl (by rfl) (by rfl) rfl (HO13.out.below HCwt.out) HRT.out (fun x hx hl=>⟨by rcases hx with hx | hx;exact .inl hx;exact .inr (by omega),fun he=>by have:=HOBa.out x he;rcases hx with hx | hx;(have:=HS.out x hx;omega);omega⟩) rfl (by omega) (by omega) ?_
          intro gg cg w3 hO3 hG3 hB3 hP3
          have hz3:=hB3.size
          have q0:g13 < (wt.alloc (.cells #[.int .i64 4,.int .i64 0,.string ⟨#[]⟩,.slice (some ⟨gn,0,none⟩) 3 3] 25)).heap.size:=by rw [World.size_alloc];omega
          have q2:=hG3.block g13 q0 (fun he=>by have:=HOBa.out _ he.symm;omega)
          have EG3:Hid (w3.heap[g13]?=W13.heap[g13]?):=J (q2.trans ((Below.heap_alloc wt (.cells #[.int .i64 4,.int .i64 0,.string ⟨#[]⟩,.slice (some ⟨gn,0,none⟩) 3 3] 25) g13 (by omega)).trans EGwt.out))
          have hzw3:wt.heap.size+1≤w3.heap.size:=by have:=hG3.size;rw [World.size_alloc] at this;exact this
          have HO3:=J hO3
          have HB3:=J hB3
          clear hO3 hG3 hB3 hP3 q0 q2
          refine hK.out _ _ (HQS.out _ EG3.out) fun _=>?_
          clear hK K hHeld;rename_i hHeld;try simp only [Act.put,pA,pB,pC]
          refine rgT 10 _ hHeld ?_
          refine rgD ?_
          clear hHeld
          have HX3:Hid (Blk w3 g13 [.int .i64 d.kind,.int .i64 d.to.kind,.int .i64 d.to.n,.string d.to.name,.slice b1 d.to.args.length p1,.int .i64 d.what.kind,.int .i64 d.what.n,.string d.what.name,.slice b2 d.what.args.length p2,.string d.name,.int .i64 d.var]):=J (HX13.out.heap EG3.out)
          have HB103:Hid (Below W10.heap.size W10 w3):=J ((HB1013.out.trans (HCwt.out.mono (by omega))).trans HB3.out)
          obtain ⟨qn,hqn⟩:∃ qn,qn=(q4 && (bn && bv)):=⟨_,rfl⟩
          have HQR:Hid (qn=(q3 && (c.acts.take (m+1)).all deedOk)):=J (by rw [allB_snoc _ hlm,←HDM.out,hqn,HQ4.out,HOK.out,Bool.and_assoc])
          have HQN:=J hqn
          have HLR:Hid (qn=true→La ++ [deedT d]=[] ++ (c.acts.take (m+1)).map deedT):=J (fun h=>by
           have h4:q4=true:=by rw [hqn] at h;cases q4 <;> first | rfl | (simp at h)
           rw [map_snoc _ hlm,←HDM.out,HLa.out h4];rfl)
          obtain ⟨x1,x2,x3,x4,x5,x6,x7,x8,x9,x10⟩:=HX3.out.c10 1 2 3 4 5 6 7 8 9 10
          have hl3:=HX3.out.lt
          have HTO3:=J (HR1.out.below HB103.out)
          have HWH3:=J (HR2.out.below HB103.out)
          clear hqn
          have HFIN:Hid (∀ wx,Below w3.heap.size w3 wx→RowRel S W10 q3 c.acts deedOk deedT [] (.bool qn) (.slice (some ⟨gg,0,none⟩) (La.length+1) cg) (.int .i64 ((m:Int)+1)) wx):=J (fun wx hBc=>⟨m+1,qn,La ++ [deedT d],hlm,by go_num,rfl,HQR.out,by simp;omega,HLR.out,by simpa using HO3.out.below hBc,yB HB103.out (by omega) hBc⟩)
          clear HQR HLR
          go_upto_region 23 with fail
          cases q4
          ·skip
           go_wp2_with fail
           go_roundw
           case rel =>
            have h:=HFIN.out _ (Below.refl _ _)
            rw [show qn=false from HQN.out] at h
            exact h
           case measure=>simp [intOf];omega
          ·skip
           cases bn
           ·skip
            go_wp2_with fail
            go_roundw
            case rel =>
             have h:=HFIN.out _ (Below.refl _ _)
             rw [show qn=false from HQN.out] at h
             exact h
            case measure=>simp [intOf];omega
           ·skip
            cases bv
            ·skip
             go_wp2_with fail
             go_roundw
             case rel =>
              have h:=HFIN.out _ (Below.refl _ _)
              rw [show qn=false from HQN.out] at h
              exact h
             case measure=>simp [intOf];omega
            ·skip
             go_wp2_with fail
             go_roundw
             case rel =>
              have h:=HFIN.out _ (Below.refl _ _)
              rw [show qn=true from HQN.out] at h
              exact h
             case measure=>simp [intOf];omega
        have hk1:=hkd
        clear hkd
        by_cases hkd:d.kind=2
        ·as_aux_lemma =>
          obtain ⟨bn,e1⟩:∃ bn,(d.name.toList == ([]:List UInt8))=bn:=⟨_,rfl⟩
          obtain ⟨bv,e2⟩:∃ bv,(d.var == 0)=bv:=⟨_,rfl⟩
          obtain ⟨eto,e3⟩:∃ eto,emptyB d.to=eto:=⟨_,rfl⟩
          obtain ⟨ewh,e4⟩:∃ ewh,emptyB d.what=ewh:=⟨_,rfl⟩
          obtain ⟨nb,e5⟩:∃ nb,nameB d.name=nb:=⟨_,rfl⟩
          obtain ⟨ib,e6⟩:∃ ib,inB d.var 0 3=ib:=⟨_,rfl⟩
          have HE3:=J e3
          have HE4:=J e4
          have HE5:=J e5
          have HE6:=J e6
          have HOK:Hid (deedOk d=(nb && ib && eto)):=J (by unfold deedOk;simp only [dbareB,hkd,e1,e2,e3,e4,e5,e6];first | rfl | (simp [e6];done) | (rw [←e6];rfl))
          have hkb1:(d.kind == 1)=false:=by rw [hkd];rfl
          have hkb2:(d.kind == 2)=true:=by rw [hkd];rfl
          have HDT:Hid (deedT d=tupT [yP sSpawn,yP d.name,d.what,vT d.var]):=J (by unfold deedT;simp [hkd])
          clear hkd e3 e4 e5 e6
          have HQS:Hid (∀ w':World,w'.heap[g13]?=W13.heap[g13]?→w'.cell? ⟨g13,5,none⟩=some (.int .i64 d.what.kind)∧w'.cell? ⟨g13,6,none⟩=some (.int .i64 d.what.n)∧w'.cell? ⟨g13,7,none⟩=some (.string d.what.name)∧w'.cell? ⟨g13,8,none⟩=some (.slice b2 d.what.args.length p2)∧w'.cell? ⟨g13,9,none⟩=some (.string d.name)∧w'.cell? ⟨g13,10,none⟩=some (.int .i64 d.var)):=J fun w' eg=>⟨(World.cell?_of_block (w:=W13) eg).trans (HX13.out.cell 5 _ rfl),(World.cell?_of_block (w:=W13) eg).trans (HX13.out.cell 6 _ rfl),(World.cell?_of_block (w:=W13) eg).trans (HX13.out.cell 7 _ rfl),(World.cell?_of_block (w:=W13) eg).trans (HX13.out.cell 8 _ rfl),(World.cell?_of_block (w:=W13) eg).trans (HX13.out.cell 9 _ rfl),(World.cell?_of_block (w:=W13) eg).trans (HX13.out.cell 10 _ rfl)⟩
          go_upto_region 25 with fail
          refine yK (fun w'=>w'.cell? ⟨g13,5,none⟩=some (.int .i64 d.what.kind)∧w'.cell? ⟨g13,6,none⟩=some (.int .i64 d.what.n)∧w'.cell? ⟨g13,7,none⟩=some (.string d.what.name)∧w'.cell? ⟨g13,8,none⟩=some (.slice b2 d.what.args.length p2)∧w'.cell? ⟨g13,9,none⟩=some (.string d.name)∧w'.cell? ⟨g13,10,none⟩=some (.int .i64 d.var)) (by as_aux_lemma=>kernel_rfl) (fun Wd h=>HQS.out _ (h.block g13 (by omega))) ?_
          intro Wd hB hWd hWd' hHeld
          have EGWd:Hid (Wd.heap[g13]?=W13.heap[g13]?):=J (hB.block g13 (by omega))
          have HCWd:=J hB
          clear hB
          refine rgT 0 _ hHeld ?_
          refine rgT 2 _ hHeld ?_
          refine rgT 3 _ hHeld ?_
          refine rgT 5 _ hHeld ?_
          refine rgT 6 _ hHeld ?_
          refine rgT 7 _ hHeld ?_
          refine rgT 8 _ hHeld ?_
          refine rgT 9 _ hHeld ?_
          refine rgO 1 fun K hK=>?_
          go_simp
          go_at_call 28
          refine (word_Ratom ⟨#[115,112,97,119,110]⟩ _).mono ?_
          rintro e wa ⟨rfl,hB⟩
          have hzwa:=hB.size
          have EGwa:Hid (wa.heap[g13]?=W13.heap[g13]?):=J ((hB.block g13 (by omega)).trans EGWd.out)
          have HCwa:Hid (Below W13.heap.size W13 wa):=J (yB HCWd.out (by omega) hB)
          clear hB
          refine hK.out _ _ (HQS.out _ EGwa.out) fun _=>?_
          clear hK K hHeld;rename_i hHeld;try simp only [Act.put,pA,pB,pC]
          refine rgO 4 fun K hK=>?_
          go_simp
          go_at_call 28
          refine (word_Ratom d.name _).mono ?_
          rintro e wb ⟨rfl,hB⟩
          have hzwb:=hB.size
          have EGwb:Hid (wb.heap[g13]?=W13.heap[g13]?):=J ((hB.block g13 (by omega)).trans EGwa.out)
          have HCwb:Hid (Below W13.heap.size W13 wb):=J (yB HCwa.out (by omega) hB)
          clear hB
          refine hK.out _ _ (HQS.out _ EGwb.out) fun _=>?_
          clear hK K hHeld;rename_i hHeld;try simp only [Act.put,pA,pB,pC]
          refine rgO 10 fun K hK=>?_
          refine build4 _ _ _ _ rfl (by rfl) (by rfl) (by rfl) (by rfl) ?_
          obtain ⟨wl,hwl⟩:=I (wb.alloc (.cells #[.int .i64 2,.int .i64 0,.string ⟨#[115,112,97,119,110]⟩,.slice none 0 0,.int .i64 2,.int .i64 0,.string d.name,.slice none 0 0,.int .i64 d.what.kind,.int .i64 d.what.n,.string d.what.name,.slice b2 d.what.args.length p2,.int .i64 5,.int .i64 d.var,.string ⟨#[]⟩,.slice none 0 0] 25))
          have hzwl:wb.heap.size+1≤wl.heap.size:=by rw [hwl];simp
          have hzwl':wl.heap.size≤wb.heap.size+1:=by rw [hwl];simp
          have hzle:wl.heap.size=wb.heap.size+1:=by omega
          have HLT:Hid (∀ w',Below wl.heap.size wl w'→RT (fun x=>S x∨W13.heap.size≤x) w' (deedT d) (.agg #[.int .i64 4,.int .i64 0,.string ⟨#[]⟩,.slice (some ⟨wb.heap.size,0,none⟩) 4 4])):=J (fun w' h=>by rw [HDT.out];exact tup_lit (S:=fun x=>S x∨W13.heap.size≤x) (w:=wb) (CellsT.word sSpawn (CellsT.word d.name (CellsT.tm ((HR2.out.below (HB1013.out.trans (HCwb.out.mono (by omega)))).mono fun x hx=>.inl hx) (CellsT.var d.var CellsT.nil)))) 25 rfl rfl (by show Below (wb.heap.size+1) (wb.alloc (.cells #[.int .i64 2,.int .i64 0,.string ⟨#[115,112,97,119,110]⟩,.slice none 0 0,.int .i64 2,.int .i64 0,.string d.name,.slice none 0 0,.int .i64 d.what.kind,.int .i64 d.what.n,.string d.what.name,.slice b2 d.what.args.length p2,.int .i64 5,.int .i64 d.var,.string ⟨#[]⟩,.slice none 0 0] 25)) w';rw [←hwl,←hzle];exact h) (fun x hx _=>hx) (.inr (by omega)))
          clear hzle
          have hB:Below wb.heap.size wb wl:=by rw [hwl];exact yA _ _
          have EGwl:Hid (wl.heap[g13]?=W13.heap[g13]?):=J ((hB.block g13 (by omega)).trans EGwb.out)
          have HCwl:Hid (Below W13.heap.size W13 wl):=J (yB HCwb.out (by omega) hB)
          obtain ⟨gn,hgn⟩:=I (wb.heap.size)
          rw [←hgn] at HLT
          rw [←hwl,←hgn]
          clear hwl hB hgn
          refine hK.out _ _ (HQS.out _ EGwl.out) fun _=>?_
          clear hK K hHeld;rename_i hHeld;try simp only [Act.put,pA,pB,pC]
          refine rgO 11 fun K hK=>?_
          go_simp
          go_at_call 29
          refine (tuple_c _ _ _ _).mono ?_
          rintro e wt ⟨rfl,hB⟩
          have hzwt:=hB.size
          have EGwt:Hid (wt.heap[g13]?=W13.heap[g13]?):=J ((hB.block g13 (by omega)).trans EGwl.out)
          have HCwt:Hid (Below W13.heap.size W13 wt):=J (yB HCwl.out (by omega) hB)
          have HRT:=J (HLT.out _ hB)
          clear hB
          refine hK.out _ _ (HQS.out _ EGwt.out) fun _=>?_
          clear hK K hHeld;rename_i hHeld;try simp only [Act.put,pA,pB,pC]
          refine rgO 12 fun K hK=>?_
          refine build1 _ rfl (by rfl) ?_
          refine hK.out _ _ (HQS.out _ ((Below.heap_alloc wt (.cells #[.int .i64 4,.int .i64 0,.string ⟨#[]⟩,.slice (some ⟨gn,0,none⟩) 4 4] 25) g13 (by omega)).trans EGwt.out)) fun _=>?_
          clear hK K hHeld;rename_i hHeld;try simp only [Act.put,pA,pB,pC]
          refine rgO 13 fun K hK=>?_
          refine wp_grow (v:=.slice aa La.length capa) (g0:=wt.heap.size) _ _ rfl rfl (by rfl) (by rfl) rfl (HO13.out.below HCwt.out) HRT.out (fun x hx hl=>⟨by rcases hx with hx | hx;exact .inl hx;exact .inr (by omega),fun he=>by have:=HOBa.out x he;rcases hx with hx | hx;(have:=HS.out x hx;omega);omega⟩) rfl (by omega) (by omega) ?_
          intro gg cg w3 hO3 hG3 hB3 hP3
          have hz3:=hB3.size
          have q0:g13 < (wt.alloc (.cells #[.int .i64 4,.int .i64 0,.string ⟨#[]⟩,.slice (some ⟨gn,0,none⟩) 4 4] 25)).heap.size:=by rw [World.size_alloc];omega
          have q2:=hG3.block g13 q0 (fun he=>by have:=HOBa.out _ he.symm;omega)
          have EG3:Hid (w3.heap[g13]?=W13.heap[g13]?):=J (q2.trans ((Below.heap_alloc wt (.cells #[.int .i64 4,.int .i64 0,.string ⟨#[]⟩,.slice (some ⟨gn,0,none⟩) 4 4] 25) g13 (by omega)).trans EGwt.out))
          have hzw3:wt.heap.size+1≤w3.heap.size:=by have:=hG3.size;rw [World.size_alloc] at this;exact this
          have HO3:=J hO3
          have HB3:=J hB3
          clear hO3 hG3 hB3 hP3 q0 q2
          refine hK.out _ _ (HQS.out _ EG3.out) fun _=>?_
          clear hK K hHeld;rename_i hHeld;try simp only [Act.put,pA,pB,pC]
          refine rgT 14 _ hHeld ?_
          refine rgD ?_
          clear hHeld
          have HX3:Hid (Blk w3 g13 [.int .i64 d.kind,.int .i64 d.to.kind,.int .i64 d.to.n,.string d.to.name,.slice b1 d.to.args.length p1,.int .i64 d.what.kind,.int .i64 d.what.n,.string d.what.name,.slice b2 d.what.args.length p2,.string d.name,.int .i64 d.var]):=J (HX13.out.heap EG3.out)
          have HB103:Hid (Below W10.heap.size W10 w3):=J ((HB1013.out.trans (HCwt.out.mono (by omega))).trans HB3.out)
          obtain ⟨qn,hqn⟩:∃ qn,qn=(q4 && (nb && ib && eto)):=⟨_,rfl⟩
          have HQR:Hid (qn=(q3 && (c.acts.take (m+1)).all deedOk)):=J (by rw [allB_snoc _ hlm,←HDM.out,hqn,HQ4.out,HOK.out,Bool.and_assoc])
          have HQN:=J hqn
          have HLR:Hid (qn=true→La ++ [deedT d]=[] ++ (c.acts.take (m+1)).map deedT):=J (fun h=>by
           have h4:q4=true:=by rw [hqn] at h;cases q4 <;> first | rfl | (simp at h)
           rw [map_snoc _ hlm,←HDM.out,HLa.out h4];rfl)
          obtain ⟨x1,x2,x3,x4,x5,x6,x7,x8,x9,x10⟩:=HX3.out.c10 1 2 3 4 5 6 7 8 9 10
          have hl3:=HX3.out.lt
          have HTO3:=J (HR1.out.below HB103.out)
          have HWH3:=J (HR2.out.below HB103.out)
          clear hqn
          have HFIN:Hid (∀ wx,Below w3.heap.size w3 wx→RowRel S W10 q3 c.acts deedOk deedT [] (.bool qn) (.slice (some ⟨gg,0,none⟩) (La.length+1) cg) (.int .i64 ((m:Int)+1)) wx):=J (fun wx hBc=>⟨m+1,qn,La ++ [deedT d],hlm,by go_num,rfl,HQR.out,by simp;omega,HLR.out,by simpa using HO3.out.below hBc,yB HB103.out (by omega) hBc⟩)
          clear HQR HLR
          go_upto_region 26 with fail
          cases q4
          ·skip
           go_wp2_with fail
           go_roundw
           case rel =>
            have h:=HFIN.out _ (Below.refl _ _)
            rw [show qn=false from HQN.out] at h
            exact h
           case measure=>simp [intOf];omega
          ·skip
           cases nb
           ·skip
            go_wp2_with fail
            refine (rname_c d.name _ (by omega)).mono ?_
            rintro e w' ⟨he,hw⟩
            rw [HE5.out] at he
            subst he
            obtain rfl:w3=w':=hw
            go_wp2_with fail
            go_roundw
            case rel =>
             have h:=HFIN.out _ (Below.refl _ _)
             rw [show qn=false from HQN.out] at h
             exact h
            case measure=>simp [intOf];omega
           ·skip
            cases ib
            ·skip
             go_wp2_with fail
             refine (rname_c d.name _ (by omega)).mono ?_
             rintro e w' ⟨he,hw⟩
             rw [HE5.out] at he
             subst he
             obtain rfl:w3=w':=hw
             go_wp2_with fail
             refine (in_c d.var 0 3 _).mono ?_
             rintro e w' ⟨he,hw⟩
             rw [HE6.out] at he
             subst he
             obtain rfl:w3=w':=hw
             go_wp2_with fail
             go_roundw
             case rel =>
              have h:=HFIN.out _ (Below.refl _ _)
              rw [show qn=false from HQN.out] at h
              exact h
             case measure=>simp [intOf];omega
            ·skip
             cases eto
             ·skip
              go_wp2_with fail
              refine (rname_c d.name _ (by omega)).mono ?_
              rintro e w' ⟨he,hw⟩
              rw [HE5.out] at he
              subst he
              obtain rfl:w3=w':=hw
              go_wp2_with fail
              refine (in_c d.var 0 3 _).mono ?_
              rintro e w' ⟨he,hw⟩
              rw [HE6.out] at he
              subst he
              obtain rfl:w3=w':=hw
              go_wp2_with fail
              refine (rnone_c d.to b1 p1 S _ (HTO3.out) (by omega)).mono ?_
              rintro e wn1 ⟨he,hB⟩
              rw [HE3.out] at he
              subst he
              have hzn1:=hB.size
              have Hwn1:Hid (Below w3.heap.size w3 wn1):=J (hB)
              have x5n1:=(Hwn1.out.cell (p:=⟨g13,5,none⟩) hl3).trans x5
              have x6n1:=(Hwn1.out.cell (p:=⟨g13,6,none⟩) hl3).trans x6
              have x7n1:=(Hwn1.out.cell (p:=⟨g13,7,none⟩) hl3).trans x7
              have x8n1:=(Hwn1.out.cell (p:=⟨g13,8,none⟩) hl3).trans x8
              clear hB
              go_wp2_with fail
              go_roundw
              case rel =>
               have h:=HFIN.out _ (Hwn1.out)
               rw [show qn=false from HQN.out] at h
               exact h
              case measure=>simp [intOf];omega
             ·skip
              go_wp2_with fail
              refine (rname_c d.name _ (by omega)).mono ?_
              rintro e w' ⟨he,hw⟩
              rw [HE5.out] at he
              subst he
              obtain rfl:w3=w':=hw
              go_wp2_with fail
              refine (in_c d.var 0 3 _).mono ?_
              rintro e w' ⟨he,hw⟩
              rw [HE6.out] at he
              subst he
              obtain rfl:w3=w':=hw
              go_wp2_with fail
              refine (rnone_c d.to b1 p1 S _ (HTO3.out) (by omega)).mono ?_
              rintro e wn1 ⟨he,hB⟩
              rw [HE3.out] at he
              subst he
              have hzn1:=hB.size
              have Hwn1:Hid (Below w3.heap.size w3 wn1):=J (hB)
              have x5n1:=(Hwn1.out.cell (p:=⟨g13,5,none⟩) hl3).trans x5
              have x6n1:=(Hwn1.out.cell (p:=⟨g13,6,none⟩) hl3).trans x6
              have x7n1:=(Hwn1.out.cell (p:=⟨g13,7,none⟩) hl3).trans x7
              have x8n1:=(Hwn1.out.cell (p:=⟨g13,8,none⟩) hl3).trans x8
              clear hB
              go_wp2_with fail
              go_roundw
              case rel =>
               have h:=HFIN.out _ (Hwn1.out)
               rw [show qn=true from HQN.out] at h
               exact h
              case measure=>simp [intOf];omega
        have hk2:=hkd
        clear hkd
        by_cases hkd:d.kind=3
        ·as_aux_lemma =>
          obtain ⟨bn,e1⟩:∃ bn,(d.name.toList == ([]:List UInt8))=bn:=⟨_,rfl⟩
          obtain ⟨bv,e2⟩:∃ bv,(d.var == 0)=bv:=⟨_,rfl⟩
          obtain ⟨eto,e3⟩:∃ eto,emptyB d.to=eto:=⟨_,rfl⟩
          obtain ⟨ewh,e4⟩:∃ ewh,emptyB d.what=ewh:=⟨_,rfl⟩
          obtain ⟨nb,e5⟩:∃ nb,nameB d.name=nb:=⟨_,rfl⟩
          obtain ⟨ib,e6⟩:∃ ib,inB d.var 0 3=ib:=⟨_,rfl⟩
          have HE3:=J e3
          have HE4:=J e4
          have HE5:=J e5
          have HE6:=J e6
          have HOK:Hid (deedOk d=(bn && bv && ewh)):=J (by unfold deedOk;simp only [dbareB,hkd,e1,e2,e3,e4,e5,e6];first | rfl | (simp [e6];done) | (rw [←e6];rfl))
          have hkb1:(d.kind == 1)=false:=by rw [hkd];rfl
          have hkb2:(d.kind == 2)=false:=by rw [hkd];rfl
          have hkb3:(d.kind == 3)=true:=by rw [hkd];rfl
          have HDT:Hid (deedT d=tupT [yP sLink,d.to]):=J (by unfold deedT;simp [hkd])
          clear hkd e3 e4 e5 e6
          have HQS:Hid (∀ w':World,w'.heap[g13]?=W13.heap[g13]?→w'.cell? ⟨g13,1,none⟩=some (.int .i64 d.to.kind)∧w'.cell? ⟨g13,2,none⟩=some (.int .i64 d.to.n)∧w'.cell? ⟨g13,3,none⟩=some (.string d.to.name)∧w'.cell? ⟨g13,4,none⟩=some (.slice b1 d.to.args.length p1)):=J fun w' eg=>⟨(World.cell?_of_block (w:=W13) eg).trans (HX13.out.cell 1 _ rfl),(World.cell?_of_block (w:=W13) eg).trans (HX13.out.cell 2 _ rfl),(World.cell?_of_block (w:=W13) eg).trans (HX13.out.cell 3 _ rfl),(World.cell?_of_block (w:=W13) eg).trans (HX13.out.cell 4 _ rfl)⟩
          go_upto_region 28 with fail
          refine yK (fun w'=>w'.cell? ⟨g13,1,none⟩=some (.int .i64 d.to.kind)∧w'.cell? ⟨g13,2,none⟩=some (.int .i64 d.to.n)∧w'.cell? ⟨g13,3,none⟩=some (.string d.to.name)∧w'.cell? ⟨g13,4,none⟩=some (.slice b1 d.to.args.length p1)) (by as_aux_lemma=>kernel_rfl) (fun Wd h=>HQS.out _ (h.block g13 (by omega))) ?_
          intro Wd hB hWd hWd' hHeld
          have EGWd:Hid (Wd.heap[g13]?=W13.heap[g13]?):=J (hB.block g13 (by omega))
          have HCWd:=J hB
          clear hB
          refine rgT 0 _ hHeld ?_
          refine rgT 2 _ hHeld ?_
          refine rgT 3 _ hHeld ?_
          refine rgO 1 fun K hK=>?_
          go_simp
          go_at_call 28
          refine (word_Ratom ⟨#[108,105,110,107]⟩ _).mono ?_
          rintro e wa ⟨rfl,hB⟩
          have hzwa:=hB.size
          have EGwa:Hid (wa.heap[g13]?=W13.heap[g13]?):=J ((hB.block g13 (by omega)).trans EGWd.out)
          have HCwa:Hid (Below W13.heap.size W13 wa):=J (yB HCWd.out (by omega) hB)
          clear hB
          refine hK.out _ _ (HQS.out _ EGwa.out) fun _=>?_
          clear hK K hHeld;rename_i hHeld;try simp only [Act.put,pA,pB,pC]
          refine rgO 4 fun K hK=>?_
          refine build2 _ _ rfl (by rfl) (by rfl) ?_
          obtain ⟨wl,hwl⟩:=I (wa.alloc (.cells #[.int .i64 2,.int .i64 0,.string ⟨#[108,105,110,107]⟩,.slice none 0 0,.int .i64 d.to.kind,.int .i64 d.to.n,.string d.to.name,.slice b1 d.to.args.length p1] 25))
          have hzwl:wa.heap.size+1≤wl.heap.size:=by rw [hwl];simp
          have hzwl':wl.heap.size≤wa.heap.size+1:=by rw [hwl];simp
          have hzle:wl.heap.size=wa.heap.size+1:=by omega
          have HLT:Hid (∀ w',Below wl.heap.size wl w'→RT (fun x=>S x∨W13.heap.size≤x) w' (deedT d) (.agg #[.int .i64 4,.int .i64 0,.string ⟨#[]⟩,.slice (some ⟨wa.heap.size,0,none⟩) 2 2])):=J (fun w' h=>by rw [HDT.out];exact tup_lit (S:=fun x=>S x∨W13.heap.size≤x) (w:=wa) (CellsT.word sLink (CellsT.tm ((HR1.out.below (HB1013.out.trans (HCwa.out.mono (by omega)))).mono fun x hx=>.inl hx) CellsT.nil)) 25 rfl rfl (by show Below (wa.heap.size+1) (wa.alloc (.cells #[.int .i64 2,.int .i64 0,.string ⟨#[108,105,110,107]⟩,.slice none 0 0,.int .i64 d.to.kind,.int .i64 d.to.n,.string d.to.name,.slice b1 d.to.args.length p1] 25)) w';rw [←hwl,←hzle];exact h) (fun x hx _=>hx) (.inr (by omega)))
          clear hzle
          have hB:Below wa.heap.size wa wl:=by rw [hwl];exact yA _ _
          have EGwl:Hid (wl.heap[g13]?=W13.heap[g13]?):=J ((hB.block g13 (by omega)).trans EGwa.out)
          have HCwl:Hid (Below W13.heap.size W13 wl):=J (yB HCwa.out (by omega) hB)
          obtain ⟨gn,hgn⟩:=I (wa.heap.size)
          rw [←hgn] at HLT
          rw [←hwl,←hgn]
          clear hwl hB hgn
          refine hK.out _ _ (HQS.out _ EGwl.out) fun _=>?_
          clear hK K hHeld;rename_i hHeld;try simp only [Act.put,pA,pB,pC]
          refine rgO 5 fun K hK=>?_
          go_simp
          go_at_call 29
          refine (tuple_c _ _ _ _).mono ?_
          rintro e wt ⟨rfl,hB⟩
          have hzwt:=hB.size
          have EGwt:Hid (wt.heap[g13]?=W13.heap[g13]?):=J ((hB.block g13 (by omega)).trans EGwl.out)
          have HCwt:Hid (Below W13.heap.size W13 wt):=J (yB HCwl.out (by omega) hB)
          have HRT:=J (HLT.out _ hB)
          clear hB
          refine hK.out _ _ (HQS.out _ EGwt.out) fun _=>?_
          clear hK K hHeld;rename_i hHeld;try simp only [Act.put,pA,pB,pC]
          refine rgO 6 fun K hK=>?_
          refine build1 _ rfl (by rfl) ?_
          refine hK.out _ _ (HQS.out _ ((Below.heap_alloc wt (.cells #[.int .i64 4,.int .i64 0,.string ⟨#[]⟩,.slice (some ⟨gn,0,none⟩) 2 2] 25) g13 (by omega)).trans EGwt.out)) fun _=>?_
          clear hK K hHeld;rename_i hHeld;try simp only [Act.put,pA,pB,pC]
          refine rgO 7 fun K hK=>?_
          refine wp_grow (v:=.slice aa La.length capa) (g0:=wt.heap.size) _ _ rfl rfl (by rfl) (by rfl) rfl (HO13.out.below HCwt.out) HRT.out (fun x hx hl=>⟨by rcases hx with hx | hx;exact .inl hx;exact .inr (by omega),fun he=>by have:=HOBa.out x he;rcases hx with hx | hx;(have:=HS.out x hx;omega);omega⟩) rfl (by omega) (by omega) ?_
          intro gg cg w3 hO3 hG3 hB3 hP3
          have hz3:=hB3.size
          have q0:g13 < (wt.alloc (.cells #[.int .i64 4,.int .i64 0,.string ⟨#[]⟩,.slice (some ⟨gn,0,none⟩) 2 2] 25)).heap.size:=by rw [World.size_alloc];omega
          have q2:=hG3.block g13 q0 (fun he=>by have:=HOBa.out _ he.symm;omega)
          have EG3:Hid (w3.heap[g13]?=W13.heap[g13]?):=J (q2.trans ((Below.heap_alloc wt (.cells #[.int .i64 4,.int .i64 0,.string ⟨#[]⟩,.slice (some ⟨gn,0,none⟩) 2 2] 25) g13 (by omega)).trans EGwt.out))
          have hzw3:wt.heap.size+1≤w3.heap.size:=by have:=hG3.size;rw [World.size_alloc] at this;exact this
          have HO3:=J hO3
          have HB3:=J hB3
          clear hO3 hG3 hB3 hP3 q0 q2
          refine hK.out _ _ (HQS.out _ EG3.out) fun _=>?_
          clear hK K hHeld;rename_i hHeld;try simp only [Act.put,pA,pB,pC]
          refine rgT 8 _ hHeld ?_
          refine rgD ?_
          clear hHeld
          have HX3:Hid (Blk w3 g13 [.int .i64 d.kind,.int .i64 d.to.kind,.int .i64 d.to.n,.string d.to.name,.slice b1 d.to.args.length p1,.int .i64 d.what.kind,.int .i64 d.what.n,.string d.what.name,.slice b2 d.what.args.length p2,.string d.name,.int .i64 d.var]):=J (HX13.out.heap EG3.out)
          have HB103:Hid (Below W10.heap.size W10 w3):=J ((HB1013.out.trans (HCwt.out.mono (by omega))).trans HB3.out)
          obtain ⟨qn,hqn⟩:∃ qn,qn=(q4 && (bn && bv && ewh)):=⟨_,rfl⟩
          have HQR:Hid (qn=(q3 && (c.acts.take (m+1)).all deedOk)):=J (by rw [allB_snoc _ hlm,←HDM.out,hqn,HQ4.out,HOK.out,Bool.and_assoc])
          have HQN:=J hqn
          have HLR:Hid (qn=true→La ++ [deedT d]=[] ++ (c.acts.take (m+1)).map deedT):=J (fun h=>by
           have h4:q4=true:=by rw [hqn] at h;cases q4 <;> first | rfl | (simp at h)
           rw [map_snoc _ hlm,←HDM.out,HLa.out h4];rfl)
          obtain ⟨x1,x2,x3,x4,x5,x6,x7,x8,x9,x10⟩:=HX3.out.c10 1 2 3 4 5 6 7 8 9 10
          have hl3:=HX3.out.lt
          have HTO3:=J (HR1.out.below HB103.out)
          have HWH3:=J (HR2.out.below HB103.out)
          clear hqn
          have HFIN:Hid (∀ wx,Below w3.heap.size w3 wx→RowRel S W10 q3 c.acts deedOk deedT [] (.bool qn) (.slice (some ⟨gg,0,none⟩) (La.length+1) cg) (.int .i64 ((m:Int)+1)) wx):=J (fun wx hBc=>⟨m+1,qn,La ++ [deedT d],hlm,by go_num,rfl,HQR.out,by simp;omega,HLR.out,by simpa using HO3.out.below hBc,yB HB103.out (by omega) hBc⟩)
          clear HQR HLR
          go_upto_region 29 with fail
          cases q4
          ·skip
           go_wp2_with fail
           go_roundw
           case rel =>
            have h:=HFIN.out _ (Below.refl _ _)
            rw [show qn=false from HQN.out] at h
            exact h
           case measure=>simp [intOf];omega
          ·skip
           cases bn
           ·skip
            go_wp2_with fail
            go_roundw
            case rel =>
             have h:=HFIN.out _ (Below.refl _ _)
             rw [show qn=false from HQN.out] at h
             exact h
            case measure=>simp [intOf];omega
           ·skip
            cases bv
            ·skip
             go_wp2_with fail
             go_roundw
             case rel =>
              have h:=HFIN.out _ (Below.refl _ _)
              rw [show qn=false from HQN.out] at h
              exact h
             case measure=>simp [intOf];omega
            ·skip
             cases ewh
             ·skip
              go_wp2_with fail
              refine (rnone_c d.what b2 p2 S _ (HWH3.out) (by omega)).mono ?_
              rintro e wn1 ⟨he,hB⟩
              rw [HE4.out] at he
              subst he
              have hzn1:=hB.size
              have Hwn1:Hid (Below w3.heap.size w3 wn1):=J (hB)
              have x5n1:=(Hwn1.out.cell (p:=⟨g13,5,none⟩) hl3).trans x5
              have x6n1:=(Hwn1.out.cell (p:=⟨g13,6,none⟩) hl3).trans x6
              have x7n1:=(Hwn1.out.cell (p:=⟨g13,7,none⟩) hl3).trans x7
              have x8n1:=(Hwn1.out.cell (p:=⟨g13,8,none⟩) hl3).trans x8
              clear hB
              go_wp2_with fail
              go_roundw
              case rel =>
               have h:=HFIN.out _ (Hwn1.out)
               rw [show qn=false from HQN.out] at h
               exact h
              case measure=>simp [intOf];omega
             ·skip
              go_wp2_with fail
              refine (rnone_c d.what b2 p2 S _ (HWH3.out) (by omega)).mono ?_
              rintro e wn1 ⟨he,hB⟩
              rw [HE4.out] at he
              subst he
              have hzn1:=hB.size
              have Hwn1:Hid (Below w3.heap.size w3 wn1):=J (hB)
              have x5n1:=(Hwn1.out.cell (p:=⟨g13,5,none⟩) hl3).trans x5
              have x6n1:=(Hwn1.out.cell (p:=⟨g13,6,none⟩) hl3).trans x6
              have x7n1:=(Hwn1.out.cell (p:=⟨g13,7,none⟩) hl3).trans x7
              have x8n1:=(Hwn1.out.cell (p:=⟨g13,8,none⟩) hl3).trans x8
              clear hB
              go_wp2_with fail
              go_roundw
              case rel =>
               have h:=HFIN.out _ (Hwn1.out)
               rw [show qn=true from HQN.out] at h
               exact h
              case measure=>simp [intOf];omega
        have hk3:=hkd
        clear hkd
        by_cases hkd:d.kind=4
        ·as_aux_lemma =>
          obtain ⟨bn,e1⟩:∃ bn,(d.name.toList == ([]:List UInt8))=bn:=⟨_,rfl⟩
          obtain ⟨bv,e2⟩:∃ bv,(d.var == 0)=bv:=⟨_,rfl⟩
          obtain ⟨eto,e3⟩:∃ eto,emptyB d.to=eto:=⟨_,rfl⟩
          obtain ⟨ewh,e4⟩:∃ ewh,emptyB d.what=ewh:=⟨_,rfl⟩
          obtain ⟨nb,e5⟩:∃ nb,nameB d.name=nb:=⟨_,rfl⟩
          obtain ⟨ib,e6⟩:∃ ib,inB d.var 0 3=ib:=⟨_,rfl⟩
          have HE3:=J e3
          have HE4:=J e4
          have HE5:=J e5
          have HE6:=J e6
          have HOK:Hid (deedOk d=(bn && bv && eto && ewh)):=J (by unfold deedOk;simp only [dbareB,hkd,e1,e2,e3,e4,e5,e6];first | rfl | (simp [e6];done) | (rw [←e6];rfl))
          have hkb1:(d.kind == 1)=false:=by rw [hkd];rfl
          have hkb2:(d.kind == 2)=false:=by rw [hkd];rfl
          have hkb3:(d.kind == 3)=false:=by rw [hkd];rfl
          have hkb4:(d.kind == 4)=true:=by rw [hkd];rfl
          have HDT:Hid (deedT d=tupT [yP sStop]):=J (by unfold deedT;simp [hkd])
          clear hkd e3 e4 e5 e6
          go_wp2_with fail
          have EGWd:Hid (W13.heap[g13]?=W13.heap[g13]?):=J rfl
          have HCWd:Hid (Below W13.heap.size W13 W13):=J (Below.refl _ _)
          refine (word_Ratom ⟨#[115,116,111,112]⟩ _).mono ?_
          rintro e wa ⟨rfl,hB⟩
          have hzwa:=hB.size
          have EGwa:Hid (wa.heap[g13]?=W13.heap[g13]?):=J ((hB.block g13 (by omega)).trans EGWd.out)
          have HCwa:Hid (Below W13.heap.size W13 wa):=J (yB HCWd.out (by omega) hB)
          clear hB
          go_wp2_with fail
          obtain ⟨wl,hwl⟩:=I (wa.alloc (.cells #[.int .i64 2,.int .i64 0,.string ⟨#[115,116,111,112]⟩,.slice none 0 0] 25))
          have hzwl:wa.heap.size+1≤wl.heap.size:=by rw [hwl];simp
          have hzwl':wl.heap.size≤wa.heap.size+1:=by rw [hwl];simp
          have hzle:wl.heap.size=wa.heap.size+1:=by omega
          have HLT:Hid (∀ w',Below wl.heap.size wl w'→RT (fun x=>S x∨W13.heap.size≤x) w' (deedT d) (.agg #[.int .i64 4,.int .i64 0,.string ⟨#[]⟩,.slice (some ⟨wa.heap.size,0,none⟩) 1 1])):=J (fun w' h=>by rw [HDT.out];exact tup_lit (S:=fun x=>S x∨W13.heap.size≤x) (w:=wa) (CellsT.word sStop CellsT.nil) 25 rfl rfl (by show Below (wa.heap.size+1) (wa.alloc (.cells #[.int .i64 2,.int .i64 0,.string ⟨#[115,116,111,112]⟩,.slice none 0 0] 25)) w';rw [←hwl,←hzle];exact h) (fun x hx _=>hx) (.inr (by omega)))
          clear hzle
          have hB:Below wa.heap.size wa wl:=by rw [hwl];exact yA _ _
          have EGwl:Hid (wl.heap[g13]?=W13.heap[g13]?):=J ((hB.block g13 (by omega)).trans EGwa.out)
          have HCwl:Hid (Below W13.heap.size W13 wl):=J (yB HCwa.out (by omega) hB)
          obtain ⟨gn,hgn⟩:=I (wa.heap.size)
          rw [←hgn] at HLT
          rw [←hwl,←hgn]
          clear hwl hB hgn
          refine (tuple_c _ _ _ _).mono ?_
          rintro e wt ⟨rfl,hB⟩
          have hzwt:=hB.size
          have EGwt:Hid (wt.heap[g13]?=W13.heap[g13]?):=J ((hB.block g13 (by omega)).trans EGwl.out)
          have HCwt:Hid (Below W13.heap.size W13 wt):=J (yB HCwl.out (by omega) hB)
          have HRT:=J (HLT.out _ hB)
          have HOt:=J (HO13.out.below HCwt.out)
          clear hB
          go_upto_region 32 with (at_builtin;refine append_grow2 (v:=.slice aa La.length capa) (g0:=wt.heap.size) _ _ rfl rfl (by rfl) (by rfl) (by simp) HOt.out HRT.out (fun x hx hl=>⟨by rcases hx with hx | hx;exact .inl hx;exact .inr (by omega),fun he=>by have:=HOBa.out x he;rcases hx with hx | hx;(have:=HS.out x hx;omega);omega⟩) rfl (by omega) (by omega) ?_;intro gg cg w3 hO3 hG3 hB3 hP3;have hz3:=hB3.size;have q0:g13 < (wt.alloc (.cells #[.int .i64 4,.int .i64 0,.string ⟨#[]⟩,.slice (some ⟨gn,0,none⟩) 1 1] 25)).heap.size:=(by rw [World.size_alloc];omega);have q2:=hG3.block g13 q0 (fun he=>by have:=HOBa.out _ he.symm;omega);have EG3:Hid (w3.heap[g13]?=W13.heap[g13]?):=J (q2.trans ((Below.heap_alloc wt (.cells #[.int .i64 4,.int .i64 0,.string ⟨#[]⟩,.slice (some ⟨gn,0,none⟩) 1 1] 25) g13 (by omega)).trans EGwt.out));have hzw3:wt.heap.size+1≤w3.heap.size:=(by have:=hG3.size;rw [World.size_alloc] at this;exact this);have HO3:=J hO3;have HB3:=J hB3;clear hO3 hG3 hB3 hP3 q0 q2)
          have HX3:Hid (Blk w3 g13 [.int .i64 d.kind,.int .i64 d.to.kind,.int .i64 d.to.n,.string d.to.name,.slice b1 d.to.args.length p1,.int .i64 d.what.kind,.int .i64 d.what.n,.string d.what.name,.slice b2 d.what.args.length p2,.string d.name,.int .i64 d.var]):=J (HX13.out.heap EG3.out)
          have HB103:Hid (Below W10.heap.size W10 w3):=J ((HB1013.out.trans (HCwt.out.mono (by omega))).trans HB3.out)
          obtain ⟨qn,hqn⟩:∃ qn,qn=(q4 && (bn && bv && eto && ewh)):=⟨_,rfl⟩
          have HQR:Hid (qn=(q3 && (c.acts.take (m+1)).all deedOk)):=J (by rw [allB_snoc _ hlm,←HDM.out,hqn,HQ4.out,HOK.out,Bool.and_assoc])
          have HQN:=J hqn
          have HLR:Hid (qn=true→La ++ [deedT d]=[] ++ (c.acts.take (m+1)).map deedT):=J (fun h=>by
           have h4:q4=true:=by rw [hqn] at h;cases q4 <;> first | rfl | (simp at h)
           rw [map_snoc _ hlm,←HDM.out,HLa.out h4];rfl)
          obtain ⟨x1,x2,x3,x4,x5,x6,x7,x8,x9,x10⟩:=HX3.out.c10 1 2 3 4 5 6 7 8 9 10
          have hl3:=HX3.out.lt
          have HTO3:=J (HR1.out.below HB103.out)
          have HWH3:=J (HR2.out.below HB103.out)
          clear hqn
          have HFIN:Hid (∀ wx,Below w3.heap.size w3 wx→RowRel S W10 q3 c.acts deedOk deedT [] (.bool qn) (.slice (some ⟨gg,0,none⟩) (La.length+1) cg) (.int .i64 ((m:Int)+1)) wx):=J (fun wx hBc=>⟨m+1,qn,La ++ [deedT d],hlm,by go_num,rfl,HQR.out,by simp;omega,HLR.out,by simpa using HO3.out.below hBc,yB HB103.out (by omega) hBc⟩)
          clear HQR HLR
          go_upto_region 32 with fail
          cases q4
          ·skip
           go_wp2_with fail
           go_roundw
           case rel =>
            have h:=HFIN.out _ (Below.refl _ _)
            rw [show qn=false from HQN.out] at h
            exact h
           case measure=>simp [intOf];omega
          ·skip
           cases bn
           ·skip
            go_wp2_with fail
            go_roundw
            case rel =>
             have h:=HFIN.out _ (Below.refl _ _)
             rw [show qn=false from HQN.out] at h
             exact h
            case measure=>simp [intOf];omega
           ·skip
            cases bv
            ·skip
             go_wp2_with fail
             go_roundw
             case rel =>
              have h:=HFIN.out _ (Below.refl _ _)
              rw [show qn=false from HQN.out] at h
              exact h
             case measure=>simp [intOf];omega
            ·skip
             cases eto
             ·skip
              go_wp2_with fail
              refine (rnone_c d.to b1 p1 S _ (HTO3.out) (by omega)).mono ?_
              rintro e wn1 ⟨he,hB⟩
              rw [HE3.out] at he
              subst he
              have hzn1:=hB.size
              have Hwn1:Hid (Below w3.heap.size w3 wn1):=J (hB)
              have x5n1:=(Hwn1.out.cell (p:=⟨g13,5,none⟩) hl3).trans x5
              have x6n1:=(Hwn1.out.cell (p:=⟨g13,6,none⟩) hl3).trans x6
              have x7n1:=(Hwn1.out.cell (p:=⟨g13,7,none⟩) hl3).trans x7
              have x8n1:=(Hwn1.out.cell (p:=⟨g13,8,none⟩) hl3).trans x8
              clear hB
              go_wp2_with fail
              go_roundw
              case rel =>
               have h:=HFIN.out _ (Hwn1.out)
               rw [show qn=false from HQN.out] at h
               exact h
              case measure=>simp [intOf];omega
             ·skip
              cases ewh
              ·skip
               go_wp2_with fail
               refine (rnone_c d.to b1 p1 S _ (HTO3.out) (by omega)).mono ?_
               rintro e wn1 ⟨he,hB⟩
               rw [HE3.out] at he
               subst he
               have hzn1:=hB.size
               have Hwn1:Hid (Below w3.heap.size w3 wn1):=J (hB)
               have x5n1:=(Hwn1.out.cell (p:=⟨g13,5,none⟩) hl3).trans x5
               have x6n1:=(Hwn1.out.cell (p:=⟨g13,6,none⟩) hl3).trans x6
               have x7n1:=(Hwn1.out.cell (p:=⟨g13,7,none⟩) hl3).trans x7
               have x8n1:=(Hwn1.out.cell (p:=⟨g13,8,none⟩) hl3).trans x8
               clear hB
               go_wp2_with fail
               refine (rnone_c d.what b2 p2 S _ (HWH3.out.below Hwn1.out) (by omega)).mono ?_
               rintro e wn2 ⟨he,hB⟩
               rw [HE4.out] at he
               subst he
               have hzn2:=hB.size
               have Hwn2:Hid (Below w3.heap.size w3 wn2):=J (yB Hwn1.out (by omega) hB)
               have x5n2:=(Hwn2.out.cell (p:=⟨g13,5,none⟩) hl3).trans x5
               have x6n2:=(Hwn2.out.cell (p:=⟨g13,6,none⟩) hl3).trans x6
               have x7n2:=(Hwn2.out.cell (p:=⟨g13,7,none⟩) hl3).trans x7
               have x8n2:=(Hwn2.out.cell (p:=⟨g13,8,none⟩) hl3).trans x8
               clear hB
               go_wp2_with fail
               go_roundw
               case rel =>
                have h:=HFIN.out _ (Hwn2.out)
                rw [show qn=false from HQN.out] at h
                exact h
               case measure=>simp [intOf];omega
              ·skip
               go_wp2_with fail
               refine (rnone_c d.to b1 p1 S _ (HTO3.out) (by omega)).mono ?_
               rintro e wn1 ⟨he,hB⟩
               rw [HE3.out] at he
               subst he
               have hzn1:=hB.size
               have Hwn1:Hid (Below w3.heap.size w3 wn1):=J (hB)
               have x5n1:=(Hwn1.out.cell (p:=⟨g13,5,none⟩) hl3).trans x5
               have x6n1:=(Hwn1.out.cell (p:=⟨g13,6,none⟩) hl3).trans x6
               have x7n1:=(Hwn1.out.cell (p:=⟨g13,7,none⟩) hl3).trans x7
               have x8n1:=(Hwn1.out.cell (p:=⟨g13,8,none⟩) hl3).trans x8
               clear hB
               go_wp2_with fail
               refine (rnone_c d.what b2 p2 S _ (HWH3.out.below Hwn1.out) (by omega)).mono ?_
               rintro e wn2 ⟨he,hB⟩
               rw [HE4.out] at he
               subst he
               have hzn2:=hB.size
               have Hwn2:Hid (Below w3.heap.size w3 wn2):=J (yB Hwn1.out (by omega) hB)
               have x5n2:=(Hwn2.out.cell (p:=⟨g13,5,none⟩) hl3).trans x5
               have x6n2:=(Hwn2.out.cell (p:=⟨g13,6,none⟩) hl3).trans x6
               have x7n2:=(Hwn2.out.cell (p:=⟨g13,7,none⟩) hl3).trans x7
               have x8n2:=(Hwn2.out.cell (p:=⟨g13,8,none⟩) hl3).trans x8
               clear hB
               go_wp2_with fail
               go_roundw
               case rel =>
                have h:=HFIN.out _ (Hwn2.out)
                rw [show qn=true from HQN.out] at h
                exact h
               case measure=>simp [intOf];omega
        have hk4:=hkd
        clear hkd
        have HOK:Hid (deedOk d=false):=J (by unfold deedOk;simp [hk1,hk2,hk3,hk4])
        have hkb1:(d.kind == 1)=false:=by simpa using hk1
        have hkb2:(d.kind == 2)=false:=by simpa using hk2
        have hkb3:(d.kind == 3)=false:=by simpa using hk3
        have hkb4:(d.kind == 4)=false:=by simpa using hk4
        have HQR:Hid (false=(q3 && (c.acts.take (m+1)).all deedOk)):=J (by rw [allB_snoc _ hlm,←HDM.out,HOK.out,Bool.and_false,Bool.and_false])
        clear hk1 hk2 hk3 hk4
        go_wp2_with fail
        go_roundw
        case rel=>exact ⟨m+1,false,La,hlm,by go_num,rfl,HQR.out,by simp;omega,(fun h=>by cases h),HO13.out,HB1013.out⟩
        case measure=>simp [intOf];omega
       ·as_aux_lemma =>
         have hmm:m=c.acts.length:=by omega
         subst hmm
         obtain ⟨tc,htc⟩:∃ tc,tc=tupT [yP sOn,c.state,c.message,tupT La,c.next]:=⟨_,rfl⟩
         have HTC:=J htc
         have HX10j:=J (HX10.out.below HBa.out (show g10 < W10.heap.size by omega))
         have HACT:Hid (RT (fun x=>S x∨W10.heap.size≤x) wj (tupT La) (.agg #[.int .i64 4,.int .i64 0,.string ⟨#[]⟩,.slice aa La.length capa])):=J (tupT_rt (HOa.out.rsl (fun b hb=>.inr hb)))
         have HQ5:Hid (q4=(q1 && (b.clauses.take (j+1)).all clauOk)):=J (by
          have d8:decide ((c.acts.length:Int)≤8)=decide (c.acts.length≤8):=by rw [decide_eq_decide];omega
          rw [allB_snoc _ hlj,←HCM.out,HQ4.out,HQ3.out,HQ2.out,List.take_of_length_le (Nat.le_refl _),d8]
          unfold clauOk
          rw [Bool.and_assoc,Bool.and_assoc])
         have HL5:Hid (q4=true→Lb ++ [tc]=[yP sBeh,yP b.name] ++ (b.clauses.take (j+1)).map clauT):=J (fun h=>by
          have h3:q3=true:=by have:=HQ4.out;rw [h] at this;cases q3 <;> first | rfl | (simp at this)
          have h2:q2=true:=by have:=HQ3.out;rw [h3] at this;cases q2 <;> first | rfl | (simp at this)
          have h5:La=c.acts.map deedT:=by have:=HLa.out h;rw [List.take_of_length_le (Nat.le_refl _)] at this;simpa using this
          rw [map_snoc _ hlj,←HCM.out,HLb.out h2,HTC.out,h5]
          simp [clauT])
         have HOj:=J (HOb.out.below HBi.out)
         have HOBb:=J HOb.out.block
         have him:¬(c.acts.length:Int) < c.acts.length:=by omega
         have hgj:g10 < wj.heap.size:=by omega
         clear htc
         have HQS:Hid (∀ w':World,w'.heap[g10]?=wj.heap[g10]?→w'.cell? ⟨g10,0,none⟩=some (.int .i64 c.state.kind)∧w'.cell? ⟨g10,1,none⟩=some (.int .i64 c.state.n)∧w'.cell? ⟨g10,2,none⟩=some (.string c.state.name)∧w'.cell? ⟨g10,3,none⟩=some (.slice e1 c.state.args.length f1)∧w'.cell? ⟨g10,4,none⟩=some (.int .i64 c.message.kind)∧w'.cell? ⟨g10,5,none⟩=some (.int .i64 c.message.n)∧w'.cell? ⟨g10,6,none⟩=some (.string c.message.name)∧w'.cell? ⟨g10,7,none⟩=some (.slice e2 c.message.args.length f2)∧w'.cell? ⟨g10,9,none⟩=some (.int .i64 c.next.kind)∧w'.cell? ⟨g10,10,none⟩=some (.int .i64 c.next.n)∧w'.cell? ⟨g10,11,none⟩=some (.string c.next.name)∧w'.cell? ⟨g10,12,none⟩=some (.slice e4 c.next.args.length f4)):=J fun w' eg=>⟨(World.cell?_of_block (w:=wj) eg).trans (HX10j.out.cell 0 _ rfl),(World.cell?_of_block (w:=wj) eg).trans (HX10j.out.cell 1 _ rfl),(World.cell?_of_block (w:=wj) eg).trans (HX10j.out.cell 2 _ rfl),(World.cell?_of_block (w:=wj) eg).trans (HX10j.out.cell 3 _ rfl),(World.cell?_of_block (w:=wj) eg).trans (HX10j.out.cell 4 _ rfl),(World.cell?_of_block (w:=wj) eg).trans (HX10j.out.cell 5 _ rfl),(World.cell?_of_block (w:=wj) eg).trans (HX10j.out.cell 6 _ rfl),(World.cell?_of_block (w:=wj) eg).trans (HX10j.out.cell 7 _ rfl),(World.cell?_of_block (w:=wj) eg).trans (HX10j.out.cell 9 _ rfl),(World.cell?_of_block (w:=wj) eg).trans (HX10j.out.cell 10 _ rfl),(World.cell?_of_block (w:=wj) eg).trans (HX10j.out.cell 11 _ rfl),(World.cell?_of_block (w:=wj) eg).trans (HX10j.out.cell 12 _ rfl)⟩
         go_upto_region 33 with fail
         refine yK (fun w'=>w'.cell? ⟨g10,0,none⟩=some (.int .i64 c.state.kind)∧w'.cell? ⟨g10,1,none⟩=some (.int .i64 c.state.n)∧w'.cell? ⟨g10,2,none⟩=some (.string c.state.name)∧w'.cell? ⟨g10,3,none⟩=some (.slice e1 c.state.args.length f1)∧w'.cell? ⟨g10,4,none⟩=some (.int .i64 c.message.kind)∧w'.cell? ⟨g10,5,none⟩=some (.int .i64 c.message.n)∧w'.cell? ⟨g10,6,none⟩=some (.string c.message.name)∧w'.cell? ⟨g10,7,none⟩=some (.slice e2 c.message.args.length f2)∧w'.cell? ⟨g10,9,none⟩=some (.int .i64 c.next.kind)∧w'.cell? ⟨g10,10,none⟩=some (.int .i64 c.next.n)∧w'.cell? ⟨g10,11,none⟩=some (.string c.next.name)∧w'.cell? ⟨g10,12,none⟩=some (.slice e4 c.next.args.length f4)) (by as_aux_lemma=>kernel_rfl) (fun Wd h=>HQS.out _ (h.block g10 (by omega))) ?_
         intro Wd hB hWd hWd' hHeld
         have EGWd:Hid (Wd.heap[g10]?=wj.heap[g10]?):=J (hB.block g10 (by omega))
         have HCWd:=J hB
         clear hB
         refine rgT 0 _ hHeld ?_
         refine rgT 2 _ hHeld ?_
         refine rgT 3 _ hHeld ?_
         refine rgT 4 _ hHeld ?_
         refine rgT 5 _ hHeld ?_
         refine rgT 6 _ hHeld ?_
         refine rgT 8 _ hHeld ?_
         refine rgT 9 _ hHeld ?_
         refine rgO 1 fun K hK=>?_
         go_simp
         go_at_call 28
         refine (word_Ratom ⟨#[111,110]⟩ _).mono ?_
         rintro e wa ⟨rfl,hB⟩
         have hzwa:=hB.size
         have EGwa:Hid (wa.heap[g10]?=wj.heap[g10]?):=J ((hB.block g10 (by omega)).trans EGWd.out)
         have HCwa:Hid (Below wj.heap.size wj wa):=J (yB HCWd.out (by omega) hB)
         clear hB
         refine hK.out _ _ (HQS.out _ EGwa.out) fun _=>?_
         clear hK K hHeld;rename_i hHeld;try simp only [Act.put,pA,pB,pC]
         refine rgO 7 fun K hK=>?_
         go_simp
         go_at_call 29
         refine (tuple_c _ _ _ _).mono ?_
         rintro e wb ⟨rfl,hB⟩
         have hzwb:=hB.size
         have EGwb:Hid (wb.heap[g10]?=wj.heap[g10]?):=J ((hB.block g10 (by omega)).trans EGwa.out)
         have HCwb:Hid (Below wj.heap.size wj wb):=J (yB HCwa.out (by omega) hB)
         clear hB
         refine hK.out _ _ (HQS.out _ EGwb.out) fun _=>?_
         clear hK K hHeld;rename_i hHeld;try simp only [Act.put,pA,pB,pC]
         refine rgO 10 fun K hK=>?_
         refine build5 _ _ _ _ _ rfl (by rfl) (by rfl) (by rfl) (by rfl) (by rfl) ?_
         obtain ⟨wl,hwl⟩:=I (wb.alloc (.cells #[.int .i64 2,.int .i64 0,.string ⟨#[111,110]⟩,.slice none 0 0,.int .i64 c.state.kind,.int .i64 c.state.n,.string c.state.name,.slice e1 c.state.args.length f1,.int .i64 c.message.kind,.int .i64 c.message.n,.string c.message.name,.slice e2 c.message.args.length f2,.int .i64 4,.int .i64 0,.string ⟨#[]⟩,.slice aa La.length capa,.int .i64 c.next.kind,.int .i64 c.next.n,.string c.next.name,.slice e4 c.next.args.length f4] 25))
         have hzwl:wb.heap.size+1≤wl.heap.size:=by rw [hwl];simp
         have hzwl':wl.heap.size≤wb.heap.size+1:=by rw [hwl];simp
         have hzle:wl.heap.size=wb.heap.size+1:=by omega
         have HLT:Hid (∀ w',Below wl.heap.size wl w'→RT (fun x=>S x∨W10.heap.size≤x) w' tc (.agg #[.int .i64 4,.int .i64 0,.string ⟨#[]⟩,.slice (some ⟨wb.heap.size,0,none⟩) 5 5])):=J (fun w' h=>by rw [HTC.out];exact tup_lit (S:=fun x=>S x∨W10.heap.size≤x) (w:=wb) (CellsT.word sOn (CellsT.tm ((HT1.out.below (HBi.out.trans (HCwb.out.mono (by omega)))).mono fun x hx=>.inl hx) (CellsT.tm ((HT2.out.below (HBi.out.trans (HCwb.out.mono (by omega)))).mono fun x hx=>.inl hx) (CellsT.tup (l:=La) (HACT.out.below HCwb.out) (CellsT.tm ((HT4.out.below (HBi.out.trans (HCwb.out.mono (by omega)))).mono fun x hx=>.inl hx) CellsT.nil))))) 25 rfl rfl (by show Below (wb.heap.size+1) (wb.alloc (.cells #[.int .i64 2,.int .i64 0,.string ⟨#[111,110]⟩,.slice none 0 0,.int .i64 c.state.kind,.int .i64 c.state.n,.string c.state.name,.slice e1 c.state.args.length f1,.int .i64 c.message.kind,.int .i64 c.message.n,.string c.message.name,.slice e2 c.message.args.length f2,.int .i64 4,.int .i64 0,.string ⟨#[]⟩,.slice aa La.length capa,.int .i64 c.next.kind,.int .i64 c.next.n,.string c.next.name,.slice e4 c.next.args.length f4] 25)) w';rw [←hwl,←hzle];exact h) (fun x hx _=>hx) (.inr (by omega)))
         clear hzle
         have hB:Below wb.heap.size wb wl:=by rw [hwl];exact yA _ _
         have EGwl:Hid (wl.heap[g10]?=wj.heap[g10]?):=J ((hB.block g10 (by omega)).trans EGwb.out)
         have HCwl:Hid (Below wj.heap.size wj wl):=J (yB HCwb.out (by omega) hB)
         obtain ⟨gn,hgn⟩:=I (wb.heap.size)
         rw [←hgn] at HLT
         rw [←hwl,←hgn]
         clear hwl hB hgn
         refine hK.out _ _ (HQS.out _ EGwl.out) fun _=>?_
         clear hK K hHeld;rename_i hHeld;try simp only [Act.put,pA,pB,pC]
         refine rgO 11 fun K hK=>?_
         go_simp
         go_at_call 29
         refine (tuple_c _ _ _ _).mono ?_
         rintro e wt ⟨rfl,hB⟩
         have hzwt:=hB.size
         have EGwt:Hid (wt.heap[g10]?=wj.heap[g10]?):=J ((hB.block g10 (by omega)).trans EGwl.out)
         have HCwt:Hid (Below wj.heap.size wj wt):=J (yB HCwl.out (by omega) hB)
         have HRT:=J (HLT.out _ hB)
         clear hB
         refine hK.out _ _ (HQS.out _ EGwt.out) fun _=>?_
         clear hK K hHeld;rename_i hHeld;try simp only [Act.put,pA,pB,pC]
         refine rgO 12 fun K hK=>?_
         refine build1 _ rfl (by rfl) ?_
         refine hK.out _ _ (HQS.out _ ((Below.heap_alloc wt (.cells #[.int .i64 4,.int .i64 0,.string ⟨#[]⟩,.slice (some ⟨gn,0,none⟩) 5 5] 25) g10 (by omega)).trans EGwt.out)) fun _=>?_
         clear hK K hHeld;rename_i hHeld;try simp only [Act.put,pA,pB,pC]
         refine rgO 13 fun K hK=>?_
         refine wp_grow (v:=.slice ab Lb.length capb) (g0:=wt.heap.size) _ _ rfl rfl (by rfl) (by rfl) rfl (HOj.out.below HCwt.out) HRT.out (fun x hx hl=>⟨by rcases hx with hx | hx;exact .inl hx;exact .inr (by omega),fun he=>by have:=HOBb.out x he;rcases hx with hx | hx;(have:=HS.out x hx;omega);omega⟩) rfl (by omega) (by omega) ?_
         intro gg cg w3 hO3 hG3 hB3 hP3
         have hz3:=hB3.size
         have q0:g10 < (wt.alloc (.cells #[.int .i64 4,.int .i64 0,.string ⟨#[]⟩,.slice (some ⟨gn,0,none⟩) 5 5] 25)).heap.size:=by rw [World.size_alloc];omega
         have q2:=hG3.block g10 q0 (fun he=>by have:=HOBb.out _ he.symm;omega)
         have EG3:Hid (w3.heap[g10]?=wj.heap[g10]?):=J (q2.trans ((Below.heap_alloc wt (.cells #[.int .i64 4,.int .i64 0,.string ⟨#[]⟩,.slice (some ⟨gn,0,none⟩) 5 5] 25) g10 (by omega)).trans EGwt.out))
         have hzw3:wt.heap.size+1≤w3.heap.size:=by have:=hG3.size;rw [World.size_alloc] at this;exact this
         have HO3:=J hO3
         have HB3:=J hB3
         clear hO3 hG3 hB3 hP3 q0 q2
         refine hK.out _ _ (HQS.out _ EG3.out) fun _=>?_
         clear hK K hHeld;rename_i hHeld;try simp only [Act.put,pA,pB,pC]
         refine rgT 14 _ hHeld ?_
         refine rgD ?_
         clear hHeld
         go_wp2_with fail
         go_roundw
         case rel=>exact ⟨j+1,q4,Lb ++ [tc],hlj,by go_num,rfl,HQ5.out,by simp;omega,HL5.out,by simpa using HO3.out,(HBb.out.trans ((HBi.out.trans (HCwt.out.mono (by omega))).mono (by omega))).trans HB3.out⟩
         case measure=>simp [intOf];omega
   ·as_aux_lemma =>
     have hjj:j=b.clauses.length:=by omega
     subst hjj
     have HTB:Hid (RT (fun x=>S x∨wo.heap.size≤x) wk (tupT Lb) (.agg #[.int .i64 4,.int .i64 0,.string ⟨#[]⟩,.slice ab Lb.length capb])):=J (tupT_rt (HOb.out.rsl (fun b hb=>.inr hb)))
     have HQ5:Hid (q2=(q0 && (l.take (k+1)).all behvOk)):=J (by
      have d6:inB (b.clauses.length:Int) 1 6=(decide (1≤b.clauses.length) && decide (b.clauses.length≤6)):=by unfold inB;congr 1 <;> (rw [decide_eq_decide];omega)
      rw [allB_snoc _ hlt,←HBL.out,HQ2.out,HQ1.out,HQ.out,List.take_of_length_le (Nat.le_refl _),d6]
      unfold behvOk
      rw [Bool.and_assoc,Bool.and_assoc])
     have HL5:Hid (q2=true→L ++ [tupT Lb]=[yP sCode] ++ (l.take (k+1)).map behvT):=J (fun h=>by
      have h1:q1=true:=by have:=HQ2.out;rw [h] at this;cases q1 <;> first | rfl | (simp at this)
      have h2:q=true:=by have:=HQ1.out;rw [h1] at this;cases q <;> first | rfl | (simp at this)
      have h5:Lb=[yP sBeh,yP b.name] ++ b.clauses.map clauT:=by have:=HLb.out h;rwa [List.take_of_length_le (Nat.le_refl _)] at this
      rw [map_snoc _ hlt,←HBL.out,HL.out h2,h5]
      simp [behvT])
     have HOk:=J (HO.out.below HBb.out)
     have HOBo:=J HO.out.block
     have hik:(k:Int) < l.length:=by omega
     have hij:¬(b.clauses.length:Int) < b.clauses.length:=by omega
     go_wp2_with fail
     refine (tuple_c _ _ _ _).mono ?_
     rintro e wt ⟨rfl,hB⟩
     have hzwt:=hB.size
     have HRT:=J (HTB.out.below hB)
     have HOt:=J (HOk.out.below hB)
     have HCwt:=J hB
     clear hB
     go_wp2_with (at_builtin;refine append_grow2 (v:=.slice ar L.length capr) (g0:=wt.heap.size) _ _ rfl rfl (by rfl) (by rfl) (by simp) HOt.out HRT.out (fun x hx hl=>⟨by rcases hx with hx | hx;exact .inl hx;exact .inr (by omega),fun he=>by have:=HOBo.out x he;rcases hx with hx | hx;(have:=HS.out x hx;omega);omega⟩) rfl (by omega) (by omega) ?_;intro gg cg w3 hO3 hG3 hB3 hP3;have HO3:=J hO3;have HB3:=J hB3;clear hO3 hG3 hB3 hP3)
     go_roundw
     case rel=>exact ⟨k+1,q2,L ++ [tupT Lb],hlt,by go_num,rfl,HQ5.out,by simp;omega,HL5.out,by simpa using HO3.out,(HB.out.trans ((HBb.out.trans (HCwt.out.mono (by omega))).mono (by omega))).trans HB3.out⟩
     case measure=>simp [intOf];omega
 as_aux_lemma =>
  have hkk:k=l.length:=by omega
  subst hkk
  have HOK:Hid (progOk l=q):=J (by
   have d7:inB (l.length:Int) 1 7=(decide (1≤l.length) && decide (l.length≤7)):=by unfold inB;congr 1 <;> (rw [decide_eq_decide];omega)
   unfold progOk;rw [HQ.out,HQ0.out,List.take_of_length_le (Nat.le_refl _),d7])
  have hik:¬(l.length:Int) < l.length:=by omega
  have HRTT:Hid (RT (fun x=>S x∨W0.heap.size≤x) wr (tupT L) (.agg #[.int .i64 4,.int .i64 0,.string ⟨#[]⟩,.slice ar L.length capr])):=J (tupT_rt (HO.out.rsl (fun b hb=>.inr hb)))
  have hbp:=progT_bulk l
  cases q
  ·have HA:=J (rtoA_bad HOK.out)
   go_wp2_with (refine yI 25 4 yN _ _ rfl rfl rfl rfl rfl (HZ.out.step HB.out) rfl rfl rfl ?_;intro W' hF hs' hBW hoth;have HF:=J hF;have HFB:=J (hBW _ _ (by omega) HBr.out);have HOTH:=J hoth;clear hF hBW hoth)
   refine bodyPost_ret (yH Tryz.results6 yN _ Tryz.underlying25 rfl rfl HF.out rfl) rfl ⟨none,0,?_,HFB.out,?_⟩
   ·rw [HA.out];rfl
   ·rw [HA.out];exact RT.none0
  ·have HTT:Hid (progT l=tupT L):=J (by have:=HL.out rfl;rw [List.take_of_length_le (Nat.le_refl _)] at this;rw [this];rfl)
   go_wp2_with fail
   refine (tuple_c _ _ _ _).mono ?_
   rintro e w4 ⟨rfl,hB⟩
   have hs4:=hB.size
   have HB4:Hid (Below w.heap.size w w4):=J (yB HBr.out (by omega) hB)
   have HRT4:Hid (RT (fun x=>S x∨W0.heap.size≤x) w4 (progT l) (.agg #[.int .i64 4,.int .i64 0,.string ⟨#[]⟩,.slice ar L.length capr])):=J (by rw [HTT.out];exact HRTT.out.below hB)
   have HZ4:=J ((HZ.out.step HB.out).step hB)
   clear hB
   go_wp2_with fail
   refine (rcheck_c (progT l) (fun x=>x < w4.heap.size) _ _ (HRT4.out.to (fun _ _ hl=>hl) fun _ _ _=>rfl) (fun b hb=>hb) (by omega)).mono ?_
   rintro e w5 ⟨rfl,hB⟩
   have hs5:=hB.size
   have HB5:Hid (Below w.heap.size w w5):=J (yB HB4.out (by omega) hB)
   have HRT5:=J (HRT4.out.below hB)
   have HZ5:=J (HZ4.out.step hB)
   clear hB
   by_cases hck:yE (progT l)=0
   ·have hckb:(yE (progT l) != 0)=false:=by simp [hck]
    have HA:=J (rtoA_ok HOK.out hck)
    clear hck
    go_wp2_with fail
    refine (tuple_c _ _ _ _).mono ?_
    rintro e w6 ⟨rfl,hB⟩
    have hs6:=hB.size
    have HB6:Hid (Below w.heap.size w w6):=J (yB HB5.out (by omega) hB)
    have HRT6:=J (HRT5.out.below hB)
    have HZ6:=J (HZ5.out.step hB)
    clear hB
    go_wp2_with (refine yI 25 4 yN _ _ rfl rfl rfl rfl rfl HZ6.out rfl rfl rfl ?_;intro W' hF hs' hBW hoth;have HF:=J hF;have HFB:=J (hBW _ _ (by omega) HB6.out);have HOTH:=J hoth;clear hF hBW hoth)
    refine bodyPost_ret (yH Tryz.results6 yN _ Tryz.underlying25 rfl rfl HF.out rfl) rfl ⟨ar,capr,?_,HFB.out,?_⟩
    ·rw [HA.out,HTT.out];rfl
    ·rw [HA.out]
     have h1:=HRT6.out.to (S':=fun x=>x < W'.heap.size) (w':=W') (fun x hx hl=>by omega) fun x hx hl=>HOTH.out x (fun e=>by rcases hx with hx | hx;(have:=HS.out x hx;omega);omega)
     rw [HTT.out] at h1
     show RT _ W' (progT l) _
     rw [HTT.out]
     exact h1
   ·have hckb:(yE (progT l) != 0)=true:=by simp [hck]
    have HA:=J (rtoA_check HOK.out hck)
    clear hck
    go_wp2_with (refine yI 25 4 yN _ _ rfl rfl rfl rfl rfl HZ5.out rfl rfl rfl ?_;intro W' hF hs' hBW hoth;have HF:=J hF;have HFB:=J (hBW _ _ (by omega) HB5.out);have HOTH:=J hoth;clear hF hBW hoth)
    refine bodyPost_ret (yH Tryz.results6 yN _ Tryz.underlying25 rfl rfl HF.out rfl) rfl ⟨none,0,?_,HFB.out,?_⟩
    ·rw [HA.out];rfl
    ·rw [HA.out];exact RT.none0
end Go.Proofs.YtedfepnekjjmnabGreat
