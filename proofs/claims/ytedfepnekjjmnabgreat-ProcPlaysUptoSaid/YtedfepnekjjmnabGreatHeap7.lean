/-
  heap.copied: what a collection makes. No condition but a bound.
-/
import Derived.Test.YtedfepnekjjmnabGreatHeap6
import Derived.Test.YtedfepnekjjmnabGreatJh
namespace Go.Proofs.YtedfepnekjjmnabGreat
open Go.RowKit
set_option linter.unusedSimpArgs false
set_option linter.unusedVariables false
set_option maxRecDepth 100000
set_option maxHeartbeats 8000000
def CopiedP (w:World) (H:HS) (rs:List Wrd) (e:Ending) (w':World):Prop:=∃ v1 v2 tw out ks,e=.returned (.tuple #[v1,v2])∧Below w.heap.size w w'∧Col H rs ks tw out∧OwnW w' v1 tw∧OwnW w' v2 out ∧
 (∀ b,v1.ownBlock=some b→w.heap.size≤b∧v2.ownBlock≠some b)∧∀ b,v2.ownBlock=some b→w.heap.size≤b
theorem ChInv.next {H:HS} {rs:List Wrd} {ks:List Nat} {st:CS} {k:Nat} (hk:k < rs.length) (h:ChInv H ks 0 st) (hK:∀ x∈rs.take k,Kn ks x) (hR:∀ i∈ks,Reach H rs i) (hg:GoodW H rs[k]) :
  ∃ ks',ChInv H ks' 0 (wordC H st rs[k]).2∧(rs.take (k+1)).map (fwd H ks')=(rs.take k).map (fwd H ks) ++ [(wordC H st rs[k]).1]∧(∀ x∈rs.take (k+1),Kn ks' x)∧∀ i∈ks',Reach H rs i:=by
 obtain ⟨l,h1,h2,h3,h4⟩:=h.word hg
 refine ⟨ks ++ l,h1,?_,?_,?_⟩
 ·rw [take_snoc' rs k hk,List.map_append,h2,List.map_cons,List.map_nil]
  congr 1
  exact List.map_congr_left fun x hx=>fwd_app (hK x hx) l
 ·intro x hx
  rw [take_snoc' rs k hk] at hx
  rcases List.mem_append.1 hx with hx | hx
  ·exact (hK x hx).app l
  rw [List.mem_singleton.1 hx];exact h3
 intro i hi
 rcases List.mem_append.1 hi with hi | hi
 ·exact hR i hi
 exact Reach.root i (by rw [←h4 i hi];exact List.getElem_mem hk)
theorem ChInv.scan {H:HS} (hW:WF H) {rs:List Wrd} {ks:List Nat} {st:CS} {s:Nat} (h:ChInv H ks s st) (hs:s < st.tw.length) (hK:∀ x∈rs,Kn ks x) (hR:∀ i∈ks,Reach H rs i) :
  ∃ ks',ChInv H ks' (s+1) (stepC H st s)∧rs.map (fwd H ks')=rs.map (fwd H ks)∧(∀ x∈rs,Kn ks' x)∧(∀ i∈ks',Reach H rs i)∧GoodW H (st.tw.getD s ⟨0,0⟩):=by
 rw [h.len] at hs
 have hg:=h.good hW _ (List.getElem_mem hs)
 obtain ⟨l,h1,h2⟩:=h.step hs hg
 refine ⟨ks ++ l,h1,List.map_congr_left fun x hx=>fwd_app (hK x hx) l,fun x hx=>(hK x hx).app l,fun i hi=>?_,by rw [h.at hs];exact hg⟩
 rcases List.mem_append.1 hi with hi | hi
 ·exact hR i hi
 have h3:=h2 i hi
 have h4:=List.getElem_mem hs
 rw [h3] at h4
 unfold raw at h4
 obtain ⟨j,hj,h5⟩:=List.mem_flatMap.1 h4
 unfold blkL at h5
 rcases List.mem_cons.1 h5 with h5 | h5
 ·exact absurd (congrArg Wrd.kind h5) (show ¬((4:Int)=0) by decide)
 exact Reach.part j i (hR j hj) h5
theorem GoodW.head {H:HS} {x:Wrd} (h:GoodW H x) (e:x.kind=4):(headN H x.n).isSome=true:=by
 obtain ⟨i,k,h1,h2⟩:=h e;rw [h1,h2.headN];rfl
theorem CopV.set {F:Nat→Prop} {w:World} {C B bm nm:Nat} {st:CS} {D:DataW Unit} {g n cap i:Nat} (h:CopV F w C B st (.slice (some ⟨g,0,none⟩) n cap) bm nm D) (hi:i < st.tw.length) (x:Wrd) :
  CopV F ((w.setCell ⟨g,i * 2,none⟩ (.int .i64 x.kind)).setCell ⟨g,i * 2+1,none⟩ (.int .i64 x.n)) C B ⟨st.tw.set i x,st.wt⟩ (.slice (some ⟨g,0,none⟩) n cap) bm nm D:=by
 have hb:∀ b,b≠g→((w.setCell ⟨g,i * 2,none⟩ (.int .i64 x.kind)).setCell ⟨g,i * 2+1,none⟩ (.int .i64 x.n)).heap[b]?=w.heap[b]?:=fun b hb=>by rw [yD _ _ _ _ _ hb,yD _ _ _ _ _ hb]
 have hsz:((w.setCell ⟨g,i * 2,none⟩ (.int .i64 x.kind)).setCell ⟨g,i * 2+1,none⟩ (.int .i64 x.n)).heap.size=w.heap.size:=by simp
 have he:=hb C (fun e=>h.nt (by rw [e];rfl))
 have he2:=hb bm (fun e=>h.ne (by rw [e];rfl))
 exact ⟨h.blk.heap he,h.row.set hi x,ownsMap_block h.mp he2,h.wt,h.nt,h.nm1,h.ne,h.fc,h.ft,h.fm⟩
def CL (w:World) (H:HS) (rs xs:List Wrd) (C B s nm:Nat) (vo:Value) (wr:World):Prop:=∃ FC ks st,CopR FC wr C B st nm∧ChInv H ks s st∧OwnW wr vo (xs.map (fwd H ks))∧(∀ x∈xs,Kn ks x)∧(∀ i∈ks,Reach H rs i)∧Below w.heap.size w wr ∧
 (∀ b,FC b→w.heap.size≤b∧vo.ownBlock≠some b)∧∀ b,vo.ownBlock=some b→w.heap.size≤b
theorem CL.start {H:HS} {rs:List Wrd} {w:World} {B:Nat} :
  CL w H rs [] (w.heap.size+1) B 0 0 (.slice none 0 0) ((w.alloc (.map #[] 0)).alloc (.cells #[.pointer (some ⟨B,0,none⟩),.slice none 0 0,.map (some w.heap.size)] 147)):=by
 refine ⟨fun b=>w.heap.size≤b,[],⟨[],[]⟩,⟨.slice none 0 0,w.heap.size,.map [],?_,?_,?_,WentR.nil,by simp [Value.ownBlock],by omega,by simp [Value.ownBlock],by omega,by simp [Value.ownBlock],Nat.le_refl _⟩,ChInv.nil H,?_,by simp,by simp,(yA _ _).trans ((yA _ _).mono (by simp)),fun b hb=>⟨hb,by simp [Value.ownBlock]⟩,by simp [Value.ownBlock]⟩
 ·exact Blk.new _ _ _ _ (by simp)
 ·exact OwnXG.nil _ _ _ _
 ·exact ownsMap_block (World.ownsMap_made w _ _ _) (Below.heap_alloc _ _ _ (by simp))
 exact OwnXG.nil _ _ _ _
theorem hcopied_c (H:HS) (rs:List Wrd) (G R S:Nat→Prop) (w:World) (B:Nat) (room:Int) (v:Value) (hR:HeapR G w B room H) (hW:WF H) (hv:RX wrdE R S w rs v) (hg:∀ x∈rs,GoodW H x) (hl:H.ws.length≤4294967296) (hr:rs.length≤4294967296) :
  Calls Tryz.prog 71 #[.pointer (some ⟨B,0,none⟩),v] w (CopiedP w H rs):=by
 obtain ⟨a,cap,cs,rfl,hcap,hC,hj⟩:=hv
 obtain ⟨W1,hW1⟩:=I ((w.alloc (.map #[] 0)).alloc (.cells #[.pointer (some ⟨B,0,none⟩),.slice none 0 0,.map (some w.heap.size)] 147))
 have HCL:Hid (CL w H rs [] (w.heap.size+1) B 0 0 (.slice none 0 0) W1):=J (by rw [hW1];exact CL.start)
 have HV:Hid (RX wrdE R S w rs (.slice a rs.length cap)):=J ⟨a,cap,cs,rfl,hcap,hC,hj⟩
 have HR:Hid (HeapR (fun b=>G b∧b < w.heap.size) w B room H):=J hR.low
 have HW:=J hW
 have HG:=J hg
 have HW1:=J hW1
 obtain ⟨C,hCe⟩:∃ C,C=w.heap.size+1:=⟨_,rfl⟩
 rw [←hCe] at HCL
 have HCe:=J hCe
 clear hW hg hC hj hcap hR hW1 hCe
 have hmm:=@run_makeMap Tryz.prog
 go_enter Tryz.func71,Tryz.ntmps71
 go_upto_region 3 with fail
 clear hmm
 rw [←HW1.out,←HCe.out]
 go_wp2_with fail
 go_loopw [7,18] (fun s7 i wr=>∃ k:Nat,k≤rs.length∧i=.int .i64 k∧CL w H rs (rs.take k) C B 0 k s7 wr) (fun _ i _=>rs.length - (intOf i).toNat)
 case atStart=>exact ⟨0,Nat.zero_le _,rfl,by rw [List.take_zero];exact HCL.out⟩
 obtain ⟨k,hkl,rfl,FC,ks,st,hC,hI,hO,hK,hRc,hB,hF,hOB⟩:=hrel
 obtain ⟨wq,rfl⟩:∃ wq:World,wq=wr:=⟨_,rfl⟩
 obtain ⟨ar,cr,hrow⟩:=hO.form
 have hlk:((rs.take k).map (fwd H ks)).length=k:=by rw [List.length_map,List.length_take];omega
 rw [hlk] at hrow
 subst hrow
 have hsq:=hB.size
 have HPq:Hid (RX wrdE R S wq rs (.slice a rs.length cap)):=J (RX.wto HV.out fun b _ hb=>hB.block b hb)
 have HRq:Hid (HeapR (fun b=>G b∧b < w.heap.size) wq B room H):=J (HR.out.below hB)
 have htl:=hI.le HW.out
 have HC:=J hC
 have HI:=J hI
 have HO:=J hO
 have HK:=J hK
 have HRc:=J hRc
 have HB:=J hB
 have HF:=J hF
 have HOB:=J hOB
 clear hC hI hO hK hRc hB hF hOB hlk
 by_cases hlt:k < rs.length
 ·obtain ⟨pb,po,rfl⟩:=HPq.out.addr (by decide) (by omega)
  obtain ⟨-,d0,d1⟩:=HPq.out.wrd k hlt
  obtain ⟨y,hy⟩:∃ y,y=rs[k]:=⟨_,rfl⟩
  rw [←hy] at d0 d1
  have HGY:Hid (GoodW H y):=J (by rw [hy];exact HG.out _ (List.getElem_mem hlt))
  have HY:=J hy
  clear hy
  go_upto_region 6 with fail
  obtain ⟨W9,hW9⟩:=I (wq.alloc (.cells #[.int .i64 y.kind,.int .i64 y.n] 68))
  obtain ⟨g9,hg9⟩:=I (wq.heap.size)
  have HX9:Hid (Blk W9 g9 [.int .i64 y.kind,.int .i64 y.n]):=J (by rw [hW9];exact Blk.new _ _ _ _ hg9)
  have HB9:Hid (Below wq.heap.size wq W9):=J (by rw [hW9];exact yA _ _)
  have hs9:wq.heap.size+1≤W9.heap.size:=by rw [hW9];simp
  have HR9:=J (HRq.out.below HB9.out)
  have HC9:=J (HC.out.low.below HB9.out)
  rw [←hW9,←hg9]
  obtain ⟨y0,y1⟩:=HX9.out.c2 0 1
  clear hW9 hg9 d0 d1
  go_wp2_with fail
  refine (cop_word H st y _ _ W9 C B k room HC9.out HR9.out HW.out.heads (fun b h1 h2=>by have:=(HF.out b h1.1).1;omega) (fun e=>HGY.out.head e) hl (by omega) (by omega)).mono ?_
  rintro e w2 ⟨rfl,hK2,hC2⟩
  obtain ⟨z,hz⟩:∃ z,z=wordC H st y:=⟨_,rfl⟩
  rw [←hz] at hC2
  rw [←hz]
  have hs2:=hK2.size
  have HZ:=J hz
  have HK2:=J hK2
  have HC2:=J hC2.low
  have HO2:Hid (OwnW w2 (.slice ar k cr) ((rs.take k).map (fwd H ks))):=J (OwnW.to HO.out (by omega) fun b hb=>(hK2.block b (by have:=(HO.out.block b hb).2;omega) (fun e=>(HF.out b e.1).2 hb)).trans (HB9.out.block b (HO.out.block b hb).2))
  have hlm:((rs.take k).map (fwd H ks)).length=k:=by rw [List.length_map,List.length_take];omega
  have HLM:=J hlm
  clear hz hK2 hC2 y0 y1 hlm
  go_wp2_with (at_builtin;(refine append_growX wrdF (v:=.slice ar k cr) (y:=z.1) (g0:=w2.heap.size) (n:=k) _ _ rfl rfl (by rfl) (by rfl) rfl (show OwnXG wrdE wrdF.e (fun _=>True) 0 w2 (.slice ar k cr) ((rs.take k).map (fwd H ks)) from HO2.out) (R:=fun _=>False) rfl (fun b hb=>hb.elim) HLM.out (by omega) (by omega) ?_);intro g1 c1' w8 hO8 hB8 hG8 hD8;have hs8:=hB8.size;have HO8:=J hO8;have HB8:=J hB8;have HG8:=J hG8;have HD8:=J hD8;clear hO8 hB8 hG8 hD8)
  have u1:IntKind.i64.wrap ((k:Int)+1)=((k+1:Nat):Int):=by rw [IntKind.wrap_i64];omega
  have hgw:∀ b,b < w2.heap.size→(Value.slice ar k cr).ownBlock≠some b→w8.heap[b]?=w2.heap[b]?:=fun b hb hn=>(HG8.out.block b (by simp;omega) (fun e=>hn e.symm)).trans (Below.heap_alloc _ _ _ hb)
  have hfin:CL w H rs (rs.take (k+1)) C B 0 (k+1) (.slice (some ⟨g1,0,none⟩) (k+1) c1') w8:=by
   have hyy:y=rs[k]:=HY.out
   have hg:=HGY.out
   have hz:=HZ.out
   subst hyy
   obtain ⟨ks',n1,n2,n3,n4⟩:=HI.out.next hlt HK.out HRc.out hg
   rw [←hz] at n1 n2
   have hown:∀ b,(Value.slice ar k cr).ownBlock=some b→w.heap.size≤b∧b < wq.heap.size:=fun b hb=>⟨HOB.out b hb,(HO.out.block b hb).2⟩
   refine ⟨fun b=>((FC b∧b < wq.heap.size)∨W9.heap.size≤b)∧b < w2.heap.size,ks',z.2,HC2.out.to' (by omega) (fun b hb=>hb) (fun b hb hl=>hgw b hl fun e=>?_),n1,by rw [n2];exact HO8.out,n3,n4,?_,?_,?_⟩
   ·have h1:=hown b e
    rcases hb.1 with h | h
    ·exact (HF.out b h.1).2 e
    omega
   ·have b2:Below w.heap.size w w2:=(HB.out.trans (HB9.out.mono (by omega))).trans (HK2.out.below (by omega) fun b hb=>(HF.out b hb.1).1)
    exact b2.trans ⟨HB8.out.os,HB8.out.tape,HB8.out.output,hs8,fun b hb=>hgw b (by omega) fun e=>by have:=(hown b e).1;omega⟩
   ·intro b hb
    refine ⟨?_,fun e=>?_⟩
    ·rcases hb.1 with h | h
     ·exact (HF.out b h.1).1
     omega
    have e1:g1=b:=Option.some.inj e
    subst e1
    rcases HD8.out with h | h
    ·have h1:=hown _ h
     rcases hb.1 with h2 | h2
     ·exact (HF.out _ h2.1).2 h
     omega
    have:=hb.2;omega
   intro b e
   have e1:g1=b:=Option.some.inj e
   subst e1
   rcases HD8.out with h | h
   ·exact (hown _ h).1
   omega
  exact ⟨⟨k+1,by omega,rfl,hfin⟩,by simp [intOf];omega⟩
 have hkk:k=rs.length:=by omega
 subst hkk
 have HCL2:Hid (CL w H rs rs C B 0 rs.length (.slice ar rs.length cr) wq):=J ⟨FC,ks,st,HC.out,HI.out,by have:=HO.out;rw [List.take_length] at this;exact this,by have:=HK.out;rw [List.take_length] at this;exact this,HRc.out,HB.out,HF.out,HOB.out⟩
 go_upto_region 8 with fail
 obtain ⟨W5,rfl⟩:∃ W5:World,W5=wq:=⟨_,rfl⟩
 clear HC HI HO HK HRc HB HF HOB htl hlt HCL
 go_wp2_with fail
 go_loopw [10] (fun i wr=>∃ s:Nat,i=.int .i64 s∧CL w H rs rs C B s (rs.length+s) (.slice ar rs.length cr) wr) (fun i _=>H.ws.length - (intOf i).toNat)
 case atStart=>exact ⟨0,rfl,HCL2.out⟩
 obtain ⟨s,rfl,FC,ks,st,hC,hI,hO,hK,hRc,hB,hF,hOB⟩:=hrel
 obtain ⟨wq,rfl⟩:∃ wq:World,wq=wr:=⟨_,rfl⟩
 obtain ⟨vto,bm,D,hV⟩:=hC
 have hsq:=hB.size
 have htl:=hI.le HW.out
 have hsl:s≤st.tw.length:=by rw [hI.len];exact hI.sle
 have HRq:Hid (HeapR (fun b=>G b∧b < w.heap.size) wq B room H):=J (HR.out.below hB)
 have HI:=J hI
 have HO:=J hO
 have HK:=J hK
 have HRc:=J hRc
 have HB:=J hB
 have HF:=J hF
 have HOB:=J hOB
 clear hI hO hK hRc hB hF hOB
 by_cases hlt:s < st.tw.length
 ·obtain ⟨gt,ct,rfl⟩:=hV.row.form0 (by omega)
  have c1:=hV.blk.cell 1 _ rfl
  obtain ⟨d,d0,d1⟩:=(hV.row.rx).wrd s hlt
  have HV2:=J hV
  clear hV
  obtain ⟨y,hy⟩:∃ y,y=st.tw[s]:=⟨_,rfl⟩
  rw [←hy] at d0 d1
  simp only [Nat.zero_add] at d0 d1
  obtain ⟨ks',n1,n2,n3,n4,n5⟩:=HI.out.scan HW.out hlt HK.out HRc.out
  have hgd:st.tw.getD s ⟨0,0⟩=y:=by rw [List.getD_eq_getElem?_getD,List.getElem?_eq_getElem hlt,hy];rfl
  rw [hgd] at n5
  have hstep:stepC H st s=⟨(wordC H st y).2.tw.set s (wordC H st y).1,(wordC H st y).2.wt⟩:=by unfold stepC;rw [hgd]
  rw [hstep] at n1
  have hown:∀ b,(Value.slice ar rs.length cr).ownBlock=some b→w.heap.size≤b∧b < wq.heap.size:=fun b hb=>⟨HOB.out b hb,(HO.out.block b hb).2⟩
  have HY:=J hy
  have HN1:=J n1
  have HN2:=J n2
  have HN3:=J n3
  have HN4:=J n4
  have HN5:=J n5
  have HOWN:=J hown
  clear hy n1 n2 n3 n4 n5 hgd hstep hown
  go_wp2_with fail
  refine (cop_word H st y FC _ wq C B (rs.length+s) room ⟨_,_,_,HV2.out⟩ HRq.out HW.out.heads (fun b h1 h2=>by have:=(HF.out b h1).1;omega) (fun e=>HN5.out.head e) hl (by omega) (by omega)).mono ?_
  rintro e w2 ⟨rfl,hK2,hC2⟩
  obtain ⟨z,hz⟩:∃ z,z=wordC H st y:=⟨_,rfl⟩
  rw [←hz] at hC2 HN1
  rw [←hz]
  have hs2:=hK2.size
  obtain ⟨F2,hF2⟩:∃ F2:Nat→Prop,F2=fun b=>(FC b∨wq.heap.size≤b)∧b < w2.heap.size:=⟨_,rfl⟩
  have hC3:=hC2.low
  rw [←hF2] at hC3
  obtain ⟨v2,bm2,D2,hV2⟩:=hC3
  have hsz:s < z.2.tw.length:=by have h1:=HN1.out.len;have h2:=HN1.out.sle;simp only [List.length_set] at h1;omega
  have hszl:z.2.tw.length≤H.ws.length:=by have h1:=HN1.out.le HW.out;simpa using h1
  obtain ⟨g2,c2,rfl⟩:=hV2.row.form0 (by omega)
  have HF2:=J hF2
  have HSZ:=J hsz
  have HVz:=J hV2
  have HK2:=J hK2
  have HZ:=J hz
  have hg2F:F2 g2:=hV2.ft g2 rfl
  have hg2l:g2 < w2.heap.size:=by rw [hF2] at hg2F;exact hg2F.2
  have hg2w:w.heap.size≤g2:=by
   rw [hF2] at hg2F
   rcases hg2F.1 with h | h
   ·exact (HF.out _ h).1
   omega
  have hg2o:(Value.slice ar rs.length cr).ownBlock≠some g2:=fun e=>by
   rw [hF2] at hg2F
   rcases hg2F.1 with h | h
   ·exact (HF.out _ h).2 e
   ·have:=(HOWN.out _ e).2;omega
  have hCg2:C≠g2:=fun e=>hV2.nt (by rw [e];rfl)
  have hCl2:=hV2.blk.lt
  have HG2O:=J hg2o
  clear c1 d0 d1 hz hK2 hC2 hV2 hF2 hg2F hg2o
  go_upto_region 12 with fail
  obtain ⟨W9,hW9⟩:=I (w2.alloc (.cells #[.int .i64 z.1.kind,.int .i64 z.1.n] 68))
  obtain ⟨g9,hg9⟩:=I (w2.heap.size)
  have HX9:Hid (Blk W9 g9 [.int .i64 z.1.kind,.int .i64 z.1.n]):=J (by rw [hW9];exact Blk.new _ _ _ _ hg9)
  have HB9:Hid (Below w2.heap.size w2 W9):=J (by rw [hW9];exact yA _ _)
  have hs9:w2.heap.size+1≤W9.heap.size:=by rw [hW9];simp
  have hg9a:w2.heap.size≤g9:=by omega
  have hg9b:g9≤w2.heap.size:=by omega
  have hg9g2:g9≠g2:=by omega
  have HV9:=J (HVz.out.to' (w':=W9) (F':=F2) (by omega) (fun _ h=>h) fun b _ hb=>HB9.out.block b hb)
  have HQ12:Hid (∀ w':World,w'.heap[C]?=W9.heap[C]?→w'.heap[g9]?=W9.heap[g9]?→w'.cell? ⟨C,1,none⟩=some (.slice (some ⟨g2,0,none⟩) z.2.tw.length c2)∧w'.cell? ⟨g9,0,none⟩=some (.int .i64 z.1.kind)∧w'.cell? ⟨g9,1,none⟩=some (.int .i64 z.1.n)):=J fun w' e1 e2=>⟨(World.cell?_of_block (w:=W9) (a:=⟨C,1,none⟩) e1).trans (HV9.out.blk.cell 1 _ rfl),(World.cell?_of_block (w:=W9) (a:=⟨g9,0,none⟩) e2).trans (HX9.out.cell 0 _ rfl),(World.cell?_of_block (w:=W9) (a:=⟨g9,1,none⟩) e2).trans (HX9.out.cell 1 _ rfl)⟩
  have HEND:Hid (∀ Wd w10:World,Below W9.heap.size W9 Wd→Keep (fun b=>b=g2) Wd w10→CopV F2 w10 C B ⟨z.2.tw.set s z.1,z.2.wt⟩ (.slice (some ⟨g2,0,none⟩) z.2.tw.length c2) bm2 (rs.length+s+1) D2→CL w H rs rs C B (s+1) (rs.length+(s+1)) (.slice ar rs.length cr) w10):=J (by
   intro Wd w10 hBd hK10 hV10
   have hd1:=hBd.size
   have hd2:=hK10.size
   refine ⟨F2,ks',_,⟨_,_,_,hV10⟩,HN1.out,?_,HN3.out,HN4.out,?_,?_,HOB.out⟩
   ·rw [HN2.out]
    refine OwnW.to HO.out (by omega) fun b hb=>?_
    have hb2:=(HOWN.out b hb).2
    exact (hK10.block b (by omega) (fun e=>HG2O.out (by rw [←e];exact hb))).trans ((hBd.block b (by omega)).trans ((HB9.out.block b (by omega)).trans (HK2.out.block b hb2 fun e=>(HF.out b e).2 hb)))
   ·have b2:Below w.heap.size w W9:=(HB.out.trans (HK2.out.below (by omega) fun b hb=>(HF.out b hb).1)).trans (HB9.out.mono (by omega))
    exact (b2.trans (hBd.mono (by omega))).trans (hK10.below (by omega) fun b hb=>by omega)
   ·intro b hb
    rw [HF2.out] at hb
    rcases hb.1 with h | h
    ·exact HF.out b h
    ·exact ⟨by omega,fun e=>by have:=(HOWN.out b e).2;omega⟩)
  rw [←hW9,←hg9]
  clear hW9 hg9
  refine yK (fun w'=>w'.cell? ⟨C,1,none⟩=some (.slice (some ⟨g2,0,none⟩) z.2.tw.length c2)∧w'.cell? ⟨g9,0,none⟩=some (.int .i64 z.1.kind)∧w'.cell? ⟨g9,1,none⟩=some (.int .i64 z.1.n)) (by as_aux_lemma=>kernel_rfl) (fun Wd h=>HQ12.out _ (h.block _ (by omega)) (h.block _ (by omega))) ?_
  intro Wd hB hWd hWd' hHeld
  have ECd:Hid (Wd.heap[C]?=W9.heap[C]?):=J (hB.block _ (by omega))
  have E9d:Hid (Wd.heap[g9]?=W9.heap[g9]?):=J (hB.block _ (by omega))
  have HBd:=J hB
  have HVd:=J (HV9.out.to' hWd (fun _ h=>h) fun b _ hb=>hB.block b hb)
  clear hB
  refine rgT 0 _ hHeld ?_
  refine rgT 1 _ hHeld ?_
  refine rgT 2 _ hHeld ?_
  refine rgT 3 _ hHeld ?_
  refine rgT 4 _ hHeld ?_
  refine rgT 5 _ hHeld ?_
  refine rgT 6 _ hHeld ?_
  refine rgO 7 fun K hK=>?_
  refine wp_store_mid 68 _ _ rfl g2 (s * 2) #[.int .i64 z.1.kind,.int .i64 z.1.n] (by rfl) (by rfl) (HVd.out.row.there (by omega)) (by rw [szWord];rfl) (by simp [Value.oneCell']) ?_
  obtain ⟨w10,hw10⟩:∃ w10:World,w10=(Wd.setCell ⟨g2,s * 2,none⟩ (.int .i64 z.1.kind)).setCell ⟨g2,s * 2+1,none⟩ (.int .i64 z.1.n):=⟨_,rfl⟩
  have hcell10:∀ b,b≠g2→w10.heap[b]?=Wd.heap[b]?:=fun b hb=>by rw [hw10,yD _ _ _ _ _ hb,yD _ _ _ _ _ hb]
  have hz10:w10.heap.size=Wd.heap.size:=by rw [hw10];simp
  have hz10a:Wd.heap.size≤w10.heap.size:=by omega
  have HV10:Hid (CopV F2 w10 C B ⟨z.2.tw.set s z.1,z.2.wt⟩ (.slice (some ⟨g2,0,none⟩) z.2.tw.length c2) bm2 (rs.length+s+1) D2):=J (by rw [hw10];exact HVd.out.set HSZ.out z.1)
  have HK10:Hid (Keep (fun b=>b=g2) Wd w10):=J (by rw [hw10];exact Keep.setCell (R:=fun b=>b=g2) (Keep.setCell (R:=fun b=>b=g2) (Keep.refl _ _) _ (.inl (show g2=g2 from rfl))) _ (.inl (show g2=g2 from rfl)))
  show K _ ((Wd.setCell ⟨g2,s * 2,none⟩ (.int .i64 z.1.kind)).setCell ⟨g2,s * 2+1,none⟩ (.int .i64 z.1.n))
  rw [←hw10]
  clear hw10 hz10
  refine hK.out _ _ (HQ12.out _ ((hcell10 C hCg2).trans ECd.out) ((hcell10 g9 hg9g2).trans E9d.out)) fun _=>?_
  clear hK K hHeld;rename_i hHeld;try simp only [Act.put,pA,pB,pC]
  refine rgD ?_
  clear hHeld
  clear hcell10
  go_wp2_with fail
  go_roundw
  case rel=>exact ⟨s+1,by go_num,HEND.out Wd w10 HBd.out HK10.out HV10.out⟩
  case measure=>simp [intOf];omega
 obtain ⟨at0,ct0,rfl⟩:=hV.row.form
 have c1:=hV.blk.cell 1 _ rfl
 have HV2:=J hV
 have HKF:Hid (Col H rs ks st.tw (rs.map (fwd H ks))):=J (HI.out.col (by omega) rfl HK.out HRc.out)
 clear hV
 go_wp2_with fail
 go_ret2
 exact ⟨_,_,_,_,ks,rfl,HB.out,HKF.out,HV2.out.row,HO.out,fun b hb=>HF.out b (HV2.out.ft b hb),HOB.out⟩
end Go.Proofs.YtedfepnekjjmnabGreat
