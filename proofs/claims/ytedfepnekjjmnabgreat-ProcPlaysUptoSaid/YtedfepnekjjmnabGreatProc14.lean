/-
  A doer: do. Conditions: it lies as said; what is handed in is small.
-/
import Derived.Test.YtedfepnekjjmnabGreatJi
namespace Go.Proofs.YtedfepnekjjmnabGreat
open Go.RowKit
set_option linter.unusedSimpArgs false
set_option linter.unusedVariables false
set_option maxRecDepth 100000
set_option maxHeartbeats 8000000
section
variable {o:Oper} {a:Act} {Q:Exit→Act→World→Prop} {K:Act→World→Prop} {w:World}
theorem buildS1 (x0:Operand) (ho:o.op=.buildSlice 47 1 #[(0,x0)]) {c0 c1 c2 c3 c4:Value} (h0:a.eval x0=.agg #[c0,c1,c2,c3,c4])
  (h:K (a.put o.dst (.slice (some ⟨w.heap.size,0,none⟩) 1 1)) (w.alloc (.cells #[c0,c1,c2,c3,c4] 103))):Oper.wp Tryz.prog o a w K Q:=by
 obtain ⟨i,hi,hz,hs,hb⟩:=info_parts sndF.info
 have hs':i.size=5:=hs
 refine wp_buildSlice 47 103 1 _ ho #[c0,c1,c2,c3,c4] i _ Tryz.underlying47 hi hz (by rw [hs'];decide) (by rw [hs'];decide) ?_ h
 rw [hs']
 have e:=Great.fill_whole (s:=5) (by decide) [.agg #[c0,c1,c2,c3,c4]] ((Array.range (1 * 5)).map (sndF.z.cells[· % sndF.z.cells.size]!)) (by simp [Value.cells]) (by simp)
 simp only [Array.toList_map,List.map_cons,List.map_nil,h0]
 exact e
theorem buildP1 (x0:Operand) (ho:o.op=.buildSlice 48 1 #[(0,x0)]) {c0 c1 c2 c3 c4 c5:Value} (h0:a.eval x0=.agg #[c0,c1,c2,c3,c4,c5])
  (h:K (a.put o.dst (.slice (some ⟨w.heap.size,0,none⟩) 1 1)) (w.alloc (.cells #[c0,c1,c2,c3,c4,c5] 108))):Oper.wp Tryz.prog o a w K Q:=by
 obtain ⟨i,hi,hz,hs,hb⟩:=info_parts spnF.info
 have hs':i.size=6:=hs
 refine wp_buildSlice 48 108 1 _ ho #[c0,c1,c2,c3,c4,c5] i _ Tryz.underlying48 hi hz (by rw [hs'];decide) (by rw [hs'];decide) ?_ h
 rw [hs']
 have e:=Great.fill_whole (s:=6) (by decide) [.agg #[c0,c1,c2,c3,c4,c5]] ((Array.range (1 * 6)).map (spnF.z.cells[· % spnF.z.cells.size]!)) (by simp [Value.cells]) (by simp)
 simp only [Array.toList_map,List.map_cons,List.map_nil,h0]
 exact e
theorem buildL1 (x0:Operand) (ho:o.op=.buildSlice 41 1 #[(0,x0)]) {n:Int} (h0:a.eval x0=.int .i64 n)
  (h:K (a.put o.dst (.slice (some ⟨w.heap.size,0,none⟩) 1 1)) (w.alloc (.cells #[.int .i64 n] 3))):Oper.wp Tryz.prog o a w K Q:=by
 obtain ⟨i,hi,hz,hs,hb⟩:=info_parts lnkF.info
 have hs':i.size=1:=hs
 refine wp_buildSlice 41 3 1 _ ho #[.int .i64 n] i _ Tryz.underlying41 hi hz (by rw [hs'];decide) (by rw [hs'];decide) ?_ h
 rw [hs']
 have e:=Great.fill_whole (s:=1) (by decide) [Value.int .i64 n] ((Array.range (1 * 1)).map (lnkF.z.cells[· % lnkF.z.cells.size]!)) (by simp [Value.cells]) (by simp)
 simp only [Array.toList_map,List.map_cons,List.map_nil,h0]
 exact e
end
def DDoP (P Qz:Nat→Prop) (wz w0 w:World) (db bb bc:Nat) (self:Int) (d:Dst) (bs:List (Nat×List Value)) (e:Ending) (w':World):Prop :=
 e=.returned (.tuple #[])∧w.heap.size≤w'.heap.size∧∃ (P':Nat→Prop) (vs' vp' vl':Value),DoS P' Qz wz w0 w' db bb bc self d bs vs' vp' vl'∧∀ b,P' b→P b∨w.heap.size≤b
theorem dsend_c (P Qz:Nat→Prop) (wz w0 w:World) (db bb bc:Nat) (self:Int) (d:Dst) (bs:List (Nat×List Value)) (vs vp vl:Value) (a:Deed) (c:List Value) (S:Nat→Prop) (h:DoS P Qz wz w0 w db bb bc self d bs vs vp vl) (hv:deedC S w a c) (hS:∀ b,S b→b < w0.heap.size) (hl:d.bd.length=4) (hsm:∀ t∈d.bd,yC [t]≤2000) (hb:deedB a≤1048576) (hn:d.sends.length≤1000∧d.spawns.length≤1000∧d.links.length≤1000) (hx:0≤d.next∧d.next≤1000)  (hk:a.kind=1):Calls Tryz.prog 40 #[.pointer (some ⟨db,0,none⟩),.agg c.toArray] w (DDoP P Qz wz w0 w db bb bc self (doA self d a) bs):=by
 obtain ⟨a1,p1,a2,p2,rfl,ht1,ht2⟩:=hv
 obtain ⟨bd,next,sends,spawns,links,fate,bad⟩:=d
 obtain ⟨kk,tg,what,an,var⟩:=a
 simp only at hk h hl hsm hn hx hb ht1 ht2
 subst hk
 obtain ⟨W0,hW0⟩:=I (w.alloc (.cells #[.int .i64 1,.int .i64 tg.kind,.int .i64 tg.n,.string tg.name,.slice a1 tg.args.length p1,.int .i64 what.kind,.int .i64 what.n,.string what.name,.slice a2 what.args.length p2,.string an,.int .i64 var] 84))
 obtain ⟨g3,hg3⟩:=I (w.heap.size)
 have HBUL:Hid (yC bd≤8000∧yC [tg]≤1048576∧yC [what]≤1048576):=J (by
  have h1:=bulk_eachP 2000 bd hsm
  rw [hl] at h1
  simp only [deedB] at hb
  omega)
 have HM0:Hid (DoM P Qz wz w0 W0 db bb bc (doerC (.slice (some ⟨bb,0,none⟩) 4 bc) self next (outC fate vs vp vl) bad) bd ((g3,[.int .i64 1,.int .i64 tg.kind,.int .i64 tg.n,.string tg.name,.slice a1 tg.args.length p1,.int .i64 what.kind,.int .i64 what.n,.string what.name,.slice a2 what.args.length p2,.string an,.int .i64 var]) :: bs) [rSnd vs sends,rSpn vp spawns,rLnk vl links]):=J (by rw [hW0];exact DoM.alloc h #[.int .i64 1,.int .i64 tg.kind,.int .i64 tg.n,.string tg.name,.slice a1 tg.args.length p1,.int .i64 what.kind,.int .i64 what.n,.string what.name,.slice a2 what.args.length p2,.string an,.int .i64 var] 84 hg3)
 have HT1:Hid (RT S W0 tg (.agg #[.int .i64 tg.kind,.int .i64 tg.n,.string tg.name,.slice a1 tg.args.length p1])):=J (by rw [hW0];exact ht1.alloc _)
 have HT2:Hid (RT S W0 what (.agg #[.int .i64 what.kind,.int .i64 what.n,.string what.name,.slice a2 what.args.length p2])):=J (by rw [hW0];exact ht2.alloc _)
 have HSS:=J hS
 have HS0:Hid (W0.heap.size=w.heap.size+1∧w0.heap.size≤db∧w0.heap.size≤w.heap.size∧g3=w.heap.size):=J ⟨by rw [hW0];simp,(DoM.lt h).1,h.rq.bel.size,hg3⟩
 have HSM:=J hsm
 have HL:=J hl
 clear h ht1 ht2 hS hb hsm
 go_enter Tryz.func40,Tryz.ntmps40
 go_upto_region 1 with fail
 rw [←hW0,←hg3]
 clear hW0 hg3
 have y0:=HM0.out.cell mS0 0 _ rfl
 have y1:=HM0.out.cell mS0 1 _ rfl
 have y2:=HM0.out.cell mS0 2 _ rfl
 have y3:=HM0.out.cell mS0 3 _ rfl
 have y4:=HM0.out.cell mS0 4 _ rfl
 have y5:=HM0.out.cell mS0 5 _ rfl
 have y6:=HM0.out.cell mS0 6 _ rfl
 have y7:=HM0.out.cell mS0 7 _ rfl
 have y8:=HM0.out.cell mS0 8 _ rfl
 have y9:=HM0.out.cell mS0 9 _ rfl
 have y10:=HM0.out.cell mS0 10 _ rfl
 obtain ⟨⟨pt,pn⟩,hrpt⟩:∃ r,r=reckO bd self tg:=⟨_,rfl⟩
 have HRP:=J hrpt
 obtain ⟨⟨t,n⟩,hrt⟩:∃ r,r=reckO bd self what:=⟨_,rfl⟩
 have HRT:=J hrt
 have HDO:Hid (doA self ⟨bd,next,sends,spawns,links,fate,bad⟩ ⟨1,tg,what,an,var⟩=⟨bd,next,sends ++ [(pt.n,t)],spawns,links,fate,((bad || pn != 0) || pt.kind != 3) || n != 0⟩):=J (by unfold doA;rw [if_pos rfl,←hrpt,←hrt])
 clear hrpt hrt
 go_wp2_with fail
 refine (dpid_c db _ self next _ rfl bad bd tg (fun b=>b < W0.heap.size∧b≠db) W0 _ HM0.out.blk (HT1.out.to (fun b hb _=>by have:=HSS.out b hb;have:=HS0.out;have:=HM0.out.rq.bel.size;omega) fun b hb _=>(HM0.out.rq.bel.block b (HSS.out b hb)).trans (HM0.out.rq.bel.block b (HSS.out b hb)).symm) HM0.out.rslB (fun b hb=>hb) (by have:=HBUL.out;omega)).mono ?_
 intro e W1 hcall
 rw [←HRP.out] at hcall
 obtain ⟨rfl,hK1,hX1⟩:=hcall
 have hX1:Blk W1 db (doerC (.slice (some ⟨bb,0,none⟩) 4 bc) self next (outC fate vs vp vl) ((bad || pn != 0) || pt.kind != 3)):=hX1
 obtain ⟨b1,hb1⟩:∃ b,b=((bad || pn != 0) || pt.kind != 3):=⟨_,rfl⟩
 rw [←hb1] at hX1
 have HB1:=J hb1
 obtain ⟨P1,hP1⟩:∃ Q:Nat→Prop,Q=fun b=>P b∨(W0.heap.size≤b∧b < W1.heap.size):=⟨_,rfl⟩
 have HAW1:Hid (DoM P1 Qz wz w0 W1 db bb bc (doerC (.slice (some ⟨bb,0,none⟩) 4 bc) self next (outC fate vs vp vl) b1) bd ((g3,[.int .i64 1,.int .i64 tg.kind,.int .i64 tg.n,.string tg.name,.slice a1 tg.args.length p1,.int .i64 what.kind,.int .i64 what.n,.string what.name,.slice a2 what.args.length p2,.string an,.int .i64 var]) :: bs) [rSnd vs sends,rSpn vp spawns,rLnk vl links]):=J (by rw [hP1];exact HM0.out.keep hK1 hX1)
 have hsW1:W0.heap.size≤W1.heap.size:=hK1.size
 have HP1:Hid (∀ b,P1 b→P b∨w.heap.size≤b):=J fun b hb=>by
  rw [hP1] at hb
  rcases hb with hb | hb
  ·exact .inl hb
  ·exact .inr (by have:=HS0.out;omega)
 clear hK1 hX1 hP1 hb1
 clear y0 y1 y2 y3 y4 y5 y6 y7 y8 y9 y10
 go_upto_region 4 with fail
 refine yK (fun w'=>w'.cell? ⟨g3,5,none⟩=some (.int .i64 what.kind)∧w'.cell? ⟨g3,6,none⟩=some (.int .i64 what.n)∧w'.cell? ⟨g3,7,none⟩=some (.string what.name)∧w'.cell? ⟨g3,8,none⟩=some (.slice a2 what.args.length p2)) (by as_aux_lemma=>kernel_rfl) (fun Wd h=>⟨(J (HAW1.out.below h)).out.cell mS0 5 _ rfl,(J (HAW1.out.below h)).out.cell mS0 6 _ rfl,(J (HAW1.out.below h)).out.cell mS0 7 _ rfl,(J (HAW1.out.below h)).out.cell mS0 8 _ rfl⟩) ?_
 intro V0 hB hWd hWd' hHeld
 have HAV0:=J (HAW1.out.below hB)
 clear hB
 refine rgT 0 _ hHeld ?_
 refine rgT 1 _ hHeld ?_
 refine rgT 2 _ hHeld ?_
 refine rgT 3 _ hHeld ?_
 refine rgT 4 _ hHeld ?_
 refine rgT 6 _ hHeld ?_
 refine rgT 7 _ hHeld ?_
 refine rgT 8 _ hHeld ?_
 refine rgT 9 _ hHeld ?_
 refine rgW 5 10 (fun K hK=>?_) fun K hK=>?_
 focus
  have z8:=HAV0.out.blk.cell 8 _ rfl
  go_simp
  clear z8
  refine hK.out _ _ (⟨HAV0.out.cell mS0 5 _ rfl,HAV0.out.cell mS0 6 _ rfl,HAV0.out.cell mS0 7 _ rfl,HAV0.out.cell mS0 8 _ rfl⟩) fun _=>?_
  clear hK K hHeld;rename_i hHeld;try simp only [Act.put,pA,pB,pC]
  refine rgO 10 fun K hK=>?_
 all_goals
  go_simp
  go_at_call 41
  refine (dval_c db _ self next _ rfl b1 bd what (fun b=>b < V0.heap.size∧b≠db) V0 _ HAV0.out.blk (HT2.out.to (fun b hb _=>by have:=HSS.out b hb;have:=HS0.out;have:=HAV0.out.rq.bel.size;omega) fun b hb _=>(HAV0.out.rq.bel.block b (HSS.out b hb)).trans (HM0.out.rq.bel.block b (HSS.out b hb)).symm) HAV0.out.rslB (fun b hb=>hb) (by have:=HBUL.out;omega)).mono ?_
  intro e V1 hcall
  rw [←HRT.out] at hcall
  obtain ⟨ar,cr,rfl,hK1,hX1,hT1⟩:=hcall
  have hX1:Blk V1 db (doerC (.slice (some ⟨bb,0,none⟩) 4 bc) self next (outC fate vs vp vl) (b1 || n != 0)):=hX1
  obtain ⟨b2,hb2⟩:∃ b,b=(b1 || n != 0):=⟨_,rfl⟩
  rw [←hb2] at hX1
  have HB2:=J hb2
  obtain ⟨P2,hP2⟩:∃ Q:Nat→Prop,Q=fun b=>P1 b∨(V0.heap.size≤b∧b < V1.heap.size):=⟨_,rfl⟩
  have HAV1:Hid (DoM P2 Qz wz w0 V1 db bb bc (doerC (.slice (some ⟨bb,0,none⟩) 4 bc) self next (outC fate vs vp vl) b2) bd ((g3,[.int .i64 1,.int .i64 tg.kind,.int .i64 tg.n,.string tg.name,.slice a1 tg.args.length p1,.int .i64 what.kind,.int .i64 what.n,.string what.name,.slice a2 what.args.length p2,.string an,.int .i64 var]) :: bs) [rSnd vs sends,rSpn vp spawns,rLnk vl links]):=J (by rw [hP2];exact HAV0.out.keep hK1 hX1)
  have hsV1:V0.heap.size≤V1.heap.size:=hK1.size
  have HP2:Hid (∀ b,P2 b→P b∨w.heap.size≤b):=J fun b hb=>by
   rw [hP2] at hb
   rcases hb with hb | hb
   ·exact HP1.out b hb
   ·exact .inr (by have:=HS0.out;omega)
  have HT:Hid (RT P2 V1 t (.agg #[.int .i64 t.kind,.int .i64 t.n,.string t.name,.slice ar t.args.length cr])):=J (by rw [hP2];exact hT1.to (fun b hb hl=>.inr ⟨hb,hl⟩) fun _ _ _=>rfl)
  clear hT1
  clear hK1 hX1 hP2 hb2
  refine hK.out _ _ (⟨HAV1.out.cell mS0 5 _ rfl,HAV1.out.cell mS0 6 _ rfl,HAV1.out.cell mS0 7 _ rfl,HAV1.out.cell mS0 8 _ rfl⟩) fun _=>?_
  clear hK K hHeld;rename_i hHeld;try simp only [Act.put,pA,pB,pC]
 rotate_left 1
 all_goals
  refine rgT 11 _ hHeld ?_
 all_goals first | (refine rgO 12 fun K hK=>?_) | skip
 refine rgW 5 12 (fun K hK=>?_) fun K hK=>?_
 focus
  have z8:=HAV1.out.blk.cell 8 _ rfl
  go_simp
  clear z8
  refine hK.out _ _ (⟨HAV1.out.cell mS0 5 _ rfl,HAV1.out.cell mS0 6 _ rfl,HAV1.out.cell mS0 7 _ rfl,HAV1.out.cell mS0 8 _ rfl⟩) fun _=>?_
  clear hK K hHeld;rename_i hHeld;try simp only [Act.put,pA,pB,pC]
  refine rgO 12 fun K hK=>?_
 all_goals
  refine buildS1 _ rfl (by rfl) ?_
  obtain ⟨V2,hV2⟩:=I (V1.alloc (.cells #[.int .i64 pt.n,.int .i64 t.kind,.int .i64 t.n,.string t.name,.slice ar t.args.length cr] 103))
  obtain ⟨gz,hgz⟩:=I (V1.heap.size)
  have HAV2:Hid (DoM P2 Qz wz w0 V2 db bb bc (doerC (.slice (some ⟨bb,0,none⟩) 4 bc) self next (outC fate vs vp vl) b2) bd ((gz,[.int .i64 pt.n,.int .i64 t.kind,.int .i64 t.n,.string t.name,.slice ar t.args.length cr]) :: (g3,[.int .i64 1,.int .i64 tg.kind,.int .i64 tg.n,.string tg.name,.slice a1 tg.args.length p1,.int .i64 what.kind,.int .i64 what.n,.string what.name,.slice a2 what.args.length p2,.string an,.int .i64 var]) :: bs) [rSnd vs sends,rSpn vp spawns,rLnk vl links]):=J (by rw [hV2];exact HAV1.out.alloc #[.int .i64 pt.n,.int .i64 t.kind,.int .i64 t.n,.string t.name,.slice ar t.args.length cr] _ hgz)
  have hsV2:V1.heap.size≤V2.heap.size:=by rw [hV2];simp
  have HT3:=J (show RT _ V2 t _ by rw [hV2];exact HT.out.alloc _)
  show K _ (V1.alloc (.cells #[.int .i64 pt.n,.int .i64 t.kind,.int .i64 t.n,.string t.name,.slice ar t.args.length cr] 103))
  rw [←hV2,←hgz]
  clear hV2 hgz
  refine hK.out _ _ (⟨HAV2.out.cell mS1 5 _ rfl,HAV2.out.cell mS1 6 _ rfl,HAV2.out.cell mS1 7 _ rfl,HAV2.out.cell mS1 8 _ rfl⟩) fun _=>?_
  clear hK K hHeld;rename_i hHeld;try simp only [Act.put,pA,pB,pC]
 rotate_left 1
 focus
  refine rgO 5 fun K hK=>?_
  have z8:=HAV2.out.blk.cell 8 _ rfl
  go_simp
  clear z8
  refine hK.out _ _ (⟨HAV2.out.cell mS1 5 _ rfl,HAV2.out.cell mS1 6 _ rfl,HAV2.out.cell mS1 7 _ rfl,HAV2.out.cell mS1 8 _ rfl⟩) fun _=>?_
  clear hK K hHeld;rename_i hHeld;try simp only [Act.put,pA,pB,pC]
 all_goals
  refine rgO 13 fun K hK=>?_
  refine wp_growQ (w:=V2) _ _ sndF rfl [] [rSpn vp spawns,rLnk vl links] (v:=vs) (xs:=sends) (y:=(pt.n,t)) (g0:=gz) (c:=[.int .i64 pt.n,.int .i64 t.kind,.int .i64 t.n,.string t.name,.slice ar t.args.length cr]) (by rfl) (by rfl) HAV2.out.rq mS0 ⟨ar,cr,rfl,HT3.out⟩ rfl (by omega) ?_
  intro gn on cn V3 hz hzg
  have HAV3:Hid (DoM P2 Qz wz w0 V3 db bb bc (doerC (.slice (some ⟨bb,0,none⟩) 4 bc) self next (outC fate vs vp vl) b2) bd ((gz,[.int .i64 pt.n,.int .i64 t.kind,.int .i64 t.n,.string t.name,.slice ar t.args.length cr]) :: (g3,[.int .i64 1,.int .i64 tg.kind,.int .i64 tg.n,.string tg.name,.slice a1 tg.args.length p1,.int .i64 what.kind,.int .i64 what.n,.string what.name,.slice a2 what.args.length p2,.string an,.int .i64 var]) :: bs) ([] ++ rSnd (.slice (some ⟨gn,on,none⟩) (sends.length+1) cn) (sends ++ [(pt.n,t)]) :: [rSpn vp spawns,rLnk vl links])):=J (DoM.grown (l1:=[]) (l2:=[rSpn vp spawns,rLnk vl links]) (r:=rSnd vs sends) HAV2.out hzg hz)
  have hsV3:V2.heap.size≤V3.heap.size:=hzg.size
  clear hz hzg
  refine hK.out _ _ (⟨HAV3.out.cell mS1 5 _ rfl,HAV3.out.cell mS1 6 _ rfl,HAV3.out.cell mS1 7 _ rfl,HAV3.out.cell mS1 8 _ rfl⟩) fun _=>?_
  clear hK K hHeld;rename_i hHeld;try simp only [Act.put,pA,pB,pC]
 all_goals
  refine rgT 14 _ hHeld ?_
 all_goals
  refine rgT 15 _ hHeld ?_
 all_goals
  refine rgT 16 _ hHeld ?_
 all_goals
  refine rgO 17 fun K hK=>?_
  have zf:=HAV3.out.blk.fr
  have zc:=HAV3.out.blk.cell 8 _ rfl
  have zl:=HAV3.out.blk.lt
  go_simp
  obtain ⟨V4,hV4⟩:=I (V3.setCell ⟨db,8,none⟩ (.slice (some ⟨gn,on,none⟩) (sends.length+1) cn))
  have HAV4:Hid (DoM P2 Qz wz w0 V4 db bb bc (doerC (.slice (some ⟨bb,0,none⟩) 4 bc) self next (outC fate (.slice (some ⟨gn,on,none⟩) (sends.length+1) cn) vp vl) b2) bd ((gz,[.int .i64 pt.n,.int .i64 t.kind,.int .i64 t.n,.string t.name,.slice ar t.args.length cr]) :: (g3,[.int .i64 1,.int .i64 tg.kind,.int .i64 tg.n,.string tg.name,.slice a1 tg.args.length p1,.int .i64 what.kind,.int .i64 what.n,.string what.name,.slice a2 what.args.length p2,.string an,.int .i64 var]) :: bs) ([] ++ rSnd (.slice (some ⟨gn,on,none⟩) (sends.length+1) cn) (sends ++ [(pt.n,t)]) :: [rSpn vp spawns,rLnk vl links])):=J (by rw [hV4];exact HAV3.out.set 8 _ (by simp [doerC,outC]))
  have hsV4:V3.heap.size≤V4.heap.size:=by rw [hV4];simp
  rw [←hV4]
  clear hV4 zf zc zl
  refine hK.out _ _ (⟨HAV4.out.cell mS1 5 _ rfl,HAV4.out.cell mS1 6 _ rfl,HAV4.out.cell mS1 7 _ rfl,HAV4.out.cell mS1 8 _ rfl⟩) fun _=>?_
  clear hK K hHeld;rename_i hHeld;try simp only [Act.put,pA,pB,pC]
 all_goals
  refine rgD ?_
  clear hHeld
  go_wp2_with fail
  refine bodyPost_end (results_none Tryz.results40 _ _ _) rfl ⟨rfl,by have:=HS0.out;omega,P2,(.slice (some ⟨gn,on,none⟩) (sends.length+1) cn),vp,vl,?_,HP2.out⟩
  rw [HDO.out,←HB1.out,←HB2.out]
  exact HAV4.out.sub (fun p hp=>by simp [hp])
theorem dlink_c (P Qz:Nat→Prop) (wz w0 w:World) (db bb bc:Nat) (self:Int) (d:Dst) (bs:List (Nat×List Value)) (vs vp vl:Value) (a:Deed) (c:List Value) (S:Nat→Prop) (h:DoS P Qz wz w0 w db bb bc self d bs vs vp vl) (hv:deedC S w a c) (hS:∀ b,S b→b < w0.heap.size) (hl:d.bd.length=4) (hsm:∀ t∈d.bd,yC [t]≤2000) (hb:deedB a≤1048576) (hn:d.sends.length≤1000∧d.spawns.length≤1000∧d.links.length≤1000) (hx:0≤d.next∧d.next≤1000)  (hk:a.kind=3):Calls Tryz.prog 40 #[.pointer (some ⟨db,0,none⟩),.agg c.toArray] w (DDoP P Qz wz w0 w db bb bc self (doA self d a) bs):=by
 obtain ⟨a1,p1,a2,p2,rfl,ht1,ht2⟩:=hv
 obtain ⟨bd,next,sends,spawns,links,fate,bad⟩:=d
 obtain ⟨kk,tg,what,an,var⟩:=a
 simp only at hk h hl hsm hn hx hb ht1 ht2
 subst hk
 obtain ⟨W0,hW0⟩:=I (w.alloc (.cells #[.int .i64 3,.int .i64 tg.kind,.int .i64 tg.n,.string tg.name,.slice a1 tg.args.length p1,.int .i64 what.kind,.int .i64 what.n,.string what.name,.slice a2 what.args.length p2,.string an,.int .i64 var] 84))
 obtain ⟨g3,hg3⟩:=I (w.heap.size)
 have HBUL:Hid (yC bd≤8000∧yC [tg]≤1048576∧yC [what]≤1048576):=J (by
  have h1:=bulk_eachP 2000 bd hsm
  rw [hl] at h1
  simp only [deedB] at hb
  omega)
 have HM0:Hid (DoM P Qz wz w0 W0 db bb bc (doerC (.slice (some ⟨bb,0,none⟩) 4 bc) self next (outC fate vs vp vl) bad) bd ((g3,[.int .i64 3,.int .i64 tg.kind,.int .i64 tg.n,.string tg.name,.slice a1 tg.args.length p1,.int .i64 what.kind,.int .i64 what.n,.string what.name,.slice a2 what.args.length p2,.string an,.int .i64 var]) :: bs) [rSnd vs sends,rSpn vp spawns,rLnk vl links]):=J (by rw [hW0];exact DoM.alloc h #[.int .i64 3,.int .i64 tg.kind,.int .i64 tg.n,.string tg.name,.slice a1 tg.args.length p1,.int .i64 what.kind,.int .i64 what.n,.string what.name,.slice a2 what.args.length p2,.string an,.int .i64 var] 84 hg3)
 have HT1:Hid (RT S W0 tg (.agg #[.int .i64 tg.kind,.int .i64 tg.n,.string tg.name,.slice a1 tg.args.length p1])):=J (by rw [hW0];exact ht1.alloc _)
 have HT2:Hid (RT S W0 what (.agg #[.int .i64 what.kind,.int .i64 what.n,.string what.name,.slice a2 what.args.length p2])):=J (by rw [hW0];exact ht2.alloc _)
 have HSS:=J hS
 have HS0:Hid (W0.heap.size=w.heap.size+1∧w0.heap.size≤db∧w0.heap.size≤w.heap.size∧g3=w.heap.size):=J ⟨by rw [hW0];simp,(DoM.lt h).1,h.rq.bel.size,hg3⟩
 have HSM:=J hsm
 have HL:=J hl
 clear h ht1 ht2 hS hb hsm
 go_enter Tryz.func40,Tryz.ntmps40
 go_upto_region 1 with fail
 rw [←hW0,←hg3]
 clear hW0 hg3
 have y0:=HM0.out.cell mS0 0 _ rfl
 have y1:=HM0.out.cell mS0 1 _ rfl
 have y2:=HM0.out.cell mS0 2 _ rfl
 have y3:=HM0.out.cell mS0 3 _ rfl
 have y4:=HM0.out.cell mS0 4 _ rfl
 have y5:=HM0.out.cell mS0 5 _ rfl
 have y6:=HM0.out.cell mS0 6 _ rfl
 have y7:=HM0.out.cell mS0 7 _ rfl
 have y8:=HM0.out.cell mS0 8 _ rfl
 have y9:=HM0.out.cell mS0 9 _ rfl
 have y10:=HM0.out.cell mS0 10 _ rfl
 obtain ⟨⟨pt,pn⟩,hrpt⟩:∃ r,r=reckO bd self tg:=⟨_,rfl⟩
 have HRP:=J hrpt
 have HDO:Hid (doA self ⟨bd,next,sends,spawns,links,fate,bad⟩ ⟨3,tg,what,an,var⟩=⟨bd,next,sends,spawns,links ++ [pt.n],fate,(bad || pn != 0) || pt.kind != 3⟩):=J (by unfold doA;rw [if_neg (show ¬(3:Int)=1 by decide),if_neg (show ¬(3:Int)=2 by decide),if_pos rfl,←hrpt])
 clear hrpt
 go_upto_region 11 with fail
 clear y0 y1 y2 y3 y4 y5 y6 y7 y8 y9 y10
 refine yK (fun w'=>w'.cell? ⟨g3,1,none⟩=some (.int .i64 tg.kind)∧w'.cell? ⟨g3,2,none⟩=some (.int .i64 tg.n)∧w'.cell? ⟨g3,3,none⟩=some (.string tg.name)∧w'.cell? ⟨g3,4,none⟩=some (.slice a1 tg.args.length p1)) (by as_aux_lemma=>kernel_rfl) (fun Wd h=>⟨(J (HM0.out.below h)).out.cell mS0 1 _ rfl,(J (HM0.out.below h)).out.cell mS0 2 _ rfl,(J (HM0.out.below h)).out.cell mS0 3 _ rfl,(J (HM0.out.below h)).out.cell mS0 4 _ rfl⟩) ?_
 intro V0 hB hWd hWd' hHeld
 have HAV0:=J (HM0.out.below hB)
 clear hB
 refine rgT 0 _ hHeld ?_
 refine rgT 1 _ hHeld ?_
 refine rgT 2 _ hHeld ?_
 refine rgT 3 _ hHeld ?_
 refine rgT 4 _ hHeld ?_
 refine rgT 6 _ hHeld ?_
 refine rgT 7 _ hHeld ?_
 refine rgT 8 _ hHeld ?_
 refine rgW 5 9 (fun K hK=>?_) fun K hK=>?_
 focus
  have z10:=HAV0.out.blk.cell 10 _ rfl
  go_simp
  clear z10
  refine hK.out _ _ (⟨HAV0.out.cell mS0 1 _ rfl,HAV0.out.cell mS0 2 _ rfl,HAV0.out.cell mS0 3 _ rfl,HAV0.out.cell mS0 4 _ rfl⟩) fun _=>?_
  clear hK K hHeld;rename_i hHeld;try simp only [Act.put,pA,pB,pC]
  refine rgO 9 fun K hK=>?_
 all_goals
  go_simp
  go_at_call 67
  refine (dpid_c db _ self next _ rfl bad bd tg (fun b=>b < V0.heap.size∧b≠db) V0 _ HAV0.out.blk (HT1.out.to (fun b hb _=>by have:=HSS.out b hb;have:=HS0.out;have:=HAV0.out.rq.bel.size;omega) fun b hb _=>(HAV0.out.rq.bel.block b (HSS.out b hb)).trans (HM0.out.rq.bel.block b (HSS.out b hb)).symm) HAV0.out.rslB (fun b hb=>hb) (by have:=HBUL.out;omega)).mono ?_
  intro e V1 hcall
  rw [←HRP.out] at hcall
  obtain ⟨rfl,hK1,hX1⟩:=hcall
  have hX1:Blk V1 db (doerC (.slice (some ⟨bb,0,none⟩) 4 bc) self next (outC fate vs vp vl) ((bad || pn != 0) || pt.kind != 3)):=hX1
  obtain ⟨b1,hb1⟩:∃ b,b=((bad || pn != 0) || pt.kind != 3):=⟨_,rfl⟩
  rw [←hb1] at hX1
  have HB1:=J hb1
  obtain ⟨P1,hP1⟩:∃ Q:Nat→Prop,Q=fun b=>P b∨(V0.heap.size≤b∧b < V1.heap.size):=⟨_,rfl⟩
  have HAV1:Hid (DoM P1 Qz wz w0 V1 db bb bc (doerC (.slice (some ⟨bb,0,none⟩) 4 bc) self next (outC fate vs vp vl) b1) bd ((g3,[.int .i64 3,.int .i64 tg.kind,.int .i64 tg.n,.string tg.name,.slice a1 tg.args.length p1,.int .i64 what.kind,.int .i64 what.n,.string what.name,.slice a2 what.args.length p2,.string an,.int .i64 var]) :: bs) [rSnd vs sends,rSpn vp spawns,rLnk vl links]):=J (by rw [hP1];exact HAV0.out.keep hK1 hX1)
  have hsV1:V0.heap.size≤V1.heap.size:=hK1.size
  have HP1:Hid (∀ b,P1 b→P b∨w.heap.size≤b):=J fun b hb=>by
   rw [hP1] at hb
   rcases hb with hb | hb
   ·exact .inl hb
   ·exact .inr (by have:=HS0.out;omega)
  clear hK1 hX1 hP1 hb1
  refine hK.out _ _ (⟨HAV1.out.cell mS0 1 _ rfl,HAV1.out.cell mS0 2 _ rfl,HAV1.out.cell mS0 3 _ rfl,HAV1.out.cell mS0 4 _ rfl⟩) fun _=>?_
  clear hK K hHeld;rename_i hHeld;try simp only [Act.put,pA,pB,pC]
 rotate_left 1
 all_goals first | (refine rgO 10 fun K hK=>?_) | skip
 refine rgW 5 10 (fun K hK=>?_) fun K hK=>?_
 focus
  have z10:=HAV1.out.blk.cell 10 _ rfl
  go_simp
  clear z10
  refine hK.out _ _ (⟨HAV1.out.cell mS0 1 _ rfl,HAV1.out.cell mS0 2 _ rfl,HAV1.out.cell mS0 3 _ rfl,HAV1.out.cell mS0 4 _ rfl⟩) fun _=>?_
  clear hK K hHeld;rename_i hHeld;try simp only [Act.put,pA,pB,pC]
  refine rgO 10 fun K hK=>?_
 all_goals
  refine buildL1 _ rfl (by rfl) ?_
  obtain ⟨V2,hV2⟩:=I (V1.alloc (.cells #[.int .i64 pt.n] 3))
  obtain ⟨gz,hgz⟩:=I (V1.heap.size)
  have HAV2:Hid (DoM P1 Qz wz w0 V2 db bb bc (doerC (.slice (some ⟨bb,0,none⟩) 4 bc) self next (outC fate vs vp vl) b1) bd ((gz,[.int .i64 pt.n]) :: (g3,[.int .i64 3,.int .i64 tg.kind,.int .i64 tg.n,.string tg.name,.slice a1 tg.args.length p1,.int .i64 what.kind,.int .i64 what.n,.string what.name,.slice a2 what.args.length p2,.string an,.int .i64 var]) :: bs) [rSnd vs sends,rSpn vp spawns,rLnk vl links]):=J (by rw [hV2];exact HAV1.out.alloc #[.int .i64 pt.n] _ hgz)
  have hsV2:V1.heap.size≤V2.heap.size:=by rw [hV2];simp
  show K _ (V1.alloc (.cells #[.int .i64 pt.n] 3))
  rw [←hV2,←hgz]
  clear hV2 hgz
  refine hK.out _ _ (⟨HAV2.out.cell mS1 1 _ rfl,HAV2.out.cell mS1 2 _ rfl,HAV2.out.cell mS1 3 _ rfl,HAV2.out.cell mS1 4 _ rfl⟩) fun _=>?_
  clear hK K hHeld;rename_i hHeld;try simp only [Act.put,pA,pB,pC]
 rotate_left 1
 focus
  refine rgO 5 fun K hK=>?_
  have z10:=HAV2.out.blk.cell 10 _ rfl
  go_simp
  clear z10
  refine hK.out _ _ (⟨HAV2.out.cell mS1 1 _ rfl,HAV2.out.cell mS1 2 _ rfl,HAV2.out.cell mS1 3 _ rfl,HAV2.out.cell mS1 4 _ rfl⟩) fun _=>?_
  clear hK K hHeld;rename_i hHeld;try simp only [Act.put,pA,pB,pC]
 all_goals
  refine rgO 11 fun K hK=>?_
  refine wp_growQ (w:=V2) _ _ lnkF rfl [rSnd vs sends,rSpn vp spawns] [] (v:=vl) (xs:=links) (y:=pt.n) (g0:=gz) (c:=[.int .i64 pt.n]) (by rfl) (by rfl) HAV2.out.rq mS0 rfl rfl (by omega) ?_
  intro gn on cn V3 hz hzg
  have HAV3:Hid (DoM P1 Qz wz w0 V3 db bb bc (doerC (.slice (some ⟨bb,0,none⟩) 4 bc) self next (outC fate vs vp vl) b1) bd ((gz,[.int .i64 pt.n]) :: (g3,[.int .i64 3,.int .i64 tg.kind,.int .i64 tg.n,.string tg.name,.slice a1 tg.args.length p1,.int .i64 what.kind,.int .i64 what.n,.string what.name,.slice a2 what.args.length p2,.string an,.int .i64 var]) :: bs) ([rSnd vs sends,rSpn vp spawns] ++ rLnk (.slice (some ⟨gn,on,none⟩) (links.length+1) cn) (links ++ [pt.n]) :: [])):=J (DoM.grown (l1:=[rSnd vs sends,rSpn vp spawns]) (l2:=[]) (r:=rLnk vl links) HAV2.out hzg hz)
  have hsV3:V2.heap.size≤V3.heap.size:=hzg.size
  clear hz hzg
  refine hK.out _ _ (⟨HAV3.out.cell mS1 1 _ rfl,HAV3.out.cell mS1 2 _ rfl,HAV3.out.cell mS1 3 _ rfl,HAV3.out.cell mS1 4 _ rfl⟩) fun _=>?_
  clear hK K hHeld;rename_i hHeld;try simp only [Act.put,pA,pB,pC]
 all_goals
  refine rgT 12 _ hHeld ?_
 all_goals
  refine rgT 13 _ hHeld ?_
 all_goals
  refine rgT 14 _ hHeld ?_
 all_goals
  refine rgO 15 fun K hK=>?_
  have zf:=HAV3.out.blk.fr
  have zc:=HAV3.out.blk.cell 10 _ rfl
  have zl:=HAV3.out.blk.lt
  go_simp
  obtain ⟨V4,hV4⟩:=I (V3.setCell ⟨db,10,none⟩ (.slice (some ⟨gn,on,none⟩) (links.length+1) cn))
  have HAV4:Hid (DoM P1 Qz wz w0 V4 db bb bc (doerC (.slice (some ⟨bb,0,none⟩) 4 bc) self next (outC fate vs vp (.slice (some ⟨gn,on,none⟩) (links.length+1) cn)) b1) bd ((gz,[.int .i64 pt.n]) :: (g3,[.int .i64 3,.int .i64 tg.kind,.int .i64 tg.n,.string tg.name,.slice a1 tg.args.length p1,.int .i64 what.kind,.int .i64 what.n,.string what.name,.slice a2 what.args.length p2,.string an,.int .i64 var]) :: bs) ([rSnd vs sends,rSpn vp spawns] ++ rLnk (.slice (some ⟨gn,on,none⟩) (links.length+1) cn) (links ++ [pt.n]) :: [])):=J (by rw [hV4];exact HAV3.out.set 10 _ (by simp [doerC,outC]))
  have hsV4:V3.heap.size≤V4.heap.size:=by rw [hV4];simp
  rw [←hV4]
  clear hV4 zf zc zl
  refine hK.out _ _ (⟨HAV4.out.cell mS1 1 _ rfl,HAV4.out.cell mS1 2 _ rfl,HAV4.out.cell mS1 3 _ rfl,HAV4.out.cell mS1 4 _ rfl⟩) fun _=>?_
  clear hK K hHeld;rename_i hHeld;try simp only [Act.put,pA,pB,pC]
 all_goals
  refine rgD ?_
  clear hHeld
  go_wp2_with fail
  refine bodyPost_end (results_none Tryz.results40 _ _ _) rfl ⟨rfl,by have:=HS0.out;omega,P1,vs,vp,(.slice (some ⟨gn,on,none⟩) (links.length+1) cn),?_,HP1.out⟩
  rw [HDO.out,←HB1.out]
  exact HAV4.out.sub (fun p hp=>by simp [hp])
theorem dstop_c (P Qz:Nat→Prop) (wz w0 w:World) (db bb bc:Nat) (self:Int) (d:Dst) (bs:List (Nat×List Value)) (vs vp vl:Value) (a:Deed) (c:List Value) (S:Nat→Prop) (h:DoS P Qz wz w0 w db bb bc self d bs vs vp vl) (hv:deedC S w a c) (hS:∀ b,S b→b < w0.heap.size) (hl:d.bd.length=4) (hsm:∀ t∈d.bd,yC [t]≤2000) (hb:deedB a≤1048576) (hn:d.sends.length≤1000∧d.spawns.length≤1000∧d.links.length≤1000) (hx:0≤d.next∧d.next≤1000)  (hk:a.kind=4):Calls Tryz.prog 40 #[.pointer (some ⟨db,0,none⟩),.agg c.toArray] w (DDoP P Qz wz w0 w db bb bc self (doA self d a) bs):=by
 obtain ⟨a1,p1,a2,p2,rfl,ht1,ht2⟩:=hv
 obtain ⟨bd,next,sends,spawns,links,fate,bad⟩:=d
 obtain ⟨kk,tg,what,an,var⟩:=a
 simp only at hk h hl hsm hn hx hb ht1 ht2
 subst hk
 obtain ⟨W0,hW0⟩:=I (w.alloc (.cells #[.int .i64 4,.int .i64 tg.kind,.int .i64 tg.n,.string tg.name,.slice a1 tg.args.length p1,.int .i64 what.kind,.int .i64 what.n,.string what.name,.slice a2 what.args.length p2,.string an,.int .i64 var] 84))
 obtain ⟨g3,hg3⟩:=I (w.heap.size)
 have HBUL:Hid (yC bd≤8000∧yC [tg]≤1048576∧yC [what]≤1048576):=J (by
  have h1:=bulk_eachP 2000 bd hsm
  rw [hl] at h1
  simp only [deedB] at hb
  omega)
 have HM0:Hid (DoM P Qz wz w0 W0 db bb bc (doerC (.slice (some ⟨bb,0,none⟩) 4 bc) self next (outC fate vs vp vl) bad) bd ((g3,[.int .i64 4,.int .i64 tg.kind,.int .i64 tg.n,.string tg.name,.slice a1 tg.args.length p1,.int .i64 what.kind,.int .i64 what.n,.string what.name,.slice a2 what.args.length p2,.string an,.int .i64 var]) :: bs) [rSnd vs sends,rSpn vp spawns,rLnk vl links]):=J (by rw [hW0];exact DoM.alloc h #[.int .i64 4,.int .i64 tg.kind,.int .i64 tg.n,.string tg.name,.slice a1 tg.args.length p1,.int .i64 what.kind,.int .i64 what.n,.string what.name,.slice a2 what.args.length p2,.string an,.int .i64 var] 84 hg3)
 have HT1:Hid (RT S W0 tg (.agg #[.int .i64 tg.kind,.int .i64 tg.n,.string tg.name,.slice a1 tg.args.length p1])):=J (by rw [hW0];exact ht1.alloc _)
 have HT2:Hid (RT S W0 what (.agg #[.int .i64 what.kind,.int .i64 what.n,.string what.name,.slice a2 what.args.length p2])):=J (by rw [hW0];exact ht2.alloc _)
 have HSS:=J hS
 have HS0:Hid (W0.heap.size=w.heap.size+1∧w0.heap.size≤db∧w0.heap.size≤w.heap.size∧g3=w.heap.size):=J ⟨by rw [hW0];simp,(DoM.lt h).1,h.rq.bel.size,hg3⟩
 have HSM:=J hsm
 have HL:=J hl
 clear h ht1 ht2 hS hb hsm
 go_enter Tryz.func40,Tryz.ntmps40
 go_upto_region 1 with fail
 rw [←hW0,←hg3]
 clear hW0 hg3
 have y0:=HM0.out.cell mS0 0 _ rfl
 have y1:=HM0.out.cell mS0 1 _ rfl
 have y2:=HM0.out.cell mS0 2 _ rfl
 have y3:=HM0.out.cell mS0 3 _ rfl
 have y4:=HM0.out.cell mS0 4 _ rfl
 have y5:=HM0.out.cell mS0 5 _ rfl
 have y6:=HM0.out.cell mS0 6 _ rfl
 have y7:=HM0.out.cell mS0 7 _ rfl
 have y8:=HM0.out.cell mS0 8 _ rfl
 have y9:=HM0.out.cell mS0 9 _ rfl
 have y10:=HM0.out.cell mS0 10 _ rfl
 have HDO:Hid (doA self ⟨bd,next,sends,spawns,links,fate,bad⟩ ⟨4,tg,what,an,var⟩=⟨bd,next,sends,spawns,links,1,bad⟩):=J (by unfold doA;rw [if_neg (show ¬(4:Int)=1 by decide),if_neg (show ¬(4:Int)=2 by decide),if_neg (show ¬(4:Int)=3 by decide),if_pos rfl])
 have zf:=HM0.out.blk.fr
 have zc:=HM0.out.blk.cell 7 _ rfl
 have zl:=HM0.out.blk.lt
 go_wp2_with fail
 refine bodyPost_end (results_none Tryz.results40 _ _ _) rfl ⟨rfl,by have:=HS0.out;simp;omega,P,vs,vp,vl,?_,fun b hb=>.inl hb⟩
 rw [HDO.out]
 exact (HM0.out.set 7 _ (by simp [doerC,outC])).sub (fun p hp=>by simp [hp])
theorem dother_c (P Qz:Nat→Prop) (wz w0 w:World) (db bb bc:Nat) (self:Int) (d:Dst) (bs:List (Nat×List Value)) (vs vp vl:Value) (a:Deed) (c:List Value) (S:Nat→Prop) (h:DoS P Qz wz w0 w db bb bc self d bs vs vp vl) (hv:deedC S w a c) (hS:∀ b,S b→b < w0.heap.size) (hl:d.bd.length=4) (hsm:∀ t∈d.bd,yC [t]≤2000) (hb:deedB a≤1048576) (hn:d.sends.length≤1000∧d.spawns.length≤1000∧d.links.length≤1000) (hx:0≤d.next∧d.next≤1000) (h1:a.kind≠1) (h2:a.kind≠2) (h3:a.kind≠3) (h4:a.kind≠4)  : Calls Tryz.prog 40 #[.pointer (some ⟨db,0,none⟩),.agg c.toArray] w (DDoP P Qz wz w0 w db bb bc self (doA self d a) bs):=by
 obtain ⟨a1,p1,a2,p2,rfl,ht1,ht2⟩:=hv
 obtain ⟨bd,next,sends,spawns,links,fate,bad⟩:=d
 obtain ⟨kk,tg,what,an,var⟩:=a
 simp only at h1 h2 h3 h4 h hl hsm hn hx hb ht1 ht2
 obtain ⟨W0,hW0⟩:=I (w.alloc (.cells #[.int .i64 kk,.int .i64 tg.kind,.int .i64 tg.n,.string tg.name,.slice a1 tg.args.length p1,.int .i64 what.kind,.int .i64 what.n,.string what.name,.slice a2 what.args.length p2,.string an,.int .i64 var] 84))
 obtain ⟨g3,hg3⟩:=I (w.heap.size)
 have HBUL:Hid (yC bd≤8000∧yC [tg]≤1048576∧yC [what]≤1048576):=J (by
  have h1:=bulk_eachP 2000 bd hsm
  rw [hl] at h1
  simp only [deedB] at hb
  omega)
 have HM0:Hid (DoM P Qz wz w0 W0 db bb bc (doerC (.slice (some ⟨bb,0,none⟩) 4 bc) self next (outC fate vs vp vl) bad) bd ((g3,[.int .i64 kk,.int .i64 tg.kind,.int .i64 tg.n,.string tg.name,.slice a1 tg.args.length p1,.int .i64 what.kind,.int .i64 what.n,.string what.name,.slice a2 what.args.length p2,.string an,.int .i64 var]) :: bs) [rSnd vs sends,rSpn vp spawns,rLnk vl links]):=J (by rw [hW0];exact DoM.alloc h #[.int .i64 kk,.int .i64 tg.kind,.int .i64 tg.n,.string tg.name,.slice a1 tg.args.length p1,.int .i64 what.kind,.int .i64 what.n,.string what.name,.slice a2 what.args.length p2,.string an,.int .i64 var] 84 hg3)
 have HT1:Hid (RT S W0 tg (.agg #[.int .i64 tg.kind,.int .i64 tg.n,.string tg.name,.slice a1 tg.args.length p1])):=J (by rw [hW0];exact ht1.alloc _)
 have HT2:Hid (RT S W0 what (.agg #[.int .i64 what.kind,.int .i64 what.n,.string what.name,.slice a2 what.args.length p2])):=J (by rw [hW0];exact ht2.alloc _)
 have HSS:=J hS
 have HS0:Hid (W0.heap.size=w.heap.size+1∧w0.heap.size≤db∧w0.heap.size≤w.heap.size∧g3=w.heap.size):=J ⟨by rw [hW0];simp,(DoM.lt h).1,h.rq.bel.size,hg3⟩
 have HSM:=J hsm
 have HL:=J hl
 clear h ht1 ht2 hS hb hsm
 go_enter Tryz.func40,Tryz.ntmps40
 go_upto_region 1 with fail
 rw [←hW0,←hg3]
 clear hW0 hg3
 have y0:=HM0.out.cell mS0 0 _ rfl
 have y1:=HM0.out.cell mS0 1 _ rfl
 have y2:=HM0.out.cell mS0 2 _ rfl
 have y3:=HM0.out.cell mS0 3 _ rfl
 have y4:=HM0.out.cell mS0 4 _ rfl
 have y5:=HM0.out.cell mS0 5 _ rfl
 have y6:=HM0.out.cell mS0 6 _ rfl
 have y7:=HM0.out.cell mS0 7 _ rfl
 have y8:=HM0.out.cell mS0 8 _ rfl
 have y9:=HM0.out.cell mS0 9 _ rfl
 have y10:=HM0.out.cell mS0 10 _ rfl
 have HDO:Hid (doA self ⟨bd,next,sends,spawns,links,fate,bad⟩ ⟨kk,tg,what,an,var⟩=⟨bd,next,sends,spawns,links,fate,bad⟩):=J (by unfold doA;rw [if_neg h1,if_neg h2,if_neg h3,if_neg h4])
 have q1:(kk == 1)=false:=by simpa using h1
 have q2:(kk == 2)=false:=by simpa using h2
 have q3:(kk == 3)=false:=by simpa using h3
 have q4:(kk == 4)=false:=by simpa using h4
 go_wp2_with fail
 refine bodyPost_end (results_none Tryz.results40 _ _ _) rfl ⟨rfl,by have:=HS0.out;omega,P,vs,vp,vl,?_,fun b hb=>.inl hb⟩
 rw [HDO.out]
 exact HM0.out.sub (fun p hp=>by simp [hp])
theorem pidTm_rt (S:Nat→Prop) (w:World) (n:Int):RT S w (pidTm n) (.agg #[.int .i64 3,.int .i64 n,.string ⟨#[]⟩,.slice none 0 0]):=⟨none,0,rfl,⟨Nat.le_refl _,fun _=>rfl⟩,by simp [pidTm,RTs]⟩
theorem dspawn_c (P Qz:Nat→Prop) (wz w0 w:World) (db bb bc:Nat) (self:Int) (d:Dst) (bs:List (Nat×List Value)) (vs vp vl:Value) (a:Deed) (c:List Value) (S:Nat→Prop) (h:DoS P Qz wz w0 w db bb bc self d bs vs vp vl) (hv:deedC S w a c) (hS:∀ b,S b→b < w0.heap.size) (hl:d.bd.length=4) (hsm:∀ t∈d.bd,yC [t]≤2000) (hb:deedB a≤1048576) (hn:d.sends.length≤1000∧d.spawns.length≤1000∧d.links.length≤1000) (hx:0≤d.next∧d.next≤1000) (hvar:0≤a.var∧a.var≤3) (hk:a.kind=2):Calls Tryz.prog 40 #[.pointer (some ⟨db,0,none⟩),.agg c.toArray] w (DDoP P Qz wz w0 w db bb bc self (doA self d a) bs):=by
 obtain ⟨a1,p1,a2,p2,rfl,ht1,ht2⟩:=hv
 obtain ⟨bd,next,sends,spawns,links,fate,bad⟩:=d
 obtain ⟨kk,tg,what,an,var⟩:=a
 simp only at hk h hl hsm hn hx hb ht1 ht2
 simp only at hvar
 obtain ⟨k,hkv,hk4⟩:∃ k:Nat,var=(k:Int)∧k < 4:=⟨var.toNat,by omega,by omega⟩
 subst hk hkv
 have HK4:=J hk4
 have HNX:=J hx
 obtain ⟨W0,hW0⟩:=I (w.alloc (.cells #[.int .i64 2,.int .i64 tg.kind,.int .i64 tg.n,.string tg.name,.slice a1 tg.args.length p1,.int .i64 what.kind,.int .i64 what.n,.string what.name,.slice a2 what.args.length p2,.string an,.int .i64 (k:Int)] 84))
 obtain ⟨g3,hg3⟩:=I (w.heap.size)
 have HBUL:Hid (yC bd≤8000∧yC [tg]≤1048576∧yC [what]≤1048576):=J (by
  have h1:=bulk_eachP 2000 bd hsm
  rw [hl] at h1
  simp only [deedB] at hb
  omega)
 have HM0:Hid (DoM P Qz wz w0 W0 db bb bc (doerC (.slice (some ⟨bb,0,none⟩) 4 bc) self next (outC fate vs vp vl) bad) bd ((g3,[.int .i64 2,.int .i64 tg.kind,.int .i64 tg.n,.string tg.name,.slice a1 tg.args.length p1,.int .i64 what.kind,.int .i64 what.n,.string what.name,.slice a2 what.args.length p2,.string an,.int .i64 (k:Int)]) :: bs) [rSnd vs sends,rSpn vp spawns,rLnk vl links]):=J (by rw [hW0];exact DoM.alloc h #[.int .i64 2,.int .i64 tg.kind,.int .i64 tg.n,.string tg.name,.slice a1 tg.args.length p1,.int .i64 what.kind,.int .i64 what.n,.string what.name,.slice a2 what.args.length p2,.string an,.int .i64 (k:Int)] 84 hg3)
 have HT1:Hid (RT S W0 tg (.agg #[.int .i64 tg.kind,.int .i64 tg.n,.string tg.name,.slice a1 tg.args.length p1])):=J (by rw [hW0];exact ht1.alloc _)
 have HT2:Hid (RT S W0 what (.agg #[.int .i64 what.kind,.int .i64 what.n,.string what.name,.slice a2 what.args.length p2])):=J (by rw [hW0];exact ht2.alloc _)
 have HSS:=J hS
 have HS0:Hid (W0.heap.size=w.heap.size+1∧w0.heap.size≤db∧w0.heap.size≤w.heap.size∧g3=w.heap.size):=J ⟨by rw [hW0];simp,(DoM.lt h).1,h.rq.bel.size,hg3⟩
 have HSM:=J hsm
 have HL:=J hl
 clear h ht1 ht2 hS hb hsm
 go_enter Tryz.func40,Tryz.ntmps40
 go_upto_region 1 with fail
 rw [←hW0,←hg3]
 clear hW0 hg3
 have y0:=HM0.out.cell mS0 0 _ rfl
 have y1:=HM0.out.cell mS0 1 _ rfl
 have y2:=HM0.out.cell mS0 2 _ rfl
 have y3:=HM0.out.cell mS0 3 _ rfl
 have y4:=HM0.out.cell mS0 4 _ rfl
 have y5:=HM0.out.cell mS0 5 _ rfl
 have y6:=HM0.out.cell mS0 6 _ rfl
 have y7:=HM0.out.cell mS0 7 _ rfl
 have y8:=HM0.out.cell mS0 8 _ rfl
 have y9:=HM0.out.cell mS0 9 _ rfl
 have y10:=HM0.out.cell mS0 10 _ rfl
 obtain ⟨⟨t,n⟩,hrt⟩:∃ r,r=reckO bd self what:=⟨_,rfl⟩
 have HRT:=J hrt
 obtain ⟨u,hu⟩:∃ u,u=bd[k]'(by rw [hl];exact hk4):=⟨_,rfl⟩
 have HDO:Hid (doA self ⟨bd,next,sends,spawns,links,fate,bad⟩ ⟨2,tg,what,an,(k:Int)⟩=⟨bd.set k (pidTm next),next+1,sends,spawns ++ [(next,an,t)],links,fate,(bad || !(u.kind == 6)) || n != 0⟩):=J (by
  unfold doA
  have e:bd.getD (k:Int).toNat yJ=u:=by rw [hu,Int.toNat_natCast,List.getD_eq_getElem?_getD,List.getElem?_eq_getElem (by rw [hl];exact hk4)];rfl
  rw [if_neg (show ¬(2:Int)=1 by decide),if_pos rfl,←hrt]
  simp only [e]
  rfl)
 obtain ⟨ab,capb,eb,-,hrb⟩:=HM0.out.rslB
 simp only [Value.slice.injEq] at eb
 obtain ⟨rfl,-,rfl⟩:=eb
 obtain ⟨ua,uc,hSb,d0,d1,d2,d3,hE⟩:=hrb.elem k (by rw [hl];exact hk4)
 rw [←hu] at d0 d1 d2 d3 hE
 (try simp only [Nat.zero_add] at d0 d1 d2 d3)
 have HE:=J hE
 have HQ6:Hid (∀ w':World,w'.heap[bb]?=W0.heap[bb]?→w'.cell? ⟨bb,k * 4,none⟩=some (.int .i64 u.kind)∧w'.cell? ⟨bb,k * 4+1,none⟩=some (.int .i64 u.n)∧w'.cell? ⟨bb,k * 4+2,none⟩=some (.string u.name)∧w'.cell? ⟨bb,k * 4+3,none⟩=some (.slice ua u.args.length uc)):=J fun w' h=>by
  have q:=fun o=>World.cell?_of_block (w:=W0) (a:=⟨bb,o,none⟩) h
  exact ⟨(q _).trans d0,(q _).trans d1,(q _).trans d2,(q _).trans d3⟩
 have hk4i:(k:Int) < 4:=by omega
 have hwr:IntKind.i64.wrap (next+1)=next+1:=by (have:=HNX.out);rw [IntKind.wrap_i64];omega
 clear hrt hu hrb d0 d1 d2 d3 hE hSb
 go_upto_region 6 with fail
 clear y0 y1 y2 y3 y4 y5 y6 y7 y8 y9 y10
 go_cut [] (fun wx=>∃ b0:Bool,b0=(bad || !(u.kind == 6))∧W0.heap.size≤wx.heap.size∧DoM P Qz wz w0 wx db bb bc (doerC (.slice (some ⟨bb,0,none⟩) 4 bc) self next (outC fate vs vp vl) b0) bd ((g3,[.int .i64 2,.int .i64 tg.kind,.int .i64 tg.n,.string tg.name,.slice a1 tg.args.length p1,.int .i64 what.kind,.int .i64 what.n,.string what.name,.slice a2 what.args.length p2,.string an,.int .i64 (k:Int)]) :: bs) [rSnd vs sends,rSpn vp spawns,rLnk vl links])
 case first =>
  cases bad
  ·skip
   refine yK (fun w'=>w'.cell? ⟨db,0,none⟩=some (.slice (some ⟨bb,0,none⟩) 4 bc)∧w'.cell? ⟨g3,10,none⟩=some (.int .i64 (k:Int))∧w'.cell? ⟨bb,k * 4,none⟩=some (.int .i64 u.kind)∧w'.cell? ⟨bb,k * 4+1,none⟩=some (.int .i64 u.n)∧w'.cell? ⟨bb,k * 4+2,none⟩=some (.string u.name)∧w'.cell? ⟨bb,k * 4+3,none⟩=some (.slice ua u.args.length uc)) (by as_aux_lemma=>kernel_rfl) (fun Wd h=>⟨(HM0.out.below h).blk.cell 0 _ rfl,(HM0.out.below h).cell mS0 10 _ rfl,HQ6.out _ (h.block bb HM0.out.lt.2.2.2)⟩) ?_
   intro Wa hB hWa hWa' hHeld
   have HMa:=J (HM0.out.below hB)
   have HMB:=J hB
   have HMb:Hid (Wa.heap[bb]?=W0.heap[bb]?):=J (hB.block bb HM0.out.lt.2.2.2)
   clear hB
   refine rgT 0 _ hHeld ?_
   refine rgT 1 _ hHeld ?_
   refine rgT 2 _ hHeld ?_
   refine rgT 3 _ hHeld ?_
   refine rgO 4 fun K hK=>?_
   have zb:=HMa.out.blk.cell 11 _ rfl
   go_simp
   clear zb
   refine hK.out _ _ (⟨HMa.out.blk.cell 0 _ rfl,HMa.out.cell mS0 10 _ rfl,HQ6.out _ (HMb.out)⟩) fun _=>?_
   clear hK K hHeld;rename_i hHeld;try simp only [Act.put,pA,pB,pC]
   refine rgT 5 _ hHeld ?_
   refine rgT 6 _ hHeld ?_
   refine rgT 7 _ hHeld ?_
   refine rgT 8 _ hHeld ?_
   refine rgT 9 _ hHeld ?_
   refine rgT 10 _ hHeld ?_
   refine rgT 11 _ hHeld ?_
   refine rgT 12 _ hHeld ?_
   refine rgT 13 _ hHeld ?_
   refine rgO 14 fun K hK=>?_
   go_simp
   go_at_call 68
   refine (free_c u (fun b=>b < W0.heap.size∧b≠db) Wa _ (HE.out.to (fun _ h _=>h) fun b hb _=>HMB.out.block b hb.1)).mono ?_
   rintro e Wb ⟨rfl,hB⟩
   have HMc:=J (HMa.out.below hB)
   have HMe:Hid (Wb.heap[bb]?=W0.heap[bb]?):=J ((hB.block bb HMa.out.lt.2.2.2).trans HMb.out)
   have hsWb:=hB.size
   clear hB
   refine hK.out _ _ (⟨HMc.out.blk.cell 0 _ rfl,HMc.out.cell mS0 10 _ rfl,HQ6.out _ (HMe.out)⟩) fun _=>?_
   clear hK K hHeld;rename_i hHeld;try simp only [Act.put,pA,pB,pC]
   refine rgT 15 _ hHeld ?_
   refine rgT 16 _ hHeld ?_
   refine rgT 17 _ hHeld ?_
   refine rgT 18 _ hHeld ?_
   refine rgO 19 fun K hK=>?_
   have zf:=HMc.out.blk.fr
   have zc:=HMc.out.blk.cell 11 _ rfl
   have zl:=HMc.out.blk.lt
   go_simp
   obtain ⟨U,hU⟩:=I (Wb.setCell ⟨db,11,none⟩ (.bool (!(u.kind == 6))))
   have HMU:Hid (DoM P Qz wz w0 U db bb bc (doerC (.slice (some ⟨bb,0,none⟩) 4 bc) self next (outC fate vs vp vl) (!(u.kind == 6))) bd ((g3,[.int .i64 2,.int .i64 tg.kind,.int .i64 tg.n,.string tg.name,.slice a1 tg.args.length p1,.int .i64 what.kind,.int .i64 what.n,.string what.name,.slice a2 what.args.length p2,.string an,.int .i64 (k:Int)]) :: bs) [rSnd vs sends,rSpn vp spawns,rLnk vl links]):=J (by rw [hU];exact HMc.out.set 11 _ (by simp [doerC,outC]))
   have hsU:Wb.heap.size≤U.heap.size:=by rw [hU];simp
   have HMf:Hid (U.heap[bb]?=W0.heap[bb]?):=J (by rw [hU];exact (yD Wb db 11 _ bb fun e=>HMc.out.ne e.symm).trans HMe.out)
   rw [←hU]
   clear hU zf zc zl
   refine hK.out _ _ (⟨HMU.out.blk.cell 0 _ rfl,HMU.out.cell mS0 10 _ rfl,HQ6.out _ (HMf.out)⟩) fun _=>?_
   clear hK K hHeld;rename_i hHeld;try simp only [Act.put,pA,pB,pC]
   refine rgD ?_
   clear hHeld
   go_wp2_with fail
   go_meet
   exact ⟨_,by simp,by omega,HMU.out⟩
  skip
  refine yK (fun _=>True) (by as_aux_lemma=>kernel_rfl) (fun Wd h=>trivial) ?_
  intro Wa hB hWa hWa' hHeld
  have HMa:=J (HM0.out.below hB)
  clear hB
  refine rgT 0 _ hHeld ?_
  refine rgT 1 _ hHeld ?_
  refine rgT 2 _ hHeld ?_
  refine rgT 3 _ hHeld ?_
  refine rgO 4 fun K hK=>?_
  have zb:=HMa.out.blk.cell 11 _ rfl
  go_simp
  clear zb
  refine hK.out _ _ (trivial) fun _=>?_
  clear hK K hHeld;rename_i hHeld;try simp only [Act.put,pA,pB,pC]
  refine rgT 5 _ hHeld ?_
  refine rgN 6 hHeld ?_
  refine rgN 7 hHeld ?_
  refine rgN 8 hHeld ?_
  refine rgN 9 hHeld ?_
  refine rgN 10 hHeld ?_
  refine rgN 11 hHeld ?_
  refine rgN 12 hHeld ?_
  refine rgN 13 hHeld ?_
  refine rgN 14 hHeld ?_
  refine rgN 15 hHeld ?_
  refine rgT 16 _ hHeld ?_
  refine rgT 17 _ hHeld ?_
  refine rgT 18 _ hHeld ?_
  refine rgO 19 fun K hK=>?_
  have zf:=HMa.out.blk.fr
  have zc:=HMa.out.blk.cell 11 _ rfl
  have zl:=HMa.out.blk.lt
  go_simp
  obtain ⟨U,hU⟩:=I (Wa.setCell ⟨db,11,none⟩ (.bool true))
  have HMU:Hid (DoM P Qz wz w0 U db bb bc (doerC (.slice (some ⟨bb,0,none⟩) 4 bc) self next (outC fate vs vp vl) true) bd ((g3,[.int .i64 2,.int .i64 tg.kind,.int .i64 tg.n,.string tg.name,.slice a1 tg.args.length p1,.int .i64 what.kind,.int .i64 what.n,.string what.name,.slice a2 what.args.length p2,.string an,.int .i64 (k:Int)]) :: bs) [rSnd vs sends,rSpn vp spawns,rLnk vl links]):=J (by rw [hU];exact HMa.out.set 11 _ (by simp [doerC,outC]))
  have hsU:Wa.heap.size≤U.heap.size:=by rw [hU];simp
  rw [←hU]
  clear hU zf zc zl
  refine hK.out _ _ (trivial) fun _=>?_
  clear hK K hHeld;rename_i hHeld;try simp only [Act.put,pA,pB,pC]
  refine rgD ?_
  clear hHeld
  go_wp2_with fail
  go_meet
  exact ⟨_,by simp,by omega,HMU.out⟩
 obtain ⟨b0,hb0,hsU,hMU⟩:=hcut
 obtain ⟨U,rfl⟩:∃ U:World,U=wc:=⟨_,rfl⟩
 have HB0:=J hb0;have HMU:=J hMU
 clear hb0 hMU
 go_upto_region 7 with fail
 refine yK (fun w'=>w'.cell? ⟨db,2,none⟩=some (.int .i64 next)∧w'.cell? ⟨g3,5,none⟩=some (.int .i64 what.kind)∧w'.cell? ⟨g3,6,none⟩=some (.int .i64 what.n)∧w'.cell? ⟨g3,7,none⟩=some (.string what.name)∧w'.cell? ⟨g3,8,none⟩=some (.slice a2 what.args.length p2)∧w'.cell? ⟨g3,9,none⟩=some (.string an)) (by as_aux_lemma=>kernel_rfl) (fun Wd h=>⟨(J (HMU.out.below h)).out.blk.cell 2 _ rfl,(J (HMU.out.below h)).out.cell mS0 5 _ rfl,(J (HMU.out.below h)).out.cell mS0 6 _ rfl,(J (HMU.out.below h)).out.cell mS0 7 _ rfl,(J (HMU.out.below h)).out.cell mS0 8 _ rfl,(J (HMU.out.below h)).out.cell mS0 9 _ rfl⟩) ?_
 intro V0 hB hWd hWd' hHeld
 have HAV0:=J (HMU.out.below hB)
 clear hB
 refine rgT 0 _ hHeld ?_
 refine rgT 1 _ hHeld ?_
 refine rgT 2 _ hHeld ?_
 refine rgT 3 _ hHeld ?_
 refine rgT 4 _ hHeld ?_
 refine rgT 6 _ hHeld ?_
 refine rgT 7 _ hHeld ?_
 refine rgT 8 _ hHeld ?_
 refine rgT 9 _ hHeld ?_
 refine rgT 10 _ hHeld ?_
 refine rgT 11 _ hHeld ?_
 refine rgT 12 _ hHeld ?_
 refine rgT 13 _ hHeld ?_
 refine rgT 14 _ hHeld ?_
 refine rgW 5 15 (fun K hK=>?_) fun K hK=>?_
 focus
  have z9:=HAV0.out.blk.cell 9 _ rfl
  go_simp
  clear z9
  refine hK.out _ _ (⟨HAV0.out.blk.cell 2 _ rfl,HAV0.out.cell mS0 5 _ rfl,HAV0.out.cell mS0 6 _ rfl,HAV0.out.cell mS0 7 _ rfl,HAV0.out.cell mS0 8 _ rfl,HAV0.out.cell mS0 9 _ rfl⟩) fun _=>?_
  clear hK K hHeld;rename_i hHeld;try simp only [Act.put,pA,pB,pC]
  refine rgO 15 fun K hK=>?_
 all_goals
  go_simp
  go_at_call 41
  refine (dval_c db _ self next _ rfl b0 bd what (fun b=>b < V0.heap.size∧b≠db) V0 _ HAV0.out.blk (HT2.out.to (fun b hb _=>by have:=HSS.out b hb;have:=HS0.out;have:=HAV0.out.rq.bel.size;omega) fun b hb _=>(HAV0.out.rq.bel.block b (HSS.out b hb)).trans (HM0.out.rq.bel.block b (HSS.out b hb)).symm) HAV0.out.rslB (fun b hb=>hb) (by have:=HBUL.out;omega)).mono ?_
  intro e V1 hcall
  rw [←HRT.out] at hcall
  obtain ⟨ar,cr,rfl,hK1,hX1,hT1⟩:=hcall
  have hX1:Blk V1 db (doerC (.slice (some ⟨bb,0,none⟩) 4 bc) self next (outC fate vs vp vl) (b0 || n != 0)):=hX1
  obtain ⟨b1,hb1⟩:∃ b,b=(b0 || n != 0):=⟨_,rfl⟩
  rw [←hb1] at hX1
  have HB1:=J hb1
  obtain ⟨P1,hP1⟩:∃ Q:Nat→Prop,Q=fun b=>P b∨(V0.heap.size≤b∧b < V1.heap.size):=⟨_,rfl⟩
  have HAV1:Hid (DoM P1 Qz wz w0 V1 db bb bc (doerC (.slice (some ⟨bb,0,none⟩) 4 bc) self next (outC fate vs vp vl) b1) bd ((g3,[.int .i64 2,.int .i64 tg.kind,.int .i64 tg.n,.string tg.name,.slice a1 tg.args.length p1,.int .i64 what.kind,.int .i64 what.n,.string what.name,.slice a2 what.args.length p2,.string an,.int .i64 (k:Int)]) :: bs) [rSnd vs sends,rSpn vp spawns,rLnk vl links]):=J (by rw [hP1];exact HAV0.out.keep hK1 hX1)
  have hsV1:V0.heap.size≤V1.heap.size:=hK1.size
  have HP1:Hid (∀ b,P1 b→P b∨w.heap.size≤b):=J fun b hb=>by
   rw [hP1] at hb
   rcases hb with hb | hb
   ·exact .inl hb
   ·exact .inr (by have:=HS0.out;omega)
  have HT:Hid (RT P1 V1 t (.agg #[.int .i64 t.kind,.int .i64 t.n,.string t.name,.slice ar t.args.length cr])):=J (by rw [hP1];exact hT1.to (fun b hb hl=>.inr ⟨hb,hl⟩) fun _ _ _=>rfl)
  clear hT1
  clear hK1 hX1 hP1 hb1
  refine hK.out _ _ (⟨HAV1.out.blk.cell 2 _ rfl,HAV1.out.cell mS0 5 _ rfl,HAV1.out.cell mS0 6 _ rfl,HAV1.out.cell mS0 7 _ rfl,HAV1.out.cell mS0 8 _ rfl,HAV1.out.cell mS0 9 _ rfl⟩) fun _=>?_
  clear hK K hHeld;rename_i hHeld;try simp only [Act.put,pA,pB,pC]
 rotate_left 1
 all_goals
  refine rgT 16 _ hHeld ?_
 all_goals first | (refine rgO 17 fun K hK=>?_) | skip
 refine rgW 5 17 (fun K hK=>?_) fun K hK=>?_
 focus
  have z9:=HAV1.out.blk.cell 9 _ rfl
  go_simp
  clear z9
  refine hK.out _ _ (⟨HAV1.out.blk.cell 2 _ rfl,HAV1.out.cell mS0 5 _ rfl,HAV1.out.cell mS0 6 _ rfl,HAV1.out.cell mS0 7 _ rfl,HAV1.out.cell mS0 8 _ rfl,HAV1.out.cell mS0 9 _ rfl⟩) fun _=>?_
  clear hK K hHeld;rename_i hHeld;try simp only [Act.put,pA,pB,pC]
  refine rgO 17 fun K hK=>?_
 all_goals
  refine buildP1 _ rfl (by rfl) ?_
  obtain ⟨V2,hV2⟩:=I (V1.alloc (.cells #[.int .i64 next,.string an,.int .i64 t.kind,.int .i64 t.n,.string t.name,.slice ar t.args.length cr] 108))
  obtain ⟨gz,hgz⟩:=I (V1.heap.size)
  have HAV2:Hid (DoM P1 Qz wz w0 V2 db bb bc (doerC (.slice (some ⟨bb,0,none⟩) 4 bc) self next (outC fate vs vp vl) b1) bd ((gz,[.int .i64 next,.string an,.int .i64 t.kind,.int .i64 t.n,.string t.name,.slice ar t.args.length cr]) :: (g3,[.int .i64 2,.int .i64 tg.kind,.int .i64 tg.n,.string tg.name,.slice a1 tg.args.length p1,.int .i64 what.kind,.int .i64 what.n,.string what.name,.slice a2 what.args.length p2,.string an,.int .i64 (k:Int)]) :: bs) [rSnd vs sends,rSpn vp spawns,rLnk vl links]):=J (by rw [hV2];exact HAV1.out.alloc #[.int .i64 next,.string an,.int .i64 t.kind,.int .i64 t.n,.string t.name,.slice ar t.args.length cr] _ hgz)
  have hsV2:V1.heap.size≤V2.heap.size:=by rw [hV2];simp
  have HT3:=J (show RT _ V2 t _ by rw [hV2];exact HT.out.alloc _)
  show K _ (V1.alloc (.cells #[.int .i64 next,.string an,.int .i64 t.kind,.int .i64 t.n,.string t.name,.slice ar t.args.length cr] 108))
  rw [←hV2,←hgz]
  clear hV2 hgz
  refine hK.out _ _ (⟨HAV2.out.blk.cell 2 _ rfl,HAV2.out.cell mS1 5 _ rfl,HAV2.out.cell mS1 6 _ rfl,HAV2.out.cell mS1 7 _ rfl,HAV2.out.cell mS1 8 _ rfl,HAV2.out.cell mS1 9 _ rfl⟩) fun _=>?_
  clear hK K hHeld;rename_i hHeld;try simp only [Act.put,pA,pB,pC]
 rotate_left 1
 focus
  refine rgO 5 fun K hK=>?_
  have z9:=HAV2.out.blk.cell 9 _ rfl
  go_simp
  clear z9
  refine hK.out _ _ (⟨HAV2.out.blk.cell 2 _ rfl,HAV2.out.cell mS1 5 _ rfl,HAV2.out.cell mS1 6 _ rfl,HAV2.out.cell mS1 7 _ rfl,HAV2.out.cell mS1 8 _ rfl,HAV2.out.cell mS1 9 _ rfl⟩) fun _=>?_
  clear hK K hHeld;rename_i hHeld;try simp only [Act.put,pA,pB,pC]
 all_goals
  refine rgO 18 fun K hK=>?_
  refine wp_growQ (w:=V2) _ _ spnF rfl [rSnd vs sends] [rLnk vl links] (v:=vp) (xs:=spawns) (y:=(next,an,t)) (g0:=gz) (c:=[.int .i64 next,.string an,.int .i64 t.kind,.int .i64 t.n,.string t.name,.slice ar t.args.length cr]) (by rfl) (by rfl) HAV2.out.rq mS0 ⟨ar,cr,rfl,HT3.out⟩ rfl (by omega) ?_
  intro gn on cn V3 hz hzg
  have HAV3:Hid (DoM P1 Qz wz w0 V3 db bb bc (doerC (.slice (some ⟨bb,0,none⟩) 4 bc) self next (outC fate vs vp vl) b1) bd ((gz,[.int .i64 next,.string an,.int .i64 t.kind,.int .i64 t.n,.string t.name,.slice ar t.args.length cr]) :: (g3,[.int .i64 2,.int .i64 tg.kind,.int .i64 tg.n,.string tg.name,.slice a1 tg.args.length p1,.int .i64 what.kind,.int .i64 what.n,.string what.name,.slice a2 what.args.length p2,.string an,.int .i64 (k:Int)]) :: bs) ([rSnd vs sends] ++ rSpn (.slice (some ⟨gn,on,none⟩) (spawns.length+1) cn) (spawns ++ [(next,an,t)]) :: [rLnk vl links])):=J (DoM.grown (l1:=[rSnd vs sends]) (l2:=[rLnk vl links]) (r:=rSpn vp spawns) HAV2.out hzg hz)
  have hsV3:V2.heap.size≤V3.heap.size:=hzg.size
  clear hz hzg
  refine hK.out _ _ (⟨HAV3.out.blk.cell 2 _ rfl,HAV3.out.cell mS1 5 _ rfl,HAV3.out.cell mS1 6 _ rfl,HAV3.out.cell mS1 7 _ rfl,HAV3.out.cell mS1 8 _ rfl,HAV3.out.cell mS1 9 _ rfl⟩) fun _=>?_
  clear hK K hHeld;rename_i hHeld;try simp only [Act.put,pA,pB,pC]
 all_goals
  refine rgT 19 _ hHeld ?_
 all_goals
  refine rgT 20 _ hHeld ?_
 all_goals
  refine rgT 21 _ hHeld ?_
 all_goals
  refine rgO 22 fun K hK=>?_
  have zf:=HAV3.out.blk.fr
  have zc:=HAV3.out.blk.cell 9 _ rfl
  have zl:=HAV3.out.blk.lt
  go_simp
  obtain ⟨V4,hV4⟩:=I (V3.setCell ⟨db,9,none⟩ (.slice (some ⟨gn,on,none⟩) (spawns.length+1) cn))
  have HAV4:Hid (DoM P1 Qz wz w0 V4 db bb bc (doerC (.slice (some ⟨bb,0,none⟩) 4 bc) self next (outC fate vs (.slice (some ⟨gn,on,none⟩) (spawns.length+1) cn) vl) b1) bd ((gz,[.int .i64 next,.string an,.int .i64 t.kind,.int .i64 t.n,.string t.name,.slice ar t.args.length cr]) :: (g3,[.int .i64 2,.int .i64 tg.kind,.int .i64 tg.n,.string tg.name,.slice a1 tg.args.length p1,.int .i64 what.kind,.int .i64 what.n,.string what.name,.slice a2 what.args.length p2,.string an,.int .i64 (k:Int)]) :: bs) ([rSnd vs sends] ++ rSpn (.slice (some ⟨gn,on,none⟩) (spawns.length+1) cn) (spawns ++ [(next,an,t)]) :: [rLnk vl links])):=J (by rw [hV4];exact HAV3.out.set 9 _ (by simp [doerC,outC]))
  have hsV4:V3.heap.size≤V4.heap.size:=by rw [hV4];simp
  rw [←hV4]
  clear hV4 zf zc zl
  refine hK.out _ _ (⟨HAV4.out.blk.cell 2 _ rfl,HAV4.out.cell mS1 5 _ rfl,HAV4.out.cell mS1 6 _ rfl,HAV4.out.cell mS1 7 _ rfl,HAV4.out.cell mS1 8 _ rfl,HAV4.out.cell mS1 9 _ rfl⟩) fun _=>?_
  clear hK K hHeld;rename_i hHeld;try simp only [Act.put,pA,pB,pC]
 all_goals
  refine rgD ?_
  clear hHeld
  go_upto_region 8 with fail
  refine yK (fun w'=>w'.cell? ⟨db,0,none⟩=some (.slice (some ⟨bb,0,none⟩) 4 bc)∧w'.cell? ⟨db,2,none⟩=some (.int .i64 next)∧w'.cell? ⟨g3,10,none⟩=some (.int .i64 (k:Int))) (by as_aux_lemma=>kernel_rfl) (fun Wd h=>⟨(HAV4.out.below h).blk.cell 0 _ rfl,(HAV4.out.below h).blk.cell 2 _ rfl,(HAV4.out.below h).cell mS1 10 _ rfl⟩) ?_
  intro V5 hB hWd5 hWd5' hHeld
  have HAV5:=J (HAV4.out.below hB)
  clear hB
  refine rgT 0 _ hHeld ?_
  refine rgT 1 _ hHeld ?_
  refine rgT 2 _ hHeld ?_
  refine rgT 3 _ hHeld ?_
  refine rgT 4 _ hHeld ?_
  refine rgT 5 _ hHeld ?_
  refine rgT 6 _ hHeld ?_
  refine rgT 7 _ hHeld ?_
  refine rgT 8 _ hHeld ?_
  refine rgT 9 _ hHeld ?_
  refine rgT 10 _ hHeld ?_
  refine rgT 11 _ hHeld ?_
  refine rgO 12 fun K hK=>?_
  refine wp_store_mid 25 _ _ (by rfl) bb (k * 4) #[.int .i64 3,.int .i64 next,.string ⟨#[]⟩,.slice none 0 0] (by rfl) (by rfl) (HAV5.out.there (by rw [HL.out];exact HK4.out)) (by kernel_rfl) (by simp [Value.oneCell']) ?_
  show K _ ((((V5.setCell ⟨bb,k * 4,none⟩ (.int .i64 3)).setCell ⟨bb,k * 4+1,none⟩ (.int .i64 next)).setCell ⟨bb,k * 4+2,none⟩ (.string ⟨#[]⟩)).setCell ⟨bb,k * 4+3,none⟩ (.slice none 0 0))
  obtain ⟨V6,hV6⟩:=I ((((V5.setCell ⟨bb,k * 4,none⟩ (.int .i64 3)).setCell ⟨bb,k * 4+1,none⟩ (.int .i64 next)).setCell ⟨bb,k * 4+2,none⟩ (.string ⟨#[]⟩)).setCell ⟨bb,k * 4+3,none⟩ (.slice none 0 0))
  have HAV6:=J (show DoM P1 Qz wz w0 V6 _ _ _ _ _ _ _ by rw [hV6];exact HAV5.out.store (k:=k) (t:=pidTm next) (by rw [HL.out];exact HK4.out) (pidTm_rt _ _ _))
  have hsV6:V5.heap.size≤V6.heap.size:=by rw [hV6];simp
  rw [←hV6]
  clear hV6
  refine hK.out _ _ (⟨HAV6.out.blk.cell 0 _ rfl,HAV6.out.blk.cell 2 _ rfl,HAV6.out.cell mS1 10 _ rfl⟩) fun _=>?_
  clear hK K hHeld;rename_i hHeld;try simp only [Act.put,pA,pB,pC]
  refine rgD ?_
  clear hHeld
  go_upto_region 9 with fail
  have z2:=HAV6.out.blk.cell 2 _ rfl
  have zf:=HAV6.out.blk.fr
  have zl:=HAV6.out.blk.lt
  go_wp2_with fail
  refine bodyPost_end (results_none Tryz.results40 _ _ _) rfl ⟨rfl,by have:=HS0.out;simp;omega,P1,vs,(.slice (some ⟨gn,on,none⟩) (spawns.length+1) cn),vl,?_,HP1.out⟩
  rw [HDO.out,←HB0.out,←HB1.out]
  exact (HAV6.out.set 2 (.int .i64 (next+1)) (by simp [doerC,outC])).sub (fun p hp=>by simp [hp])
theorem ddo_c (P Qz:Nat→Prop) (wz w0 w:World) (db bb bc:Nat) (self:Int) (d:Dst) (bs:List (Nat×List Value)) (vs vp vl:Value) (a:Deed) (c:List Value) (S:Nat→Prop) (h:DoS P Qz wz w0 w db bb bc self d bs vs vp vl) (hv:deedC S w a c) (hS:∀ b,S b→b < w0.heap.size) (hl:d.bd.length=4) (hsm:∀ t∈d.bd,yC [t]≤2000) (hb:deedB a≤1048576) (hn:d.sends.length≤1000∧d.spawns.length≤1000∧d.links.length≤1000) (hx:0≤d.next∧d.next≤1000) (hvar:a.kind=2→0≤a.var∧a.var≤3):Calls Tryz.prog 40 #[.pointer (some ⟨db,0,none⟩),.agg c.toArray] w (DDoP P Qz wz w0 w db bb bc self (doA self d a) bs):=by
 by_cases h1:a.kind=1
 ·exact dsend_c P Qz wz w0 w db bb bc self d bs vs vp vl a c S h hv hS hl hsm hb hn hx h1
 by_cases h2:a.kind=2
 ·exact dspawn_c P Qz wz w0 w db bb bc self d bs vs vp vl a c S h hv hS hl hsm hb hn hx (hvar h2) h2
 by_cases h3:a.kind=3
 ·exact dlink_c P Qz wz w0 w db bb bc self d bs vs vp vl a c S h hv hS hl hsm hb hn hx h3
 by_cases h4:a.kind=4
 ·exact dstop_c P Qz wz w0 w db bb bc self d bs vs vp vl a c S h hv hS hl hsm hb hn hx h4
 exact dother_c P Qz wz w0 w db bb bc self d bs vs vp vl a c S h hv hS hl hsm hb hn hx h1 h2 h3 h4
end Go.Proofs.YtedfepnekjjmnabGreat
