/-
  The reference's act. Conditions: it lies as said; the clause is of a program that is one; bounds.
-/
import Derived.Test.YtedfepnekjjmnabGreatJj
import Derived.Test.YtedfepnekjjmnabGreatProc14
namespace Go.Proofs.YtedfepnekjjmnabGreat
open Go.RowKit
set_option linter.unusedSimpArgs false
set_option linter.unusedVariables false
set_option maxRecDepth 100000
set_option maxHeartbeats 16000000
theorem szRTaken:(Tryz.prog.info? 43).map (·.size)=some 8:=by kernel_rfl
def RActP (A:Nat→Prop) (N:Nat) (w:World) (qb:Nat) (name:ByteArray) (room:Int) (ml:List T) (r:TakT×T) (e:Ending) (w':World):Prop :=
 ∃ cs,e=.returned (.agg cs.toArray)∧takC (fun b=>A b∨N≤b) w' r.1 cs∧Keep (fun b=>b=qb∨N≤b) w w'∧QR (fun b=>(A b∨w.heap.size≤b)∧b < w'.heap.size∧b≠qb) w' qb name room r.2 ml
theorem qr_fin {A S:Nat→Prop} {w W:World} {qb:Nat} {name:ByteArray} {room:Int} {st:T} {ml:List T} (h:QR S w qb name room st ml) (hS:∀ b,S b→A b∧b < w.heap.size) (hA:∀ b,A b→b≠qb) (F1:∀ b,A b→b < w.heap.size→W.heap[b]?=w.heap[b]?) (Fq:W.heap[qb]?=w.heap[qb]?) (hl:w.heap.size≤W.heap.size) :
  QR (fun b=>(A b∨w.heap.size≤b)∧b < W.heap.size∧b≠qb) W qb name room st ml:=by
 obtain ⟨a,c,vm,h1,h2,h3,h4⟩:=h
 have hq:∀ b,S b→b < w.heap.size→(fun b=>(A b∨w.heap.size≤b)∧b < W.heap.size∧b≠qb) b:=fun b hb hlt=>⟨.inl (hS b hb).1,by omega,hA b (hS b hb).1⟩
 exact ⟨a,c,vm,⟨by have:=h1.lt;omega,fun j u hu=>(World.cell?_of_block Fq).trans (h1.cell j u hu),fun o=>(World.frozen?_of_block Fq).trans (h1.fr o)⟩,h2.to hq fun b hb hlt=>F1 b (hS b hb).1 hlt,h3.to hq fun b hb hlt=>F1 b (hS b hb).1 hlt,fun b hb=>hb.2⟩
theorem keep_fin {w W0 w0 W W9:World} {N qb g:Nat} (h1:Below w.heap.size w W0) (h2:Below N w0 W0) (h3:Below N w0 W) (hN:N≤w.heap.size) (hs:W0.heap.size≤W.heap.size) (hb:Below 0 W W9) (ho:∀ b,b≠g→W9.heap[b]?=W.heap[b]?) (hg:N≤g):Keep (fun b=>b=qb∨N≤b) w W9 :=
 ⟨hb.os.trans (h3.os.trans (h2.os.symm.trans h1.os)),hb.tape.trans (h3.tape.trans (h2.tape.symm.trans h1.tape)),hb.output.trans (h3.output.trans (h2.output.symm.trans h1.output)),Nat.le_trans (Nat.le_trans h1.size hs) hb.size,fun k hk hn=>by
  have hk2:k < N:=by
   by_cases h:N≤k
   ·exact absurd (.inr h) hn
   ·omega
  exact (ho k (by omega)).trans ((h3.block k hk2).trans ((h2.block k hk2).symm.trans (h1.block k hk)))⟩
theorem ract_c (A S R Sc:Nat→Prop) (w:World) (N base qb bb bc:Nat) (name:ByteArray) (room:Int) (st:T) (ml:List T) (m:T) (c:Clau) (cells:List Value) (bd:List T) (self next:Int) (vm:Value) (h:QR S w qb name room st ml) (hc:clauC Sc w c cells) (hm:RT Sc w m vm)
  (hbd:OwnG R base w (.slice (some ⟨bb,0,none⟩) 4 bc) bd) (hN:N≤base∧N≤w.heap.size∧qb < N) (hA:∀ b,A b→b≠qb∧b≠bb∧b < w.heap.size) (hin:∀ b,(S b∨R b∨Sc b)→A b∧b < w.heap.size)
  (hck:yE c.next=0) (hcd:∀ d∈c.acts,1≤d.kind∧d.kind≤4∧(yE d.to=0∨d.to=yJ)∧(yE d.what=0∨d.what=yJ)∧(d.kind=1→yE d.to=0∧yE d.what=0)∧(d.kind=2→yE d.what=0)∧(d.kind=3→yE d.to=0)) (hao:actsOk c)
  (hbb:boundB bd=true) (hbs:∀ t∈bd,yC [t]≤2000) (hself:1≤self∧self≤99) (hnx:1≤next∧next≤92) (hbu:yC [c.next]≤1048576∧∀ d∈c.acts,deedB d≤1048576) (hbk:yC [st]≤2000∧∀ x∈ml,yC [x]≤2000) (hz:szL (st :: ml)≤1000) (hr:0≤room∧room≤1000) (hl:ml.length≤100) :
  Calls Tryz.prog 34 #[.pointer (some ⟨qb,0,none⟩),.agg cells.toArray,.slice (some ⟨bb,0,none⟩) 4 bc,.int .i64 self,.int .i64 next,vm] w (RActP A N w qb name room ml (actO room self next st ml m c bd)):=by
 obtain ⟨a1,p1,a2,p2,a3,p3,a4,p4,rfl,hr1,hr2,hr3,hr4⟩:=hc
 obtain ⟨am,cm,rfl,hcm,hrm⟩:=hm
 obtain ⟨W0,hW0⟩:=I (((((w.alloc (.cells #[.int .i64 c.state.kind,.int .i64 c.state.n,.string c.state.name,.slice a1 c.state.args.length p1,.int .i64 c.message.kind,.int .i64 c.message.n,.string c.message.name,.slice a2 c.message.args.length p2,.slice a3 c.acts.length p3,.int .i64 c.next.kind,.int .i64 c.next.n,.string c.next.name,.slice a4 c.next.args.length p4] 82)).alloc (.cells #[.int .i64 m.kind,.int .i64 m.n,.string m.name,.slice am m.args.length cm] 25)).alloc (.cells #[.int .i64 0,.int .i64 0,.string ⟨#[]⟩,.slice none 0 0,.int .i64 0,.slice none 0 0,.slice none 0 0,.slice none 0 0] 43)).alloc (.cells #[.int .i64 m.kind,.int .i64 m.n,.string m.name,.slice am m.args.length cm,.int .i64 0,.slice none 0 0,.slice none 0 0,.slice none 0 0] 43)).alloc (.cells #[.int .i64 m.kind,.int .i64 m.n,.string m.name,.slice am m.args.length cm,.int .i64 2,.slice none 0 0,.slice none 0 0,.slice none 0 0] 43))
 obtain ⟨g7,hg7⟩:=I (w.heap.size)
 obtain ⟨g11,hg11⟩:=I (w.heap.size+1)
 obtain ⟨g12,hg12⟩:=I (w.heap.size+1+1)
 obtain ⟨g13,hg13⟩:=I (w.heap.size+1+1+1)
 obtain ⟨g14,hg14⟩:=I (w.heap.size+1+1+1+1)
 have HB0:Hid (Below w.heap.size w W0):=J (by rw [hW0];exact ((((yA _ _).alloc (by simp) _).alloc (by simp <;> omega) _).alloc (by simp <;> omega) _).alloc (by simp <;> omega) _)
 have HSZ:Hid (W0.heap.size=w.heap.size+5∧g7=w.heap.size∧g11=w.heap.size+1∧g12=w.heap.size+2∧g13=w.heap.size+3∧g14=w.heap.size+4∧bb < w.heap.size∧base≤bb):=J ⟨by rw [hW0];simp,hg7,hg11,hg12,hg13,hg14,(hbd.block bb rfl).2,(hbd.block bb rfl).1⟩
 have HX7:Hid (Blk W0 g7 [.int .i64 c.state.kind,.int .i64 c.state.n,.string c.state.name,.slice a1 c.state.args.length p1,.int .i64 c.message.kind,.int .i64 c.message.n,.string c.message.name,.slice a2 c.message.args.length p2,.slice a3 c.acts.length p3,.int .i64 c.next.kind,.int .i64 c.next.n,.string c.next.name,.slice a4 c.next.args.length p4]):=J (by rw [hW0,hg7];exact ((((Blk.new _ _ _ _ rfl).alloc _).alloc _).alloc _).alloc _)
 have HX11:Hid (Blk W0 g11 [.int .i64 m.kind,.int .i64 m.n,.string m.name,.slice am m.args.length cm]):=J (by rw [hW0];exact (((Blk.new _ _ _ _ (by rw [hg11];simp)).alloc _).alloc _).alloc _)
 have HX12:Hid (Blk W0 g12 [.int .i64 0,.int .i64 0,.string ⟨#[]⟩,.slice none 0 0,.int .i64 0,.slice none 0 0,.slice none 0 0,.slice none 0 0]):=J (by rw [hW0];exact ((Blk.new _ _ _ _ (by rw [hg12];simp)).alloc _).alloc _)
 have HX13:Hid (Blk W0 g13 [.int .i64 m.kind,.int .i64 m.n,.string m.name,.slice am m.args.length cm,.int .i64 0,.slice none 0 0,.slice none 0 0,.slice none 0 0]):=J (by rw [hW0];exact (Blk.new _ _ _ _ (by rw [hg13];simp)).alloc _)
 have HX14:Hid (Blk W0 g14 [.int .i64 m.kind,.int .i64 m.n,.string m.name,.slice am m.args.length cm,.int .i64 2,.slice none 0 0,.slice none 0 0,.slice none 0 0]):=J (by rw [hW0];exact Blk.new _ _ _ _ (by rw [hg14];simp))
 have HBD0:Hid (OwnG R base W0 (.slice (some ⟨bb,0,none⟩) 4 bc) bd):=J (hbd.below HB0.out)
 have HR3:Hid (RX deedE Sc Sc W0 c.acts (.slice a3 c.acts.length p3)):=J (hr3.below HB0.out)
 have HR4:Hid (RT Sc W0 c.next (.agg #[.int .i64 c.next.kind,.int .i64 c.next.n,.string c.next.name,.slice a4 c.next.args.length p4])):=J (hr4.below HB0.out)
 have HTM:Hid (RT Sc W0 m (.agg #[.int .i64 m.kind,.int .i64 m.n,.string m.name,.slice am m.args.length cm])):=J (RT.below ⟨am,cm,rfl,hcm,hrm⟩ HB0.out)
 have HQR:=J h;have HA:=J hA;have HIN:=J hin;have HNN:=J hN
 have HCK:=J hck;have HCD:=J hcd;have HAO:=J hao;have HBB:=J hbb;have HBS:=J hbs
 have HSF:=J hself;have HNX:=J hnx;have HBU:=J hbu;have HBK:=J hbk;have HZL:=J hz;have HRM:=J hr;have HML:=J hl
 have hacl:=hao.1
 obtain ⟨hcut,hD0⟩:=RActS.start (N:=N) (bs:=[(g7,[.int .i64 c.state.kind,.int .i64 c.state.n,.string c.state.name,.slice a1 c.state.args.length p1,.int .i64 c.message.kind,.int .i64 c.message.n,.string c.message.name,.slice a2 c.message.args.length p2,.slice a3 c.acts.length p3,.int .i64 c.next.kind,.int .i64 c.next.n,.string c.next.name,.slice a4 c.next.args.length p4]),(g11,[.int .i64 m.kind,.int .i64 m.n,.string m.name,.slice am m.args.length cm]),(g12,[.int .i64 0,.int .i64 0,.string ⟨#[]⟩,.slice none 0 0,.int .i64 0,.slice none 0 0,.slice none 0 0,.slice none 0 0]),(g14,[.int .i64 m.kind,.int .i64 m.n,.string m.name,.slice am m.args.length cm,.int .i64 2,.slice none 0 0,.slice none 0 0,.slice none 0 0])]) A (by have:=HSZ.out;omega) HX13.out HBD0.out (fun b hb hl=>by
  have h1:=hin b (.inr (.inl hb))
  exact ⟨h1.1,by have:=HSZ.out;omega⟩) hN.1 (by have:=HSZ.out;omega) (by have:=HSZ.out;omega) (fun p hp=>by
  have hz:=HSZ.out
  simp only [List.mem_cons,List.not_mem_nil,or_false] at hp
  rcases hp with rfl | rfl | rfl | rfl
  ·exact ⟨HX7.out,by show g7≠g13;omega,by show g7≠bb;omega⟩
  ·exact ⟨HX11.out,by show g11≠g13;omega,by show g11≠bb;omega⟩
  ·exact ⟨HX12.out,by show g12≠g13;omega,by show g12≠bb;omega⟩
  ·exact ⟨HX14.out,by show g14≠g13;omega,by show g14≠bb;omega⟩)
 obtain ⟨w0,hw0⟩:∃ v,v=W0.cut N:=⟨_,rfl⟩
 rw [←hw0] at hcut hD0
 have HW0:=J hcut;have HD0:=J hD0
 have HD00:Hid (Below N w0 W0):=J (by have:=hD0.rq.bel;rwa [hcut] at this)
 clear hcut hD0 hw0 hr1 hr2 hr3 hr4 hcm hrm h hA hin hN hck hcd hao hbb hbs hself hnx hbu hbk hz hr hbd hl
 go_enter Tryz.func34,Tryz.ntmps34
 go_upto_region 3 with fail
 rw [←hW0,←hg14,←hg13,←hg12,←hg11,←hg7]
 clear hW0 hg14 hg13 hg12 hg11 hg7
 go_wp2_with fail
 go_loopw [4,15] (fun v4 v15 wr=>∃ (k:Nat) (P:Nat→Prop) (vs vp vl:Value),k≤c.acts.length∧v15=.int .i64 (k:Int)∧v4=.int .i64 (foldA self ⟨bd,next,[],[],[],0,false⟩ (c.acts.take k)).next∧(foldA self ⟨bd,next,[],[],[],0,false⟩ (c.acts.take k)).bad=false∧(∀ b,P b→A b∨W0.heap.size≤b)∧W0.heap.size≤wr.heap.size∧DoM P (fun b=>A b∧b < W0.heap.size∧b≠g13∧b≠bb) W0 w0 wr g13 bb bc [.int .i64 m.kind,.int .i64 m.n,.string m.name,.slice am m.args.length cm,.int .i64 (foldA self ⟨bd,next,[],[],[],0,false⟩ (c.acts.take k)).fate,vs,vp,vl] (foldA self ⟨bd,next,[],[],[],0,false⟩ (c.acts.take k)).bd [(g7,[.int .i64 c.state.kind,.int .i64 c.state.n,.string c.state.name,.slice a1 c.state.args.length p1,.int .i64 c.message.kind,.int .i64 c.message.n,.string c.message.name,.slice a2 c.message.args.length p2,.slice a3 c.acts.length p3,.int .i64 c.next.kind,.int .i64 c.next.n,.string c.next.name,.slice a4 c.next.args.length p4]),(g11,[.int .i64 m.kind,.int .i64 m.n,.string m.name,.slice am m.args.length cm]),(g12,[.int .i64 0,.int .i64 0,.string ⟨#[]⟩,.slice none 0 0,.int .i64 0,.slice none 0 0,.slice none 0 0,.slice none 0 0]),(g14,[.int .i64 m.kind,.int .i64 m.n,.string m.name,.slice am m.args.length cm,.int .i64 2,.slice none 0 0,.slice none 0 0,.slice none 0 0])] [rRSnd vs (foldA self ⟨bd,next,[],[],[],0,false⟩ (c.acts.take k)).sends,rRSpn vp (foldA self ⟨bd,next,[],[],[],0,false⟩ (c.acts.take k)).spawns,rLnk vl (foldA self ⟨bd,next,[],[],[],0,false⟩ (c.acts.take k)).links]) (fun _ v15 _=>c.acts.length - (intOf v15).toNat)
 case atStart=>exact ⟨0,_,_,_,_,Nat.zero_le _,rfl,rfl,rfl,fun b hb=>.inl hb.1,Nat.le_refl _,HD0.out⟩
 obtain ⟨k,P,vs,vp,vl,hk,rfl,rfl,hbad,hP,hsz,hD⟩:=hrel
 obtain ⟨dk,hdk⟩:∃ d,d=(foldA self ⟨bd,next,[],[],[],0,false⟩ (c.acts.take k)):=⟨_,rfl⟩
 rw [←hdk] at hbad hD
 rw [←hdk]
 have HDK:=J hdk;have HBAD:=J hbad;have HP:=J hP;have HD:=J hD;have HSW:=J hsz
 have HBL:Hid (dk.bd.length=4∧boundB dk.bd=true∧(∀ t∈dk.bd,yC [t]≤2000)∧1≤dk.next∧dk.next≤92+k∧k≤8∧dk.sends.length≤1000∧dk.spawns.length≤1000∧dk.links.length≤1000∧yC dk.bd≤8000):=J (by
  have h1:=foldA_next self (c.acts.take k) ⟨bd,next,[],[],[],0,false⟩
  have h2:(c.acts.take k).length≤k:=by rw [List.length_take];omega
  have h3:=foldA_rows self (c.acts.take k) ⟨bd,next,[],[],[],0,false⟩ 0 ⟨by simp,by simp,by simp⟩
  have h4:=HNX.out
  have h5:=foldA_len self (c.acts.take k) ⟨bd,next,[],[],[],0,false⟩ (boundB_len HBB.out)
  have h6:=foldA_small self (c.acts.take k) ⟨bd,next,[],[],[],0,false⟩ HBS.out
  have h7:=foldA_bound self (c.acts.take k) ⟨bd,next,[],[],[],0,false⟩ HBB.out (by simp;omega) (by simp only;omega)
  rw [←hdk] at h1 h3 h5 h6 h7
  simp only at h1
  have h8:=bulk_eachP 2000 dk.bd h6
  rw [h5] at h8
  refine ⟨h5,h7,h6,by omega,by omega,by omega,by omega,by omega,by omega,by omega⟩)
 have HSIN:Hid (inB self 1 99=true):=J (by have:=HSF.out;simp [inB];omega)
 have HBN:Hid (Below N w0 wr):=J (by have:=hD.rq.bel;rwa [HW0.out] at this)
 have HSC:Hid (∀ b,Sc b→(fun b=>A b∧b < W0.heap.size∧b≠g13∧b≠bb) b):=J fun b hb=>⟨(HIN.out b (.inr (.inr hb))).1,by have:=(HIN.out b (.inr (.inr hb))).2;have:=HB0.out.size;omega,by have:=(HIN.out b (.inr (.inr hb))).2;have:=HSZ.out;omega,(HA.out b (HIN.out b (.inr (.inr hb))).1).2.1⟩
 have y8:=HD.out.cell mS0 8 _ rfl
 clear hdk hbad hP hsz hD
 by_cases hlt:k < c.acts.length
 ·obtain ⟨b3,o3,ha3⟩:=HR3.out.addr (by decide) (by omega)
  have HRW:Hid (RX deedE Sc Sc wr c.acts (.slice a3 c.acts.length p3)):=J (HR3.out.to (fun _ h _=>h) (fun _ h _=>h) fun b hb _=>HD.out.qf b (HSC.out b (hb.elim id id)))
  rw [ha3] at y8
  have HRW2:=HRW.out
  rw [ha3] at HRW2
  clear ha3
  obtain ⟨cells,hc1,hc2⟩:=HRW2.elem k hlt
  obtain ⟨d,hd⟩:∃ d,d=c.acts[k]:=⟨_,rfl⟩
  rw [←hd] at hc1
  obtain ⟨q1,n1,q2,n2,rfl,ht1,ht2⟩:=hc1
  have hcell:∀ i u,([.int .i64 d.kind,.int .i64 d.to.kind,.int .i64 d.to.n,.string d.to.name,.slice q1 d.to.args.length n1,.int .i64 d.what.kind,.int .i64 d.what.n,.string d.what.name,.slice q2 d.what.args.length n2,.string d.name,.int .i64 d.var]:List Value)[i]?=some u→wr.cell? ⟨b3,o3+k * 11+i,none⟩=some u:=fun i u h=>(hc2 i u h).2
  have z0:wr.cell? ⟨b3,o3+k * 11,none⟩=some (.int .i64 d.kind):=hcell 0 _ rfl
  have z1:wr.cell? ⟨b3,o3+k * 11+1,none⟩=some (.int .i64 d.to.kind):=hcell 1 _ rfl
  have z2:wr.cell? ⟨b3,o3+k * 11+2,none⟩=some (.int .i64 d.to.n):=hcell 2 _ rfl
  have z3:wr.cell? ⟨b3,o3+k * 11+3,none⟩=some (.string d.to.name):=hcell 3 _ rfl
  have z4:wr.cell? ⟨b3,o3+k * 11+4,none⟩=some (.slice q1 d.to.args.length n1):=hcell 4 _ rfl
  have z5:wr.cell? ⟨b3,o3+k * 11+5,none⟩=some (.int .i64 d.what.kind):=hcell 5 _ rfl
  have z6:wr.cell? ⟨b3,o3+k * 11+6,none⟩=some (.int .i64 d.what.n):=hcell 6 _ rfl
  have z7:wr.cell? ⟨b3,o3+k * 11+7,none⟩=some (.string d.what.name):=hcell 7 _ rfl
  have z8:wr.cell? ⟨b3,o3+k * 11+8,none⟩=some (.slice q2 d.what.args.length n2):=hcell 8 _ rfl
  have z9:wr.cell? ⟨b3,o3+k * 11+9,none⟩=some (.string d.name):=hcell 9 _ rfl
  have z10:wr.cell? ⟨b3,o3+k * 11+10,none⟩=some (.int .i64 d.var):=hcell 10 _ rfl
  have HDD:Hid (d=c.acts[k]):=J hd
  have HMEM:Hid (d∈c.acts):=J (by rw [hd];exact List.getElem_mem hlt)
  have HT1:Hid (RT Sc wr d.to _):=J ht1;have HT2:Hid (RT Sc wr d.what _):=J ht2
  have HDB:Hid (yC [d.to]≤1048576∧yC [d.what]≤1048576):=J (by have:=HBU.out.2 d HMEM.out;unfold deedB at this;omega)
  have HFS1:=J (foldA_snoc self ⟨bd,next,[],[],[],0,false⟩ hlt)
  have qk:(k:Int) < (c.acts.length:Int):=by omega
  clear hc2 hcell hd ht1 ht2 HRW2
  go_upto_region 7 with fail
  obtain ⟨W1,hW1⟩:=I (wr.alloc (.cells #[.int .i64 d.kind,.int .i64 d.to.kind,.int .i64 d.to.n,.string d.to.name,.slice q1 d.to.args.length n1,.int .i64 d.what.kind,.int .i64 d.what.n,.string d.what.name,.slice q2 d.what.args.length n2,.string d.name,.int .i64 d.var] 84))
  obtain ⟨g16,hg16⟩:=I (wr.heap.size)
  have HD1:Hid (DoM P (fun b=>A b∧b < W0.heap.size∧b≠g13∧b≠bb) W0 w0 W1 g13 bb bc [.int .i64 m.kind,.int .i64 m.n,.string m.name,.slice am m.args.length cm,.int .i64 dk.fate,vs,vp,vl] dk.bd ((g16,[.int .i64 d.kind,.int .i64 d.to.kind,.int .i64 d.to.n,.string d.to.name,.slice q1 d.to.args.length n1,.int .i64 d.what.kind,.int .i64 d.what.n,.string d.what.name,.slice q2 d.what.args.length n2,.string d.name,.int .i64 d.var]) :: [(g7,[.int .i64 c.state.kind,.int .i64 c.state.n,.string c.state.name,.slice a1 c.state.args.length p1,.int .i64 c.message.kind,.int .i64 c.message.n,.string c.message.name,.slice a2 c.message.args.length p2,.slice a3 c.acts.length p3,.int .i64 c.next.kind,.int .i64 c.next.n,.string c.next.name,.slice a4 c.next.args.length p4]),(g11,[.int .i64 m.kind,.int .i64 m.n,.string m.name,.slice am m.args.length cm]),(g12,[.int .i64 0,.int .i64 0,.string ⟨#[]⟩,.slice none 0 0,.int .i64 0,.slice none 0 0,.slice none 0 0,.slice none 0 0]),(g14,[.int .i64 m.kind,.int .i64 m.n,.string m.name,.slice am m.args.length cm,.int .i64 2,.slice none 0 0,.slice none 0 0,.slice none 0 0])]) [rRSnd vs dk.sends,rRSpn vp dk.spawns,rLnk vl dk.links]):=J (by rw [hW1];exact HD.out.alloc #[.int .i64 d.kind,.int .i64 d.to.kind,.int .i64 d.to.n,.string d.to.name,.slice q1 d.to.args.length n1,.int .i64 d.what.kind,.int .i64 d.what.n,.string d.what.name,.slice q2 d.what.args.length n2,.string d.name,.int .i64 d.var] _ hg16)
  have HT1:Hid (RT P W1 d.to (.agg #[.int .i64 d.to.kind,.int .i64 d.to.n,.string d.to.name,.slice q1 d.to.args.length n1])):=J (by rw [hW1];exact (HT1.out.alloc _).mono fun b hb=>HD.out.qp b (HSC.out b hb))
  have HT2:Hid (RT P W1 d.what (.agg #[.int .i64 d.what.kind,.int .i64 d.what.n,.string d.what.name,.slice q2 d.what.args.length n2])):=J (by rw [hW1];exact (HT2.out.alloc _).mono fun b hb=>HD.out.qp b (HSC.out b hb))
  have hsW1:wr.heap.size≤W1.heap.size:=by rw [hW1];simp
  have HG16:Hid (g16=wr.heap.size):=J hg16
  rw [←hW1,←hg16]
  clear hW1 hg16 y8 z0 z1 z2 z3 z4 z5 z6 z7 z8 z9 z10
  have HS1:=J hsW1;clear hsW1
  have z1:=HD1.out.cell mS0 1 _ rfl
  have z2:=HD1.out.cell mS0 2 _ rfl
  have z3:=HD1.out.cell mS0 3 _ rfl
  have z4:=HD1.out.cell mS0 4 _ rfl
  go_wp2_with fail
  refine (rvalueX_c dk.bd self HBL.out.1 d.to _ P W1 _ _ HT1.out HD1.out.bd.rxT (fun b hb=>by (obtain rfl:bb=b:=by simpa [Value.ownBlock] using hb);exact HD1.out.lt.2.2.2) (fun b hb=>(HD1.out.pn hb).1) (by have:=HBL.out;have:=HDB.out;omega) (HCD.out d HMEM.out).2.2.1).mono ?_
  rintro e w2 ⟨v1,rfl,hB2,hR2⟩
  obtain ⟨o1,ho1⟩:∃ o,o=valF dk.bd self d.to:=⟨_,rfl⟩
  rw [←ho1] at hR2
  rw [←ho1]
  have HO1:=J ho1
  obtain ⟨tt,htt⟩:∃ t,t=o1.getD yJ:=⟨_,rfl⟩
  obtain ⟨ok1,hok1⟩:∃ b,b=o1.isSome:=⟨_,rfl⟩
  rw [←htt] at hR2
  rw [←hok1]
  have HTT:=J htt;have HOK1:=J hok1
  obtain ⟨ta,pt,rfl,hct,hrt⟩:=hR2
  obtain ⟨P2,hP2⟩:∃ Q:Nat→Prop,Q=fun b=>P b∨(W1.heap.size≤b∧b < w2.heap.size):=⟨_,rfl⟩
  have HD2:Hid (DoM P2 (fun b=>A b∧b < W0.heap.size∧b≠g13∧b≠bb) W0 w0 w2 g13 bb bc [.int .i64 m.kind,.int .i64 m.n,.string m.name,.slice am m.args.length cm,.int .i64 dk.fate,vs,vp,vl] dk.bd ((g16,[.int .i64 d.kind,.int .i64 d.to.kind,.int .i64 d.to.n,.string d.to.name,.slice q1 d.to.args.length n1,.int .i64 d.what.kind,.int .i64 d.what.n,.string d.what.name,.slice q2 d.what.args.length n2,.string d.name,.int .i64 d.var]) :: [(g7,[.int .i64 c.state.kind,.int .i64 c.state.n,.string c.state.name,.slice a1 c.state.args.length p1,.int .i64 c.message.kind,.int .i64 c.message.n,.string c.message.name,.slice a2 c.message.args.length p2,.slice a3 c.acts.length p3,.int .i64 c.next.kind,.int .i64 c.next.n,.string c.next.name,.slice a4 c.next.args.length p4]),(g11,[.int .i64 m.kind,.int .i64 m.n,.string m.name,.slice am m.args.length cm]),(g12,[.int .i64 0,.int .i64 0,.string ⟨#[]⟩,.slice none 0 0,.int .i64 0,.slice none 0 0,.slice none 0 0,.slice none 0 0]),(g14,[.int .i64 m.kind,.int .i64 m.n,.string m.name,.slice am m.args.length cm,.int .i64 2,.slice none 0 0,.slice none 0 0,.slice none 0 0])]) [rRSnd vs dk.sends,rRSpn vp dk.spawns,rLnk vl dk.links]):=J (by rw [hP2];exact HD1.out.keep (Keep.of hB2) (HD1.out.blk.step hB2))
  have HR2:Hid (RT P2 w2 tt (.agg #[.int .i64 tt.kind,.int .i64 tt.n,.string tt.name,.slice ta tt.args.length pt])):=J (by rw [hP2];exact RT.to (S:=fun b=>P b∨W1.heap.size≤b) ⟨ta,pt,rfl,hct,hrt⟩ (fun b hb hl=>hb.imp id fun h=>⟨h,hl⟩) fun _ _ _=>rfl)
  have HT2:Hid (RT P2 w2 d.what (.agg #[.int .i64 d.what.kind,.int .i64 d.what.n,.string d.what.name,.slice q2 d.what.args.length n2])):=J (by rw [hP2];exact (HT2.out.below hB2).mono fun b hb=>.inl hb)
  have HPA2:Hid (∀ b,P2 b→A b∨W0.heap.size≤b):=J fun b hb=>by
   rw [hP2] at hb
   rcases hb with hb | hb
   ·exact HP.out b hb
   ·exact .inr (by have:=HSW.out;have:=HS1.out;omega)
  have HS2:Hid (W1.heap.size≤w2.heap.size):=J hB2.size
  clear hB2 hct hrt hP2 ho1 htt hok1 z1 z2 z3 z4
  go_upto_region 8 with fail
  obtain ⟨W2,hW2⟩:=I (w2.alloc (.cells #[.int .i64 tt.kind,.int .i64 tt.n,.string tt.name,.slice ta tt.args.length pt] 25))
  obtain ⟨g17,hg17⟩:=I (w2.heap.size)
  have HD3:Hid (DoM P2 (fun b=>A b∧b < W0.heap.size∧b≠g13∧b≠bb) W0 w0 W2 g13 bb bc [.int .i64 m.kind,.int .i64 m.n,.string m.name,.slice am m.args.length cm,.int .i64 dk.fate,vs,vp,vl] dk.bd ((g17,[.int .i64 tt.kind,.int .i64 tt.n,.string tt.name,.slice ta tt.args.length pt]) :: (g16,[.int .i64 d.kind,.int .i64 d.to.kind,.int .i64 d.to.n,.string d.to.name,.slice q1 d.to.args.length n1,.int .i64 d.what.kind,.int .i64 d.what.n,.string d.what.name,.slice q2 d.what.args.length n2,.string d.name,.int .i64 d.var]) :: [(g7,[.int .i64 c.state.kind,.int .i64 c.state.n,.string c.state.name,.slice a1 c.state.args.length p1,.int .i64 c.message.kind,.int .i64 c.message.n,.string c.message.name,.slice a2 c.message.args.length p2,.slice a3 c.acts.length p3,.int .i64 c.next.kind,.int .i64 c.next.n,.string c.next.name,.slice a4 c.next.args.length p4]),(g11,[.int .i64 m.kind,.int .i64 m.n,.string m.name,.slice am m.args.length cm]),(g12,[.int .i64 0,.int .i64 0,.string ⟨#[]⟩,.slice none 0 0,.int .i64 0,.slice none 0 0,.slice none 0 0,.slice none 0 0]),(g14,[.int .i64 m.kind,.int .i64 m.n,.string m.name,.slice am m.args.length cm,.int .i64 2,.slice none 0 0,.slice none 0 0,.slice none 0 0])]) [rRSnd vs dk.sends,rRSpn vp dk.spawns,rLnk vl dk.links]):=J (by rw [hW2];exact HD2.out.alloc #[.int .i64 tt.kind,.int .i64 tt.n,.string tt.name,.slice ta tt.args.length pt] _ hg17)
  have HT17:Hid (RT P2 W2 tt (.agg #[.int .i64 tt.kind,.int .i64 tt.n,.string tt.name,.slice ta tt.args.length pt])):=J (by rw [hW2];exact HR2.out.alloc _)
  have HT2:Hid (RT P2 W2 d.what (.agg #[.int .i64 d.what.kind,.int .i64 d.what.n,.string d.what.name,.slice q2 d.what.args.length n2])):=J (by rw [hW2];exact HT2.out.alloc _)
  have HS3:Hid (w2.heap.size≤W2.heap.size):=J (by rw [hW2];simp)
  rw [←hW2,←hg17]
  clear hW2 hg17
  have z5:=HD3.out.cell mS1 5 _ rfl
  have z6:=HD3.out.cell mS1 6 _ rfl
  have z7:=HD3.out.cell mS1 7 _ rfl
  have z8:=HD3.out.cell mS1 8 _ rfl
  go_wp2_with fail
  refine (rvalueX_c dk.bd self HBL.out.1 d.what _ P2 W2 _ _ HT2.out HD3.out.bd.rxT (fun b hb=>by (obtain rfl:bb=b:=by simpa [Value.ownBlock] using hb);exact HD3.out.lt.2.2.2) (fun b hb=>(HD3.out.pn hb).1) (by have:=HBL.out;have:=HDB.out;omega) (HCD.out d HMEM.out).2.2.2.1).mono ?_
  rintro e w3 ⟨v2,rfl,hB3,hR3⟩
  obtain ⟨o2,ho2⟩:∃ o,o=valF dk.bd self d.what:=⟨_,rfl⟩
  rw [←ho2] at hR3
  rw [←ho2]
  have HO2:=J ho2
  obtain ⟨tw,htw⟩:∃ t,t=o2.getD yJ:=⟨_,rfl⟩
  obtain ⟨ok2,hok2⟩:∃ b,b=o2.isSome:=⟨_,rfl⟩
  rw [←htw] at hR3
  rw [←hok2]
  have HTW:=J htw;have HOK2:=J hok2
  obtain ⟨tb,pw,rfl,hct,hrt⟩:=hR3
  obtain ⟨P3,hP3⟩:∃ Q:Nat→Prop,Q=fun b=>P2 b∨(W2.heap.size≤b∧b < w3.heap.size):=⟨_,rfl⟩
  have HD4:Hid (DoM P3 (fun b=>A b∧b < W0.heap.size∧b≠g13∧b≠bb) W0 w0 w3 g13 bb bc [.int .i64 m.kind,.int .i64 m.n,.string m.name,.slice am m.args.length cm,.int .i64 dk.fate,vs,vp,vl] dk.bd ((g17,[.int .i64 tt.kind,.int .i64 tt.n,.string tt.name,.slice ta tt.args.length pt]) :: (g16,[.int .i64 d.kind,.int .i64 d.to.kind,.int .i64 d.to.n,.string d.to.name,.slice q1 d.to.args.length n1,.int .i64 d.what.kind,.int .i64 d.what.n,.string d.what.name,.slice q2 d.what.args.length n2,.string d.name,.int .i64 d.var]) :: [(g7,[.int .i64 c.state.kind,.int .i64 c.state.n,.string c.state.name,.slice a1 c.state.args.length p1,.int .i64 c.message.kind,.int .i64 c.message.n,.string c.message.name,.slice a2 c.message.args.length p2,.slice a3 c.acts.length p3,.int .i64 c.next.kind,.int .i64 c.next.n,.string c.next.name,.slice a4 c.next.args.length p4]),(g11,[.int .i64 m.kind,.int .i64 m.n,.string m.name,.slice am m.args.length cm]),(g12,[.int .i64 0,.int .i64 0,.string ⟨#[]⟩,.slice none 0 0,.int .i64 0,.slice none 0 0,.slice none 0 0,.slice none 0 0]),(g14,[.int .i64 m.kind,.int .i64 m.n,.string m.name,.slice am m.args.length cm,.int .i64 2,.slice none 0 0,.slice none 0 0,.slice none 0 0])]) [rRSnd vs dk.sends,rRSpn vp dk.spawns,rLnk vl dk.links]):=J (by rw [hP3];exact HD3.out.keep (Keep.of hB3) (HD3.out.blk.step hB3))
  have HR3':Hid (RT P3 w3 tw (.agg #[.int .i64 tw.kind,.int .i64 tw.n,.string tw.name,.slice tb tw.args.length pw])):=J (by rw [hP3];exact RT.to (S:=fun b=>P2 b∨W2.heap.size≤b) ⟨tb,pw,rfl,hct,hrt⟩ (fun b hb hl=>hb.imp id fun h=>⟨h,hl⟩) fun _ _ _=>rfl)
  have HT17:Hid (RT P3 w3 tt (.agg #[.int .i64 tt.kind,.int .i64 tt.n,.string tt.name,.slice ta tt.args.length pt])):=J (by rw [hP3];exact (HT17.out.below hB3).mono fun b hb=>.inl hb)
  have HS4:Hid (W2.heap.size≤w3.heap.size):=J hB3.size
  have HPA3:Hid (∀ b,P3 b→A b∨W0.heap.size≤b):=J fun b hb=>by
   rw [hP3] at hb
   rcases hb with hb | hb
   ·exact HPA2.out b hb
   ·exact .inr (by have:=HSW.out;have:=HS1.out;have:=HS2.out;have:=HS3.out;omega)
  clear hB3 hct hrt hP3 ho2 htw hok2 z5 z6 z7 z8
  go_upto_region 9 with fail
  obtain ⟨W3,hW3⟩:=I (w3.alloc (.cells #[.int .i64 tw.kind,.int .i64 tw.n,.string tw.name,.slice tb tw.args.length pw] 25))
  obtain ⟨g19,hg19⟩:=I (w3.heap.size)
  have HD5:Hid (DoM P3 (fun b=>A b∧b < W0.heap.size∧b≠g13∧b≠bb) W0 w0 W3 g13 bb bc [.int .i64 m.kind,.int .i64 m.n,.string m.name,.slice am m.args.length cm,.int .i64 dk.fate,vs,vp,vl] dk.bd ((g19,[.int .i64 tw.kind,.int .i64 tw.n,.string tw.name,.slice tb tw.args.length pw]) :: (g17,[.int .i64 tt.kind,.int .i64 tt.n,.string tt.name,.slice ta tt.args.length pt]) :: (g16,[.int .i64 d.kind,.int .i64 d.to.kind,.int .i64 d.to.n,.string d.to.name,.slice q1 d.to.args.length n1,.int .i64 d.what.kind,.int .i64 d.what.n,.string d.what.name,.slice q2 d.what.args.length n2,.string d.name,.int .i64 d.var]) :: [(g7,[.int .i64 c.state.kind,.int .i64 c.state.n,.string c.state.name,.slice a1 c.state.args.length p1,.int .i64 c.message.kind,.int .i64 c.message.n,.string c.message.name,.slice a2 c.message.args.length p2,.slice a3 c.acts.length p3,.int .i64 c.next.kind,.int .i64 c.next.n,.string c.next.name,.slice a4 c.next.args.length p4]),(g11,[.int .i64 m.kind,.int .i64 m.n,.string m.name,.slice am m.args.length cm]),(g12,[.int .i64 0,.int .i64 0,.string ⟨#[]⟩,.slice none 0 0,.int .i64 0,.slice none 0 0,.slice none 0 0,.slice none 0 0]),(g14,[.int .i64 m.kind,.int .i64 m.n,.string m.name,.slice am m.args.length cm,.int .i64 2,.slice none 0 0,.slice none 0 0,.slice none 0 0])]) [rRSnd vs dk.sends,rRSpn vp dk.spawns,rLnk vl dk.links]):=J (by rw [hW3];exact HD4.out.alloc #[.int .i64 tw.kind,.int .i64 tw.n,.string tw.name,.slice tb tw.args.length pw] _ hg19)
  have HT17:Hid (RT P3 W3 tt (.agg #[.int .i64 tt.kind,.int .i64 tt.n,.string tt.name,.slice ta tt.args.length pt])):=J (by rw [hW3];exact HT17.out.alloc _)
  have HT19:Hid (RT P3 W3 tw (.agg #[.int .i64 tw.kind,.int .i64 tw.n,.string tw.name,.slice tb tw.args.length pw])):=J (by rw [hW3];exact HR3'.out.alloc _)
  have HS5:Hid (W0.heap.size≤W3.heap.size):=J (by have h1:w3.heap.size≤W3.heap.size:=(by rw [hW3];simp);have:=HSW.out;have:=HS1.out;have:=HS2.out;have:=HS3.out;have:=HS4.out;omega)
  rw [←hW3,←hg19]
  clear hW3 hg19
  have HRE:Hid (((reckO dk.bd self d.to).1=tt∧((reckO dk.bd self d.to).2 != 0)=!ok1)∨d.to=yJ):=J (by
   rcases (HCD.out d HMEM.out).2.2.1 with h | h
   ·have:=reckO_valF h HBL.out.2.1 HSIN.out
    rw [this,←HO1.out,HTT.out,HOK1.out]
    exact .inl ⟨rfl,by cases o1.isSome <;> rfl⟩
   ·exact .inr h)
  have HRW2:Hid (((reckO dk.bd self d.what).1=tw∧((reckO dk.bd self d.what).2 != 0)=!ok2)∨d.what=yJ):=J (by
   rcases (HCD.out d HMEM.out).2.2.2.1 with h | h
   ·have:=reckO_valF h HBL.out.2.1 HSIN.out
    rw [this,←HO2.out,HTW.out,HOK2.out]
    exact .inl ⟨rfl,by cases o2.isSome <;> rfl⟩
   ·exact .inr h)
  have z0:=HD5.out.cell mS2 0 _ rfl
  have HBN3:Hid (Below N w0 W3):=J (by have:=HD5.out.rq.bel;rwa [HW0.out] at this)
  have HX12':Hid (Blk W3 g12 [.int .i64 0,.int .i64 0,.string ⟨#[]⟩,.slice none 0 0,.int .i64 0,.slice none 0 0,.slice none 0 0,.slice none 0 0]):=J (HD5.out.rq.bk _ mS5).1
  have HMQ:Hid (∀ b,Sc b→W3.heap[b]?=W0.heap[b]?):=J fun b hb=>HD5.out.qf b (HSC.out b hb)
  have HAQ:Hid (∀ b,A b→b < w.heap.size→W3.heap[b]?=w.heap[b]?):=J fun b ha hl=>(HD5.out.qf b ⟨ha,by have:=HSZ.out;omega,by have:=HSZ.out;omega,(HA.out b ha).2.1⟩).trans (HB0.out.block b hl)
  have HQQ:Hid (W3.heap[qb]?=w.heap[qb]?):=J ((HBN3.out.block qb HNN.out.2.2).trans ((HD00.out.block qb HNN.out.2.2).symm.trans (HB0.out.block qb (by have:=HNN.out;omega))))
  have HBADF:Hid ((doA self dk d).bad=true→actO room self next st ml m c bd=(⟨m,2,[],[],[]⟩,st)):=J fun h1=>by
   have h2:(foldA self ⟨bd,next,[],[],[],0,false⟩ c.acts).bad=true:=by rw [foldA_split self ⟨bd,next,[],[],[],0,false⟩ c.acts (k+1),HFS1.out,←HDK.out,←HDD.out];exact foldA_bad _ _ _ h1
   exact actO_bad (dd:=foldA self ⟨bd,next,[],[],[],0,false⟩ c.acts) (t:=(reckO (foldA self ⟨bd,next,[],[],[],0,false⟩ c.acts).bd self c.next).1) (n:=(reckO (foldA self ⟨bd,next,[],[],[],0,false⟩ c.acts).bd self c.next).2) rfl rfl (by rw [h2];rfl)
  by_cases k1:d.kind=1
  ·have e1:(d.kind == 1)=true:=by simp [k1]
   have HK1:=J k1
   clear k1
   have y0:=HD5.out.cell mS1 0 _ rfl
   cases ok1
   ·skip
    have HBF:=J (HBADF.out (by unfold doA;rw [if_pos HK1.out];(rcases HRE.out with h | h;rotate_left 1;(exfalso;have h9:=((HCD.out d HMEM.out).2.2.2.2.1 HK1.out).1;rw [h] at h9;exact zero_chk h9));(rcases HRW2.out with h' | h';rotate_left 1;(exfalso;have h9:=((HCD.out d HMEM.out).2.2.2.2.1 HK1.out).2;rw [h'] at h9;exact zero_chk h9));show (((dk.bad || (reckO dk.bd self d.to).2 != 0) || (reckO dk.bd self d.to).1.kind != 3) || (reckO dk.bd self d.what).2 != 0)=true;rw [h.2,h.1,h'.2];simp))
    have w0:=HD5.out.cell mS6 0 _ rfl
    have w1:=HD5.out.cell mS6 1 _ rfl
    have w2:=HD5.out.cell mS6 2 _ rfl
    have w3:=HD5.out.cell mS6 3 _ rfl
    have w4:=HD5.out.cell mS6 4 _ rfl
    have w5:=HD5.out.cell mS6 5 _ rfl
    have w6:=HD5.out.cell mS6 6 _ rfl
    have w7:=HD5.out.cell mS6 7 _ rfl
    go_wp2_with (first | (refine yI 43 8 szRTaken _ _ rfl rfl rfl rfl rfl HX12'.out rfl rfl rfl ?_;intro W9 hF hsW9 hBW hoth;have HF:=J hF;have HFB:=J hBW;have HOTH:=J hoth;have HFS:=J hsW9;clear hF hBW hoth))
    refine bodyPost_ret (result_blk Tryz.results34 szRTaken _ Tryz.underlying43 rfl rfl HF.out rfl) rfl ?_
    rw [HBF.out]
    refine ⟨[.int .i64 m.kind,.int .i64 m.n,.string m.name,.slice am m.args.length cm,.int .i64 2,.slice none 0 0,.slice none 0 0,.slice none 0 0],rfl,⟨am,cm,_,_,_,rfl,HTM.out.to (fun b hb _=>.inl (HIN.out b (.inr (.inr hb))).1) (fun b hb hl=>(HOTH.out b (by have:=(HIN.out b (.inr (.inr hb))).2;have:=HSZ.out;omega)).trans (HMQ.out b hb)),RX.nil _ _ _,RX.nil _ _ _,RX.nil _ _ _⟩,keep_fin HB0.out HD00.out HBN3.out HNN.out.2.1 HS5.out (HFB.out 0 _ (Nat.zero_le _) (Below.refl _ _)) HOTH.out (by have:=HSZ.out;have:=HNN.out;omega),qr_fin HQR.out (fun b hb=>HIN.out b (.inl hb)) (fun b hb=>(HA.out b hb).1) (fun b ha hl=>(HOTH.out b (by have:=HSZ.out;omega)).trans (HAQ.out b ha hl)) ((HOTH.out qb (by have:=HSZ.out;have:=HNN.out;omega)).trans HQQ.out) (by have:=HS5.out;have:=HB0.out.size;have:=HFS.out;omega)⟩
   have hk3:=True.intro
   by_cases h3:tt.kind=3
   rotate_left 1
   ·have h3b:(tt.kind != 3)=true:=by simpa using h3
    have HH3:=J h3
    clear h3
    have HBF:=J (HBADF.out (by unfold doA;rw [if_pos HK1.out];(rcases HRE.out with h | h;rotate_left 1;(exfalso;have h9:=((HCD.out d HMEM.out).2.2.2.2.1 HK1.out).1;rw [h] at h9;exact zero_chk h9));(rcases HRW2.out with h' | h';rotate_left 1;(exfalso;have h9:=((HCD.out d HMEM.out).2.2.2.2.1 HK1.out).2;rw [h'] at h9;exact zero_chk h9));show (((dk.bad || (reckO dk.bd self d.to).2 != 0) || (reckO dk.bd self d.to).1.kind != 3) || (reckO dk.bd self d.what).2 != 0)=true;rw [h.2,h.1,h'.2];simp [HH3.out]))
    have w0:=HD5.out.cell mS6 0 _ rfl
    have w1:=HD5.out.cell mS6 1 _ rfl
    have w2:=HD5.out.cell mS6 2 _ rfl
    have w3:=HD5.out.cell mS6 3 _ rfl
    have w4:=HD5.out.cell mS6 4 _ rfl
    have w5:=HD5.out.cell mS6 5 _ rfl
    have w6:=HD5.out.cell mS6 6 _ rfl
    have w7:=HD5.out.cell mS6 7 _ rfl
    go_wp2_with (first | (refine yI 43 8 szRTaken _ _ rfl rfl rfl rfl rfl HX12'.out rfl rfl rfl ?_;intro W9 hF hsW9 hBW hoth;have HF:=J hF;have HFB:=J hBW;have HOTH:=J hoth;have HFS:=J hsW9;clear hF hBW hoth))
    refine bodyPost_ret (result_blk Tryz.results34 szRTaken _ Tryz.underlying43 rfl rfl HF.out rfl) rfl ?_
    rw [HBF.out]
    refine ⟨[.int .i64 m.kind,.int .i64 m.n,.string m.name,.slice am m.args.length cm,.int .i64 2,.slice none 0 0,.slice none 0 0,.slice none 0 0],rfl,⟨am,cm,_,_,_,rfl,HTM.out.to (fun b hb _=>.inl (HIN.out b (.inr (.inr hb))).1) (fun b hb hl=>(HOTH.out b (by have:=(HIN.out b (.inr (.inr hb))).2;have:=HSZ.out;omega)).trans (HMQ.out b hb)),RX.nil _ _ _,RX.nil _ _ _,RX.nil _ _ _⟩,keep_fin HB0.out HD00.out HBN3.out HNN.out.2.1 HS5.out (HFB.out 0 _ (Nat.zero_le _) (Below.refl _ _)) HOTH.out (by have:=HSZ.out;have:=HNN.out;omega),qr_fin HQR.out (fun b hb=>HIN.out b (.inl hb)) (fun b hb=>(HA.out b hb).1) (fun b ha hl=>(HOTH.out b (by have:=HSZ.out;omega)).trans (HAQ.out b ha hl)) ((HOTH.out qb (by have:=HSZ.out;have:=HNN.out;omega)).trans HQQ.out) (by have:=HS5.out;have:=HB0.out.size;have:=HFS.out;omega)⟩
   have h3b:(tt.kind != 3)=false:=by simp [h3]
   cases ok2
   ·skip
    have HBF:=J (HBADF.out (by unfold doA;rw [if_pos HK1.out];(rcases HRE.out with h | h;rotate_left 1;(exfalso;have h9:=((HCD.out d HMEM.out).2.2.2.2.1 HK1.out).1;rw [h] at h9;exact zero_chk h9));(rcases HRW2.out with h' | h';rotate_left 1;(exfalso;have h9:=((HCD.out d HMEM.out).2.2.2.2.1 HK1.out).2;rw [h'] at h9;exact zero_chk h9));show (((dk.bad || (reckO dk.bd self d.to).2 != 0) || (reckO dk.bd self d.to).1.kind != 3) || (reckO dk.bd self d.what).2 != 0)=true;rw [h.2,h.1,h'.2];simp))
    have w0:=HD5.out.cell mS6 0 _ rfl
    have w1:=HD5.out.cell mS6 1 _ rfl
    have w2:=HD5.out.cell mS6 2 _ rfl
    have w3:=HD5.out.cell mS6 3 _ rfl
    have w4:=HD5.out.cell mS6 4 _ rfl
    have w5:=HD5.out.cell mS6 5 _ rfl
    have w6:=HD5.out.cell mS6 6 _ rfl
    have w7:=HD5.out.cell mS6 7 _ rfl
    go_wp2_with (first | (refine yI 43 8 szRTaken _ _ rfl rfl rfl rfl rfl HX12'.out rfl rfl rfl ?_;intro W9 hF hsW9 hBW hoth;have HF:=J hF;have HFB:=J hBW;have HOTH:=J hoth;have HFS:=J hsW9;clear hF hBW hoth))
    refine bodyPost_ret (result_blk Tryz.results34 szRTaken _ Tryz.underlying43 rfl rfl HF.out rfl) rfl ?_
    rw [HBF.out]
    refine ⟨[.int .i64 m.kind,.int .i64 m.n,.string m.name,.slice am m.args.length cm,.int .i64 2,.slice none 0 0,.slice none 0 0,.slice none 0 0],rfl,⟨am,cm,_,_,_,rfl,HTM.out.to (fun b hb _=>.inl (HIN.out b (.inr (.inr hb))).1) (fun b hb hl=>(HOTH.out b (by have:=(HIN.out b (.inr (.inr hb))).2;have:=HSZ.out;omega)).trans (HMQ.out b hb)),RX.nil _ _ _,RX.nil _ _ _,RX.nil _ _ _⟩,keep_fin HB0.out HD00.out HBN3.out HNN.out.2.1 HS5.out (HFB.out 0 _ (Nat.zero_le _) (Below.refl _ _)) HOTH.out (by have:=HSZ.out;have:=HNN.out;omega),qr_fin HQR.out (fun b hb=>HIN.out b (.inl hb)) (fun b hb=>(HA.out b hb).1) (fun b ha hl=>(HOTH.out b (by have:=HSZ.out;omega)).trans (HAQ.out b ha hl)) ((HOTH.out qb (by have:=HSZ.out;have:=HNN.out;omega)).trans HQQ.out) (by have:=HS5.out;have:=HB0.out.size;have:=HFS.out;omega)⟩
   have HH3:=J h3
   clear h3 hk3
   have y1:=HD5.out.cell mS1 1 _ rfl
   have u0:=HD5.out.cell mS0 0 _ rfl
   have u1:=HD5.out.cell mS0 1 _ rfl
   have u2:=HD5.out.cell mS0 2 _ rfl
   have u3:=HD5.out.cell mS0 3 _ rfl
   have v5:=HD5.out.blk.cell 5 _ rfl
   obtain ⟨Wb,hWb⟩:=I (W3.alloc (.cells #[.int .i64 tt.n,.int .i64 tw.kind,.int .i64 tw.n,.string tw.name,.slice tb tw.args.length pw] 104))
   obtain ⟨gz,hgz⟩:=I (W3.heap.size)
   have HD6:Hid (DoM P3 (fun b=>A b∧b < W0.heap.size∧b≠g13∧b≠bb) W0 w0 Wb g13 bb bc [.int .i64 m.kind,.int .i64 m.n,.string m.name,.slice am m.args.length cm,.int .i64 dk.fate,vs,vp,vl] dk.bd ((gz,[.int .i64 tt.n,.int .i64 tw.kind,.int .i64 tw.n,.string tw.name,.slice tb tw.args.length pw]) :: ((g19,[.int .i64 tw.kind,.int .i64 tw.n,.string tw.name,.slice tb tw.args.length pw]) :: (g17,[.int .i64 tt.kind,.int .i64 tt.n,.string tt.name,.slice ta tt.args.length pt]) :: (g16,[.int .i64 d.kind,.int .i64 d.to.kind,.int .i64 d.to.n,.string d.to.name,.slice q1 d.to.args.length n1,.int .i64 d.what.kind,.int .i64 d.what.n,.string d.what.name,.slice q2 d.what.args.length n2,.string d.name,.int .i64 d.var]) :: [(g7,[.int .i64 c.state.kind,.int .i64 c.state.n,.string c.state.name,.slice a1 c.state.args.length p1,.int .i64 c.message.kind,.int .i64 c.message.n,.string c.message.name,.slice a2 c.message.args.length p2,.slice a3 c.acts.length p3,.int .i64 c.next.kind,.int .i64 c.next.n,.string c.next.name,.slice a4 c.next.args.length p4]),(g11,[.int .i64 m.kind,.int .i64 m.n,.string m.name,.slice am m.args.length cm]),(g12,[.int .i64 0,.int .i64 0,.string ⟨#[]⟩,.slice none 0 0,.int .i64 0,.slice none 0 0,.slice none 0 0,.slice none 0 0]),(g14,[.int .i64 m.kind,.int .i64 m.n,.string m.name,.slice am m.args.length cm,.int .i64 2,.slice none 0 0,.slice none 0 0,.slice none 0 0])])) [rRSnd vs dk.sends,rRSpn vp dk.spawns,rLnk vl dk.links]):=J (by rw [hWb];exact HD5.out.alloc #[.int .i64 tt.n,.int .i64 tw.kind,.int .i64 tw.n,.string tw.name,.slice tb tw.args.length pw] _ hgz)
   have HT6:Hid (RT P3 Wb tw (.agg #[.int .i64 tw.kind,.int .i64 tw.n,.string tw.name,.slice tb tw.args.length pw])):=J (by rw [hWb];exact HT19.out.alloc _)
   have HSb:Hid (W0.heap.size≤Wb.heap.size):=J (by rw [hWb];have:=HS5.out;simp;omega)
   have HWB:=J hWb;have HGZ:=J hgz
   have HDO:Hid (doA self dk d=⟨dk.bd,dk.next,dk.sends ++ [(tt.n,tw)],dk.spawns,dk.links,dk.fate,false⟩):=J (by
    unfold doA
    rw [if_pos HK1.out]
    (rcases HRE.out with h | h;rotate_left 1;(exfalso;have h9:=((HCD.out d HMEM.out).2.2.2.2.1 HK1.out).1;rw [h] at h9;exact zero_chk h9))
    (rcases HRW2.out with h' | h';rotate_left 1;(exfalso;have h9:=((HCD.out d HMEM.out).2.2.2.2.1 HK1.out).2;rw [h'] at h9;exact zero_chk h9))
    simp only [h.1,h'.1,h.2,h'.2,HBAD.out]
    simp [HH3.out])
   clear hWb hgz
   go_wp2_with (rw [←HWB.out,←HGZ.out];refine append_growQ _ _ rfl rsndF rfl [] [rRSpn vp dk.spawns,rLnk vl dk.links] (v:=vs) (xs:=dk.sends) (y:=(tt.n,tw)) (g0:=gz) (c:=[.int .i64 tt.n,.int .i64 tw.kind,.int .i64 tw.n,.string tw.name,.slice tb tw.args.length pw]) (by rfl) (by rfl) HD6.out.rq mS0 ⟨tb,pw,rfl,HT6.out⟩ rfl (by have:=HBL.out;omega) ?_;intro gn on cn wn hz hzg;have HD7:Hid (DoM P3 (fun b=>A b∧b < W0.heap.size∧b≠g13∧b≠bb) W0 w0 wn g13 bb bc [.int .i64 m.kind,.int .i64 m.n,.string m.name,.slice am m.args.length cm,.int .i64 dk.fate,vs,vp,vl] dk.bd ((gz,[.int .i64 tt.n,.int .i64 tw.kind,.int .i64 tw.n,.string tw.name,.slice tb tw.args.length pw]) :: ((g19,[.int .i64 tw.kind,.int .i64 tw.n,.string tw.name,.slice tb tw.args.length pw]) :: (g17,[.int .i64 tt.kind,.int .i64 tt.n,.string tt.name,.slice ta tt.args.length pt]) :: (g16,[.int .i64 d.kind,.int .i64 d.to.kind,.int .i64 d.to.n,.string d.to.name,.slice q1 d.to.args.length n1,.int .i64 d.what.kind,.int .i64 d.what.n,.string d.what.name,.slice q2 d.what.args.length n2,.string d.name,.int .i64 d.var]) :: [(g7,[.int .i64 c.state.kind,.int .i64 c.state.n,.string c.state.name,.slice a1 c.state.args.length p1,.int .i64 c.message.kind,.int .i64 c.message.n,.string c.message.name,.slice a2 c.message.args.length p2,.slice a3 c.acts.length p3,.int .i64 c.next.kind,.int .i64 c.next.n,.string c.next.name,.slice a4 c.next.args.length p4]),(g11,[.int .i64 m.kind,.int .i64 m.n,.string m.name,.slice am m.args.length cm]),(g12,[.int .i64 0,.int .i64 0,.string ⟨#[]⟩,.slice none 0 0,.int .i64 0,.slice none 0 0,.slice none 0 0,.slice none 0 0]),(g14,[.int .i64 m.kind,.int .i64 m.n,.string m.name,.slice am m.args.length cm,.int .i64 2,.slice none 0 0,.slice none 0 0,.slice none 0 0])])) ([] ++ rRSnd (.slice (some ⟨gn,on,none⟩) (dk.sends.length+1) cn) (dk.sends ++ [(tt.n,tw)]) :: [rRSpn vp dk.spawns,rLnk vl dk.links])):=J (DoM.grown (l1:=[]) (l2:=[rRSpn vp dk.spawns,rLnk vl dk.links]) (r:=rRSnd vs dk.sends) HD6.out hzg hz);have HSn:=J hzg.size;clear hz hzg;have zf:=HD7.out.blk.fr;have zc:=HD7.out.blk.cell 5 _ rfl;have zl:=HD7.out.blk.lt)
   go_roundw
   case rel =>
    refine ⟨k+1,P3,(.slice (some ⟨gn,on,none⟩) (dk.sends.length+1) cn),vp,vl,by omega,by go_num,?_,?_,HPA3.out,?_,?_⟩
    ·rw [HFS1.out,←HDK.out,←HDD.out,HDO.out]
    ·rw [HFS1.out,←HDK.out,←HDD.out,HDO.out]
    ·have:=HSb.out;have:=HSn.out;simp;omega
    rw [HFS1.out,←HDK.out,←HDD.out,HDO.out]
    exact (HD7.out.set 5 (.slice (some ⟨gn,on,none⟩) (dk.sends.length+1) cn) (by simp)).sub (fun p hp=>mT (mT (mT (mT hp))))
   case measure=>simp [intOf];omega
  have e1:(d.kind == 1)=false:=by simpa using k1
  by_cases k3:d.kind=3
  ·have e3:(d.kind == 3)=true:=by simp [k3]
   have HK3:=J k3
   clear k3 k1
   have y0:=HD5.out.cell mS1 0 _ rfl
   cases ok1
   ·skip
    have HBF:=J (HBADF.out (by unfold doA;rw [if_neg (by rw [HK3.out];decide),if_neg (by rw [HK3.out];decide),if_pos HK3.out];(rcases HRE.out with h | h;rotate_left 1;(exfalso;have h9:=(HCD.out d HMEM.out).2.2.2.2.2.2 HK3.out;rw [h] at h9;exact zero_chk h9));show ((dk.bad || (reckO dk.bd self d.to).2 != 0) || (reckO dk.bd self d.to).1.kind != 3)=true;rw [h.2,h.1];simp))
    have w0:=HD5.out.cell mS6 0 _ rfl
    have w1:=HD5.out.cell mS6 1 _ rfl
    have w2:=HD5.out.cell mS6 2 _ rfl
    have w3:=HD5.out.cell mS6 3 _ rfl
    have w4:=HD5.out.cell mS6 4 _ rfl
    have w5:=HD5.out.cell mS6 5 _ rfl
    have w6:=HD5.out.cell mS6 6 _ rfl
    have w7:=HD5.out.cell mS6 7 _ rfl
    go_wp2_with (first | (refine yI 43 8 szRTaken _ _ rfl rfl rfl rfl rfl HX12'.out rfl rfl rfl ?_;intro W9 hF hsW9 hBW hoth;have HF:=J hF;have HFB:=J hBW;have HOTH:=J hoth;have HFS:=J hsW9;clear hF hBW hoth))
    refine bodyPost_ret (result_blk Tryz.results34 szRTaken _ Tryz.underlying43 rfl rfl HF.out rfl) rfl ?_
    rw [HBF.out]
    refine ⟨[.int .i64 m.kind,.int .i64 m.n,.string m.name,.slice am m.args.length cm,.int .i64 2,.slice none 0 0,.slice none 0 0,.slice none 0 0],rfl,⟨am,cm,_,_,_,rfl,HTM.out.to (fun b hb _=>.inl (HIN.out b (.inr (.inr hb))).1) (fun b hb hl=>(HOTH.out b (by have:=(HIN.out b (.inr (.inr hb))).2;have:=HSZ.out;omega)).trans (HMQ.out b hb)),RX.nil _ _ _,RX.nil _ _ _,RX.nil _ _ _⟩,keep_fin HB0.out HD00.out HBN3.out HNN.out.2.1 HS5.out (HFB.out 0 _ (Nat.zero_le _) (Below.refl _ _)) HOTH.out (by have:=HSZ.out;have:=HNN.out;omega),qr_fin HQR.out (fun b hb=>HIN.out b (.inl hb)) (fun b hb=>(HA.out b hb).1) (fun b ha hl=>(HOTH.out b (by have:=HSZ.out;omega)).trans (HAQ.out b ha hl)) ((HOTH.out qb (by have:=HSZ.out;have:=HNN.out;omega)).trans HQQ.out) (by have:=HS5.out;have:=HB0.out.size;have:=HFS.out;omega)⟩
   by_cases h3:tt.kind=3
   rotate_left 1
   ·have h3b:(tt.kind != 3)=true:=by simpa using h3
    have HH3:=J h3
    clear h3
    have HBF:=J (HBADF.out (by unfold doA;rw [if_neg (by rw [HK3.out];decide),if_neg (by rw [HK3.out];decide),if_pos HK3.out];(rcases HRE.out with h | h;rotate_left 1;(exfalso;have h9:=(HCD.out d HMEM.out).2.2.2.2.2.2 HK3.out;rw [h] at h9;exact zero_chk h9));show ((dk.bad || (reckO dk.bd self d.to).2 != 0) || (reckO dk.bd self d.to).1.kind != 3)=true;rw [h.2,h.1];simp [HH3.out]))
    have w0:=HD5.out.cell mS6 0 _ rfl
    have w1:=HD5.out.cell mS6 1 _ rfl
    have w2:=HD5.out.cell mS6 2 _ rfl
    have w3:=HD5.out.cell mS6 3 _ rfl
    have w4:=HD5.out.cell mS6 4 _ rfl
    have w5:=HD5.out.cell mS6 5 _ rfl
    have w6:=HD5.out.cell mS6 6 _ rfl
    have w7:=HD5.out.cell mS6 7 _ rfl
    go_wp2_with (first | (refine yI 43 8 szRTaken _ _ rfl rfl rfl rfl rfl HX12'.out rfl rfl rfl ?_;intro W9 hF hsW9 hBW hoth;have HF:=J hF;have HFB:=J hBW;have HOTH:=J hoth;have HFS:=J hsW9;clear hF hBW hoth))
    refine bodyPost_ret (result_blk Tryz.results34 szRTaken _ Tryz.underlying43 rfl rfl HF.out rfl) rfl ?_
    rw [HBF.out]
    refine ⟨[.int .i64 m.kind,.int .i64 m.n,.string m.name,.slice am m.args.length cm,.int .i64 2,.slice none 0 0,.slice none 0 0,.slice none 0 0],rfl,⟨am,cm,_,_,_,rfl,HTM.out.to (fun b hb _=>.inl (HIN.out b (.inr (.inr hb))).1) (fun b hb hl=>(HOTH.out b (by have:=(HIN.out b (.inr (.inr hb))).2;have:=HSZ.out;omega)).trans (HMQ.out b hb)),RX.nil _ _ _,RX.nil _ _ _,RX.nil _ _ _⟩,keep_fin HB0.out HD00.out HBN3.out HNN.out.2.1 HS5.out (HFB.out 0 _ (Nat.zero_le _) (Below.refl _ _)) HOTH.out (by have:=HSZ.out;have:=HNN.out;omega),qr_fin HQR.out (fun b hb=>HIN.out b (.inl hb)) (fun b hb=>(HA.out b hb).1) (fun b ha hl=>(HOTH.out b (by have:=HSZ.out;omega)).trans (HAQ.out b ha hl)) ((HOTH.out qb (by have:=HSZ.out;have:=HNN.out;omega)).trans HQQ.out) (by have:=HS5.out;have:=HB0.out.size;have:=HFS.out;omega)⟩
   have h3b:(tt.kind != 3)=false:=by simp [h3]
   have HH3:=J h3
   clear h3
   have y1:=HD5.out.cell mS1 1 _ rfl
   have v7:=HD5.out.blk.cell 7 _ rfl
   obtain ⟨Wb,hWb⟩:=I (W3.alloc (.cells #[.int .i64 tt.n] 3))
   obtain ⟨gz,hgz⟩:=I (W3.heap.size)
   have HD6:Hid (DoM P3 (fun b=>A b∧b < W0.heap.size∧b≠g13∧b≠bb) W0 w0 Wb g13 bb bc [.int .i64 m.kind,.int .i64 m.n,.string m.name,.slice am m.args.length cm,.int .i64 dk.fate,vs,vp,vl] dk.bd ((gz,[.int .i64 tt.n]) :: ((g19,[.int .i64 tw.kind,.int .i64 tw.n,.string tw.name,.slice tb tw.args.length pw]) :: (g17,[.int .i64 tt.kind,.int .i64 tt.n,.string tt.name,.slice ta tt.args.length pt]) :: (g16,[.int .i64 d.kind,.int .i64 d.to.kind,.int .i64 d.to.n,.string d.to.name,.slice q1 d.to.args.length n1,.int .i64 d.what.kind,.int .i64 d.what.n,.string d.what.name,.slice q2 d.what.args.length n2,.string d.name,.int .i64 d.var]) :: [(g7,[.int .i64 c.state.kind,.int .i64 c.state.n,.string c.state.name,.slice a1 c.state.args.length p1,.int .i64 c.message.kind,.int .i64 c.message.n,.string c.message.name,.slice a2 c.message.args.length p2,.slice a3 c.acts.length p3,.int .i64 c.next.kind,.int .i64 c.next.n,.string c.next.name,.slice a4 c.next.args.length p4]),(g11,[.int .i64 m.kind,.int .i64 m.n,.string m.name,.slice am m.args.length cm]),(g12,[.int .i64 0,.int .i64 0,.string ⟨#[]⟩,.slice none 0 0,.int .i64 0,.slice none 0 0,.slice none 0 0,.slice none 0 0]),(g14,[.int .i64 m.kind,.int .i64 m.n,.string m.name,.slice am m.args.length cm,.int .i64 2,.slice none 0 0,.slice none 0 0,.slice none 0 0])])) [rRSnd vs dk.sends,rRSpn vp dk.spawns,rLnk vl dk.links]):=J (by rw [hWb];exact HD5.out.alloc #[.int .i64 tt.n] _ hgz)
   have HT6:Hid (RT P3 Wb tw (.agg #[.int .i64 tw.kind,.int .i64 tw.n,.string tw.name,.slice tb tw.args.length pw])):=J (by rw [hWb];exact HT19.out.alloc _)
   have HSb:Hid (W0.heap.size≤Wb.heap.size):=J (by rw [hWb];have:=HS5.out;simp;omega)
   have HWB:=J hWb;have HGZ:=J hgz
   have HDO:Hid (doA self dk d=⟨dk.bd,dk.next,dk.sends,dk.spawns,dk.links ++ [tt.n],dk.fate,false⟩):=J (by
    unfold doA
    rw [if_neg (by rw [HK3.out];decide),if_neg (by rw [HK3.out];decide),if_pos HK3.out]
    (rcases HRE.out with h | h;rotate_left 1;(exfalso;have h9:=(HCD.out d HMEM.out).2.2.2.2.2.2 HK3.out;rw [h] at h9;exact zero_chk h9))
    simp only [h.1,h.2,HBAD.out]
    simp [HH3.out])
   clear hWb hgz
   go_wp2_with (rw [←HWB.out,←HGZ.out];refine append_growQ _ _ rfl lnkF rfl [rRSnd vs dk.sends,rRSpn vp dk.spawns] [] (v:=vl) (xs:=dk.links) (y:=tt.n) (g0:=gz) (c:=[.int .i64 tt.n]) (by rfl) (by rfl) HD6.out.rq mS0 rfl rfl (by have:=HBL.out;omega) ?_;intro gn on cn wn hz hzg;have HD7:Hid (DoM P3 (fun b=>A b∧b < W0.heap.size∧b≠g13∧b≠bb) W0 w0 wn g13 bb bc [.int .i64 m.kind,.int .i64 m.n,.string m.name,.slice am m.args.length cm,.int .i64 dk.fate,vs,vp,vl] dk.bd ((gz,[.int .i64 tt.n]) :: ((g19,[.int .i64 tw.kind,.int .i64 tw.n,.string tw.name,.slice tb tw.args.length pw]) :: (g17,[.int .i64 tt.kind,.int .i64 tt.n,.string tt.name,.slice ta tt.args.length pt]) :: (g16,[.int .i64 d.kind,.int .i64 d.to.kind,.int .i64 d.to.n,.string d.to.name,.slice q1 d.to.args.length n1,.int .i64 d.what.kind,.int .i64 d.what.n,.string d.what.name,.slice q2 d.what.args.length n2,.string d.name,.int .i64 d.var]) :: [(g7,[.int .i64 c.state.kind,.int .i64 c.state.n,.string c.state.name,.slice a1 c.state.args.length p1,.int .i64 c.message.kind,.int .i64 c.message.n,.string c.message.name,.slice a2 c.message.args.length p2,.slice a3 c.acts.length p3,.int .i64 c.next.kind,.int .i64 c.next.n,.string c.next.name,.slice a4 c.next.args.length p4]),(g11,[.int .i64 m.kind,.int .i64 m.n,.string m.name,.slice am m.args.length cm]),(g12,[.int .i64 0,.int .i64 0,.string ⟨#[]⟩,.slice none 0 0,.int .i64 0,.slice none 0 0,.slice none 0 0,.slice none 0 0]),(g14,[.int .i64 m.kind,.int .i64 m.n,.string m.name,.slice am m.args.length cm,.int .i64 2,.slice none 0 0,.slice none 0 0,.slice none 0 0])])) ([rRSnd vs dk.sends,rRSpn vp dk.spawns] ++ rLnk (.slice (some ⟨gn,on,none⟩) (dk.links.length+1) cn) (dk.links ++ [tt.n]) :: [])):=J (DoM.grown (l1:=[rRSnd vs dk.sends,rRSpn vp dk.spawns]) (l2:=[]) (r:=rLnk vl dk.links) HD6.out hzg hz);have HSn:=J hzg.size;clear hz hzg;have zf:=HD7.out.blk.fr;have zc:=HD7.out.blk.cell 7 _ rfl;have zl:=HD7.out.blk.lt)
   go_roundw
   case rel =>
    refine ⟨k+1,P3,vs,vp,(.slice (some ⟨gn,on,none⟩) (dk.links.length+1) cn),by omega,by go_num,?_,?_,HPA3.out,?_,?_⟩
    ·rw [HFS1.out,←HDK.out,←HDD.out,HDO.out]
    ·rw [HFS1.out,←HDK.out,←HDD.out,HDO.out]
    ·have:=HSb.out;have:=HSn.out;simp;omega
    rw [HFS1.out,←HDK.out,←HDD.out,HDO.out]
    exact (HD7.out.set 7 (.slice (some ⟨gn,on,none⟩) (dk.links.length+1) cn) (by simp)).sub (fun p hp=>mT (mT (mT (mT hp))))
   case measure=>simp [intOf];omega
  have e3:(d.kind == 3)=false:=by simpa using k3
  by_cases k2:d.kind=2
  ·have e2:(d.kind == 2)=true:=by simp [k2]
   have HK2:=J k2
   clear k3 k1 k2
   obtain ⟨kv,hkv,hkv4⟩:∃ n:Nat,d.var=(n:Int)∧n < 4:=⟨d.var.toNat,by have:=HAO.out.2 d HMEM.out HK2.out;omega,by have:=HAO.out.2 d HMEM.out HK2.out;omega⟩
   have HKV:=J hkv;have HK4:=J hkv4
   have z10:=HD5.out.cell mS2 10 _ rfl
   rw [hkv] at z10
   obtain ⟨u,hu⟩:∃ u,u=dk.bd[kv]'(by rw [HBL.out.1];exact hkv4):=⟨_,rfl⟩
   have HU:Hid (dk.bd.getD d.var.toNat yJ=u):=J (by rw [hkv,hu,Int.toNat_natCast,List.getD_eq_getElem?_getD,List.getElem?_eq_getElem (by rw [HBL.out.1];exact hkv4)];rfl)
   obtain ⟨ab,capb,eb,-,hrb⟩:=HD5.out.rslB
   simp only [Value.slice.injEq] at eb
   obtain ⟨rfl,-,rfl⟩:=eb
   obtain ⟨ua,uc,-,d0,d1,d2,d3,-⟩:=hrb.elem kv (by rw [HBL.out.1];exact hkv4)
   rw [←hu] at d0
   (try simp only [Nat.zero_add] at d0)
   have hkvi:(kv:Int) < 4:=by omega
   clear hkv hu hrb d1 d2 d3 hkv4
   cases ok2
   ·skip
    have HBF:=J (HBADF.out (by unfold doA;rw [if_neg (by rw [HK2.out];decide),if_pos HK2.out];(rcases HRW2.out with h' | h';rotate_left 1;(exfalso;have h9:=(HCD.out d HMEM.out).2.2.2.2.2.1 HK2.out;rw [h'] at h9;exact zero_chk h9));show ((dk.bad || !((dk.bd.getD d.var.toNat yJ).kind == 6)) || (reckO dk.bd self d.what).2 != 0)=true;rw [HU.out,h'.2];simp))
    have w0:=HD5.out.cell mS6 0 _ rfl
    have w1:=HD5.out.cell mS6 1 _ rfl
    have w2:=HD5.out.cell mS6 2 _ rfl
    have w3:=HD5.out.cell mS6 3 _ rfl
    have w4:=HD5.out.cell mS6 4 _ rfl
    have w5:=HD5.out.cell mS6 5 _ rfl
    have w6:=HD5.out.cell mS6 6 _ rfl
    have w7:=HD5.out.cell mS6 7 _ rfl
    go_wp2_with (first | (refine yI 43 8 szRTaken _ _ rfl rfl rfl rfl rfl HX12'.out rfl rfl rfl ?_;intro W9 hF hsW9 hBW hoth;have HF:=J hF;have HFB:=J hBW;have HOTH:=J hoth;have HFS:=J hsW9;clear hF hBW hoth))
    refine bodyPost_ret (result_blk Tryz.results34 szRTaken _ Tryz.underlying43 rfl rfl HF.out rfl) rfl ?_
    rw [HBF.out]
    refine ⟨[.int .i64 m.kind,.int .i64 m.n,.string m.name,.slice am m.args.length cm,.int .i64 2,.slice none 0 0,.slice none 0 0,.slice none 0 0],rfl,⟨am,cm,_,_,_,rfl,HTM.out.to (fun b hb _=>.inl (HIN.out b (.inr (.inr hb))).1) (fun b hb hl=>(HOTH.out b (by have:=(HIN.out b (.inr (.inr hb))).2;have:=HSZ.out;omega)).trans (HMQ.out b hb)),RX.nil _ _ _,RX.nil _ _ _,RX.nil _ _ _⟩,keep_fin HB0.out HD00.out HBN3.out HNN.out.2.1 HS5.out (HFB.out 0 _ (Nat.zero_le _) (Below.refl _ _)) HOTH.out (by have:=HSZ.out;have:=HNN.out;omega),qr_fin HQR.out (fun b hb=>HIN.out b (.inl hb)) (fun b hb=>(HA.out b hb).1) (fun b ha hl=>(HOTH.out b (by have:=HSZ.out;omega)).trans (HAQ.out b ha hl)) ((HOTH.out qb (by have:=HSZ.out;have:=HNN.out;omega)).trans HQQ.out) (by have:=HS5.out;have:=HB0.out.size;have:=HFS.out;omega)⟩
   by_cases h6:u.kind=6
   rotate_left 1
   ·have h6b:(u.kind != 6)=true:=by simpa using h6
    have HH6:=J h6
    clear h6
    have HBF:=J (HBADF.out (by unfold doA;rw [if_neg (by rw [HK2.out];decide),if_pos HK2.out];(rcases HRW2.out with h' | h';rotate_left 1;(exfalso;have h9:=(HCD.out d HMEM.out).2.2.2.2.2.1 HK2.out;rw [h'] at h9;exact zero_chk h9));show ((dk.bad || !((dk.bd.getD d.var.toNat yJ).kind == 6)) || (reckO dk.bd self d.what).2 != 0)=true;rw [HU.out,h'.2];simp [HH6.out]))
    have w0:=HD5.out.cell mS6 0 _ rfl
    have w1:=HD5.out.cell mS6 1 _ rfl
    have w2:=HD5.out.cell mS6 2 _ rfl
    have w3:=HD5.out.cell mS6 3 _ rfl
    have w4:=HD5.out.cell mS6 4 _ rfl
    have w5:=HD5.out.cell mS6 5 _ rfl
    have w6:=HD5.out.cell mS6 6 _ rfl
    have w7:=HD5.out.cell mS6 7 _ rfl
    go_wp2_with (first | (refine yI 43 8 szRTaken _ _ rfl rfl rfl rfl rfl HX12'.out rfl rfl rfl ?_;intro W9 hF hsW9 hBW hoth;have HF:=J hF;have HFB:=J hBW;have HOTH:=J hoth;have HFS:=J hsW9;clear hF hBW hoth))
    refine bodyPost_ret (result_blk Tryz.results34 szRTaken _ Tryz.underlying43 rfl rfl HF.out rfl) rfl ?_
    rw [HBF.out]
    refine ⟨[.int .i64 m.kind,.int .i64 m.n,.string m.name,.slice am m.args.length cm,.int .i64 2,.slice none 0 0,.slice none 0 0,.slice none 0 0],rfl,⟨am,cm,_,_,_,rfl,HTM.out.to (fun b hb _=>.inl (HIN.out b (.inr (.inr hb))).1) (fun b hb hl=>(HOTH.out b (by have:=(HIN.out b (.inr (.inr hb))).2;have:=HSZ.out;omega)).trans (HMQ.out b hb)),RX.nil _ _ _,RX.nil _ _ _,RX.nil _ _ _⟩,keep_fin HB0.out HD00.out HBN3.out HNN.out.2.1 HS5.out (HFB.out 0 _ (Nat.zero_le _) (Below.refl _ _)) HOTH.out (by have:=HSZ.out;have:=HNN.out;omega),qr_fin HQR.out (fun b hb=>HIN.out b (.inl hb)) (fun b hb=>(HA.out b hb).1) (fun b ha hl=>(HOTH.out b (by have:=HSZ.out;omega)).trans (HAQ.out b ha hl)) ((HOTH.out qb (by have:=HSZ.out;have:=HNN.out;omega)).trans HQQ.out) (by have:=HS5.out;have:=HB0.out.size;have:=HFS.out;omega)⟩
   have h6b:(u.kind != 6)=false:=by simp [h6]
   have HH6:=J h6
   clear h6
   have z9:=HD5.out.cell mS2 9 _ rfl
   have u0:=HD5.out.cell mS0 0 _ rfl
   have u1:=HD5.out.cell mS0 1 _ rfl
   have u2:=HD5.out.cell mS0 2 _ rfl
   have u3:=HD5.out.cell mS0 3 _ rfl
   have v6:=HD5.out.blk.cell 6 _ rfl
   obtain ⟨Wb,hWb⟩:=I (W3.alloc (.cells #[.int .i64 dk.next,.string d.name,.int .i64 tw.kind,.int .i64 tw.n,.string tw.name,.slice tb tw.args.length pw] 109))
   obtain ⟨gz,hgz⟩:=I (W3.heap.size)
   have HD6:Hid (DoM P3 (fun b=>A b∧b < W0.heap.size∧b≠g13∧b≠bb) W0 w0 Wb g13 bb bc [.int .i64 m.kind,.int .i64 m.n,.string m.name,.slice am m.args.length cm,.int .i64 dk.fate,vs,vp,vl] dk.bd ((gz,[.int .i64 dk.next,.string d.name,.int .i64 tw.kind,.int .i64 tw.n,.string tw.name,.slice tb tw.args.length pw]) :: ((g19,[.int .i64 tw.kind,.int .i64 tw.n,.string tw.name,.slice tb tw.args.length pw]) :: (g17,[.int .i64 tt.kind,.int .i64 tt.n,.string tt.name,.slice ta tt.args.length pt]) :: (g16,[.int .i64 d.kind,.int .i64 d.to.kind,.int .i64 d.to.n,.string d.to.name,.slice q1 d.to.args.length n1,.int .i64 d.what.kind,.int .i64 d.what.n,.string d.what.name,.slice q2 d.what.args.length n2,.string d.name,.int .i64 d.var]) :: [(g7,[.int .i64 c.state.kind,.int .i64 c.state.n,.string c.state.name,.slice a1 c.state.args.length p1,.int .i64 c.message.kind,.int .i64 c.message.n,.string c.message.name,.slice a2 c.message.args.length p2,.slice a3 c.acts.length p3,.int .i64 c.next.kind,.int .i64 c.next.n,.string c.next.name,.slice a4 c.next.args.length p4]),(g11,[.int .i64 m.kind,.int .i64 m.n,.string m.name,.slice am m.args.length cm]),(g12,[.int .i64 0,.int .i64 0,.string ⟨#[]⟩,.slice none 0 0,.int .i64 0,.slice none 0 0,.slice none 0 0,.slice none 0 0]),(g14,[.int .i64 m.kind,.int .i64 m.n,.string m.name,.slice am m.args.length cm,.int .i64 2,.slice none 0 0,.slice none 0 0,.slice none 0 0])])) [rRSnd vs dk.sends,rRSpn vp dk.spawns,rLnk vl dk.links]):=J (by rw [hWb];exact HD5.out.alloc #[.int .i64 dk.next,.string d.name,.int .i64 tw.kind,.int .i64 tw.n,.string tw.name,.slice tb tw.args.length pw] _ hgz)
   have HT6:Hid (RT P3 Wb tw (.agg #[.int .i64 tw.kind,.int .i64 tw.n,.string tw.name,.slice tb tw.args.length pw])):=J (by rw [hWb];exact HT19.out.alloc _)
   have HSb:Hid (W0.heap.size≤Wb.heap.size):=J (by rw [hWb];have:=HS5.out;simp;omega)
   have HWB:=J hWb;have HGZ:=J hgz
   have HDO:Hid (doA self dk d=⟨dk.bd.set kv (pidTm dk.next),dk.next+1,dk.sends,dk.spawns ++ [(dk.next,d.name,tw)],dk.links,dk.fate,false⟩):=J (by
    unfold doA
    rw [if_neg (by rw [HK2.out];decide),if_pos HK2.out]
    (rcases HRW2.out with h' | h';rotate_left 1;(exfalso;have h9:=(HCD.out d HMEM.out).2.2.2.2.2.1 HK2.out;rw [h'] at h9;exact zero_chk h9))
    simp only [HU.out,h'.1,h'.2,HBAD.out]
    simp [HH6.out,HKV.out])
   have HNE:Hid (g16≠g13):=J (by have h1:=HG16.out;have h2:=HSW.out;have h3:=HSZ.out;omega)
   have hwr:IntKind.i64.wrap (dk.next+1)=dk.next+1:=by (have:=HBL.out);rw [IntKind.wrap_i64];omega
   clear hWb hgz
   go_wp2_with (rw [←HWB.out,←HGZ.out];refine append_growQ _ _ rfl rspnF rfl [rRSnd vs dk.sends] [rLnk vl dk.links] (v:=vp) (xs:=dk.spawns) (y:=(dk.next,d.name,tw)) (g0:=gz) (c:=[.int .i64 dk.next,.string d.name,.int .i64 tw.kind,.int .i64 tw.n,.string tw.name,.slice tb tw.args.length pw]) (by rfl) (by rfl) HD6.out.rq mS0 ⟨tb,pw,rfl,HT6.out⟩ rfl (by have:=HBL.out;omega) ?_;intro gn on cn wn hz hzg;have HD7:Hid (DoM P3 (fun b=>A b∧b < W0.heap.size∧b≠g13∧b≠bb) W0 w0 wn g13 bb bc [.int .i64 m.kind,.int .i64 m.n,.string m.name,.slice am m.args.length cm,.int .i64 dk.fate,vs,vp,vl] dk.bd ((gz,[.int .i64 dk.next,.string d.name,.int .i64 tw.kind,.int .i64 tw.n,.string tw.name,.slice tb tw.args.length pw]) :: ((g19,[.int .i64 tw.kind,.int .i64 tw.n,.string tw.name,.slice tb tw.args.length pw]) :: (g17,[.int .i64 tt.kind,.int .i64 tt.n,.string tt.name,.slice ta tt.args.length pt]) :: (g16,[.int .i64 d.kind,.int .i64 d.to.kind,.int .i64 d.to.n,.string d.to.name,.slice q1 d.to.args.length n1,.int .i64 d.what.kind,.int .i64 d.what.n,.string d.what.name,.slice q2 d.what.args.length n2,.string d.name,.int .i64 d.var]) :: [(g7,[.int .i64 c.state.kind,.int .i64 c.state.n,.string c.state.name,.slice a1 c.state.args.length p1,.int .i64 c.message.kind,.int .i64 c.message.n,.string c.message.name,.slice a2 c.message.args.length p2,.slice a3 c.acts.length p3,.int .i64 c.next.kind,.int .i64 c.next.n,.string c.next.name,.slice a4 c.next.args.length p4]),(g11,[.int .i64 m.kind,.int .i64 m.n,.string m.name,.slice am m.args.length cm]),(g12,[.int .i64 0,.int .i64 0,.string ⟨#[]⟩,.slice none 0 0,.int .i64 0,.slice none 0 0,.slice none 0 0,.slice none 0 0]),(g14,[.int .i64 m.kind,.int .i64 m.n,.string m.name,.slice am m.args.length cm,.int .i64 2,.slice none 0 0,.slice none 0 0,.slice none 0 0])])) ([rRSnd vs dk.sends] ++ rRSpn (.slice (some ⟨gn,on,none⟩) (dk.spawns.length+1) cn) (dk.spawns ++ [(dk.next,d.name,tw)]) :: [rLnk vl dk.links])):=J (DoM.grown (l1:=[rRSnd vs dk.sends]) (l2:=[rLnk vl dk.links]) (r:=rRSpn vp dk.spawns) HD6.out hzg hz);have HSn:=J hzg.size;clear hz hzg;(have z10:=HD7.out.cell mS3 10 _ rfl);(rw [HKV.out] at z10);(obtain ⟨ab,capb,eb,-,hrb⟩:=HD7.out.rslB);(simp only [Value.slice.injEq] at eb);(obtain ⟨rfl,-,rfl⟩:=eb);(obtain ⟨ua,uc,-,d0,d1,d2,d3,-⟩:=hrb.elem kv (by rw [HBL.out.1];exact HK4.out));(try simp only [Nat.zero_add] at d0 d1 d2 d3);(have yf:=HD7.out.bd.frozen);(have yl:=HD7.out.lt.2.2.2);(have n1:=HD7.out.ne);(have n2:bb≠g13:=fun e=>n1 e.symm);(have n3:g16≠g13:=(HNE.out));(have n4:g13≠g16:=fun e=>n3 e.symm);clear hrb;have zf:=HD7.out.blk.fr;have zc:=HD7.out.blk.cell 6 _ rfl;have zl:=HD7.out.blk.lt)
   go_roundw
   case rel =>
    refine ⟨k+1,P3,vs,(.slice (some ⟨gn,on,none⟩) (dk.spawns.length+1) cn),vl,by omega,by go_num,?_,?_,HPA3.out,?_,?_⟩
    ·rw [HFS1.out,←HDK.out,←HDD.out,HDO.out]
    ·rw [HFS1.out,←HDK.out,←HDD.out,HDO.out]
    ·have:=HSb.out;have:=HSn.out;simp;omega
    rw [HFS1.out,←HDK.out,←HDD.out,HDO.out]
    exact ((HD7.out.set 6 (.slice (some ⟨gn,on,none⟩) (dk.spawns.length+1) cn) (by simp)).store (k:=kv) (t:=pidTm dk.next) (by rw [HBL.out.1];exact HK4.out) (pidTm_rt _ _ _)).sub (fun p hp=>mT (mT (mT (mT hp))))
   case measure=>simp [intOf];omega
  have k4:d.kind=4:=by have:=HCD.out d HMEM.out;omega
  have HDO:Hid (doA self dk d=⟨dk.bd,dk.next,dk.sends,dk.spawns,dk.links,1,dk.bad⟩):=J (by unfold doA;rw [if_neg k1,if_neg k2,if_neg k3,if_pos k4])
  have e2:(d.kind == 2)=false:=by simpa using k2
  have e4:(d.kind == 4)=true:=by simp [k4]
  clear k1 k2 k3 k4
  have zf:=HD5.out.blk.fr
  have zc:=HD5.out.blk.cell 4 _ rfl
  have zl:=HD5.out.blk.lt
  go_wp2_with fail
  go_roundw
  case rel =>
   refine ⟨k+1,P3,vs,vp,vl,by omega,by go_num,?_,?_,HPA3.out,?_,?_⟩
   ·rw [HFS1.out,←HDK.out,←HDD.out,HDO.out]
   ·rw [HFS1.out,←HDK.out,←HDD.out,HDO.out];exact HBAD.out
   ·have:=HS5.out;simp;omega
   rw [HFS1.out,←HDK.out,←HDD.out,HDO.out]
   exact (HD5.out.set 4 (.int .i64 1) (by simp)).sub (fun p hp=>mT (mT (mT hp)))
  case measure=>simp [intOf];omega
 have qk:¬(k:Int) < (c.acts.length:Int):=by omega
 have HDK2:Hid (dk=foldA self ⟨bd,next,[],[],[],0,false⟩ c.acts):=J (by rw [HDK.out,List.take_of_length_le (by omega)])
 have HT4:Hid (RT P wr c.next (.agg #[.int .i64 c.next.kind,.int .i64 c.next.n,.string c.next.name,.slice a4 c.next.args.length p4])):=J ((HR4.out.to (fun _ h _=>h) fun b hb _=>HD.out.qf b (HSC.out b hb)).mono fun b hb=>HD.out.qp b (HSC.out b hb))
 have z9:=HD.out.cell mS0 9 _ rfl
 have z10:=HD.out.cell mS0 10 _ rfl
 have z11:=HD.out.cell mS0 11 _ rfl
 have z12:=HD.out.cell mS0 12 _ rfl
 go_wp2_with fail
 refine (rvalueX_c dk.bd self HBL.out.1 c.next _ P wr _ _ HT4.out HD.out.bd.rxT (fun b hb=>by (obtain rfl:bb=b:=by simpa [Value.ownBlock] using hb);exact HD.out.lt.2.2.2) (fun b hb=>(HD.out.pn hb).1) (by have:=HBL.out;have:=HBU.out.1;omega) (.inl HCK.out)).mono ?_
 rintro e w2 ⟨v1,rfl,hB2,hR2⟩
 obtain ⟨o1,ho1⟩:∃ o,o=valF dk.bd self c.next:=⟨_,rfl⟩
 rw [←ho1] at hR2
 rw [←ho1]
 have HRE:Hid (reckO dk.bd self c.next=(o1.getD yJ,if o1.isSome=true then 0 else 7)):=J (by rw [ho1];exact reckO_valF HCK.out HBL.out.2.1 HSIN.out)
 obtain ⟨t,htt⟩:∃ t,t=o1.getD yJ:=⟨_,rfl⟩
 obtain ⟨ok1,hok1⟩:∃ b,b=o1.isSome:=⟨_,rfl⟩
 rw [←htt] at hR2 HRE
 rw [←hok1] at HRE ⊢
 obtain ⟨ta,pt,rfl,hct,hrt⟩:=hR2
 obtain ⟨P2,hP2⟩:∃ Q:Nat→Prop,Q=fun b=>P b∨(wr.heap.size≤b∧b < w2.heap.size):=⟨_,rfl⟩
 have HD2:Hid (DoM P2 (fun b=>A b∧b < W0.heap.size∧b≠g13∧b≠bb) W0 w0 w2 g13 bb bc [.int .i64 m.kind,.int .i64 m.n,.string m.name,.slice am m.args.length cm,.int .i64 dk.fate,vs,vp,vl] dk.bd [(g7,[.int .i64 c.state.kind,.int .i64 c.state.n,.string c.state.name,.slice a1 c.state.args.length p1,.int .i64 c.message.kind,.int .i64 c.message.n,.string c.message.name,.slice a2 c.message.args.length p2,.slice a3 c.acts.length p3,.int .i64 c.next.kind,.int .i64 c.next.n,.string c.next.name,.slice a4 c.next.args.length p4]),(g11,[.int .i64 m.kind,.int .i64 m.n,.string m.name,.slice am m.args.length cm]),(g12,[.int .i64 0,.int .i64 0,.string ⟨#[]⟩,.slice none 0 0,.int .i64 0,.slice none 0 0,.slice none 0 0,.slice none 0 0]),(g14,[.int .i64 m.kind,.int .i64 m.n,.string m.name,.slice am m.args.length cm,.int .i64 2,.slice none 0 0,.slice none 0 0,.slice none 0 0])] [rRSnd vs dk.sends,rRSpn vp dk.spawns,rLnk vl dk.links]):=J (by rw [hP2];exact HD.out.keep (Keep.of hB2) (HD.out.blk.step hB2))
 have HR2:Hid (RT P2 w2 t (.agg #[.int .i64 t.kind,.int .i64 t.n,.string t.name,.slice ta t.args.length pt])):=J (by rw [hP2];exact RT.to (S:=fun b=>P b∨wr.heap.size≤b) ⟨ta,pt,rfl,hct,hrt⟩ (fun b hb hl=>hb.imp id fun h=>⟨h,hl⟩) fun _ _ _=>rfl)
 have HPA2:Hid (∀ b,P2 b→A b∨W0.heap.size≤b):=J fun b hb=>by
  rw [hP2] at hb
  rcases hb with hb | hb
  ·exact HP.out b hb
  ·exact .inr (by have:=HSW.out;omega)
 have HS2:Hid (wr.heap.size≤w2.heap.size):=J hB2.size
 clear hB2 hct hrt hP2 ho1 htt hok1 z9 z10 z11 z12
 go_upto_region 27 with fail
 obtain ⟨W2,hW2⟩:=I (w2.alloc (.cells #[.int .i64 t.kind,.int .i64 t.n,.string t.name,.slice ta t.args.length pt] 25))
 obtain ⟨g21,hg21⟩:=I (w2.heap.size)
 have HD3:Hid (DoM P2 (fun b=>A b∧b < W0.heap.size∧b≠g13∧b≠bb) W0 w0 W2 g13 bb bc [.int .i64 m.kind,.int .i64 m.n,.string m.name,.slice am m.args.length cm,.int .i64 dk.fate,vs,vp,vl] dk.bd ((g21,[.int .i64 t.kind,.int .i64 t.n,.string t.name,.slice ta t.args.length pt]) :: [(g7,[.int .i64 c.state.kind,.int .i64 c.state.n,.string c.state.name,.slice a1 c.state.args.length p1,.int .i64 c.message.kind,.int .i64 c.message.n,.string c.message.name,.slice a2 c.message.args.length p2,.slice a3 c.acts.length p3,.int .i64 c.next.kind,.int .i64 c.next.n,.string c.next.name,.slice a4 c.next.args.length p4]),(g11,[.int .i64 m.kind,.int .i64 m.n,.string m.name,.slice am m.args.length cm]),(g12,[.int .i64 0,.int .i64 0,.string ⟨#[]⟩,.slice none 0 0,.int .i64 0,.slice none 0 0,.slice none 0 0,.slice none 0 0]),(g14,[.int .i64 m.kind,.int .i64 m.n,.string m.name,.slice am m.args.length cm,.int .i64 2,.slice none 0 0,.slice none 0 0,.slice none 0 0])]) [rRSnd vs dk.sends,rRSpn vp dk.spawns,rLnk vl dk.links]):=J (by rw [hW2];exact HD2.out.alloc #[.int .i64 t.kind,.int .i64 t.n,.string t.name,.slice ta t.args.length pt] _ hg21)
 have HT21:Hid (RT P2 W2 t (.agg #[.int .i64 t.kind,.int .i64 t.n,.string t.name,.slice ta t.args.length pt])):=J (by rw [hW2];exact HR2.out.alloc _)
 have HS5:Hid (W0.heap.size≤W2.heap.size):=J (by rw [hW2];have:=HSW.out;have:=HS2.out;simp;omega)
 have HG21:Hid (w2.heap.size=g21):=J hg21.symm
 rw [←hW2,←hg21]
 clear hW2 hg21
 have HBN3:Hid (Below N w0 W2):=J (by have:=HD3.out.rq.bel;rwa [HW0.out] at this)
 have HX12':Hid (Blk W2 g12 [.int .i64 0,.int .i64 0,.string ⟨#[]⟩,.slice none 0 0,.int .i64 0,.slice none 0 0,.slice none 0 0,.slice none 0 0]):=J (HD3.out.rq.bk _ mS3).1
 have HMQ:Hid (∀ b,Sc b→W2.heap[b]?=W0.heap[b]?):=J fun b hb=>HD3.out.qf b (HSC.out b hb)
 have HAQ:Hid (∀ b,A b→b < w.heap.size→W2.heap[b]?=w.heap[b]?):=J fun b ha hl=>(HD3.out.qf b ⟨ha,by have:=HSZ.out;omega,by have:=HSZ.out;omega,(HA.out b ha).2.1⟩).trans (HB0.out.block b hl)
 have HQQ:Hid (W2.heap[qb]?=w.heap[qb]?):=J ((HBN3.out.block qb HNN.out.2.2).trans ((HD00.out.block qb HNN.out.2.2).symm.trans (HB0.out.block qb (by have:=HNN.out;omega))))
 cases ok1
 ·have HBF:Hid (actO room self next st ml m c bd=(⟨m,2,[],[],[]⟩,st)):=J (actO_bad (dd:=dk) HDK2.out HRE.out.symm (by simp))
  have w0:=HD3.out.cell mS4 0 _ rfl
  have w1:=HD3.out.cell mS4 1 _ rfl
  have w2:=HD3.out.cell mS4 2 _ rfl
  have w3:=HD3.out.cell mS4 3 _ rfl
  have w4:=HD3.out.cell mS4 4 _ rfl
  have w5:=HD3.out.cell mS4 5 _ rfl
  have w6:=HD3.out.cell mS4 6 _ rfl
  have w7:=HD3.out.cell mS4 7 _ rfl
  go_wp2_with (first | (refine yI 43 8 szRTaken _ _ rfl rfl rfl rfl rfl HX12'.out rfl rfl rfl ?_;intro W9 hF hsW9 hBW hoth;have HF:=J hF;have HFB:=J hBW;have HOTH:=J hoth;have HFS:=J hsW9;clear hF hBW hoth))
  refine bodyPost_ret (result_blk Tryz.results34 szRTaken _ Tryz.underlying43 rfl rfl HF.out rfl) rfl ?_
  rw [HBF.out]
  refine ⟨[.int .i64 m.kind,.int .i64 m.n,.string m.name,.slice am m.args.length cm,.int .i64 2,.slice none 0 0,.slice none 0 0,.slice none 0 0],rfl,⟨am,cm,_,_,_,rfl,HTM.out.to (fun b hb _=>.inl (HIN.out b (.inr (.inr hb))).1) (fun b hb hl=>(HOTH.out b (by have:=(HIN.out b (.inr (.inr hb))).2;have:=HSZ.out;omega)).trans (HMQ.out b hb)),RX.nil _ _ _,RX.nil _ _ _,RX.nil _ _ _⟩,keep_fin HB0.out HD00.out HBN3.out HNN.out.2.1 HS5.out (HFB.out 0 _ (Nat.zero_le _) (Below.refl _ _)) HOTH.out (by have:=HSZ.out;have:=HNN.out;omega),qr_fin HQR.out (fun b hb=>HIN.out b (.inl hb)) (fun b hb=>(HA.out b hb).1) (fun b ha hl=>(HOTH.out b (by have:=HSZ.out;omega)).trans (HAQ.out b ha hl)) ((HOTH.out qb (by have:=HSZ.out;have:=HNN.out;omega)).trans HQQ.out) (by have:=HS5.out;have:=HB0.out.size;have:=HFS.out;omega)⟩
 have HCT:Hid (yE t=0∧yF [t]=true):=J (by
  have h1:=reckO_good (bd:=dk.bd) (self:=self) (x:=c.next) (by rw [HRE.out];rfl)
  rw [HRE.out] at h1
  exact ⟨h1.2,h1.1⟩)
 have HTB:Hid (yC [t]≤2000∧szL [t]≤200):=J ⟨Nat.le_trans (chk_bulk HCT.out.1) (by decide),(check_ok HCT.out.1 HCT.out.2).2.2⟩
 have HQ2:Hid (QR S W2 qb name room st ml):=J (HQR.out.to (by have:=HS5.out;have:=HB0.out.size;omega) fun b hb hl=>by
  rcases hb with hb | rfl
  ·exact HAQ.out b (HIN.out b (.inl hb)).1 hl
  ·exact HQQ.out)
 obtain ⟨sa,sc,vv,hqx,hqs,hqm,-⟩:=HQ2.out
 obtain ⟨va,vc,rfl,-,-⟩:=id hqm
 have HQX:Hid (Blk W2 qb [.string name,.int .i64 room,.int .i64 st.kind,.int .i64 st.n,.string st.name,.slice sa st.args.length sc,.slice va ml.length vc]):=J hqx
 have HST2:=J hqs
 have HQM:=J hqm
 clear hqx hqs hqm
 have HX21:Hid (Blk W2 g21 [.int .i64 t.kind,.int .i64 t.n,.string t.name,.slice ta t.args.length pt]):=J (HD3.out.rq.bk _ mS0).1
 have HQ29:Hid (∀ w':World,Below W2.heap.size W2 w'→w'.cell? ⟨qb,1,none⟩=some (.int .i64 room)∧w'.cell? ⟨qb,2,none⟩=some (.int .i64 st.kind)∧w'.cell? ⟨qb,3,none⟩=some (.int .i64 st.n)∧w'.cell? ⟨qb,4,none⟩=some (.string st.name)∧w'.cell? ⟨qb,5,none⟩=some (.slice sa st.args.length sc)∧w'.cell? ⟨g21,0,none⟩=some (.int .i64 t.kind)∧w'.cell? ⟨g21,1,none⟩=some (.int .i64 t.n)∧w'.cell? ⟨g21,2,none⟩=some (.string t.name)∧w'.cell? ⟨g21,3,none⟩=some (.slice ta t.args.length pt)):=J fun w' h=>⟨(HQX.out.step h).cell 1 _ rfl,(HQX.out.step h).cell 2 _ rfl,(HQX.out.step h).cell 3 _ rfl,(HQX.out.step h).cell 4 _ rfl,(HQX.out.step h).cell 5 _ rfl,(HX21.out.step h).cell 0 _ rfl,(HX21.out.step h).cell 1 _ rfl,(HX21.out.step h).cell 2 _ rfl,(HX21.out.step h).cell 3 _ rfl⟩
 have hsz:szL (st :: ml)=szL [st]+szL ml:=szL_append [st] ml
 have hsub:IntKind.i64.wrap ((szL (st :: ml):Int) - (szL [st]:Int))=(szL ml:Int):=by (have:=HZL.out);rw [IntKind.wrap_i64];omega
 have hadd:IntKind.i64.wrap ((szL ml:Int)+(szL [t]:Int))=(szL ml:Int)+(szL [t]:Int):=by (have:=HZL.out;have:=HTB.out);rw [IntKind.wrap_i64];omega
 clear hsz
 go_upto_region 29 with fail
 refine yK (fun w'=>w'.cell? ⟨qb,1,none⟩=some (.int .i64 room)∧w'.cell? ⟨qb,2,none⟩=some (.int .i64 st.kind)∧w'.cell? ⟨qb,3,none⟩=some (.int .i64 st.n)∧w'.cell? ⟨qb,4,none⟩=some (.string st.name)∧w'.cell? ⟨qb,5,none⟩=some (.slice sa st.args.length sc)∧w'.cell? ⟨g21,0,none⟩=some (.int .i64 t.kind)∧w'.cell? ⟨g21,1,none⟩=some (.int .i64 t.n)∧w'.cell? ⟨g21,2,none⟩=some (.string t.name)∧w'.cell? ⟨g21,3,none⟩=some (.slice ta t.args.length pt)) (by as_aux_lemma=>kernel_rfl) (fun Wd h=>HQ29.out _ h) ?_
 intro X0 hB hWd hWd' hHeld
 have HV0:=J hB
 clear hB
 refine rgT 0 _ hHeld ?_
 refine rgT 2 _ hHeld ?_
 refine rgT 3 _ hHeld ?_
 refine rgT 4 _ hHeld ?_
 refine rgT 5 _ hHeld ?_
 refine rgT 8 _ hHeld ?_
 refine rgT 11 _ hHeld ?_
 refine rgT 12 _ hHeld ?_
 refine rgT 13 _ hHeld ?_
 refine rgT 14 _ hHeld ?_
 refine rgO 1 fun K hK=>?_
 go_simp
 go_at_call 15
 refine (rlive_c S X0 qb name room st ml (HQ2.out.below HV0.out) (by have:=HBK.out.1;omega) (fun x hx=>by have:=HBK.out.2 x hx;omega) (by have:=HZL.out;omega) (by have:=HML.out;omega)).mono ?_
 rintro e X1 ⟨rfl,hB⟩
 have HV1:=J (yB HV0.out HV0.out.size hB)
 clear hB
 refine hK.out _ _ (HQ29.out _ HV1.out) fun _=>?_
 clear hK K hHeld;rename_i hHeld;try simp only [Act.put,pA,pB,pC]
 refine rgO 6 fun K hK=>?_
 go_simp
 go_at_call 26
 refine (rsize_c st S X1 _ (HST2.out.below HV1.out) (by have:=HBK.out.1;omega)).mono ?_
 rintro e X2 ⟨rfl,hB⟩
 have HV2:=J (yB HV1.out HV1.out.size hB)
 clear hB
 refine hK.out _ _ (HQ29.out _ HV2.out) fun _=>?_
 clear hK K hHeld;rename_i hHeld;try simp only [Act.put,pA,pB,pC]
 refine rgT 7 _ hHeld ?_
 refine rgO 9 fun K hK=>?_
 go_simp
 go_at_call 26
 refine (rsize_c t P2 X2 _ (HT21.out.below HV2.out) (by have:=HTB.out;omega)).mono ?_
 rintro e X3 ⟨rfl,hB⟩
 have HV3:=J (yB HV2.out HV2.out.size hB)
 clear hB
 refine hK.out _ _ (HQ29.out _ HV3.out) fun _=>?_
 clear hK K hHeld;rename_i hHeld;try simp only [Act.put,pA,pB,pC]
 refine rgT 10 _ hHeld ?_
 refine rgT 15 _ hHeld ?_
 refine rgD ?_
 clear hHeld
 have HD9:=J (HD3.out.below HV3.out)
 have HS5:Hid (W0.heap.size≤X3.heap.size):=J (by have:=HS5.out;have:=HV3.out.size;omega)
 have HBN3:Hid (Below N w0 X3):=J (by have:=HD9.out.rq.bel;rwa [HW0.out] at this)
 have HX12':Hid (Blk X3 g12 [.int .i64 0,.int .i64 0,.string ⟨#[]⟩,.slice none 0 0,.int .i64 0,.slice none 0 0,.slice none 0 0,.slice none 0 0]):=J (HD9.out.rq.bk _ mS3).1
 have HMQ:Hid (∀ b,Sc b→X3.heap[b]?=W0.heap[b]?):=J fun b hb=>HD9.out.qf b (HSC.out b hb)
 have HAQ:Hid (∀ b,A b→b < w.heap.size→X3.heap[b]?=w.heap[b]?):=J fun b ha hl=>(HD9.out.qf b ⟨ha,by have:=HSZ.out;omega,by have:=HSZ.out;omega,(HA.out b ha).2.1⟩).trans (HB0.out.block b hl)
 have HQQ:Hid (X3.heap[qb]?=w.heap[qb]?):=J ((HBN3.out.block qb HNN.out.2.2).trans ((HD00.out.block qb HNN.out.2.2).symm.trans (HB0.out.block qb (by have:=HNN.out;omega))))
 have HP0:Hid (putE t=0):=J (by unfold putE;rw [if_neg (by simp [HCT.out.1]),if_neg (by simp [HCT.out.2])])
 by_cases hf:room < (szL ml:Int)+(szL [t]:Int)
 ·have HBF:Hid (actO room self next st ml m c bd=(⟨m,3,[],[],[]⟩,st)):=J (actO_full (dd:=dk) HDK2.out HRE.out.symm (by rw [HBAD.out];rfl) (by unfold pputE;rw [if_neg (by simp [HP0.out]),if_pos hf];decide))
  have w0:=HD9.out.cell mS2 0 _ rfl
  have w1:=HD9.out.cell mS2 1 _ rfl
  have w2:=HD9.out.cell mS2 2 _ rfl
  have w3:=HD9.out.cell mS2 3 _ rfl
  go_wp2_with (first | (refine yI 43 8 szRTaken _ _ rfl rfl rfl rfl rfl HX12'.out rfl rfl rfl ?_;intro W9 hF hsW9 hBW hoth;have HF:=J hF;have HFB:=J hBW;have HOTH:=J hoth;have HFS:=J hsW9;clear hF hBW hoth))
  refine bodyPost_ret (result_blk Tryz.results34 szRTaken _ Tryz.underlying43 rfl rfl HF.out rfl) rfl ?_
  rw [HBF.out]
  refine ⟨[.int .i64 m.kind,.int .i64 m.n,.string m.name,.slice am m.args.length cm,.int .i64 3,.slice none 0 0,.slice none 0 0,.slice none 0 0],rfl,⟨am,cm,_,_,_,rfl,HTM.out.to (fun b hb _=>.inl (HIN.out b (.inr (.inr hb))).1) (fun b hb hl=>(HOTH.out b (by have:=(HIN.out b (.inr (.inr hb))).2;have:=HSZ.out;omega)).trans (HMQ.out b hb)),RX.nil _ _ _,RX.nil _ _ _,RX.nil _ _ _⟩,keep_fin HB0.out HD00.out HBN3.out HNN.out.2.1 HS5.out (HFB.out 0 _ (Nat.zero_le _) (Below.refl _ _)) HOTH.out (by have:=HSZ.out;have:=HNN.out;omega),qr_fin HQR.out (fun b hb=>HIN.out b (.inl hb)) (fun b hb=>(HA.out b hb).1) (fun b ha hl=>(HOTH.out b (by have:=HSZ.out;omega)).trans (HAQ.out b ha hl)) ((HOTH.out qb (by have:=HSZ.out;have:=HNN.out;omega)).trans HQQ.out) (by have:=HS5.out;have:=HB0.out.size;have:=HFS.out;omega)⟩
 have HBF:Hid (actO room self next st ml m c bd=(⟨m,dk.fate,dk.sends,dk.spawns,dk.links⟩,t)):=J (actO_ok (dd:=dk) HDK2.out HRE.out.symm (by rw [HBAD.out];rfl) (by unfold pputE;rw [if_neg (by simp [HP0.out]),if_neg hf]))
 have hf:=Int.not_lt.1 hf
 have HQX3:=J (HQX.out.step HV3.out)
 have zf:=HQX3.out.fr
 have zl:=HQX3.out.lt
 obtain ⟨q2,q3,q4,q5⟩:=HQX3.out.c4 2 3 4 5
 have u0:=HD9.out.cell mS0 0 _ rfl
 have u1:=HD9.out.cell mS0 1 _ rfl
 have u2:=HD9.out.cell mS0 2 _ rfl
 have u3:=HD9.out.cell mS0 3 _ rfl
 go_upto_region 32 with fail
 obtain ⟨X4,hX4⟩:=I ((((X3.setCell ⟨qb,2,none⟩ (.int .i64 t.kind)).setCell ⟨qb,3,none⟩ (.int .i64 t.n)).setCell ⟨qb,4,none⟩ (.string t.name)).setCell ⟨qb,5,none⟩ (.slice ta t.args.length pt))
 have HQX4:Hid (Blk X4 qb [.string name,.int .i64 room,.int .i64 t.kind,.int .i64 t.n,.string t.name,.slice ta t.args.length pt,.slice va ml.length vc]):=J (by rw [hX4];exact (((HQX3.out.set 2 (.int .i64 t.kind) (by simp)).set 3 (.int .i64 t.n) (by simp)).set 4 (.string t.name) (by simp)).set 5 (.slice ta t.args.length pt) (by simp))
 have HO4:Hid (∀ b,b≠qb→X4.heap[b]?=X3.heap[b]?):=J fun b hb=>by rw [hX4];simp only [yD _ _ _ _ _ hb]
 have HSZ4:Hid (X4.heap.size=X3.heap.size):=J (by rw [hX4];simp)
 have HK4:Hid (Keep (fun b=>b=qb∨N≤b) w X4):=J (by
  have h3:Keep (fun b=>b=qb∨N≤b) w X3:=keep_fin (g:=N) HB0.out HD00.out HBN3.out HNN.out.2.1 HS5.out (Below.refl _ _) (fun _ _=>rfl) (Nat.le_refl _)
  rw [hX4]
  exact (((h3.setCell _ (.inl (.inl rfl))).setCell _ (.inl (.inl rfl))).setCell _ (.inl (.inl rfl))).setCell _ (.inl (.inl rfl)))
 rw [←hX4]
 clear hX4 zf zl q2 q3 q4 q5 u0 u1 u2 u3
 have HX124:Hid (Blk X4 g12 [.int .i64 0,.int .i64 0,.string ⟨#[]⟩,.slice none 0 0,.int .i64 0,.slice none 0 0,.slice none 0 0,.slice none 0 0]):=J (HX12'.out.heap (HO4.out g12 (by have:=HSZ.out;have:=HNN.out;omega)))
 have HX134:Hid (Blk X4 g13 [.int .i64 m.kind,.int .i64 m.n,.string m.name,.slice am m.args.length cm,.int .i64 dk.fate,vs,vp,vl]):=J (HD9.out.blk.heap (HO4.out g13 (by have:=HSZ.out;have:=HNN.out;omega)))
 have o1:vs.oneCell'=true:=by obtain ⟨a,c,e,-⟩:=(HD9.out.rq.rx mS0).form;have e:vs=_:=e;rw [e];rfl
 have o2:vp.oneCell'=true:=by obtain ⟨a,c,e,-⟩:=(HD9.out.rq.rx mS1).form;have e:vp=_:=e;rw [e];rfl
 have o3:vl.oneCell'=true:=by obtain ⟨a,c,e,-⟩:=(HD9.out.rq.rx mS2).form;have e:vl=_:=e;rw [e];rfl
 obtain ⟨w0,w1,w2,w3,w4,w5,w6,w7⟩:=HX134.out.c8 0 1 2 3 4 5 6 7
 go_wp2_with (first | (refine yI 43 8 szRTaken _ _ rfl rfl rfl rfl rfl HX124.out rfl rfl (by simp only [List.toList_toArray,List.all_cons,List.all_nil,o1,o2,o3,Bool.and_true];rfl) ?_;intro W9 hF hsW9 hBW hoth;have HF:=J hF;have HFB:=J hBW;have HOTH:=J hoth;have HFS:=J hsW9;clear hF hBW hoth))
 have HEQ:Hid (∀ b,b≠qb→b≠g12→W9.heap[b]?=X3.heap[b]?):=J fun b h1 h2=>(HOTH.out b h2).trans (HO4.out b h1)
 have HPN:Hid (∀ b,P2 b→(A b∨w.heap.size≤b)∧b≠qb∧b≠g12):=J fun b hb=>by
  have hz:=HSZ.out;have hn:=HNN.out
  rcases HPA2.out b hb with h | h
  ·have ha:=HA.out b h
   exact ⟨.inl h,ha.1,by omega⟩
  ·exact ⟨.inr (by omega),by omega,by omega⟩
 have HS9:Hid (W9.heap.size=X3.heap.size):=J (by have:=HFS.out;have:=HSZ4.out;omega)
 have HROW:Hid (∀ r∈([rRSnd vs dk.sends,rRSpn vp dk.spawns,rLnk vl dk.links]:List Rw),RX r.E (fun b=>A b∨N≤b) (fun b=>A b∨N≤b) W9 r.l r.v):=J fun r hr=>by
  have h1:∀ b,r.v.ownBlock=some b→b≠qb∧b≠g12∧(A b∨N≤b):=fun b hb=>by
   have h2:=(HD9.out.rq.lt hr b hb).1
   have h3:=HW0.out;have hn:=HNN.out
   refine ⟨by omega,fun e=>(HD9.out.rq.bk _ mS3).2.2 r hr (by rw [←e];exact hb),?_⟩
   exact .inr (by omega)
  refine (HD9.out.rq.rx hr).to (fun b hb _=>(h1 b hb).2.2) (fun b hb _=>(HPN.out b hb).1.imp id (fun h=>by have:=HNN.out;omega)) fun b hb hl=>?_
  rcases hb with hb | hb
  ·exact HEQ.out b (HPN.out b hb).2.1 (HPN.out b hb).2.2
  ·exact HEQ.out b (h1 b hb).1 (h1 b hb).2.1
 have HT3:=J (HT21.out.below HV3.out)
 refine bodyPost_ret (result_blk Tryz.results34 szRTaken _ Tryz.underlying43 rfl rfl HF.out rfl) rfl ?_
 rw [HBF.out]
 refine ⟨[.int .i64 m.kind,.int .i64 m.n,.string m.name,.slice am m.args.length cm,.int .i64 dk.fate,vs,vp,vl],rfl,⟨am,cm,vs,vp,vl,rfl,HTM.out.to (fun b hb _=>.inl (HIN.out b (.inr (.inr hb))).1) (fun b hb hl=>(HEQ.out b (HA.out b (HIN.out b (.inr (.inr hb))).1).1 (by have:=(HIN.out b (.inr (.inr hb))).2;have:=HSZ.out;omega)).trans (HMQ.out b hb)),HROW.out _ mS0,HROW.out _ mS1,HROW.out _ mS2⟩,HK4.out.other (HFB.out 0 _ (Nat.zero_le _) (Below.refl _ _)) HOTH.out (by have:=HSZ.out;omega),ta,pt,.slice va ml.length vc,HQX4.out.heap (HOTH.out qb (by have:=HSZ.out;have:=HNN.out;omega)),HT3.out.to (fun b hb hl=>⟨(HPN.out b hb).1,by have:=HS9.out;omega,(HPN.out b hb).2.1⟩) (fun b hb hl=>HEQ.out b (HPN.out b hb).2.1 (HPN.out b hb).2.2),(HQM.out.to (S':=S) (w':=X3) (fun _ h _=>h) fun b _ hl=>HV3.out.block b hl).to (fun b hb hl=>⟨.inl (HIN.out b (.inl hb)).1,by have:=HS9.out;omega,(HA.out b (HIN.out b (.inl hb)).1).1⟩) (fun b hb hl=>HEQ.out b (HA.out b (HIN.out b (.inl hb)).1).1 (by have:=(HIN.out b (.inl hb)).2;have:=HSZ.out;omega)),fun b hb=>hb.2⟩
end Go.Proofs.YtedfepnekjjmnabGreat
