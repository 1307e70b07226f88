/-
  A process: found. Conditions: it lies as PrR says; few names, few words; the clauses are no larger than any memory.
-/
import Derived.Test.YtedfepnekjjmnabGreatJi
import Derived.Test.YtedfepnekjjmnabGreatJc
import Derived.Test.YtedfepnekjjmnabGreatClause
namespace Go.Proofs.YtedfepnekjjmnabGreat
open Go.RowKit
set_option linter.unusedSimpArgs false
set_option linter.unusedVariables false
set_option maxRecDepth 100000
set_option maxHeartbeats 4000000
theorem results_tct {fn:Func} {r t s:Tmp} {ty k:Nat} (h:fn.results=#[.tmp r,.cell t ty,.tmp s]) (hi:(Tryz.prog.info? ty).map (·.size)=some k) (d:TypeDesc) (hu:Tryz.prog.underlying ty=some d) (hr:d.isRow=true)
  {tmps:Array Value} {w:World} {B:Nat} {cs:List Value} (hx:tmps.getD t undef=.pointer (some ⟨B,0,none⟩)) (hB:Blk w B cs) (hl:cs.length=k) :
  (results fn tmps).run Tryz.prog w=.ok (.tuple #[tmps.getD r undef,.agg cs.toArray,tmps.getD s undef]) w:=by
 have h1:=run_loadVar_mid (P:=Tryz.prog) w B 0 ty cs d hB.range hu hr (by rw [hi,hl])
 have h2:(asAddr (tmps.getD t undef)).run Tryz.prog w=.ok ⟨B,0,none⟩ w:=by rw [hx];rfl
 simp only [Array.getD_eq_getD_getElem?] at h2 ⊢
 simp [results,h,h1,h2]
theorem szClauF:(Tryz.prog.info? 82).map (·.size)=some 13:=by kernel_rfl
def FoundP (S:Nat→Prop) (w:World) (cs:List Clau) (st:T) (ml:List T) (e:Ending) (w':World):Prop :=
 Below w.heap.size w w'∧match msFirst cs st 1 ml with
  | none=>e=.returned (.tuple #[.int .i64 0,.agg #[.int .i64 0,.int .i64 0,.string ⟨#[]⟩,.slice none 0 0,.int .i64 0,.int .i64 0,.string ⟨#[]⟩,.slice none 0 0,.slice none 0 0,.int .i64 0,.int .i64 0,.string ⟨#[]⟩,.slice none 0 0],.slice none 0 0])
  | some (i,c,bd)=>∃ (vc:Array Value) (vb:Value),e=.returned (.tuple #[.int .i64 (i:Int),.agg vc,vb])∧clauC S w' c vc.toList∧∃ base g cap,w.heap.size≤base∧vb=.slice (some ⟨g,0,none⟩) 4 cap∧OwnG (fun b=>base≤b) base w' vb bd
theorem pfound_c (G:Nat→Prop) (w:World) (pb:Nat) (name:ByteArray) (room:Int) (nb u:Nat) (st:T) (x:Wrd) (L:TW) (S:Nat→Prop) (bn:ByteArray) (cs:List Clau) (ac:Option Addr) (pc:Nat) (h:PrR G w pb name room nb u ((st,x) :: L) []) (hv:RX clauE S S w cs (.slice ac cs.length pc)) (hS:∀ b,S b→b < w.heap.size)
  (hcb:∀ c∈cs,yC [c.state]≤1099511627776∧yC [c.message]≤1099511627776) (hcl:cs.length≤1099511627776) (hl:L.length≤800) (hr:room≤1000) (hn:nb≤137438953472) :
  Calls Tryz.prog 37 #[.pointer (some ⟨pb,0,none⟩),.agg #[.string bn,.slice ac cs.length pc]] w (FoundP S w cs st (yQ L)):=by
 obtain ⟨W0,hW0⟩:=I ((w.alloc (.cells #[.string bn,.slice ac cs.length pc] 79)).alloc (.cells #[.int .i64 0,.int .i64 0,.string ⟨#[]⟩,.slice none 0 0,.int .i64 0,.int .i64 0,.string ⟨#[]⟩,.slice none 0 0,.slice none 0 0,.int .i64 0,.int .i64 0,.string ⟨#[]⟩,.slice none 0 0] 82))
 obtain ⟨g3,hg3⟩:=I (w.heap.size)
 obtain ⟨g5,hg5⟩:=I (w.heap.size+1)
 have HB0:Hid (Below w.heap.size w W0):=J (by rw [hW0];exact (yA _ _).trans ((yA _ _).mono (by simp)))
 have HX3:Hid (Blk W0 g3 [.string bn,.slice ac cs.length pc]):=J (by rw [hW0,hg3];exact (Blk.new _ _ _ _ rfl).alloc _)
 have HX5:Hid (Blk W0 g5 [.int .i64 0,.int .i64 0,.string ⟨#[]⟩,.slice none 0 0,.int .i64 0,.int .i64 0,.string ⟨#[]⟩,.slice none 0 0,.slice none 0 0,.int .i64 0,.int .i64 0,.string ⟨#[]⟩,.slice none 0 0]):=J (by rw [hW0];exact Blk.new _ _ _ _ (by rw [hg5];simp))
 have hs0:W0.heap.size=w.heap.size+2:=by rw [hW0];simp
 have HG:Hid (g3=w.heap.size∧g5=w.heap.size+1∧W0.heap.size=w.heap.size+2):=J ⟨hg3,hg5,hs0⟩
 have HH0:=J (h.below HB0.out)
 have HV:=J hv;have HSS:=J hS;have HCB:=J hcb
 obtain ⟨F,B,H,vv,hVV,-⟩:=h
 obtain ⟨gw,cw,ev⟩:=hVV.ow.form0 (by simp [wdsL])
 rw [wdsL_len] at ev
 subst ev
 have HVV:=J hVV
 have HOK:Hid (∀ p∈((st,x) :: L:TW),yE p.1=0∧yF [p.1]=true):=J fun p hp=>hVV.ph.ok p (by simpa using hp)
 clear hv hS hcb hVV
 go_enter Tryz.func37,Tryz.ntmps37
 go_upto_region 1 with fail
 rw [←hW0,←hg5,←hg3]
 clear hW0 hg3 hg5
 go_wp2_with fail
 refine (pstate_c G W0 pb name room nb u st x L [] HH0.out (by omega) hr (by omega)).mono ?_
 rintro e W1 ⟨ar,cr,rfl,hB1,hT1⟩
 have HB1:=J hB1;have HTS:=J hT1
 clear hB1 hT1
 go_upto_region 2 with fail
 obtain ⟨W2,hW2⟩:=I (W1.alloc (.cells #[.int .i64 st.kind,.int .i64 st.n,.string st.name,.slice ar st.args.length cr] 25))
 obtain ⟨g7,hg7⟩:=I (W1.heap.size)
 have HB2:Hid (Below W0.heap.size W0 W2):=J (by rw [hW2];exact yB HB1.out HB1.out.size (yA _ _))
 have HX7:Hid (Blk W2 g7 [.int .i64 st.kind,.int .i64 st.n,.string st.name,.slice ar st.args.length cr]):=J (by rw [hW2];exact Blk.new _ _ _ _ hg7)
 have HT7:Hid (RT (fun b=>b < W2.heap.size) W2 st (.agg #[.int .i64 st.kind,.int .i64 st.n,.string st.name,.slice ar st.args.length cr])):=J (by rw [hW2];exact (HTS.out.below (yA _ _)).to (fun b _ hl=>hl) fun _ _ _=>rfl)
 rw [←hW2,←hg7]
 clear hW2 hg7 HTS
 have HH2:=J (HH0.out.below HB2.out)
 have HV2:=J ((HVV.out.below HB0.out).below HB2.out)
 have HX32:=J (HX3.out.step HB2.out)
 have HX52:=J (HX5.out.step HB2.out)
 have HVC:Hid (RX clauE S S W2 cs (.slice ac cs.length pc)):=J (HV.out.to (fun _ h _=>h) (fun _ h _=>h) fun b hb hl=>(HB2.out.block b (by have:=HG.out;omega)).trans (HB0.out.block b hl))
 go_wp2_with fail
 go_loopw [8] (fun v8 wr=>∃ i:Nat,i≤L.length∧v8=.int .i64 ((i:Int)+1)∧Below W2.heap.size W2 wr∧∀ j (h:j < (yQ L).length),j < i→clFirst st (yQ L)[j] cs=none) (fun v8 _=>L.length+1 - (intOf v8).toNat)
 case atStart=>exact ⟨0,Nat.zero_le _,rfl,Below.refl _ _,fun j _ h=>absurd h (Nat.not_lt_zero _)⟩
 obtain ⟨i,hil,rfl,hB,hN⟩:=hrel
 have HB:=J hB;have HN:=J hN
 have y2:=(HV2.out.below hB).blk.cell 2 _ rfl
 clear hB hN
 by_cases hlt:i < L.length
 ·have qi:(i:Int)+1 < (L.length:Int)+1:=by omega
  go_wp2_with fail
  refine (pget_c G wr pb name room nb u ((st,x) :: L) [] (HH2.out.below HB.out) (i+1) (by simp;omega) (by simp;omega) hr hn).mono ?_
  rintro e w3 ⟨am,cm,rfl,hB3,hT3⟩
  obtain ⟨m,hm⟩:∃ m,m=(yQ L)[i]'(by rw [tmsL_len];exact hlt):=⟨_,rfl⟩
  have hm2:(((st,x) :: L:TW)[i+1]'(by simp;omega)).1=m:=by rw [hm];simp [yQ]
  rw [hm2] at hT3
  rw [hm2]
  have HM:=J hm
  have HCM:Hid (yE m=0∧yF [m]=true):=J (by rw [←hm2];exact HOK.out _ (List.getElem_mem _))
  have hmb:=chk_bulk HCM.out.1
  have hsb:=chk_bulk (HOK.out (st,x) (by simp)).1
  have HT3:=J hT3
  have HB3:Hid (Below W2.heap.size W2 w3):=J (yB HB.out HB.out.size hB3)
  clear hm hm2 hT3 hB3 y2
  go_upto_region 6 with fail
  obtain ⟨W4,hW4⟩:=I (w3.alloc (.cells #[.int .i64 m.kind,.int .i64 m.n,.string m.name,.slice am m.args.length cm] 25))
  obtain ⟨g9,hg9⟩:=I (w3.heap.size)
  have HB4:Hid (Below W2.heap.size W2 W4):=J (by rw [hW4];exact yB HB3.out HB3.out.size (yA _ _))
  have HX9:Hid (Blk W4 g9 [.int .i64 m.kind,.int .i64 m.n,.string m.name,.slice am m.args.length cm]):=J (by rw [hW4];exact Blk.new _ _ _ _ hg9)
  have HT9:Hid (RT (fun b=>b < W4.heap.size) W4 m (.agg #[.int .i64 m.kind,.int .i64 m.n,.string m.name,.slice am m.args.length cm])):=J (by rw [hW4];exact (HT3.out.below (yA _ _)).to (fun b _ hl=>hl) fun _ _ _=>rfl)
  rw [←hW4,←hg9]
  clear hW4 hg9 HT3
  have x1:=(HX32.out.step HB4.out).cell 1 _ rfl
  go_wp2_with fail
  clear x1
  go_loopw [32] (fun v32 wr=>∃ j:Nat,j≤cs.length∧v32=.int .i64 (j:Int)∧Below W4.heap.size W4 wr∧∀ k (h:k < cs.length),k < j→clFit cs[k] st m=none) (fun v32 _=>cs.length - (intOf v32).toNat)
  case atStart=>exact ⟨0,Nat.zero_le _,rfl,Below.refl _ _,fun j _ h=>absurd h (Nat.not_lt_zero _)⟩
  obtain ⟨j,hjl,rfl,hB5,hN5⟩:=hrel
  have HB5:Hid (Below W4.heap.size W4 ‹World›):=J hB5;have HN5:=J hN5
  clear hB5 hN5
  by_cases hjt:j < cs.length
  ·obtain ⟨bc,oc,rfl⟩:=HVC.out.addr (by decide) (by omega)
   obtain ⟨cells,hc1,hc2⟩:=HVC.out.elem j hjt
   obtain ⟨c,hc⟩:∃ c,c=cs[j]:=⟨_,rfl⟩
   rw [←hc] at hc1
   obtain ⟨a1,p1,a2,p2,a3,p3,a4,p4,rfl,hr1,hr2,hr3,hr4⟩:=hc1
   have hcb:=HCB.out c (by rw [hc];exact List.getElem_mem _)
   have HC:=J hc
   have HBW:Hid (Below W2.heap.size W2 wr):=J (HB4.out.trans (HB5.out.mono HB4.out.size))
   have hcell:∀ i u,([.int .i64 c.state.kind,.int .i64 c.state.n,.string c.state.name,.slice a1 c.state.args.length p1,.int .i64 c.message.kind,.int .i64 c.message.n,.string c.message.name,.slice a2 c.message.args.length p2,.slice a3 c.acts.length p3,.int .i64 c.next.kind,.int .i64 c.next.n,.string c.next.name,.slice a4 c.next.args.length p4]:List Value)[i]?=some u→wr.cell? ⟨bc,oc+j * 13+i,none⟩=some u:=fun i u hu=>(HBW.out.cell (World.block_lt_of_cell? _ _ (hc2 i u hu).2)).trans (hc2 i u hu).2
   have z0:wr.cell? ⟨bc,oc+j * 13,none⟩=some (.int .i64 c.state.kind):=hcell 0 _ rfl
   have z1:wr.cell? ⟨bc,oc+j * 13+1,none⟩=some (.int .i64 c.state.n):=hcell 1 _ rfl
   have z2:wr.cell? ⟨bc,oc+j * 13+2,none⟩=some (.string c.state.name):=hcell 2 _ rfl
   have z3:wr.cell? ⟨bc,oc+j * 13+3,none⟩=some (.slice a1 c.state.args.length p1):=hcell 3 _ rfl
   have z4:wr.cell? ⟨bc,oc+j * 13+4,none⟩=some (.int .i64 c.message.kind):=hcell 4 _ rfl
   have z5:wr.cell? ⟨bc,oc+j * 13+5,none⟩=some (.int .i64 c.message.n):=hcell 5 _ rfl
   have z6:wr.cell? ⟨bc,oc+j * 13+6,none⟩=some (.string c.message.name):=hcell 6 _ rfl
   have z7:wr.cell? ⟨bc,oc+j * 13+7,none⟩=some (.slice a2 c.message.args.length p2):=hcell 7 _ rfl
   have z8:wr.cell? ⟨bc,oc+j * 13+8,none⟩=some (.slice a3 c.acts.length p3):=hcell 8 _ rfl
   have z9:wr.cell? ⟨bc,oc+j * 13+9,none⟩=some (.int .i64 c.next.kind):=hcell 9 _ rfl
   have z10:wr.cell? ⟨bc,oc+j * 13+10,none⟩=some (.int .i64 c.next.n):=hcell 10 _ rfl
   have z11:wr.cell? ⟨bc,oc+j * 13+11,none⟩=some (.string c.next.name):=hcell 11 _ rfl
   have z12:wr.cell? ⟨bc,oc+j * 13+12,none⟩=some (.slice a4 c.next.args.length p4):=hcell 12 _ rfl
   have qj:(j:Int) < (cs.length:Int):=by omega
   have HR1:Hid (RT S wr c.state (.agg #[.int .i64 c.state.kind,.int .i64 c.state.n,.string c.state.name,.slice a1 c.state.args.length p1])):=J (hr1.to (fun _ h _=>h) fun b _ hl=>HBW.out.block b hl)
   have HR2:Hid (RT S wr c.message (.agg #[.int .i64 c.message.kind,.int .i64 c.message.n,.string c.message.name,.slice a2 c.message.args.length p2])):=J (hr2.to (fun _ h _=>h) fun b _ hl=>HBW.out.block b hl)
   have HCC:Hid (clauC S W2 c [.int .i64 c.state.kind,.int .i64 c.state.n,.string c.state.name,.slice a1 c.state.args.length p1,.int .i64 c.message.kind,.int .i64 c.message.n,.string c.message.name,.slice a2 c.message.args.length p2,.slice a3 c.acts.length p3,.int .i64 c.next.kind,.int .i64 c.next.n,.string c.next.name,.slice a4 c.next.args.length p4]):=J ⟨a1,p1,a2,p2,a3,p3,a4,p4,rfl,hr1,hr2,hr3,hr4⟩
   clear hc2 hcell hr1 hr2 hr3 hr4 hc
   go_upto_region 9 with fail
   obtain ⟨W6,hW6⟩:=I (wr.alloc (.cells #[.int .i64 c.state.kind,.int .i64 c.state.n,.string c.state.name,.slice a1 c.state.args.length p1,.int .i64 c.message.kind,.int .i64 c.message.n,.string c.message.name,.slice a2 c.message.args.length p2,.slice a3 c.acts.length p3,.int .i64 c.next.kind,.int .i64 c.next.n,.string c.next.name,.slice a4 c.next.args.length p4] 82))
   obtain ⟨g11,hg11⟩:=I (wr.heap.size)
   have HB6:Hid (Below W2.heap.size W2 W6):=J (by rw [hW6];exact yB HBW.out HBW.out.size (yA _ _))
   have HB46:Hid (Below W4.heap.size W4 W6):=J (by rw [hW6];exact yB HB5.out HB5.out.size (yA _ _))
   have HX11:Hid (Blk W6 g11 [.int .i64 c.state.kind,.int .i64 c.state.n,.string c.state.name,.slice a1 c.state.args.length p1,.int .i64 c.message.kind,.int .i64 c.message.n,.string c.message.name,.slice a2 c.message.args.length p2,.slice a3 c.acts.length p3,.int .i64 c.next.kind,.int .i64 c.next.n,.string c.next.name,.slice a4 c.next.args.length p4]):=J (by rw [hW6];exact Blk.new _ _ _ _ hg11)
   have HR16:Hid (RT S W6 c.state (.agg #[.int .i64 c.state.kind,.int .i64 c.state.n,.string c.state.name,.slice a1 c.state.args.length p1])):=J (by rw [hW6];exact HR1.out.below (yA _ _))
   have HR26:Hid (RT S W6 c.message (.agg #[.int .i64 c.message.kind,.int .i64 c.message.n,.string c.message.name,.slice a2 c.message.args.length p2])):=J (by rw [hW6];exact HR2.out.below (yA _ _))
   have HX76:=J (HX7.out.step HB6.out)
   have HT76:=J (HT7.out.below HB6.out)
   have HGE:Hid (W0.heap.size≤g11):=J (by have:=HB2.out.size;have:=HBW.out.size;omega)
   rw [←hW6,←hg11]
   clear hW6 hg11 z0 z1 z2 z3 z4 z5 z6 z7 z8 z9 z10 z11 z12 HR1 HR2
   have HQ9:Hid (∀ w':World,Below W6.heap.size W6 w'→w'.cell? ⟨g11,0,none⟩=some (.int .i64 c.state.kind)∧w'.cell? ⟨g11,1,none⟩=some (.int .i64 c.state.n)∧w'.cell? ⟨g11,2,none⟩=some (.string c.state.name)∧w'.cell? ⟨g11,3,none⟩=some (.slice a1 c.state.args.length p1)∧w'.cell? ⟨g7,0,none⟩=some (.int .i64 st.kind)∧w'.cell? ⟨g7,1,none⟩=some (.int .i64 st.n)∧w'.cell? ⟨g7,2,none⟩=some (.string st.name)∧w'.cell? ⟨g7,3,none⟩=some (.slice ar st.args.length cr)):=J fun w' h=>⟨(HX11.out.step h).cell 0 _ rfl,(HX11.out.step h).cell 1 _ rfl,(HX11.out.step h).cell 2 _ rfl,(HX11.out.step h).cell 3 _ rfl,(HX76.out.step h).cell 0 _ rfl,(HX76.out.step h).cell 1 _ rfl,(HX76.out.step h).cell 2 _ rfl,(HX76.out.step h).cell 3 _ rfl⟩
   refine yK (fun w'=>w'.cell? ⟨g11,0,none⟩=some (.int .i64 c.state.kind)∧w'.cell? ⟨g11,1,none⟩=some (.int .i64 c.state.n)∧w'.cell? ⟨g11,2,none⟩=some (.string c.state.name)∧w'.cell? ⟨g11,3,none⟩=some (.slice a1 c.state.args.length p1)∧w'.cell? ⟨g7,0,none⟩=some (.int .i64 st.kind)∧w'.cell? ⟨g7,1,none⟩=some (.int .i64 st.n)∧w'.cell? ⟨g7,2,none⟩=some (.string st.name)∧w'.cell? ⟨g7,3,none⟩=some (.slice ar st.args.length cr)) (by as_aux_lemma=>kernel_rfl) (fun Wd h=>HQ9.out _ h) ?_
   intro Wd hB hWd hWd' hHeld
   have HBd:=J hB
   clear hB
   refine rgT 0 _ hHeld ?_
   refine rgT 1 _ hHeld ?_
   refine rgT 2 _ hHeld ?_
   refine rgO 3 fun K hK=>?_
   go_simp
   go_at_call 65
   refine (pfree_c Wd).mono ?_
   rintro e wf ⟨vf,rfl,hB,hF⟩
   have HBf:Hid (Below W6.heap.size W6 wf):=J (yB HBd.out HBd.out.size hB)
   have HF:=J hF
   clear hB hF
   refine hK.out _ _ (HQ9.out _ HBf.out) fun _=>?_
   clear hK K hHeld;rename_i hHeld;try simp only [Act.put,pA,pB,pC]
   refine rgO 4 fun K hK=>?_
   go_simp
   go_at_call 64
   refine (mfitsO_c c.state st freeL wf _ _ _ ((HR16.out.below HBf.out).to (fun b hb hl=>hl) fun _ _ _=>rfl) ((HT76.out.below HBf.out).to (fun b hb hl=>hl) fun _ _ _=>rfl) (HF.out.to (fun b hb hl=>hl) fun _ _ _=>rfl) hcb.1 (by omega) (Nat.le_trans (bulk_eachP 2000 freeL freeL_small) (by decide))).mono ?_
   rintro e wq ⟨vb,rfl,hB,hRb,hOb⟩
   have HBq:Hid (Below W6.heap.size W6 wq):=J (yB HBf.out HBf.out.size hB)
   have HSf:=J hB.size
   have HRb:=J hRb;have HOb:=J hOb
   clear hB hRb hOb
   refine hK.out _ _ (HQ9.out _ HBq.out) fun _=>?_
   clear hK K hHeld;rename_i hHeld;try simp only [Act.put,pA,pB,pC]
   refine rgT 5 _ hHeld ?_
   refine rgT 6 _ hHeld ?_
   refine rgT 7 _ hHeld ?_
   refine rgT 8 _ hHeld ?_
   refine rgT 9 _ hHeld ?_
   refine rgT 10 _ hHeld ?_
   refine rgT 11 _ hHeld ?_
   refine rgD ?_
   clear hHeld
   rcases hf:(fitsR c.state st freeL).2 with _ | bd1
   ·have HCF:Hid (clFit c st m=none):=J (by unfold clFit;rw [hf];rfl)
    simp only [hf,Option.isSome_none]
    clear hf
    go_wp2_with fail
    go_roundw
    case rel=>exact ⟨j+1,by omega,by go_num,HB46.out.trans ((HBq.out).mono HB46.out.size),fun k hk hkj=>by
     rcases Nat.lt_or_ge k j with h | h
     ·exact HN5.out k hk h
     ·obtain rfl:k=j:=by omega
      rw [←HC.out];exact HCF.out⟩
    case measure=>simp [intOf];omega
   have HRb1:Hid (RSl (fun b=>wf.heap.size≤b) wq bd1 vb):=J (by have:=HRb.out;rwa [hf] at this)
   have hbd:=fitsR_out hf (by omega) freeL_small
   have hbb:yC bd1≤4 * 2000:=by have:=bulk_eachP 2000 bd1 hbd.2;rwa [hbd.1] at this
   have HF1:Hid ((fitsR c.state st freeL).2=some bd1∧∀ y∈bd1,yC [y]≤2000):=J ⟨hf,hbd.2⟩
   simp only [hf,Option.isSome_some]
   clear hf hbd HRb HOb
   obtain ⟨y4,y5,y6,y7⟩:=(HX11.out.step HBq.out).c4 4 5 6 7
   obtain ⟨m0,m1,m2,m3⟩:=((HX9.out.step HB46.out).step HBq.out).c4 0 1 2 3
   go_wp2_with fail
   refine (mfitsO_c c.message m bd1 wq _ _ _ ((HR26.out.below HBq.out).to (fun b hb hl=>hl) fun _ _ _=>rfl) (((HT9.out.below HB46.out).below HBq.out).to (fun b hb hl=>hl) fun _ _ _=>rfl) (HRb1.out.to (fun b hb hl=>hl) fun _ _ _=>rfl) hcb.2 (by omega) (by omega)).mono ?_
   rintro e wz ⟨vb2,rfl,hB,hRb2,hOb2⟩
   have HBz:Hid (Below W6.heap.size W6 wz):=J (yB HBq.out HBq.out.size hB)
   have HOb2:=J hOb2
   clear hB hRb2 hOb2 y4 y5 y6 y7 m0 m1 m2 m3
   rcases hf2:(fitsR c.message m bd1).2 with _ | bd2
   ·have HCF:Hid (clFit c st m=none):=J (by unfold clFit;rw [HF1.out.1];exact hf2)
    simp only [hf2,Option.isSome_none]
    clear hf2
    go_wp2_with fail
    go_roundw
    case rel=>exact ⟨j+1,by omega,by go_num,HB46.out.trans ((HBz.out).mono HB46.out.size),fun k hk hkj=>by
     rcases Nat.lt_or_ge k j with h | h
     ·exact HN5.out k hk h
     ·obtain rfl:k=j:=by omega
      rw [←HC.out];exact HCF.out⟩
    case measure=>simp [intOf];omega
   have HCF:Hid (clFit c st m=some bd2):=J (by unfold clFit;rw [HF1.out.1];exact hf2)
   have HO2:Hid (∃ base g cap,wq.heap.size≤base∧vb2=.slice (some ⟨g,0,none⟩) 4 cap∧OwnG (fun b=>base≤b) base wz vb2 bd2):=J (by have h:=HOb2.out (by rw [hf2];rfl);rw [hf2] at h;exact h)
   have HMS:Hid (msFirst cs st 1 (yQ L)=some (1+i,c,bd2)):=J (msFirst_some cs st (yQ L) 1 i (by rw [tmsL_len];exact hlt) HN.out (by
    rw [←HM.out,HC.out]
    exact clFirst_some st m cs j hjt HN5.out (by rw [←HC.out];exact HCF.out)))
   have HX5z:Hid (Blk wz g5 [.int .i64 0,.int .i64 0,.string ⟨#[]⟩,.slice none 0 0,.int .i64 0,.int .i64 0,.string ⟨#[]⟩,.slice none 0 0,.slice none 0 0,.int .i64 0,.int .i64 0,.string ⟨#[]⟩,.slice none 0 0]):=J ((HX52.out.step HB6.out).step HBz.out)
   have HX11z:Hid (Blk wz g11 [.int .i64 c.state.kind,.int .i64 c.state.n,.string c.state.name,.slice a1 c.state.args.length p1,.int .i64 c.message.kind,.int .i64 c.message.n,.string c.message.name,.slice a2 c.message.args.length p2,.slice a3 c.acts.length p3,.int .i64 c.next.kind,.int .i64 c.next.n,.string c.next.name,.slice a4 c.next.args.length p4]):=J (HX11.out.step HBz.out)
   simp only [hf2,Option.isSome_some]
   clear hf2
   go_upto_region 13 with fail
   refine yK (fun w'=>w'.cell? ⟨g11,0,none⟩=some (.int .i64 c.state.kind)∧w'.cell? ⟨g11,1,none⟩=some (.int .i64 c.state.n)∧w'.cell? ⟨g11,2,none⟩=some (.string c.state.name)∧w'.cell? ⟨g11,3,none⟩=some (.slice a1 c.state.args.length p1)∧w'.cell? ⟨g11,4,none⟩=some (.int .i64 c.message.kind)∧w'.cell? ⟨g11,5,none⟩=some (.int .i64 c.message.n)∧w'.cell? ⟨g11,6,none⟩=some (.string c.message.name)∧w'.cell? ⟨g11,7,none⟩=some (.slice a2 c.message.args.length p2)∧w'.cell? ⟨g11,8,none⟩=some (.slice a3 c.acts.length p3)∧w'.cell? ⟨g11,9,none⟩=some (.int .i64 c.next.kind)∧w'.cell? ⟨g11,10,none⟩=some (.int .i64 c.next.n)∧w'.cell? ⟨g11,11,none⟩=some (.string c.next.name)∧w'.cell? ⟨g11,12,none⟩=some (.slice a4 c.next.args.length p4)) (by as_aux_lemma=>kernel_rfl) (fun Wd h=>⟨(HX11z.out.step h).cell 0 _ rfl,(HX11z.out.step h).cell 1 _ rfl,(HX11z.out.step h).cell 2 _ rfl,(HX11z.out.step h).cell 3 _ rfl,(HX11z.out.step h).cell 4 _ rfl,(HX11z.out.step h).cell 5 _ rfl,(HX11z.out.step h).cell 6 _ rfl,(HX11z.out.step h).cell 7 _ rfl,(HX11z.out.step h).cell 8 _ rfl,(HX11z.out.step h).cell 9 _ rfl,(HX11z.out.step h).cell 10 _ rfl,(HX11z.out.step h).cell 11 _ rfl,(HX11z.out.step h).cell 12 _ rfl⟩) ?_
   intro Wd3 hB hWd hWd' hHeld
   have HBd3:=J hB
   clear hB
   refine rgT 0 _ hHeld ?_
   refine rgT 1 _ hHeld ?_
   refine rgT 2 _ hHeld ?_
   refine rgT 3 _ hHeld ?_
   refine rgO 4 fun K hK=>?_
   refine wp_store_blk 82 13 szClauF _ _ rfl rfl rfl rfl (HX5z.out.step HBd3.out) rfl rfl rfl ?_
   intro W3 hF3 hs3 hBW3 hoth3
   have HF3:=J hF3;have HBW3:=J hBW3;have HO3:=J hoth3;have HS3:=J hs3
   clear hF3 hs3 hBW3 hoth3
   refine hK.out _ _ (⟨((HX11z.out.step HBd3.out).heap (HO3.out g11 (by have:=HX11.out;have:=HG.out;have h1:=HGE.out;omega))).cell 0 _ rfl,((HX11z.out.step HBd3.out).heap (HO3.out g11 (by have:=HX11.out;have:=HG.out;have h1:=HGE.out;omega))).cell 1 _ rfl,((HX11z.out.step HBd3.out).heap (HO3.out g11 (by have:=HX11.out;have:=HG.out;have h1:=HGE.out;omega))).cell 2 _ rfl,((HX11z.out.step HBd3.out).heap (HO3.out g11 (by have:=HX11.out;have:=HG.out;have h1:=HGE.out;omega))).cell 3 _ rfl,((HX11z.out.step HBd3.out).heap (HO3.out g11 (by have:=HX11.out;have:=HG.out;have h1:=HGE.out;omega))).cell 4 _ rfl,((HX11z.out.step HBd3.out).heap (HO3.out g11 (by have:=HX11.out;have:=HG.out;have h1:=HGE.out;omega))).cell 5 _ rfl,((HX11z.out.step HBd3.out).heap (HO3.out g11 (by have:=HX11.out;have:=HG.out;have h1:=HGE.out;omega))).cell 6 _ rfl,((HX11z.out.step HBd3.out).heap (HO3.out g11 (by have:=HX11.out;have:=HG.out;have h1:=HGE.out;omega))).cell 7 _ rfl,((HX11z.out.step HBd3.out).heap (HO3.out g11 (by have:=HX11.out;have:=HG.out;have h1:=HGE.out;omega))).cell 8 _ rfl,((HX11z.out.step HBd3.out).heap (HO3.out g11 (by have:=HX11.out;have:=HG.out;have h1:=HGE.out;omega))).cell 9 _ rfl,((HX11z.out.step HBd3.out).heap (HO3.out g11 (by have:=HX11.out;have:=HG.out;have h1:=HGE.out;omega))).cell 10 _ rfl,((HX11z.out.step HBd3.out).heap (HO3.out g11 (by have:=HX11.out;have:=HG.out;have h1:=HGE.out;omega))).cell 11 _ rfl,((HX11z.out.step HBd3.out).heap (HO3.out g11 (by have:=HX11.out;have:=HG.out;have h1:=HGE.out;omega))).cell 12 _ rfl⟩) fun _=>?_
   clear hK K hHeld;rename_i hHeld;try simp only [Act.put,pA,pB,pC]
   refine rgT 5 _ hHeld ?_
   refine rgD ?_
   clear hHeld
   go_wp2_with fail
   obtain ⟨base,gb,cb,hbase,rfl,hO⟩:=HO2.out
   have hg:=HG.out
   have hz2:=HB2.out.size
   have hz6:=HB6.out.size
   have hzz:=HBz.out.size
   have hzq:=HBq.out.size
   have hzd:=HBd3.out.size
   have hl11:=HX11.out.lt
   have hB:Below w.heap.size w W3:=HBW3.out _ _ (by omega) (HB0.out.trans ((HB2.out.trans ((HB6.out.trans ((HBz.out.trans (HBd3.out.mono (by omega))).mono (by omega))).mono (by omega))).mono (by omega)))
   refine bodyPost_ret (results_tct Tryz.results37 szClauF _ Tryz.underlying82 rfl rfl HF3.out rfl) rfl ⟨hB,?_⟩
   rw [HMS.out]
   refine ⟨#[.int .i64 c.state.kind,.int .i64 c.state.n,.string c.state.name,.slice a1 c.state.args.length p1,.int .i64 c.message.kind,.int .i64 c.message.n,.string c.message.name,.slice a2 c.message.args.length p2,.slice a3 c.acts.length p3,.int .i64 c.next.kind,.int .i64 c.next.n,.string c.next.name,.slice a4 c.next.args.length p4],.slice (some ⟨gb,0,none⟩) 4 cb,?_,?_,base,gb,cb,by omega,rfl,?_⟩
   ·rw [show ((1+i:Nat):Int)=(i:Int)+1 by omega];rfl
   ·exact clauE.to HCC.out (fun b hb _=>hb) fun b hb hl=>(HO3.out b (by have:=HSS.out b hb;omega)).trans ((HBd3.out.block b (by omega)).trans ((HBz.out.block b (by omega)).trans (HB6.out.block b hl)))
   exact hO.to (by rw [HS3.out];omega) fun b hb hl=>(HO3.out b (by
    rcases hb with hb | hb
    ·omega
    ·have:=hO.block b hb;omega)).trans (HBd3.out.block b hl)
  have hj2:j=cs.length:=by omega
  have HNO:Hid (clFirst st m cs=none):=J (clFirst_none st m cs fun d hd=>by
   obtain ⟨k,hk,rfl⟩:=List.getElem_of_mem hd
   exact HN5.out k hk (by omega))
  have HBW:Hid (Below W2.heap.size W2 wr):=J (HB4.out.trans (HB5.out.mono HB4.out.size))
  have qj:¬(j:Int) < (cs.length:Int):=by omega
  go_wp2_with fail
  go_roundw
  case rel=>exact ⟨i+1,by omega,by go_num,HBW.out,fun k hk hki=>by
   rcases Nat.lt_or_ge k i with h | h
   ·exact HN.out k hk h
   ·obtain rfl:k=i:=by omega
    rw [←HM.out];exact HNO.out⟩
  case measure=>simp [intOf];omega
 have hi2:i=L.length:=by omega
 have HMS:Hid (msFirst cs st 1 (yQ L)=none):=J (msFirst_none cs st (yQ L) 1 fun k hk=>HN.out k hk (by rw [tmsL_len] at hk;omega))
 have qi:¬(i:Int)+1 < (L.length:Int)+1:=by omega
 have HX5e:=J (HX52.out.step HB.out)
 have hz2:=HB2.out.size
 clear hi2
 go_wp2_with (first | (refine yI 82 13 szClauF _ _ rfl rfl rfl rfl rfl HX5e.out rfl rfl rfl ?_;intro W3 hF3 hs3 hBW3 hoth3;have HF3:=J hF3;have HBW3:=J hBW3;clear hF3 hs3 hBW3 hoth3))
 have hg:=HG.out
 refine bodyPost_ret (results_tct Tryz.results37 szClauF _ Tryz.underlying82 rfl rfl HF3.out rfl) rfl ⟨HBW3.out _ _ (by omega) (HB0.out.trans ((HB2.out.trans (HB.out.mono (by omega))).mono (by omega))),?_⟩
 rw [HMS.out]
 rfl
end Go.Proofs.YtedfepnekjjmnabGreat
