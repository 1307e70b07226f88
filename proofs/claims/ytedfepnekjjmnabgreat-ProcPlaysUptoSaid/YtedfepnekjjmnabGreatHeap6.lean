/-
  copier.word: what it does to a word. No condition but a bound.
-/
import Derived.Test.YtedfepnekjjmnabGreatJh
import Derived.Test.YtedfepnekjjmnabGreatHeap5
namespace Go.Proofs.YtedfepnekjjmnabGreat
open Go.RowKit
set_option linter.unusedSimpArgs false
set_option linter.unusedVariables false
set_option maxRecDepth 100000
set_option maxHeartbeats 8000000
theorem zeroInt (w:World):(zeroValue 3).run Tryz.prog w=.ok (.int .i64 0) w:=by
 obtain ⟨i,hi,hz,-,-⟩:=info_parts info3
 simp [zeroValue,typeInfo,hi,hz]
theorem look_some {w:World} {bm nm:Nat} {D:DataW Unit} {wt:List (Int×Int)} {n p:Int} (h:w.ownsMap Tryz.prog 3 (plainElem Tryz.prog 3) bm nm D) (hw:WentR D wt) (hn:(Lit.int .i64 n).wf=true) (hp:wtF wt n=some p) :
  (Instr.lookup 145 (.map (some bm)) (.int .i64 n) true).run Tryz.prog w=.ok (.tuple #[.int .i64 p,.bool true]) w:=by
 obtain ⟨v,ps,hrun,hv⟩:=h.look_ok (t:=145) (e:=3) (Maps.int_keyed Tryz.underlying3) Tryz.underlying145 (zeroInt w) (zd:=.lit (.int .i64 0)) (zp:=[]) (plainElem_int Tryz.underlying3 (by decide)) (Maps.keyOf_int_mk Tryz.underlying3 hn)
 obtain ⟨c,rfl,hc,-⟩:=plainElem_int_inv Tryz.underlying3 hv
 have h1:=hw n hn
 simp only [Prod.mk.injEq] at hc
 rw [(h1.2 p hp)] at hc
 have:p=c:=by have:=hc.1;simpa using this
 subst this
 rw [hrun,h1.1,hp];rfl
theorem look_none {w:World} {bm nm:Nat} {D:DataW Unit} {wt:List (Int×Int)} {n:Int} (h:w.ownsMap Tryz.prog 3 (plainElem Tryz.prog 3) bm nm D) (hw:WentR D wt) (hn:(Lit.int .i64 n).wf=true) (hp:wtF wt n=none) :
  (Instr.lookup 145 (.map (some bm)) (.int .i64 n) true).run Tryz.prog w=.ok (.tuple #[.int .i64 0,.bool false]) w:=by
 obtain ⟨v,ps,hrun,hv⟩:=h.look_ok (t:=145) (e:=3) (Maps.int_keyed Tryz.underlying3) Tryz.underlying145 (zeroInt w) (zd:=.lit (.int .i64 0)) (zp:=[]) (plainElem_int Tryz.underlying3 (by decide)) (Maps.keyOf_int_mk Tryz.underlying3 hn)
 obtain ⟨c,rfl,hc,-⟩:=plainElem_int_inv Tryz.underlying3 hv
 have h1:=hw n hn
 rw [hp] at h1
 have h2:Maps.has D (.int .i64 n)=false:=h1.1
 simp only [Prod.mk.injEq] at hc
 rw [Maps.atKey_of_not_has h2] at hc
 have:(0:Int)=c:=by have:=hc.1;simpa using this
 subst this
 rw [hrun,h2]
section
variable {o:Oper} {a:Act} {Q:Exit→Act→World→Prop} {K:Act→World→Prop} {w:World}
theorem wp_mapput (m x v:Operand) (hop:o.op=Op.mapUpdate 145 m x v) {bm nm:Nat} {D:DataW Unit} {wt:List (Int×Int)} {n p:Int}
  (hm:a.eval m=.map (some bm)) (hx:a.eval x=.int .i64 n) (hv:a.eval v=.int .i64 p) (h:w.ownsMap Tryz.prog 3 (plainElem Tryz.prog 3) bm nm D) (hw:WentR D wt) (hn:(Lit.int .i64 n).wf=true) (hp:(Lit.int .i64 p).wf=true) (hnm:nm < maxLen)
  (hK:∀ w' D',w'.ownsMap Tryz.prog 3 (plainElem Tryz.prog 3) bm (nm+1) D'→WentR D' ((n,p) :: wt)→w.grownBy w' (some bm)→K (a.put o.dst undef) w'):Oper.wp Tryz.prog o a w K Q:=by
 obtain ⟨w',hrun,r1,r2⟩:=h.update (t:=145) (e:=3) (Maps.int_keyed Tryz.underlying3) Tryz.underlying145 hnm (key:=.int .i64 n) (val:=.int .i64 p) (Maps.keyOf_int_mk Tryz.underlying3 hn) (plainElem_int Tryz.underlying3 hp)
 unfold Oper.wp
 simp [execOp,hop,hm,hx,hv,hrun,Result.andThen]
 exact hK _ _ r1 (hw.put h.isMap n p) r2
end
theorem wf_small (i:Nat) (h:i < 4611686018427387904):(Lit.int .i64 (i:Int)).wf=true:=by
 simp only [Lit.wf,Bool.and_eq_true,decide_eq_true_eq]
 exact ⟨Int.le_trans (b:=0) (by decide) (by omega),Int.le_trans (b:=4611686018427387904) (by omega) (by decide)⟩
def CopP (F:Nat→Prop) (w:World) (C B nm:Nat) (r:Wrd×CS) (e:Ending) (w':World):Prop :=
 e=.returned (.agg #[.int .i64 r.1.kind,.int .i64 r.1.n])∧Keep F w w'∧CopR (fun b=>F b∨w.heap.size≤b) w' C B r.2 (nm+1)
def CopM (F:Nat→Prop) (W0:World) (C B nm:Nat) (st:CS) (wx:World):Prop:=CopR (fun b=>F b∨W0.heap.size≤b) wx C B st nm∧Keep F W0 wx
theorem CopR.more {F:Nat→Prop} {w:World} {C B nm nm':Nat} {st:CS} (h:CopR F w C B st nm) (hn:nm≤nm'):CopR F w C B st nm':=by
 obtain ⟨vto,bm,D,h⟩:=h;exact ⟨vto,bm,D,⟨h.blk,h.row,h.mp.mono hn,h.wt,h.nt,h.nm1,h.ne,h.fc,h.ft,h.fm⟩⟩
theorem cop_end {F F0:Nat→Prop} {w W0 W1 W':World} {C B g nm:Nat} {st:CS} (hB0:Below w.heap.size w W0) (hz0:w.heap.size≤W0.heap.size) (hF:∀ b,F0 b→F b∧b < w.heap.size) (h:CopM F0 W0 C B nm st W1) (hB:Below 0 W1 W')
  (hg:w.heap.size≤g) (hgW:g < W0.heap.size) (ho:∀ b,b≠g→W'.heap[b]?=W1.heap[b]?):Keep F w W'∧CopR (fun b=>F b∨w.heap.size≤b) W' C B st nm:=by
 have hz:=hB.size
 have hz1:=h.2.size
 refine ⟨⟨hB.os.trans (h.2.os.trans hB0.os),hB.tape.trans (h.2.tape.trans hB0.tape),hB.output.trans (h.2.output.trans hB0.output),by omega,fun k hk hn=>?_⟩,h.1.to' hz (fun b hb=>?_) fun b hb hl=>ho b ?_⟩
 ·exact (ho k (by omega)).trans ((h.2.block k (by omega) fun e=>hn (hF k e).1).trans (hB0.block k hk))
 ·rcases hb with hb | hb
  ·exact .inl (hF b hb).1
  exact .inr (by omega)
 rcases hb with hb | hb
 ·have:=(hF b hb).2;omega
 omega
theorem CopV.row' {F:Nat→Prop} {w w3:World} {C B bm nm:Nat} {st:CS} {D:DataW Unit} {vto v':Value} {l:List Wrd} (h:CopV F w C B st vto bm nm D) (hl:w.heap.size≤w3.heap.size)
  (hg:∀ b,b < w.heap.size→vto.ownBlock≠some b→w3.heap[b]?=w.heap[b]?) (hO:OwnW w3 v' l) (hp:∀ b,v'.ownBlock=some b→vto.ownBlock=some b∨w.heap.size≤b) :
  CopV (fun b=>F b∨w.heap.size≤b) (w3.setCell ⟨C,1,none⟩ v') C B ⟨l,st.wt⟩ v' bm nm D:=by
 have hBl:=h.blk.lt
 have hml:=h.mp.lt
 have hne:v'.ownBlock≠some C:=fun e=>by
  rcases hp C e with h1 | h1
  ·exact h.nt h1
  ·omega
 have hnm:v'.ownBlock≠some bm:=fun e=>by
  rcases hp bm e with h1 | h1
  ·exact h.ne h1
  ·omega
 have hb:=hg C hBl h.nt
 have hblk:Blk w3 C [.pointer (some ⟨B,0,none⟩),vto,.map (some bm)]:=⟨by omega,fun j u hu=>(World.cell?_of_block (w:=w) (a:=⟨C,j,none⟩) hb).trans (h.blk.cell j u hu),fun o=>(World.frozen?_of_block (w:=w) (a:=⟨C,o,none⟩) hb).trans (h.blk.fr o)⟩
 have hset:∀ b,b≠C→(w3.setCell ⟨C,1,none⟩ v').heap[b]?=w3.heap[b]?:=fun b hb=>yD w3 C 1 v' b hb
 have hO2:OwnW (w3.setCell ⟨C,1,none⟩ v') v' l:=OwnW.to hO (by simp) fun b hb=>hset b fun e=>hne (by rw [←e];exact hb)
 exact ⟨hblk.set 1 v' (by simp),hO2,ownsMap_block h.mp ((hset bm h.nm1).trans (hg bm hml h.ne)),h.wt,hne,h.nm1,hnm,.inl h.fc,fun b hb=>(hp b hb).imp (h.ft b) id,.inl h.fm⟩
theorem cop_word (H:HS) (st:CS) (x:Wrd) (F G:Nat→Prop) (w:World) (C B nm:Nat) (room:Int) (hC:CopR F w C B st nm) (hR:HeapR G w B room H) (hH:HeadsOk H) (hd:∀ b,F b→¬G b) (hx:x.kind=4→(headN H x.n).isSome=true)
  (hl:H.ws.length≤4294967296) (ht:st.tw.length≤17179869184) (hnm:nm≤17179869184) :
  Calls Tryz.prog 88 #[.pointer (some ⟨C,0,none⟩),.agg #[.int .i64 x.kind,.int .i64 x.n]] w (CopP F w C B nm (wordC H st x)):=by
 obtain ⟨W0,hW0⟩:=I ((w.alloc (.cells #[.int .i64 x.kind,.int .i64 x.n] 68)).alloc (.cells #[.int .i64 0,.int .i64 0] 68))
 have HX3:Hid (Blk W0 w.heap.size [.int .i64 x.kind,.int .i64 x.n]):=J (by rw [hW0];exact (Blk.new _ _ _ _ rfl).alloc _)
 have HX4:Hid (Blk W0 (w.heap.size+1) [.int .i64 0,.int .i64 0]):=J (by rw [hW0];exact Blk.new _ _ _ _ (by simp))
 have HB0:Hid (Below w.heap.size w W0):=J (by rw [hW0];exact (yA _ _).trans ((yA _ _).mono (by simp)))
 have hs0:W0.heap.size=w.heap.size+2:=by rw [hW0];simp
 have hs0a:w.heap.size+2≤W0.heap.size:=by omega
 have hs0b:W0.heap.size≤w.heap.size+2:=by omega
 have hs0c:w.heap.size≤W0.heap.size:=by omega
 obtain ⟨F0,hF0⟩:∃ F0:Nat→Prop,F0=fun b=>F b∧b < w.heap.size:=⟨_,rfl⟩
 have HF1:Hid (∀ b,F0 b→F b∧b < w.heap.size):=J (fun b hb=>by rw [hF0] at hb;exact hb)
 have HC0:Hid (CopR F0 W0 C B st nm):=J (by rw [hF0];exact hC.low.below HB0.out)
 have HR0:Hid (HeapR (fun b=>G b∧b < w.heap.size) W0 B room H):=J (hR.low.below HB0.out)
 have HD:Hid (∀ b,F0 b→¬G b):=J (fun b hb=>hd b (HF1.out b hb).1)
 have HW0:=J hW0
 have HH:=J hH
 clear hC hR hH hd hW0 hF0 hs0
 by_cases hk:x.kind=4
 ·have hkb:(x.kind != 4)=false:=by simp [hk]
  obtain ⟨nH,hnH⟩:=Option.isSome_iff_exists.1 (hx hk)
  obtain ⟨i,k,hi,hxi,rfl,hwi,hik⟩:=headN_some HH.out hnH
  have hwf:(Lit.int .i64 x.n).wf=true:=by rw [hxi];exact wf_small i (by omega)
  obtain ⟨vto,bm,D,hV⟩:=HC0.out
  obtain ⟨at0,ct0,rfl⟩:=hV.row.form
  have HV:=J hV
  have HWF:=J hwf
  have hC0:=hV.blk.lt
  have hbm0:=hV.mp.lt
  have HQ:Hid (∀ w':World,Below W0.heap.size W0 w'→w'.heap[bm]?=W0.heap[bm]?∧w'.cell? ⟨C,2,none⟩=some (.map (some bm))∧w'.cell? ⟨w.heap.size,1,none⟩=some (.int .i64 x.n)):=J fun w' h=>⟨h.block bm hbm0,(HV.out.blk.step h).cell 2 _ rfl,(HX3.out.step h).cell 1 _ rfl⟩
  have HWI:=J hwi
  have HXI:=J hxi
  have HNH:=J hnH
  have HK:=J hk
  clear hV hwf hwi hxi hnH hk hx
  cases hp:wtF st.wt x.n with
  | some p =>
   have HA:=J (wordC_old (H:=H) HK.out hp)
   have HLK:Hid (∀ w':World,w'.heap[bm]?=W0.heap[bm]?→(Instr.lookup 145 (.map (some bm)) (.int .i64 x.n) true).run Tryz.prog w'=.ok (.tuple #[.int .i64 p,.bool true]) w'):=J fun w' e=>look_some (ownsMap_block HV.out.mp e) HV.out.wt HWF.out hp
   clear hp
   go_enter Tryz.func88,Tryz.ntmps88
   go_upto_region 1 with fail
   rw [←HW0.out]
   have y0:=HX3.out.cell 0 _ rfl
   go_upto_region 3 with fail
   clear y0
   refine yK (fun w'=>w'.heap[bm]?=W0.heap[bm]?∧w'.cell? ⟨C,2,none⟩=some (.map (some bm))∧w'.cell? ⟨w.heap.size,1,none⟩=some (.int .i64 x.n)) (by as_aux_lemma=>kernel_rfl) (fun Wd h=>HQ.out _ h) ?_
   intro Wd hB hWd hWd' hHeld
   have HBd:=J hB
   clear hB
   refine rgT 0 _ hHeld ?_
   refine rgT 1 _ hHeld ?_
   refine rgT 2 _ hHeld ?_
   refine rgT 3 _ hHeld ?_
   refine rgT 4 _ hHeld ?_
   refine rgT 5 _ hHeld ?_
   refine rg_take (i:=6) (v:=?_) rfl (by as_aux_lemma=>kernel_rfl) (by as_aux_lemma=>kernel_rfl) (by as_aux_lemma=>kernel_rfl) (by rfl) ?_ hHeld ?_
   rotate_left 1
   ·intro w hSw;(try dsimp only at hSw);have hLK:=HLK.out w hSw.1;go_simp;try (with_reducible rfl)
   try simp only [Act.put,pA,pB,pC]
   refine rgT 7 _ hHeld ?_
   refine rgT 8 _ hHeld ?_
   refine rgT 9 _ hHeld ?_
   refine rgT 10 _ hHeld ?_
   refine rgT 11 _ hHeld ?_
   refine rgD ?_
   clear hHeld
   have HX4d:=J (HX4.out.step HBd.out)
   go_wp2_with (refine yI 68 2 szWord _ _ rfl rfl rfl rfl rfl HX4d.out rfl rfl rfl ?_;intro W' hF hs' hBW hoth;have HF:=J hF;have HSZ:=J hs';have HBW:=J hBW;have HOTH:=J hoth;clear hF hBW hoth hs')
   refine bodyPost_ret (result_blk Tryz.results88 szWord _ Tryz.underlying68 rfl rfl HF.out rfl) rfl ⟨?_,?_⟩
   ·rw [HA.out];try rfl
   ·rw [HA.out]
    exact cop_end HB0.out hs0c HF1.out ⟨((HC0.out.below HBd.out).mono (fun b hb=>.inl hb)).more (by omega),Keep.of HBd.out⟩ (HBW.out 0 _ (by omega) (Below.refl _ _)) (by omega) (by omega) HOTH.out
  | none =>
   have HA:=J (wordC_new HK.out hp HXI.out HNH.out)
   have HLK:Hid (∀ w':World,w'.heap[bm]?=W0.heap[bm]?→(Instr.lookup 145 (.map (some bm)) (.int .i64 x.n) true).run Tryz.prog w'=.ok (.tuple #[.int .i64 0,.bool false]) w'):=J fun w' e=>look_none (ownsMap_block HV.out.mp e) HV.out.wt HWF.out hp
   have hpl:(partsL H i k).length=k:=by unfold partsL;rw [List.length_take,List.length_drop];omega
   have HPL:=J hpl
   clear hp hpl
   go_enter Tryz.func88,Tryz.ntmps88
   go_upto_region 1 with fail
   rw [←HW0.out]
   have y0:=HX3.out.cell 0 _ rfl
   go_upto_region 3 with fail
   clear y0
   refine yK (fun w'=>w'.heap[bm]?=W0.heap[bm]?∧w'.cell? ⟨C,2,none⟩=some (.map (some bm))∧w'.cell? ⟨w.heap.size,1,none⟩=some (.int .i64 x.n)) (by as_aux_lemma=>kernel_rfl) (fun Wd h=>HQ.out _ h) ?_
   intro Wd hB hWd hWd' hHeld
   have HBd:=J hB
   clear hB
   refine rgT 0 _ hHeld ?_
   refine rgT 1 _ hHeld ?_
   refine rgT 2 _ hHeld ?_
   refine rgT 3 _ hHeld ?_
   refine rgT 4 _ hHeld ?_
   refine rgT 5 _ hHeld ?_
   refine rg_take (i:=6) (v:=?_) rfl (by as_aux_lemma=>kernel_rfl) (by as_aux_lemma=>kernel_rfl) (by as_aux_lemma=>kernel_rfl) (by rfl) ?_ hHeld ?_
   rotate_left 1
   ·intro w hSw;(try dsimp only at hSw);have hLK:=HLK.out w hSw.1;go_simp;try (with_reducible rfl)
   try simp only [Act.put,pA,pB,pC]
   refine rgT 7 _ hHeld ?_
   refine rgT 8 _ hHeld ?_
   refine rgT 9 _ hHeld ?_
   refine rgT 10 _ hHeld ?_
   refine rgT 11 _ hHeld ?_
   refine rgD ?_
   clear hHeld
   obtain ⟨V0,rfl⟩:∃ V0:World,V0=Wd:=⟨_,rfl⟩
   have HB00:=J HBd.out
   have HV00:=J (HV.out.to' (F':=F0) hWd (fun _ h=>h) fun b _ hb=>HBd.out.block b hb)
   have HX30:=J (HX3.out.step HBd.out)
   have HX40:=J (HX4.out.step HBd.out)
   have c1:=HV00.out.blk.cell 1 _ rfl
   have HQ6:Hid (∀ w':World,w'.heap[C]?=V0.heap[C]?→w'.heap[w.heap.size]?=V0.heap[w.heap.size]?→w'.cell? ⟨C,2,none⟩=some (.map (some bm))∧w'.cell? ⟨w.heap.size,1,none⟩=some (.int .i64 x.n)):=J fun w' e1 e2=>⟨(World.cell?_of_block (w:=V0) (a:=⟨C,2,none⟩) e1).trans (HV00.out.blk.cell 2 _ rfl),(World.cell?_of_block (w:=V0) (a:=⟨w.heap.size,1,none⟩) e2).trans (HX30.out.cell 1 _ rfl)⟩
   go_upto_region 6 with fail
   refine yK (fun w'=>w'.cell? ⟨C,2,none⟩=some (.map (some bm))∧w'.cell? ⟨w.heap.size,1,none⟩=some (.int .i64 x.n)) (by as_aux_lemma=>kernel_rfl) (fun Wd h=>HQ6.out _ (h.block _ (by omega)) (h.block _ (by omega))) ?_
   intro Wd hB hWd hWd' hHeld
   have EC0:Hid (Wd.heap[C]?=V0.heap[C]?):=J (hB.block _ (by omega))
   have E30:Hid (Wd.heap[w.heap.size]?=V0.heap[w.heap.size]?):=J (hB.block _ (by omega))
   have EM0:Hid (Wd.heap[bm]?=V0.heap[bm]?):=J (hB.block _ (by omega))
   have HB6:=J hB
   clear hB
   refine rgT 0 _ hHeld ?_
   refine rgT 1 _ hHeld ?_
   refine rgT 2 _ hHeld ?_
   refine rgT 3 _ hHeld ?_
   refine rgT 4 _ hHeld ?_
   refine rgT 5 _ hHeld ?_
   refine rgT 6 _ hHeld ?_
   refine rgO 7 fun K hK=>?_
   refine wp_mapput _ _ _ rfl (by rfl) (by rfl) (by rfl) (ownsMap_block HV.out.mp (EM0.out.trans (HB00.out.block bm hbm0))) HV.out.wt HWF.out (wf_small st.tw.length (by omega)) (by unfold maxLen;omega) ?_
   intro w6 D6 hM6 hW6 hG6
   have hs6:=hG6.size
   have EC6:Hid (w6.heap[C]?=V0.heap[C]?):=J ((hG6.block C (by omega) (fun e=>HV.out.nm1 (Option.some.inj e).symm)).trans EC0.out)
   have E36:Hid (w6.heap[w.heap.size]?=V0.heap[w.heap.size]?):=J ((hG6.block w.heap.size (by omega) (fun e=>by have:=(HF1.out _ HV.out.fm).2;have:=Option.some.inj e;omega)).trans E30.out)
   have HM6:=J hM6
   have HWN6:=J hW6
   have E46:Hid (w6.heap[w.heap.size+1]?=V0.heap[w.heap.size+1]?):=J ((hG6.block _ (by omega) (fun e=>by have:=(HF1.out _ HV.out.fm).2;have:=Option.some.inj e;omega)).trans (HB6.out.block _ (by omega)))
   have HG6:=J hG6
   clear hM6 hW6 hG6
   refine hK.out _ _ (HQ6.out _ EC6.out E36.out) fun _=>?_
   clear hK K hHeld;rename_i hHeld;try simp only [Act.put,pA,pB,pC]
   refine rgD ?_
   clear hHeld
   clear c1
   have HV6:Hid (CopV F0 w6 C B ⟨st.tw,(x.n,(st.tw.length:Int)) :: st.wt⟩ (.slice at0 st.tw.length ct0) bm (nm+1) D6):=J ⟨⟨by omega,fun j u hu=>(World.cell?_of_block (w:=V0) (a:=⟨C,j,none⟩) EC6.out).trans (HV00.out.blk.cell j u hu),fun o=>(World.frozen?_of_block (w:=V0) (a:=⟨C,o,none⟩) EC6.out).trans (HV00.out.blk.fr o)⟩,OwnW.to HV00.out.row (by omega) (fun b hb=>(HG6.out.block b (by have:=(HV00.out.row.block b hb).2;omega) (fun e=>HV00.out.ne (by rw [hb,e]))).trans (HB6.out.block b (HV00.out.row.block b hb).2)),HM6.out,HWN6.out,HV00.out.nt,HV00.out.nm1,HV00.out.ne,HV00.out.fc,HV00.out.ft,HV00.out.fm⟩
   have HR6:Hid (HeapR (fun b=>G b∧b < w.heap.size) w6 B room H):=J (HR0.out.to (by omega) (fun _ h=>h) fun b hb hl=>((HG6.out.block b (by omega) (fun e=>HD.out b (by have e1:=Option.some.inj e;first | (rw [e1];exact HV00.out.fm) | (rw [←e1];exact HV00.out.fm)) hb.1)).trans (HB6.out.block b (by omega))).trans (HB00.out.block b hl))
   have HQ7:Hid (∀ w':World,w'.heap[C]?=w6.heap[C]?→w'.heap[w.heap.size]?=w6.heap[w.heap.size]?→w'.cell? ⟨C,0,none⟩=some (.pointer (some ⟨B,0,none⟩))∧w'.cell? ⟨w.heap.size,1,none⟩=some (.int .i64 x.n)):=J fun w' e1 e2=>⟨(World.cell?_of_block (w:=w6) (a:=⟨C,0,none⟩) e1).trans (HV6.out.blk.cell 0 _ rfl),(World.cell?_of_block (w:=V0) (a:=⟨w.heap.size,1,none⟩) (e2.trans E36.out)).trans (HX30.out.cell 1 _ rfl)⟩
   go_upto_region 7 with fail
   refine yK (fun w'=>w'.cell? ⟨C,0,none⟩=some (.pointer (some ⟨B,0,none⟩))∧w'.cell? ⟨w.heap.size,1,none⟩=some (.int .i64 x.n)) (by as_aux_lemma=>kernel_rfl) (fun Wd h=>HQ7.out _ (h.block _ (by omega)) (h.block _ (by omega))) ?_
   intro Wd hB hWd hWd' hHeld
   have HB6d:=J hB
   have HRd:=J (HR6.out.below hB)
   clear hB
   refine rgT 0 _ hHeld ?_
   refine rgT 1 _ hHeld ?_
   refine rgT 2 _ hHeld ?_
   refine rgT 3 _ hHeld ?_
   refine rgT 4 _ hHeld ?_
   refine rgT 5 _ hHeld ?_
   refine rgO 6 fun K hK=>?_
   go_simp
   go_at_call 98
   have hc:=hparts_yes _ Wd B room H i k HRd.out hi HWI.out hik (by omega)
   rw [←HXI.out] at hc
   refine hc.mono ?_
   rintro e w7 ⟨pa,pc,he,hB,hP⟩
   rw [HPL.out] at he hP
   subst he
   have hs7:=hB.size
   have HB7:=J hB
   have HP7:=J hP
   have HBB:Hid (Below w6.heap.size w6 w7):=J (yB HB6d.out (by omega) hB)
   clear hB hP hc
   refine hK.out _ _ (HQ7.out _ (HBB.out.block _ (by omega)) (HBB.out.block _ (by omega))) fun _=>?_
   clear hK K hHeld;rename_i hHeld;try simp only [Act.put,pA,pB,pC]
   refine rgT 7 _ hHeld ?_
   refine rgT 8 _ hHeld ?_
   refine rgT 9 _ hHeld ?_
   refine rgT 10 _ hHeld ?_
   refine rgT 11 _ hHeld ?_
   refine rgD ?_
   clear hHeld
   obtain ⟨V7,rfl⟩:∃ V7:World,V7=w7:=⟨_,rfl⟩
   have HV7:=J (HV6.out.to' (F':=F0) (by have:=HBB.out.size;omega) (fun _ h=>h) fun b _ hb=>HBB.out.block b hb)
   have c1:=HV7.out.blk.cell 1 _ rfl
   have cf:=HV7.out.blk.fr
   have hCw:=(HF1.out _ HV7.out.fc).2
   go_wp2_with (first | (at_builtin;first | (refine append_growX (o:=⟨some 56,_,_,_,_,_⟩) wrdF (v:=.slice at0 st.tw.length ct0) (y:=⟨0,k⟩) (g0:=V7.heap.size) _ _ rfl rfl (by rfl) (by rfl) rfl (show OwnXG wrdE wrdF.e (fun _=>True) 0 V7 (.slice at0 st.tw.length ct0) st.tw from HV7.out.row) (R:=fun _=>False) rfl (fun b hb=>hb.elim) rfl (by omega) (by omega) ?_;intro g1 c1' w8 hO8 hB8 hG8 hD8;have hs8:=hB8.size;have HO8:=J hO8;have HB8:=J hB8;have HG8:=J hG8;have HD8:=J hD8;have HP8:=J (RX.wto HP7.out (w':=w8) fun b hb hl=>(hG8.block b (by simp;omega) (fun e=>HD.out b (HV7.out.ft b e.symm) hb.1)).trans (Below.heap_alloc _ _ _ hl));clear hO8 hB8 hG8 hD8) | (refine wpList_growWs (o:=⟨some 58,_,_,_,_,_⟩) (v:=.slice (some ⟨g1,0,none⟩) (st.tw.length+1) c1') (u:=.slice pa k pc) _ _ rfl rfl (by rfl) (by rfl) (show OwnW w8 _ (st.tw ++ [⟨0,(k:Int)⟩]) from HO8.out) HP8.out (by rw [HPL.out];simp;omega) ?_;intro v9 w9 hO9 hG9 hP9;have hs9:=hG9.size;have EC9:Hid (w9.heap[C]?=V7.heap[C]?):=J ((hG9.block C (by omega) (fun e=>by have e1:C=g1:=Option.some.inj e;have hd8:=HD8.out;rcases hd8 with h | h;exact HV7.out.nt (by rw [e1];exact h);omega)).trans ((HG8.out.block C (by simp;omega) (fun e=>HV7.out.nt e.symm)).trans (Below.heap_alloc _ _ _ (by omega))));have c19:=(World.cell?_of_block (w:=V7) (a:=⟨C,1,none⟩) EC9.out).trans c1;have cf9:=(fun o=>(World.frozen?_of_block (w:=V7) (a:=⟨C,o,none⟩) EC9.out).trans (cf o));obtain ⟨a9,n9,cp9,rfl⟩:∃ a n c,v9=Value.slice a n c:=(by obtain ⟨a,c,h⟩:=OwnW.form hO9;exact ⟨a,_,c,h⟩);have EX9:Hid (w9.heap[w.heap.size+1]?=V0.heap[w.heap.size+1]?):=J ((hG9.block _ (by omega) (fun e=>by have e1:w.heap.size+1=g1:=Option.some.inj e;have hd8:=HD8.out;rcases hd8 with h | h;(have h2:=(HF1.out _ (HV7.out.ft g1 h)).2;omega);omega)).trans ((HG8.out.block _ (by simp;omega) (fun e=>by have h2:=(HF1.out _ (HV7.out.ft _ e.symm)).2;omega)).trans ((Below.heap_alloc _ _ _ (by omega)).trans ((HBB.out.block _ (by omega)).trans E46.out))));have HO9:=J hO9;have HG9:=J hG9;have HP9:=J hP9;clear hO9 hG9 hP9)) | (have hX9:Blk (w9.setCell ⟨C,1,none⟩ (Value.slice a9 n9 cp9)) (w.heap.size+1) [.int .i64 0,.int .i64 0]:=Blk.heap HX40.out ((yD w9 C 1 (Value.slice a9 n9 cp9) _ (by omega)).trans EX9.out);(refine yI 68 2 szWord _ _ rfl rfl rfl rfl rfl hX9 rfl rfl rfl ?_;intro W' hF hs' hBW hoth;have HF:=J hF;have HSZ:=J hs';have HBW:=J hBW;have HOTH:=J hoth;clear hF hBW hoth hs')))
   have hz9:V7.heap.size≤w9.heap.size:=by omega
   have hz7:W0.heap.size≤V7.heap.size:=by omega
   have hown7:∀ b,(Value.slice at0 st.tw.length ct0).ownBlock=some b→F0 b:=HV7.out.ft
   have hg1:∀ b,b < V7.heap.size→(Value.slice at0 st.tw.length ct0).ownBlock≠some b→w9.heap[b]?=V7.heap[b]?:=fun b hb hne=>(HG9.out.block b (by omega) (fun e=>by have e1:b=g1:=Option.some.inj e;have hd8:=HD8.out;rcases hd8 with h | h;exact hne (by rw [e1];exact h);omega)).trans ((HG8.out.block b (by simp;omega) (fun e=>hne e.symm)).trans (Below.heap_alloc _ _ _ hb))
   have hrow:OwnW w9 (Value.slice a9 n9 cp9) (st.tw ++ (⟨0,(k:Int)⟩ :: partsL H i k)):=by have h9:=HO9.out;rw [List.append_assoc] at h9;exact h9
   have hpr:∀ b,(Value.slice a9 n9 cp9).ownBlock=some b→(Value.slice at0 st.tw.length ct0).ownBlock=some b∨V7.heap.size≤b:=fun b hb=>by
    rcases HP9.out b hb with h | h
    ·have e1:g1=b:=Option.some.inj h
     subst e1
     exact HD8.out.imp id fun h=>by omega
    ·exact .inr (by omega)
   have hcv:=HV7.out.row' (w3:=w9) (v':=Value.slice a9 n9 cp9) hz9 hg1 hrow hpr
   have hkp:Keep F0 W0 (w9.setCell ⟨C,1,none⟩ (Value.slice a9 n9 cp9)):=by
    have k6:Keep F0 W0 w6:=⟨HG6.out.os.trans (HB6.out.os.trans HB00.out.os),HG6.out.tape.trans (HB6.out.tape.trans HB00.out.tape),HG6.out.output.trans (HB6.out.output.trans HB00.out.output),by omega,fun b hb hn=>(HG6.out.block b (by omega) (fun e=>hn (by have e1:=Option.some.inj e;rw [e1];exact HV00.out.fm))).trans ((HB6.out.block b (by omega)).trans (HB00.out.block b hb))⟩
    have k7:Keep F0 W0 V7:=k6.then HBB.out
    have k9:Keep F0 W0 w9:=⟨HG9.out.os.trans (HG8.out.os.trans k7.os),HG9.out.tape.trans (HG8.out.tape.trans k7.tape),HG9.out.output.trans (HG8.out.output.trans k7.output),by omega,fun b hb hn=>(hg1 b (by omega) (fun e=>hn (hown7 b e))).trans (k7.block b hb hn)⟩
    exact k9.setCell _ (.inl HV7.out.fc)
   refine bodyPost_ret (result_blk Tryz.results88 szWord _ Tryz.underlying68 rfl rfl HF.out rfl) rfl ⟨?_,?_⟩
   ·rw [HA.out];try rfl
   ·rw [HA.out]
    exact cop_end HB0.out hs0c HF1.out ⟨⟨_,_,_,CopV.to' hcv (Nat.le_refl _) (fun b hb=>hb.imp id fun h=>by omega) fun _ _ _=>rfl⟩,hkp⟩ (HBW.out 0 _ (by omega) (Below.refl _ _)) (by omega) (by omega) HOTH.out
 have HA:=J (wordC_no (H:=H) (st:=st) hk)
 have hkb:(x.kind != 4)=true:=by simpa using hk
 clear hk
 go_enter Tryz.func88,Tryz.ntmps88
 go_upto_region 1 with fail
 rw [←HW0.out]
 obtain ⟨y0,y1⟩:=HX3.out.c2 0 1
 go_wp2_with (refine yI 68 2 szWord _ _ rfl rfl rfl rfl rfl HX4.out rfl rfl rfl ?_;intro W' hF hs' hBW hoth;have HF:=J hF;have HSZ:=J hs';have HBW:=J hBW;have HOTH:=J hoth;clear hF hBW hoth hs')
 refine bodyPost_ret (result_blk Tryz.results88 szWord _ Tryz.underlying68 rfl rfl HF.out rfl) rfl ⟨?_,?_⟩
 ·rw [HA.out];try rfl
 rw [HA.out]
 exact cop_end HB0.out hs0c HF1.out ⟨(HC0.out.mono (fun b hb=>.inl hb)).more (by omega),Keep.refl _ _⟩ (HBW.out 0 _ (by omega) (Below.refl _ _)) (by omega) (by omega) HOTH.out
end Go.Proofs.YtedfepnekjjmnabGreat
