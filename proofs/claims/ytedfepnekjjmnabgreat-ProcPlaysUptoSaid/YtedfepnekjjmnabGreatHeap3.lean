/-
  heap.put: what it makes of a heap. No condition but a bound.
-/
import Derived.Great.BuildSlice
import Derived.Test.YtedfepnekjjmnabGreatHeap2
import Derived.Test.YtedfepnekjjmnabGreatJf
namespace Go.Proofs.YtedfepnekjjmnabGreat
open Go.RowKit
set_option linter.unusedSimpArgs false
set_option linter.unusedVariables false
set_option maxRecDepth 100000
set_option maxHeartbeats 8000000
theorem HeapV.low {F:Nat→Prop} {w:World} {B:Nat} {room:Int} {H:HS} {vw vn:Value} (h:HeapV F w B room H vw vn):HeapV (fun b=>F b∧b < w.heap.size) w B room H vw vn :=
 ⟨h.blk,h.ws,h.nm,h.nw,h.nn,h.ne,⟨h.fb,h.blk.lt⟩,fun b hb=>⟨h.fw b hb,(h.ws.block b hb).2⟩,fun b hb=>⟨h.fn b hb,(h.nm.block b hb).2⟩⟩
theorem HeapR.low {F:Nat→Prop} {w:World} {B:Nat} {room:Int} {H:HS} (h:HeapR F w B room H):HeapR (fun b=>F b∧b < w.heap.size) w B room H:=by
 obtain ⟨vw,vn,h⟩:=h;exact ⟨vw,vn,h.low⟩
theorem wrd_set (k:Nat) (x:Wrd):∀ {S:Nat→Prop} {w w':World} {l:List Wrd} {cs:List Value} {i:Nat},CellsX wrdE S w l cs→i < l.length→CellsX wrdE S w' (l.set i x) ((cs.set (i * 2) (.int .i64 x.kind)).set (i * 2+1) (.int .i64 x.n))
 | _,_,_,[],_,_,_,hi=>by cases hi
 | _,_,_,y :: l,_,0,⟨c,cs',rfl,h1,h2⟩,_=>by
  obtain rfl:c=[.int .i64 y.kind,.int .i64 y.n]:=h1
  exact ⟨[.int .i64 x.kind,.int .i64 x.n],cs',rfl,rfl,cellsW h2⟩
 | _,_,_,y :: l,_,i+1,⟨c,cs',rfl,h1,h2⟩,hi=>by
  obtain rfl:c=[.int .i64 y.kind,.int .i64 y.n]:=h1
  refine ⟨[.int .i64 y.kind,.int .i64 y.n],_,?_,rfl,wrd_set k x h2 (i:=i) (by simpa using hi)⟩
  rw [show (i+1) * 2=i * 2+1+1 by omega]
  simp
theorem OwnW.set {w:World} {g n cap i:Nat} {l:List Wrd} (h:OwnW w (.slice (some ⟨g,0,none⟩) n cap) l) (hi:i < l.length) (x:Wrd) :
  OwnW ((w.setCell ⟨g,i * 2,none⟩ (.int .i64 x.kind)).setCell ⟨g,i * 2+1,none⟩ (.int .i64 x.n)) (.slice (some ⟨g,0,none⟩) n cap) (l.set i x):=by
 obtain ⟨cs,⟨h1,h2⟩,hC⟩:=h
 rcases h2 with ⟨h2,-⟩ | ⟨g',cap',cur,ev,hg,hh,hn,hm,hcs,htk⟩
 ·cases h2
 simp only [Value.slice.injEq,Option.some.injEq,Addr.mk.injEq,and_true] at ev
 obtain ⟨rfl,rfl,rfl⟩:=ev
 have e1:=heap_setCell_same w g (i * 2) cur 68 (.int .i64 x.kind) hh
 have e2:=heap_setCell_same _ g (i * 2+1) _ 68 (.int .i64 x.n) e1
 have hC2:=wrd_set (S:=fun _=>True) (w':=w) 0 x (cellsW (w':=w) hC) hi
 refine ⟨_,⟨?_,.inr ⟨g,cap,_,by simp,hg,e2,?_,hm,by simp [hcs],rfl⟩⟩,cellsW (S:=fun _=>True) (w:=w) ?_⟩
 ·simp only [Array.toList_setIfInBounds,List.take_set,htk,List.length_set,h1]
 ·simpa using hn
 simp only [Array.toList_setIfInBounds,List.length_set,List.take_set,htk]
 exact hC2
theorem OwnW.there {w:World} {g n cap i:Nat} {l:List Wrd} (h:OwnW w (.slice (some ⟨g,0,none⟩) n cap) l) (hi:i < l.length):w.there g (i * 2) 2:=by
 have hf:=OwnX.frozen h
 obtain ⟨-,c0,c1⟩:=h.rx.wrd i hi
 intro j hj
 rw [Nat.zero_add] at c0 c1
 match j,hj with
 | 0,_=>exact ⟨by rw [Nat.add_zero,c0];rfl,hf _⟩
 | 1,_=>exact ⟨by rw [c1];rfl,hf _⟩
section
variable {o:Oper} {a:Act} {Q:Exit→Act→World→Prop} {K:Act→World→Prop} {w:World}
theorem buildW1 (x:Operand) (ho:o.op=.buildSlice 71 1 #[(0,x)]) {c0 c1:Value} (h0:a.eval x=.agg #[c0,c1])
  (h:K (a.put o.dst (.slice (some ⟨w.heap.size,0,none⟩) 1 1)) (w.alloc (.cells #[c0,c1] 68))):Oper.wp Tryz.prog o a w K Q:=by
 obtain ⟨i,hi,hz,hs,hb⟩:=info_parts infoWord
 refine wp_buildSlice 71 68 1 _ ho #[c0,c1] i _ Tryz.underlying71 hi hz (by rw [hs];decide) (by rw [hs];decide) ?_ h
 rw [hs]
 have e:=Great.fill_whole (s:=2) (by decide) [.agg #[c0,c1]] ((Array.range (1 * 2)).map ((Value.agg #[.int .i64 0,.int .i64 0]).cells[· % (Value.agg #[.int .i64 0,.int .i64 0]).cells.size]!)) (by simp [Value.cells]) (by simp)
 simp only [Array.toList_map,List.map_cons,List.map_nil,h0]
 exact e
theorem wp_growW (s x:Operand) (hgd:o.guard=none) (ho:o.op=.call { callee:=.builtin .append,args:=#[s,x],argTypes:=#[71,71] })
  {v:Value} {l:List Wrd} {y:Wrd} {n g0:Nat} (hs:a.eval s=v) (hx:a.eval x=.slice (some ⟨g0,0,none⟩) 1 1) (hg0:g0=w.heap.size) (hown:OwnW w v l) (hnl:l.length=n) (hn:n+1≤137438953472)
  (h:∀ g cap w',OwnW w' (.slice (some ⟨g,0,none⟩) (n+1) cap) (l ++ [y])→Below 0 w w'→(w.alloc (.cells #[.int .i64 y.kind,.int .i64 y.n] 68)).grownBy w' v.ownBlock→(v.ownBlock=some g∨w.heap.size < g)→K (a.put o.dst (.slice (some ⟨g,0,none⟩) (n+1) cap)) w') :
  Oper.wp Tryz.prog o a (w.alloc (.cells #[.int .i64 y.kind,.int .i64 y.n] 68)) K Q :=
 wp_growX wrdF (P:=fun _=>True) (R:=fun _=>False) (base:=0) (c:=#[.int .i64 y.kind,.int .i64 y.n]) s x hgd ho hs hx hg0 hown (show wrdE.C _ w y [.int .i64 y.kind,.int .i64 y.n] from rfl) (fun b hb=>hb.elim) hnl (by omega) (by omega) h
theorem wp_zerosW (s x:Operand) (ho:o.op=.call { callee:=.builtin .append,args:=#[s,x],argTypes:=#[71,3] })
  {v:Value} {l:List Wrd} {n:Nat} (hs:a.eval s=v) (hx:a.eval x=.int .i64 n) (hown:OwnW w v l) (hn:l.length+n≤137438953472)
  (h:∀ b cap w',OwnW w' (.slice b (l.length+n) cap) (l ++ List.replicate n ⟨0,0⟩)→w.grownBy w' v.ownBlock→(∀ g,(Value.slice b (l.length+n) cap).ownBlock=some g→v.ownBlock=some g∨w.heap.size≤g)→K (a.put o.dst (.slice b (l.length+n) cap)) w') :
  Oper.wp Tryz.prog o a w K Q:=by
 obtain ⟨b,cap,w',h1,h2,h3,h4⟩:=run_append_zeros w o.type v l n hown hn
 exact Lib.wp_append_run w s x _ _ ho v _ hs hx _ w' h1 (h b cap w' h2 h3 h4)
end
theorem result_blk {fn:Func} {t:Tmp} {ty k:Nat} (h:fn.results=#[.cell t ty]) (hi:(Tryz.prog.info? ty).map (·.size)=some k) (d:TypeDesc) (hu:Tryz.prog.underlying ty=some d) (hr:d.isRow=true)
  {tmps:Array Value} {w:World} {B:Nat} {cs:List Value} (hx:tmps.getD t undef=.pointer (some ⟨B,0,none⟩)) (hB:Blk w B cs) (hl:cs.length=k) :
  (results fn tmps).run Tryz.prog w=.ok (.agg cs.toArray) w:=by
 have h1:=run_loadVar_mid (P:=Tryz.prog) w B 0 ty cs d hB.range hu hr (by rw [hi,hl])
 have h2:(asAddr (tmps.getD t undef)).run Tryz.prog w=.ok ⟨B,0,none⟩ w:=by rw [hx];rfl
 simp only [Array.getD_eq_getD_getElem?] at h2 ⊢
 simp [results,h,h1,h2]
def PutP (F:Nat→Prop) (w:World) (B:Nat) (room:Int) (H:HS) (t:T) (e:Ending) (w':World):Prop :=
 e=.returned (.agg #[.int .i64 (putW H t).1.kind,.int .i64 (putW H t).1.n])∧Keep F w w'∧HeapR (fun b=>F b∨w.heap.size≤b) w' B room (putW H t).2
def PutM (F:Nat→Prop) (W0:World) (B:Nat) (room:Int) (H:HS) (wx:World):Prop:=HeapR (fun b=>F b∨W0.heap.size≤b) wx B room H∧Keep F W0 wx
def PutI (n:Nat) (F:Nat→Prop) (W0:World) (B:Nat) (room:Int) (H:HS) (i0:Nat) (ts:List T) (i:Value) (wx:World):Prop:=∃ k,k≤n∧i=.int .i64 (k:Nat)∧PutM F W0 B room (putA i0 H (ts.take k)) wx
theorem Keep.join {F:Nat→Prop} {a b c:World} (h:Keep F a b) (k:Keep (fun x=>F x∨a.heap.size≤x) b c):Keep F a c :=
 ⟨k.os.trans h.os,k.tape.trans h.tape,k.output.trans h.output,Nat.le_trans h.size k.size,fun i hi hn=>(k.block i (Nat.lt_of_lt_of_le hi h.size) (fun e=>e.elim hn (by omega))).trans (h.block i hi hn)⟩
theorem OwnW.form0 {w:World} {v:Value} {l:List Wrd} (h:OwnW w v l) (hl:0 < l.length):∃ g cap,v=.slice (some ⟨g,0,none⟩) l.length cap:=by
 obtain ⟨cs,⟨h1,h2⟩,hC⟩:=h
 rcases h2 with ⟨-,h0⟩ | ⟨g,cap,cur,rfl,-⟩
 ·omega
 exact ⟨g,cap,rfl⟩
theorem HeapV.set {F:Nat→Prop} {w:World} {B:Nat} {room:Int} {H:HS} {g n cap i:Nat} {vn:Value} (h:HeapV F w B room H (.slice (some ⟨g,0,none⟩) n cap) vn) (hi:i < H.ws.length) (x:Wrd) :
  HeapV F ((w.setCell ⟨g,i * 2,none⟩ (.int .i64 x.kind)).setCell ⟨g,i * 2+1,none⟩ (.int .i64 x.n)) B room ⟨H.ws.set i x,H.names⟩ (.slice (some ⟨g,0,none⟩) n cap) vn:=by
 have hne:B≠g:=fun e=>h.nw (by rw [e];rfl)
 have hb:∀ b,b≠g→((w.setCell ⟨g,i * 2,none⟩ (.int .i64 x.kind)).setCell ⟨g,i * 2+1,none⟩ (.int .i64 x.n)).heap[b]?=w.heap[b]?:=fun b hb=>by rw [yD _ _ _ _ _ hb,yD _ _ _ _ _ hb]
 have hsz:((w.setCell ⟨g,i * 2,none⟩ (.int .i64 x.kind)).setCell ⟨g,i * 2+1,none⟩ (.int .i64 x.n)).heap.size=w.heap.size:=by simp
 have he:=hb B hne
 exact ⟨⟨by have:=h.blk.lt;omega,fun j u hu=>(World.cell?_of_block (w:=w) (a:=⟨B,j,none⟩) he).trans (h.blk.cell j u hu),fun o=>(World.frozen?_of_block (w:=w) (a:=⟨B,o,none⟩) he).trans (h.blk.fr o)⟩,
  h.ws.set hi x,h.nm.to (by omega) (fun b hbn=>hb b fun e=>h.ne g rfl (by rw [←e];exact hbn)),h.nw,h.nn,h.ne,h.fb,h.fw,h.fn⟩
theorem Keep.all {F:Nat→Prop} {a b:World} (h:Keep (fun x=>F x∧x < a.heap.size) a b):Keep F a b:=h.mono fun x _ hx=>hx.1
theorem hput_c:∀ (t:T) (F S:Nat→Prop) (w:World) (B:Nat) (room:Int) (H:HS) (v:Value),HeapR F w B room H→RT S w t v→(∀ b,S b→b < w.heap.size∧¬F b)→H.ws.length+szL [t]≤34359738368→H.names.length+yC [t]≤34359738368 →
  Calls Tryz.prog 54 #[.pointer (some ⟨B,0,none⟩),v] w (PutP F w B room H t):=by
 intro t
 induction t using T.ind with
 | h t ih =>
  intro F S w B room H v hR hv hS hbw hbn
  obtain ⟨a,cap,rfl,hcap,hr⟩:=hv
  have hba:=yR t
  have hla:=yM t.args
  have hsz:=szL_le _ t.args (Nat.le_refl _)
  have IH:=J ih
  have HSB:=J hS
  have HRR:=J hr
  obtain ⟨W0,hW0⟩:=I ((w.alloc (.cells #[.int .i64 t.kind,.int .i64 t.n,.string t.name,.slice a t.args.length cap] 25)).alloc (.cells #[.int .i64 0,.int .i64 0] 68))
  have HX3:Hid (Blk W0 w.heap.size [.int .i64 t.kind,.int .i64 t.n,.string t.name,.slice a t.args.length cap]):=J (by rw [hW0];exact (Blk.new _ _ _ _ rfl).alloc _)
  have HX4:Hid (Blk W0 (w.heap.size+1) [.int .i64 0,.int .i64 0]):=J (by rw [hW0];exact Blk.new _ _ _ _ (by simp))
  have HB0:Hid (Below w.heap.size w W0):=J (by rw [hW0];exact (yA _ _).trans ((yA _ _).mono (by simp)))
  have hs0:W0.heap.size=w.heap.size+2:=by rw [hW0];simp
  have hs0a:w.heap.size+2≤W0.heap.size:=by omega
  have hs0b:W0.heap.size≤w.heap.size+2:=by omega
  obtain ⟨F0,hF0⟩:∃ F0:Nat→Prop,F0=fun b=>F b∧b < w.heap.size:=⟨_,rfl⟩
  have HR0:Hid (HeapR F0 W0 B room H):=J (by rw [hF0];exact hR.low.below HB0.out)
  have HF1:Hid (∀ b,F0 b→F b∧b < w.heap.size):=J (fun b hb=>by rw [hF0] at hb;exact hb)
  have HEND:Hid (∀ (H':HS) (W1 W':World),PutM F0 W0 B room H' W1→Below 0 W1 W'→(∀ b,b≠w.heap.size+1→W'.heap[b]?=W1.heap[b]?)→Keep F w W'∧HeapR (fun b=>F b∨w.heap.size≤b) W' B room H'):=J (fun H' W1 W' h hB ho=>by
   have hz:=hB.size
   have hz1:=h.2.size
   refine ⟨⟨hB.os.trans (h.2.os.trans HB0.out.os),hB.tape.trans (h.2.tape.trans HB0.out.tape),hB.output.trans (h.2.output.trans HB0.out.output),by omega,fun k hk hn=>?_⟩,h.1.to hz (fun b hb=>?_) fun b hb hl=>ho b ?_⟩
   ·exact (ho k (by omega)).trans ((h.2.block k (by omega) fun e=>hn (HF1.out k e).1).trans (HB0.out.block k hk))
   ·rcases hb with hb | hb
    ·exact .inl (HF1.out b hb).1
    ·exact .inr (by omega)
   ·rcases hb with hb | hb
    ·have:=(HF1.out b hb).2;omega
    ·omega)
  have HW0:=J hW0
  clear ih hS hr hR hW0 hF0 hs0
  by_cases hk2:t.kind=2
  ·have HP:Hid (putW H t=(⟨2,(atomH t.name H.names).1⟩,⟨H.ws,(atomH t.name H.names).2⟩)):=J (by unfold putW;rw [if_pos hk2])
   have k2:(t.kind == 2)=true:=by rw [hk2];rfl
   clear hk2
   go_enter Tryz.func54,Tryz.ntmps54
   go_upto_region 3 with fail
   rw [←HW0.out]
   have y2:=HX3.out.cell 2 _ rfl
   go_wp2_with fail
   refine (hatom_c F0 _ B room H t.name HR0.out (by omega)).mono ?_
   rintro e w1 ⟨rfl,hK,hR⟩
   have HK1:=J hK
   have HR1:=J hR
   have HZ1:Hid (Blk w1 (w.heap.size+1) [.int .i64 0,.int .i64 0]):=J (HX4.out.keep hK (fun h=>by have:=(HF1.out _ h).2;omega))
   obtain ⟨m,hm⟩:∃ m,m=(atomH t.name H.names).1:=⟨_,rfl⟩
   have hs1:=hK.size
   rw [←hm]
   have HM:=J hm
   clear hK hR hm y2
   go_wp2_with (refine yI 68 2 szWord _ _ rfl rfl rfl rfl rfl HZ1.out rfl rfl rfl ?_;intro W' hF hs' hBW hoth;have HF:=J hF;have HSZ:=J hs';have HBW:=J hBW;have HOTH:=J hoth;clear hF hBW hoth hs')
   refine bodyPost_ret (result_blk Tryz.results54 szWord _ Tryz.underlying68 rfl rfl HF.out rfl) rfl ⟨?_,?_⟩
   ·rw [HP.out,←HM.out];try rfl
   ·rw [HP.out]
    exact HEND.out _ _ _ ⟨HR1.out,HK1.out⟩ (HBW.out 0 w1 (by omega) (Below.refl _ _)) HOTH.out
  by_cases hk4:t.kind=4
  ·have HP:Hid (putW H t=(⟨4,H.ws.length⟩,putA (H.ws.length+1) ⟨H.ws ++ (⟨0,t.args.length⟩ :: List.replicate t.args.length ⟨0,0⟩),H.names⟩ t.args)):=J (by unfold putW;rw [if_neg hk2,if_pos hk4])
   have k2:(t.kind == 2)=false:=by simpa using hk2
   have k4:(t.kind == 4)=true:=by rw [hk4];rfl
   have hz4:1+t.args.length+szL t.args≤szL [t]:=by rw [szL_cons,if_pos hk4];simp [szL]
   clear hk2 hk4
   obtain ⟨vw,vn,hV0⟩:=HR0.out
   obtain ⟨aw,cw,rfl⟩:=hV0.ws.form
   have b0:=hV0.blk.cell 1 _ rfl
   have HV0:=J hV0
   have HQ:Hid (∀ w':World,w'.heap[w.heap.size]?=W0.heap[w.heap.size]?→w'.cell? ⟨w.heap.size,3,none⟩=some (.slice a t.args.length cap)):=J fun w' e=>(World.cell?_of_block (w:=W0) (a:=⟨w.heap.size,3,none⟩) e).trans (HX3.out.cell 3 _ rfl)
   clear hV0
   go_enter Tryz.func54,Tryz.ntmps54
   go_upto_region 5 with fail
   rw [←HW0.out]
   go_upto_region 6 with fail
   clear b0
   go_cut [5] (fun s5 wx=>s5=.int .i64 H.ws.length∧PutM F0 W0 B room ⟨H.ws ++ [⟨0,t.args.length⟩],H.names⟩ wx)
   case first =>
    refine yK (fun w'=>w'.cell? ⟨w.heap.size,3,none⟩=some (.slice a t.args.length cap)) (by as_aux_lemma=>kernel_rfl) (fun Wd h=>HQ.out _ (h.block _ (by omega))) ?_
    intro Wd hB hWd hWd' hHeld
    have E3:Hid (Wd.heap[w.heap.size]?=W0.heap[w.heap.size]?):=J (hB.block _ (by omega))
    have HBd:=J hB
    have HVd:=J (HV0.out.below hB)
    have bWd:=HVd.out.blk.cell 1 _ rfl
    have hBd:=HVd.out.blk.lt
    clear hB
    refine rgT 0 _ hHeld ?_
    refine rgT 1 _ hHeld ?_
    refine rgT 2 _ hHeld ?_
    refine rgT 3 _ hHeld ?_
    refine rgT 5 _ hHeld ?_
    refine rgT 6 _ hHeld ?_
    refine rgT 7 _ hHeld ?_
    refine rgT 8 _ hHeld ?_
    refine rgW 4 9 (fun K hK=>?_) fun K hK=>?_
    ·skip
     go_simp
     skip
     refine hK.out _ _ (hHeld) fun _=>?_
     clear hK K hHeld;rename_i hHeld;try simp only [Act.put,pA,pB,pC]
     refine rgO 9 fun K hK=>?_
     refine buildW1 _ rfl (by rfl) ?_
     have b9:(Wd.alloc (.cells #[.int .i64 0,.int .i64 t.args.length] 68)).cell? ⟨B,1,none⟩=some (.slice aw H.ws.length cw):=((yA Wd _).cell (p:=⟨B,1,none⟩) hBd).trans bWd
     refine hK.out _ _ (HQ.out _ ((Below.heap_alloc Wd _ _ (by omega)).trans E3.out)) fun _=>?_
     clear hK K hHeld;rename_i hHeld;try simp only [Act.put,pA,pB,pC]
     refine rgO 10 fun K hK=>?_
     refine wp_growW (v:=.slice aw H.ws.length cw) (y:=⟨0,t.args.length⟩) (g0:=Wd.heap.size) _ _ rfl rfl (by rfl) (by rfl) rfl HVd.out.ws rfl (by omega) ?_
     intro gg cg w3 hO3 hB3 hG3 hP3
     have hl3:=hB3.size
     have e3:=(hG3.block w.heap.size (by simp;omega) (fun he=>by have:=(HF1.out _ (HVd.out.fw _ he.symm)).2;omega)).trans (Below.heap_alloc Wd _ _ (by omega))
     have E33:Hid (w3.heap[w.heap.size]?=W0.heap[w.heap.size]?):=J (e3.trans E3.out)
     have hgb:=(hG3.block B (by simp;omega) (fun he=>HVd.out.nw he.symm)).trans (Below.heap_alloc Wd _ _ hBd)
     have b3:=(World.cell?_of_block (w:=Wd) (a:=⟨B,1,none⟩) hgb).trans bWd
     have bf3:=fun o=>(World.frozen?_of_block (w:=Wd) (a:=⟨B,o,none⟩) hgb).trans (HVd.out.blk.fr o)
     have HO3:=J hO3
     have HB3:=J hB3
     have HG3:=J hG3
     have HP3:=J hP3
     clear hO3 hB3 hG3 hP3 hgb e3
     refine hK.out _ _ (HQ.out _ E33.out) fun _=>?_
     clear hK K hHeld;rename_i hHeld;try simp only [Act.put,pA,pB,pC]
     refine rgT 11 _ hHeld ?_
     refine rgT 12 _ hHeld ?_
     refine rgO 13 fun K hK=>?_
     go_simp
     skip
     refine hK.out _ _ (HQ.out _ ((yD w3 B 1 _ w.heap.size (by have:=(HF1.out _ HVd.out.fb).2;omega)).trans E33.out)) fun _=>?_
     clear hK K hHeld;rename_i hHeld;try simp only [Act.put,pA,pB,pC]
     refine rgD ?_
     clear hHeld
     go_wp2_with fail
     go_meet
     refine ⟨rfl,⟨_,_,(HVd.out.words' (l:=H.ws ++ [⟨0,t.args.length⟩]) hl3 (fun b hb hn=>(HG3.out.block b (by simp;omega) (fun e=>hn e.symm)).trans (Below.heap_alloc Wd _ _ hb)) HO3.out (fun b hb=>by
      obtain rfl:gg=b:=by simpa [Value.ownBlock] using hb
      exact HP3.out.imp id (by omega))).to (Nat.le_refl _) (fun b hb=>by rcases hb with hb | hb;exact .inl hb;exact .inr (by omega)) fun _ _ _=>rfl⟩,((Keep.of HBd.out).trans ((keep_grown HB3.out HG3.out HVd.out.fw).mono fun x _ hx=>hx)).setCell _ (.inl HVd.out.fb)⟩
    ·skip
     refine buildW1 _ rfl (by rfl) ?_
     have b9:(Wd.alloc (.cells #[.int .i64 0,.int .i64 t.args.length] 68)).cell? ⟨B,1,none⟩=some (.slice aw H.ws.length cw):=((yA Wd _).cell (p:=⟨B,1,none⟩) hBd).trans bWd
     refine hK.out _ _ (HQ.out _ ((Below.heap_alloc Wd _ _ (by omega)).trans E3.out)) fun _=>?_
     clear hK K hHeld;rename_i hHeld;try simp only [Act.put,pA,pB,pC]
     refine rgO 4 fun K hK=>?_
     go_simp
     skip
     refine hK.out _ _ (hHeld) fun _=>?_
     clear hK K hHeld;rename_i hHeld;try simp only [Act.put,pA,pB,pC]
     refine rgO 10 fun K hK=>?_
     refine wp_growW (v:=.slice aw H.ws.length cw) (y:=⟨0,t.args.length⟩) (g0:=Wd.heap.size) _ _ rfl rfl (by rfl) (by rfl) rfl HVd.out.ws rfl (by omega) ?_
     intro gg cg w3 hO3 hB3 hG3 hP3
     have hl3:=hB3.size
     have e3:=(hG3.block w.heap.size (by simp;omega) (fun he=>by have:=(HF1.out _ (HVd.out.fw _ he.symm)).2;omega)).trans (Below.heap_alloc Wd _ _ (by omega))
     have E33:Hid (w3.heap[w.heap.size]?=W0.heap[w.heap.size]?):=J (e3.trans E3.out)
     have hgb:=(hG3.block B (by simp;omega) (fun he=>HVd.out.nw he.symm)).trans (Below.heap_alloc Wd _ _ hBd)
     have b3:=(World.cell?_of_block (w:=Wd) (a:=⟨B,1,none⟩) hgb).trans bWd
     have bf3:=fun o=>(World.frozen?_of_block (w:=Wd) (a:=⟨B,o,none⟩) hgb).trans (HVd.out.blk.fr o)
     have HO3:=J hO3
     have HB3:=J hB3
     have HG3:=J hG3
     have HP3:=J hP3
     clear hO3 hB3 hG3 hP3 hgb e3
     refine hK.out _ _ (HQ.out _ E33.out) fun _=>?_
     clear hK K hHeld;rename_i hHeld;try simp only [Act.put,pA,pB,pC]
     refine rgT 11 _ hHeld ?_
     refine rgT 12 _ hHeld ?_
     refine rgO 13 fun K hK=>?_
     go_simp
     skip
     refine hK.out _ _ (HQ.out _ ((yD w3 B 1 _ w.heap.size (by have:=(HF1.out _ HVd.out.fb).2;omega)).trans E33.out)) fun _=>?_
     clear hK K hHeld;rename_i hHeld;try simp only [Act.put,pA,pB,pC]
     refine rgD ?_
     clear hHeld
     go_wp2_with fail
     go_meet
     refine ⟨rfl,⟨_,_,(HVd.out.words' (l:=H.ws ++ [⟨0,t.args.length⟩]) hl3 (fun b hb hn=>(HG3.out.block b (by simp;omega) (fun e=>hn e.symm)).trans (Below.heap_alloc Wd _ _ hb)) HO3.out (fun b hb=>by
      obtain rfl:gg=b:=by simpa [Value.ownBlock] using hb
      exact HP3.out.imp id (by omega))).to (Nat.le_refl _) (fun b hb=>by rcases hb with hb | hb;exact .inl hb;exact .inr (by omega)) fun _ _ _=>rfl⟩,((Keep.of HBd.out).trans ((keep_grown HB3.out HG3.out HVd.out.fw).mono fun x _ hx=>hx)).setCell _ (.inl HVd.out.fb)⟩
   case rest =>
    obtain ⟨rfl,hMR,hMK⟩:=hcut
    obtain ⟨W6,rfl⟩:∃ W6:World,W6=wc:=⟨_,rfl⟩
    obtain ⟨H6,hH6⟩:∃ H6:HS,H6=⟨H.ws ++ [⟨0,t.args.length⟩],H.names⟩:=⟨_,rfl⟩
    rw [←hH6] at hMR
    have hl6:H6.ws.length=H.ws.length+1:=by rw [hH6];simp
    have hn6:H6.names=H.names:=by rw [hH6]
    have hw6:H6.ws=H.ws ++ [⟨0,t.args.length⟩]:=by rw [hH6]
    obtain ⟨v6,n6,hV6⟩:=hMR
    obtain ⟨a7,c7,rfl⟩:=hV6.ws.form
    have hs6:=hMK.size
    have HX36:=J (HX3.out.keep hMK (fun h=>by have:=(HF1.out _ h).2;omega))
    have HV6:=J hV6
    have HK6:=J hMK
    have HN6:=J hn6
    have HW6:=J hw6
    have hl6a:H6.ws.length≤H.ws.length+1:=by omega
    have HQ7:Hid (∀ w':World,w'.heap[w.heap.size]?=W6.heap[w.heap.size]?→w'.cell? ⟨w.heap.size,3,none⟩=some (.slice a t.args.length cap)):=J fun w' e=>(World.cell?_of_block (w:=W6) (a:=⟨w.heap.size,3,none⟩) e).trans (HX36.out.cell 3 _ rfl)
    clear hV6 hMK hH6 hn6 hw6 hl6
    go_upto_region 7 with fail
    go_cut [5] (fun s5 wx=>s5=.int .i64 H.ws.length∧PutM F0 W0 B room ⟨H6.ws ++ List.replicate t.args.length ⟨0,0⟩,H6.names⟩ wx)
    case first =>
     refine yK (fun w'=>w'.cell? ⟨w.heap.size,3,none⟩=some (.slice a t.args.length cap)) (by as_aux_lemma=>kernel_rfl) (fun Wd h=>HQ7.out _ (h.block _ (by omega))) ?_
     intro Wd hB hWd hWd' hHeld
     have E3:Hid (Wd.heap[w.heap.size]?=W6.heap[w.heap.size]?):=J (hB.block _ (by omega))
     have HBd:=J hB
     have HVd:=J (HV6.out.below hB)
     have bWd:=HVd.out.blk.cell 1 _ rfl
     have hBd:=HVd.out.blk.lt
     clear hB
     refine rgT 0 _ hHeld ?_
     refine rgT 1 _ hHeld ?_
     refine rgT 2 _ hHeld ?_
     refine rgT 3 _ hHeld ?_
     refine rgT 5 _ hHeld ?_
     refine rgT 6 _ hHeld ?_
     refine rgT 7 _ hHeld ?_
     refine rgO 4 fun K hK=>?_
     go_simp
     skip
     refine hK.out _ _ (hHeld) fun _=>?_
     clear hK K hHeld;rename_i hHeld;try simp only [Act.put,pA,pB,pC]
     refine rgO 8 fun K hK=>?_
     refine wp_zerosW (v:=.slice a7 H6.ws.length c7) (n:=t.args.length) _ _ rfl (by rfl) (by rfl) HVd.out.ws (by omega) ?_
     intro gb cg w3 hO3 hG3 hP3
     have hl3:=hG3.size
     have hn3:(Value.slice a7 H6.ws.length c7).ownBlock≠some w.heap.size:=fun he=>by
      rcases HVd.out.fw _ he with h | h
      ·have:=(HF1.out _ h).2;omega
      ·omega
     have e3:=hG3.block w.heap.size (by omega) (fun he=>hn3 he.symm)
     have E33:Hid (w3.heap[w.heap.size]?=W6.heap[w.heap.size]?):=J (e3.trans E3.out)
     have hgb:=hG3.block B (by omega) (fun he=>HVd.out.nw he.symm)
     have b3:=(World.cell?_of_block (w:=Wd) (a:=⟨B,1,none⟩) hgb).trans bWd
     have bf3:=fun o=>(World.frozen?_of_block (w:=Wd) (a:=⟨B,o,none⟩) hgb).trans (HVd.out.blk.fr o)
     have HO3:=J hO3
     have HG3:=J hG3
     have HP3:=J hP3
     clear hO3 hG3 hP3 hgb e3 hn3
     refine hK.out _ _ (HQ7.out _ E33.out) fun _=>?_
     clear hK K hHeld;rename_i hHeld;try simp only [Act.put,pA,pB,pC]
     refine rgT 9 _ hHeld ?_
     refine rgT 10 _ hHeld ?_
     refine rgO 11 fun K hK=>?_
     go_simp
     skip
     refine hK.out _ _ (HQ7.out _ ((yD w3 B 1 _ w.heap.size (by rcases HVd.out.fb with h | h;(have:=(HF1.out _ h).2;omega);omega)).trans E33.out)) fun _=>?_
     clear hK K hHeld;rename_i hHeld;try simp only [Act.put,pA,pB,pC]
     refine rgD ?_
     clear hHeld
     go_wp2_with fail
     go_meet
     refine ⟨rfl,⟨_,_,(HVd.out.words' (l:=H6.ws ++ List.replicate t.args.length ⟨0,0⟩) hl3 (fun b hb hn=>HG3.out.block b hb (fun e=>hn e.symm)) HO3.out (fun b hb=>HP3.out b hb)).to (Nat.le_refl _) (fun b hb=>by rcases hb with hb | hb;exact hb;exact .inr (by omega)) fun _ _ _=>rfl⟩,?_⟩
     refine HK6.out.join ((Keep.of HBd.out).trans (Keep.setCell ⟨HG3.out.os,HG3.out.tape,HG3.out.output,HG3.out.size,fun k hk hn=>HG3.out.block k hk (fun e=>hn (HVd.out.fw k e.symm))⟩ _ (.inl HVd.out.fb)))
    case rest =>
     obtain ⟨rfl,hM⟩:=hcut
     obtain ⟨W7,rfl⟩:∃ W7:World,W7=wc:=⟨_,rfl⟩
     obtain ⟨H7,hH7⟩:∃ H7:HS,H7=⟨H.ws ++ (⟨0,t.args.length⟩ :: List.replicate t.args.length ⟨0,0⟩),H.names⟩:=⟨_,rfl⟩
     have hM7:PutM F0 W0 B room H7 W7:=by
      have e:H7=⟨H6.ws ++ List.replicate t.args.length ⟨0,0⟩,H6.names⟩:=by rw [hH7,HN6.out,HW6.out];simp
      rw [e];exact hM
     have hl7:H7.ws.length=H.ws.length+1+t.args.length:=by rw [hH7];simp;omega
     have hn7:H7.names.length=H.names.length:=by rw [hH7]
     have HH7:=J hH7
     have hl7a:H7.ws.length≤H.ws.length+1+t.args.length:=by omega
     have hl7b:H.ws.length+1+t.args.length≤H7.ws.length:=by omega
     have hn7a:H7.names.length≤H.names.length:=by omega
     have x3:=(HX3.out.keep hM7.2 (fun h=>by have:=(HF1.out _ h).2;omega)).cell 3 _ rfl
     have HM7:=J hM7
     clear hM hM7 hH7 hl7 hn7
     go_wp2_with fail
     clear x3
     go_loopw [52] (fun i wr=>PutI t.args.length F0 W0 B room H7 (H.ws.length+1) t.args i wr) (fun i _=>t.args.length - (intOf i).toNat)
     case atStart=>exact ⟨0,Nat.zero_le _,rfl,by rw [List.take_zero,putA_nil];exact HM7.out⟩
     case round =>
      obtain ⟨k,hkn,rfl,hMR,hMK⟩:=hrel
      obtain ⟨wq,rfl⟩:∃ wq:World,wq=wr:=⟨_,rfl⟩
      have hlk:=putA_len _ (t.args.take k) (H.ws.length+1) H7 (Nat.le_refl _)
      have hbtk:=bulk_take t.args k
      have hszk:=szL_le _ (t.args.take k) (Nat.le_refl _)
      obtain ⟨Hk,hHk⟩:∃ Hk,Hk=putA (H.ws.length+1) H7 (t.args.take k):=⟨_,rfl⟩
      rw [←hHk] at hMR hlk
      have hlk1:Hk.ws.length≤H7.ws.length+szL (t.args.take k):=by omega
      have hlk2:H7.ws.length+szL (t.args.take k)≤Hk.ws.length:=by omega
      have hlk3:Hk.names.length≤H7.names.length+yC (t.args.take k):=by omega
      clear hlk
      have HHK:=J hHk
      have HKq:=J hMK
      have HRq:=J hMR
      have hsq:=hMK.size
      have HRS:=J ((HRR.out.below HB0.out).keep hMK (fun b hb hF=>(HSB.out b hb).2 (HF1.out b hF).1))
      clear hHk hMR hMK
      by_cases hlt:k < t.args.length
      ·obtain ⟨b,o,rfl⟩:=HRS.out.addr (by omega)
       obtain ⟨a',cap',hSb,d0,d1,d2,d3,hE⟩:=HRS.out.elem k hlt
       have hbk:=bulk_at hlt
       have hsnoc:=bulk_snoc hlt
       have hszs:szL (t.args.take k)+szL [t.args[k]]≤szL t.args:=by
        have h1:=szL_append (t.args.take (k+1)) (t.args.drop (k+1))
        rw [List.take_append_drop] at h1
        have h2:=szL_snoc hlt
        omega
       have HE:=J hE
       have HMEM:=J (List.getElem_mem hlt)
       have HSN:=J (putA_snoc (H.ws.length+1) H7 hlt)
       clear hE
       go_wp2_with fail
       obtain ⟨F1,hF1⟩:∃ F1:Nat→Prop,F1=fun b=>(F0 b∨W0.heap.size≤b)∧b < wq.heap.size:=⟨_,rfl⟩
       have hR1:HeapR F1 (wq.alloc (.cells #[.int .i64 t.args[k].kind,.int .i64 t.args[k].n,.string t.args[k].name,.slice a' t.args[k].args.length cap'] 25)) B room Hk:=by rw [hF1];exact HRq.out.low.below (yA _ _)
       have hS1:∀ b,S b→b < (wq.alloc (.cells #[.int .i64 t.args[k].kind,.int .i64 t.args[k].n,.string t.args[k].name,.slice a' t.args[k].args.length cap'] 25)).heap.size∧¬F1 b:=fun b hb=>by
        have h1:=HSB.out b hb
        refine ⟨by simp;omega,fun hF=>?_⟩
        rw [hF1] at hF
        rcases hF.1 with h | h
        ·exact h1.2 (HF1.out b h).1
        ·omega
       refine (IH.out t.args[k] HMEM.out F1 S _ B room Hk _ hR1 (HE.out.alloc _) hS1 (by omega) (by omega)).mono ?_
       rintro e w1 ⟨he,hK1,hR1'⟩
       have hxl:=putW_len Hk t.args[k]
       rw [←HHK.out] at HSN
       obtain ⟨x,hx⟩:∃ x,x=putW Hk t.args[k]:=⟨_,rfl⟩
       rw [←hx] at he hR1' hxl HSN
       subst he
       have hxl1:x.2.ws.length≤Hk.ws.length+szL [t.args[k]]:=by omega
       have hxl2:Hk.ws.length+szL [t.args[k]]≤x.2.ws.length:=by omega
       clear hxl
       have hs1:=hK1.size
       simp only [World.size_alloc] at hs1
       obtain ⟨W8,hW8⟩:=I (w1.alloc (.cells #[.int .i64 x.1.kind,.int .i64 x.1.n] 68))
       obtain ⟨g8,hg8⟩:=I (w1.heap.size)
       have HX8:Hid (Blk W8 g8 [.int .i64 x.1.kind,.int .i64 x.1.n]):=J (by rw [hW8];exact Blk.new _ _ _ _ hg8)
       obtain ⟨F2,hF2⟩:∃ F2:Nat→Prop,F2=fun b=>(F1 b∨(wq.alloc (.cells #[.int .i64 t.args[k].kind,.int .i64 t.args[k].n,.string t.args[k].name,.slice a' t.args[k].args.length cap'] 25)).heap.size≤b)∧b < w1.heap.size:=⟨_,rfl⟩
       have HF2:Hid (∀ b,F2 b→F0 b∨W0.heap.size≤b):=J (fun b hb=>by
        rw [hF2,hF1] at hb
        rcases hb.1 with h | h
        ·exact h.1
        ·right;simp at h;omega)
       have HF2b:Hid (∀ b,F2 b→b < w1.heap.size):=J (fun b hb=>by rw [hF2] at hb;exact hb.2)
       obtain ⟨v8,n8,hV8⟩:HeapR F2 W8 B room x.2:=by rw [hF2,hW8];exact hR1'.low.below (yA _ _)
       obtain ⟨gw,c8,rfl⟩:=hV8.ws.form0 (by omega)
       have HGW:Hid (F0 gw∨W0.heap.size≤gw):=J (HF2.out gw (hV8.fw gw rfl))
       have hg8gw:g8≠gw:=fun e=>by have:=HF2b.out gw (hV8.fw gw rfl);omega
       have hBgw:B≠gw:=fun e=>hV8.nw (by rw [e];rfl)
       have hB8:=hV8.blk.lt
       have HK8:Hid (Keep (fun b=>F0 b∨W0.heap.size≤b) wq W8):=J (by
        rw [hW8]
        refine ((Keep.of (yA wq _)).trans (hK1.mono fun b _ hb=>?_)).alloc _
        rw [hF1] at hb
        exact hb.1)
       have HV8:=J hV8
       have hs8:W8.heap.size=w1.heap.size+1:=by rw [hW8];simp
       have hs8a:w1.heap.size+1≤W8.heap.size:=by omega
       have hg8b:g8 < W8.heap.size:=HX8.out.lt
       have HQ12:Hid (∀ w':World,w'.heap[B]?=W8.heap[B]?→w'.heap[g8]?=W8.heap[g8]?→w'.cell? ⟨B,1,none⟩=some (.slice (some ⟨gw,0,none⟩) x.2.ws.length c8)∧w'.cell? ⟨g8,0,none⟩=some (.int .i64 x.1.kind)∧w'.cell? ⟨g8,1,none⟩=some (.int .i64 x.1.n)):=J fun w' e1 e2=>⟨(World.cell?_of_block (w:=W8) (a:=⟨B,1,none⟩) e1).trans (HV8.out.blk.cell 1 _ rfl),(World.cell?_of_block (w:=W8) (a:=⟨g8,0,none⟩) e2).trans (HX8.out.cell 0 _ rfl),(World.cell?_of_block (w:=W8) (a:=⟨g8,1,none⟩) e2).trans (HX8.out.cell 1 _ rfl)⟩
       have u1:IntKind.i64.wrap ((H.ws.length:Int)+1)=(H.ws.length:Int)+1:=by rw [IntKind.wrap_i64];omega
       have u2:IntKind.i64.wrap ((H.ws.length:Int)+1+k)=(H.ws.length:Int)+1+k:=by rw [IntKind.wrap_i64];omega
       have n1:((H.ws.length:Int)+1+k).toNat=H.ws.length+1+k:=by omega
       have q1:(0:Int)≤(H.ws.length:Int)+1+k:=by omega
       have q2:(H.ws.length:Int)+1+k < x.2.ws.length:=by omega
       have HW8:=J hW8
       have HG8:=J hg8
       clear hV8 hK1 hR1' hR1 hS1 hF1 hF2 hx hW8 hg8 hs8 d0 d1 d2 d3
       go_upto_region 12 with fail
       rw [←HW8.out]
       try rw [←HG8.out]
       refine yK (fun w'=>w'.cell? ⟨B,1,none⟩=some (.slice (some ⟨gw,0,none⟩) x.2.ws.length c8)∧w'.cell? ⟨g8,0,none⟩=some (.int .i64 x.1.kind)∧w'.cell? ⟨g8,1,none⟩=some (.int .i64 x.1.n)) (by as_aux_lemma=>kernel_rfl) (fun Wd h=>HQ12.out _ (h.block _ (by omega)) (h.block _ (by omega))) ?_
       intro Wd hB hWd hWd' hHeld
       have EBd:Hid (Wd.heap[B]?=W8.heap[B]?):=J (hB.block _ (by omega))
       have E8d:Hid (Wd.heap[g8]?=W8.heap[g8]?):=J (hB.block _ (by omega))
       have HBd:=J hB
       have HVd:=J (HV8.out.below hB)
       clear hB
       refine rgT 0 _ hHeld ?_
       refine rgT 1 _ hHeld ?_
       refine rgT 2 _ hHeld ?_
       refine rgT 3 _ hHeld ?_
       refine rgT 4 _ hHeld ?_
       refine rgT 5 _ hHeld ?_
       refine rgT 6 _ hHeld ?_
       refine rgT 7 _ hHeld ?_
       refine rgT 8 _ hHeld ?_
       refine rg_take (i:=9) (v:=?_) rfl (by as_aux_lemma=>kernel_rfl) (by as_aux_lemma=>kernel_rfl) (by as_aux_lemma=>kernel_rfl) (by rfl) ?_ hHeld ?_
       rotate_left 1
       ·intro w hSw;(try dsimp only at hSw);go_simp;(try simp only [u1,u2,n1]);try (with_reducible rfl)
       try simp only [Act.put,pA,pB,pC]
       refine rgO 10 fun K hK=>?_
       refine wp_store_mid 68 _ _ rfl gw ((H.ws.length+1+k) * 2) #[.int .i64 x.1.kind,.int .i64 x.1.n] (by rfl) (by rfl) (HVd.out.ws.there (by omega)) (by rw [szWord];rfl) (by simp [Value.oneCell']) ?_
       obtain ⟨w9,hw9⟩:∃ w9:World,w9=(Wd.setCell ⟨gw,(H.ws.length+1+k) * 2,none⟩ (.int .i64 x.1.kind)).setCell ⟨gw,(H.ws.length+1+k) * 2+1,none⟩ (.int .i64 x.1.n):=⟨_,rfl⟩
       have hcell9:∀ b,b≠gw→w9.heap[b]?=Wd.heap[b]?:=fun b hb=>by rw [hw9,yD _ _ _ _ _ hb,yD _ _ _ _ _ hb]
       have hz9:w9.heap.size=Wd.heap.size:=by rw [hw9];simp
       have HV9:Hid (HeapV F2 w9 B room ⟨x.2.ws.set (H.ws.length+1+k) x.1,x.2.names⟩ (.slice (some ⟨gw,0,none⟩) x.2.ws.length c8) n8):=J (by rw [hw9];exact HVd.out.set (by omega) x.1)
       have HK9:Hid (Keep (fun b=>F0 b∨W0.heap.size≤b) Wd w9):=J (by rw [hw9];exact ((Keep.refl _ _).setCell _ (.inl HGW.out)).setCell _ (.inl HGW.out))
       show K _ ((Wd.setCell ⟨gw,(H.ws.length+1+k) * 2,none⟩ (.int .i64 x.1.kind)).setCell ⟨gw,(H.ws.length+1+k) * 2+1,none⟩ (.int .i64 x.1.n))
       rw [←hw9]
       clear hw9
       refine hK.out _ _ (HQ12.out _ ((hcell9 B hBgw).trans EBd.out) ((hcell9 g8 hg8gw).trans E8d.out)) fun _=>?_
       clear hK K hHeld;rename_i hHeld;try simp only [Act.put,pA,pB,pC]
       refine rgD ?_
       clear hHeld
       clear hcell9
       go_wp2_with fail
       go_roundw
       case rel =>
        refine ⟨k+1,hlt,by go_num,?_,?_⟩
        ·rw [HSN.out]
         exact ⟨_,_,HV9.out.to (Nat.le_refl _) (fun b hb=>HF2.out b hb) fun _ _ _=>rfl⟩
        ·exact HKq.out.join ((HK8.out.trans (Keep.of HBd.out)).trans HK9.out)
       case measure=>simp [intOf];omega
      ·have hkk:k=t.args.length:=by omega
       subst hkk
       have HX4q:=J (HX4.out.keep HKq.out (fun h=>by have:=(HF1.out _ h).2;omega))
       have HTK:Hid (Hk=putA (H.ws.length+1) H7 t.args):=J (by rw [HHK.out,List.take_of_length_le (Nat.le_refl _)])
       go_wp2_with (refine yI 68 2 szWord _ _ rfl rfl rfl rfl rfl HX4q.out rfl rfl rfl ?_;intro W' hF hs' hBW hoth;have HF:=J hF;have HSZ:=J hs';have HBW:=J hBW;have HOTH:=J hoth;clear hF hBW hoth hs')
       refine bodyPost_ret (result_blk Tryz.results54 szWord _ Tryz.underlying68 rfl rfl HF.out rfl) rfl ⟨?_,?_⟩
       ·rw [HP.out];try rfl
       ·rw [HP.out,←HH7.out,←HTK.out]
        exact HEND.out _ _ _ ⟨HRq.out,HKq.out⟩ (HBW.out 0 wq (by omega) (Below.refl _ _)) HOTH.out
  ·have HP:Hid (putW H t=(⟨t.kind,t.n⟩,H)):=J (by unfold putW;rw [if_neg hk2,if_neg hk4])
   have k2:(t.kind == 2)=false:=by simpa using hk2
   have k4:(t.kind == 4)=false:=by simpa using hk4
   clear hk2 hk4
   go_enter Tryz.func54,Tryz.ntmps54
   go_upto_region 15 with fail
   rw [←HW0.out]
   obtain ⟨y0,y1⟩:=HX3.out.c2 0 1
   go_wp2_with (refine yI 68 2 szWord _ _ rfl rfl rfl rfl rfl HX4.out rfl rfl rfl ?_;intro W' hF hs' hBW hoth;have HF:=J hF;have HSZ:=J hs';have HBW:=J hBW;have HOTH:=J hoth;clear hF hBW hoth hs')
   refine bodyPost_ret (result_blk Tryz.results54 szWord _ Tryz.underlying68 rfl rfl HF.out rfl) rfl ⟨?_,?_⟩
   ·rw [HP.out];try rfl
   ·rw [HP.out]
    exact HEND.out _ _ _ ⟨HR0.out.mono (fun b hb=>.inl hb),Keep.refl _ _⟩ (HBW.out 0 W0 (by omega) (Below.refl _ _)) HOTH.out
end Go.Proofs.YtedfepnekjjmnabGreat
