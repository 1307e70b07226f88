/-
  heap.get: what a word stands for. No condition but a bound.
-/
import Derived.Test.YtedfepnekjjmnabGreatJg
import Derived.Test.YtedfepnekjjmnabGreatHeap3
import Derived.Test.YtedfepnekjjmnabGreatJd
import Derived.Test.YtedfepnekjjmnabGreatJc
namespace Go.Proofs.YtedfepnekjjmnabGreat
open Go.RowKit
set_option linter.unusedSimpArgs false
set_option linter.unusedVariables false
set_option maxRecDepth 100000
set_option maxHeartbeats 8000000
def GetP (w:World) (t:T) (e:Ending) (w':World):Prop :=
 ∃ a cap,e=.returned (.agg #[.int .i64 t.kind,.int .i64 t.n,.string t.name,.slice a t.args.length cap])∧Below w.heap.size w w'∧RT (fun b=>w.heap.size≤b) w' t (.agg #[.int .i64 t.kind,.int .i64 t.n,.string t.name,.slice a t.args.length cap])
def GetRel (W5:World) (g5:Nat) (ts:List T) (i:Value) (wi:World):Prop :=
 ∃ (k:Nat) (row:Value),k≤ts.length∧i=.int .i64 k∧OwnG (fun b=>W5.heap.size≤b) W5.heap.size wi row (ts.take k)∧Keep (fun b=>b=g5) W5 wi∧Blk wi g5 [.int .i64 4,.int .i64 0,.string ⟨#[]⟩,row]
theorem tupT_of {t:T} (hk:t.kind=4) (hn:t.n=0) (hs:t.name=⟨#[]⟩):t=tupT t.args:=by
 obtain ⟨k,n,s,l⟩:=t
 simp only at hk hn hs
 subst hk hn hs;rfl
theorem RX.wto {R S:Nat→Prop} {w w':World} {l:List Wrd} {v:Value} (h:RX wrdE R S w l v) (hc:∀ b,R b→b < w.heap.size→w'.heap[b]?=w.heap[b]?):RX wrdE R S w' l v:=by
 obtain ⟨a,cap,cs,rfl,hl,hC,hj⟩:=h
 refine ⟨a,cap,cs,rfl,hl,cellsW hC,fun j u hu=>?_⟩
 obtain ⟨b,o,rfl,hR,hcell⟩:=hj j u hu
 exact ⟨b,o,rfl,hR,by rw [World.cell?_of_block (w:=w) (hc b hR (World.block_lt_of_cell? w _ hcell))];exact hcell⟩
theorem hget_c:∀ (t:T) (F:Nat→Prop) (w:World) (B:Nat) (room:Int) (H:HS) (x:Wrd),HeapR F w B room H→Rep H t x→H.ws.length≤137438953472→H.names.length≤137438953472 →
  Calls Tryz.prog 84 #[.pointer (some ⟨B,0,none⟩),.agg #[.int .i64 x.kind,.int .i64 x.n]] w (GetP w t):=by
 intro t
 induction t using T.ind with
 | h t ih =>
  intro F w B room H x hR hx hl hn
  have IH:=J ih
  have hkk:=hx.kinds
  obtain ⟨W0,hW0⟩:=I ((w.alloc (.cells #[.int .i64 x.kind,.int .i64 x.n] 68)).alloc (.cells #[.int .i64 0,.int .i64 0,.string ⟨#[]⟩,.slice none 0 0] 25))
  have HX3:Hid (Blk W0 w.heap.size [.int .i64 x.kind,.int .i64 x.n]):=J (by rw [hW0];exact (Blk.new _ _ _ _ rfl).alloc _)
  have HX4:Hid (Blk W0 (w.heap.size+1) [.int .i64 0,.int .i64 0,.string ⟨#[]⟩,.slice none 0 0]):=J (by rw [hW0];exact Blk.new _ _ _ _ (by simp))
  have HB0:Hid (Below w.heap.size w W0):=J (by rw [hW0];exact (yA _ _).trans ((yA _ _).mono (by simp)))
  have hs0:W0.heap.size=w.heap.size+2:=by rw [hW0];simp
  have hs0a:w.heap.size+2≤W0.heap.size:=by omega
  have HR0:Hid (HeapR (fun b=>F b∧b < w.heap.size) W0 B room H):=J (hR.low.below HB0.out)
  have HW0:=J hW0
  have HXX:=J hx
  have HKK:=J hkk
  clear ih hR hW0 hs0 hx hkk
  by_cases hk2:t.kind=2
  ·obtain ⟨hn0,ha0,i,hxi,hi⟩:=HXX.out.atom hk2
   have k2:(x.kind == 2)=true:=by rw [HKK.out,hk2];rfl
   have hil:i < H.names.length:=(List.getElem?_eq_some_iff.1 hi).1
   have hie:H.names[i]=t.name:=(List.getElem?_eq_some_iff.1 hi).2
   obtain ⟨vw,vn,hV⟩:=HR0.out
   obtain ⟨an,cn,rfl⟩:=hV.nm.form
   obtain ⟨b,o,rfl⟩:=hV.nm.rx.addr (by decide) (by omega)
   obtain ⟨hb,c0⟩:=hV.nm.rx.nm i hil
   rw [hie] at c0
   have hbl:=World.block_lt_of_cell? _ _ c0
   have hxn:x.n=i:=by rw [hxi]
   have HV:=J hV
   have HXN:=J hxn
   have HQ:Hid (∀ w':World,w'.heap[B]?=W0.heap[B]?→w'.heap[w.heap.size]?=W0.heap[w.heap.size]?→w'.heap[b]?=W0.heap[b]?→w'.cell? ⟨B,2,none⟩=some (.slice (some ⟨b,o,none⟩) H.names.length cn)∧w'.cell? ⟨w.heap.size,1,none⟩=some (.int .i64 (i:Int))∧w'.cell? ⟨b,o+i,none⟩=some (.string t.name)):=J fun w' e1 e2 e3=>⟨(World.cell?_of_block (w:=W0) (a:=⟨B,2,none⟩) e1).trans (HV.out.blk.cell 2 _ rfl),(World.cell?_of_block (w:=W0) (a:=⟨w.heap.size,1,none⟩) e2).trans (by rw [←HXN.out];exact HX3.out.cell 1 _ rfl),(World.cell?_of_block (w:=W0) (a:=⟨b,o+i,none⟩) e3).trans c0⟩
   have hBn:B≠w.heap.size+1:=fun e=>by have:=HV.out.fb.2;omega
   have hbn:b≠w.heap.size+1:=fun e=>by have:=(HV.out.fn b hb).2;omega
   have HT:Hid (t=⟨2,0,t.name,[]⟩):=J (by
    obtain ⟨k,n,s,l⟩:=t
    simp only at hk2 hn0 ha0
    rw [hk2,hn0,ha0])
   have q1:(0:Int)≤(i:Int):=by omega
   have q2:(i:Int) < H.names.length:=by omega
   clear hk2 hn0 ha0 hxi hi hie hV c0 hxn hb hbl
   go_enter Tryz.func84,Tryz.ntmps84
   go_upto_region 3 with fail
   rw [←HW0.out]
   refine yK (fun w'=>w'.cell? ⟨B,2,none⟩=some (.slice (some ⟨b,o,none⟩) H.names.length cn)∧w'.cell? ⟨w.heap.size,1,none⟩=some (.int .i64 (i:Int))∧w'.cell? ⟨b,o+i,none⟩=some (.string t.name)) (by as_aux_lemma=>kernel_rfl) (fun Wd h=>HQ.out _ (h.block _ (by have:=HV.out.blk.lt;omega)) (h.block _ (by omega)) (h.block _ (by have:=HV.out.fn b rfl;omega))) ?_
   intro Wd hB hWd hWd' hHeld
   have EB:Hid (Wd.heap[B]?=W0.heap[B]?):=J (hB.block _ (by have:=HV.out.blk.lt;omega))
   have E3:Hid (Wd.heap[w.heap.size]?=W0.heap[w.heap.size]?):=J (hB.block _ (by omega))
   have Eb:Hid (Wd.heap[b]?=W0.heap[b]?):=J (hB.block _ (by have:=HV.out.fn b rfl;omega))
   have HBd:=J hB
   clear hB
   refine rgT 0 _ hHeld ?_
   refine rgT 1 _ hHeld ?_
   refine rgT 2 _ hHeld ?_
   refine rgT 3 _ hHeld ?_
   refine rgT 4 _ hHeld ?_
   refine rgT 5 _ hHeld ?_
   refine rgT 6 _ hHeld ?_
   refine rgT 7 _ hHeld ?_
   refine rgT 8 _ hHeld ?_
   refine rgO 9 fun K hK=>?_
   refine wp_store_blk 25 4 yN _ _ rfl rfl rfl rfl (HX4.out.step HBd.out) rfl rfl rfl ?_
   intro W' hF hs' hBW hoth
   have HF:=J hF
   have HSZ:=J hs'
   have HBW:=J hBW
   have HOTH:=J hoth
   clear hF hBW hoth hs'
   refine hK.out _ _ (HQ.out _ ((HOTH.out B hBn).trans EB.out) ((HOTH.out _ (by omega)).trans E3.out) ((HOTH.out b hbn).trans Eb.out)) fun _=>?_
   clear hK K hHeld;rename_i hHeld;try simp only [Act.put,pA,pB,pC]
   refine rgD ?_
   clear hHeld
   go_wp2_with fail
   rw [HT.out]
   refine bodyPost_ret (result_blk Tryz.results84 yN _ Tryz.underlying25 rfl rfl HF.out rfl) rfl ⟨none,0,rfl,HBW.out _ w (by omega) (HB0.out.trans (HBd.out.mono (by omega))),?_⟩
   exact ⟨none,0,rfl,⟨Nat.le_refl _,fun _=>rfl⟩,by simp [RTs]⟩
  by_cases hk4:t.kind=4
  ·obtain ⟨hn0,hs0,i,hxi,hi,hil,hrep⟩:=HXX.out.tup hk4
   have k2:(x.kind == 2)=false:=by rw [HKK.out,hk4];rfl
   have k4:(x.kind == 4)=true:=by rw [HKK.out,hk4];rfl
   have hii:i < H.ws.length:=by omega
   have hwi:H.ws[i]=⟨0,t.args.length⟩:=(List.getElem?_eq_some_iff.1 hi).2
   have hxn:x.n=i:=by rw [hxi]
   have HT:Hid (t=tupT t.args):=J (tupT_of hk4 hn0 hs0)
   have HREPL:=J hrep
   have HXN:=J hxn
   have HWI:=J hwi
   have hpl:(partsL H i t.args.length).length=t.args.length:=hrep.length
   have HPL:=J hpl
   clear hk2 hk4 hn0 hs0 hxi hi hrep hwi hxn hpl
   go_enter Tryz.func84,Tryz.ntmps84
   go_upto_region 5 with fail
   rw [←HW0.out]
   have y1:=HX3.out.cell 1 _ rfl
   obtain ⟨W4,hW4⟩:=I (W0.alloc (.cells #[.int .i64 4,.int .i64 0,.string ⟨#[]⟩,.slice none 0 0] 25))
   obtain ⟨g5,hg5e⟩:=I (W0.heap.size)
   have HG4:Hid (Blk W4 g5 [.int .i64 4,.int .i64 0,.string ⟨#[]⟩,.slice none 0 0]):=J (by rw [hW4];exact Blk.new _ _ _ _ hg5e)
   have HB4:Hid (Below W0.heap.size W0 W4):=J (by rw [hW4];exact yA _ _)
   have hs4:W0.heap.size+1≤W4.heap.size:=by rw [hW4];simp
   have HR4:=J (HR0.out.below HB4.out)
   have hg5a:W0.heap.size≤g5:=by omega
   have hg5b:g5≤W0.heap.size:=by omega
   have HW4:=J hW4
   have HG5E:=J hg5e
   clear hW4 hg5e
   go_upto_region 6 with fail
   rw [←HW4.out]
   try rw [←HG5E.out]
   have y14:=(HX3.out.step HB4.out).cell 1 _ rfl
   go_wp2_with fail
   have hc:=hparts_yes _ W4 B room H i t.args.length HR4.out hii HWI.out hil hl
   rw [←HXN.out] at hc
   refine hc.mono ?_
   rintro e W5 ⟨pa,pc,he,hB,hP⟩
   rw [HPL.out] at he hP
   subst he
   have hs5:=hB.size
   have HR5:=J (HR4.out.below hB)
   have HP5:=J hP
   have HG5:=J (HG4.out.step hB)
   have HX45:=J ((HX4.out.step HB4.out).step hB)
   have HB5:Hid (Below w.heap.size w W5):=J ((HB0.out.trans (HB4.out.mono (by omega))).trans (hB.mono (by omega)))
   have hg5:g5 < W5.heap.size:=by omega
   clear hB hP hc y1 y14
   go_wp2_with fail
   go_loopw [35] (fun i wr=>GetRel W5 g5 t.args i wr) (fun i _=>t.args.length - (intOf i).toNat)
   case atStart=>exact ⟨0,_,Nat.zero_le _,rfl,OwnG.nil _ _ _,Keep.refl _ _,HG5.out⟩
   case round =>
    obtain ⟨k,row,hkl,rfl,hO,hK,hG⟩:=hrel
    obtain ⟨wq,rfl⟩:∃ wq:World,wq=wr:=⟨_,rfl⟩
    obtain ⟨ar,cr,hrow⟩:=hO.form
    have hlk:(t.args.take k).length=k:=by rw [List.length_take];omega
    rw [hlk] at hrow
    subst hrow
    have hsq:=hK.size
    have HO:=J hO
    have HKq:=J hK
    have HGq:=J hG
    have HRq:=J (HR5.out.keep hK (fun b hb hl e=>by have:=hb.2;omega))
    have HPq:Hid (RX wrdE (fun b=>F b∧b < w.heap.size) (fun _=>True) wq (partsL H i t.args.length) (.slice pa t.args.length pc)):=J (RX.wto HP5.out fun b hb hl=>hK.block b hl (fun e=>by have:=hb.2;omega))
    have HOB:=J hO.block
    clear hO hK hG hlk
    by_cases hlt:k < t.args.length
    ·have hpk:k < (partsL H i t.args.length).length:=by rw [HPL.out];exact hlt
     obtain ⟨pb,po,rfl⟩:=HPq.out.addr (by decide) (by omega)
     obtain ⟨-,d0,d1⟩:=HPq.out.wrd k hpk
     obtain ⟨y,hy⟩:∃ y,y=(partsL H i t.args.length)[k]:=⟨_,rfl⟩
     rw [←hy] at d0 d1
     have HREP:Hid (Rep H t.args[k] y):=J (by rw [hy];exact HREPL.out.at k hlt hpk)
     have HMEM:=J (List.getElem_mem hlt)
     have HSN:=J (take_snoc' t.args k hlt)
     clear hy hpk
     go_upto_region 10 with fail
     obtain ⟨W9,hW9⟩:=I (wq.alloc (.cells #[.int .i64 y.kind,.int .i64 y.n] 68))
     obtain ⟨g9,hg9⟩:=I (wq.heap.size)
     have HX9:Hid (Blk W9 g9 [.int .i64 y.kind,.int .i64 y.n]):=J (by rw [hW9];exact Blk.new _ _ _ _ hg9)
     have HB9:Hid (Below wq.heap.size wq W9):=J (by rw [hW9];exact yA _ _)
     have hs9:wq.heap.size+1≤W9.heap.size:=by rw [hW9];simp
     have HR9:=J (HRq.out.below HB9.out)
     have HG9:=J (HGq.out.step HB9.out)
     have HO9:=J (HO.out.below HB9.out)
     have HK9:Hid (Keep (fun b=>b=g5) W5 W9):=J (HKq.out.then HB9.out)
     have hg9a:wq.heap.size≤g9:=by omega
     have hg9b:g9≤wq.heap.size:=by omega
     have HQ:Hid (∀ w':World,w'.heap[g9]?=W9.heap[g9]?→w'.cell? ⟨g9,0,none⟩=some (.int .i64 y.kind)∧w'.cell? ⟨g9,1,none⟩=some (.int .i64 y.n)):=J fun w' e=>⟨(World.cell?_of_block (w:=W9) (a:=⟨g9,0,none⟩) e).trans (HX9.out.cell 0 _ rfl),(World.cell?_of_block (w:=W9) (a:=⟨g9,1,none⟩) e).trans (HX9.out.cell 1 _ rfl)⟩
     rw [←hW9,←hg9]
     clear hW9 hg9 d0 d1
     refine yK (fun w'=>w'.cell? ⟨g9,0,none⟩=some (.int .i64 y.kind)∧w'.cell? ⟨g9,1,none⟩=some (.int .i64 y.n)) (by as_aux_lemma=>kernel_rfl) (fun Wd h=>HQ.out _ (h.block _ (by omega))) ?_
     intro Wd hB hWd hWd' hHeld
     have E9:Hid (Wd.heap[g9]?=W9.heap[g9]?):=J (hB.block _ (by omega))
     have HBd:=J hB
     have HRd:=J (HR9.out.below hB)
     have HGd:=J (HG9.out.step hB)
     have HOd:=J (HO9.out.below hB)
     have r3d:=HGd.out.cell 3 _ rfl
     have HKd:Hid (Keep (fun b=>b=g5) W5 Wd):=J (HK9.out.then hB)
     clear hB
     refine rgT 0 _ hHeld ?_
     refine rgT 2 _ hHeld ?_
     refine rgT 3 _ hHeld ?_
     refine rgW 1 4 (fun K hK=>?_) fun K hK=>?_
     ·skip
      go_simp
      skip
      refine hK.out _ _ (hHeld) fun _=>?_
      clear hK K hHeld;rename_i hHeld;try simp only [Act.put,pA,pB,pC]
      refine rgO 4 fun K hK=>?_
      go_simp
      go_at_call 84
      refine (IH.out t.args[k] HMEM.out _ _ B room H y (HRd.out) HREP.out hl hn).mono ?_
      rintro e w1 ⟨at1,ct1,he,hB,hRT⟩
      obtain ⟨tk,htk⟩:∃ tk,tk=t.args[k]:=⟨_,rfl⟩
      rw [←htk] at he hRT
      subst he
      have hs1:=hB.size
      have HTK:=J htk
      have HBd1:=J hB
      have E91:Hid (w1.heap[g9]?=W9.heap[g9]?):=J ((hB.block _ (by omega)).trans E9.out)
      have r31:w1.cell? ⟨g5,3,none⟩=some (.slice ar k cr):=(hB.cell (p:=⟨g5,3,none⟩) (show g5 < Wd.heap.size by omega)).trans r3d
      have HRT1:=J hRT
      clear hB htk hRT
      refine hK.out _ _ (HQ.out _ E91.out) fun _=>?_
      clear hK K hHeld;rename_i hHeld;try simp only [Act.put,pA,pB,pC]
      refine rgO 5 fun K hK=>?_
      refine build1 _ rfl (by rfl) ?_
      have r3b:(w1.alloc (.cells #[.int .i64 tk.kind,.int .i64 tk.n,.string tk.name,.slice at1 tk.args.length ct1] 25)).cell? ⟨g5,3,none⟩=some (.slice ar k cr):=((yA w1 _).cell (p:=⟨g5,3,none⟩) (show g5 < w1.heap.size by omega)).trans r31
      refine hK.out _ _ (HQ.out _ ((Below.heap_alloc w1 _ _ (by omega)).trans E91.out)) fun _=>?_
      clear hK K hHeld;rename_i hHeld;try simp only [Act.put,pA,pB,pC]
      refine rgO 6 fun K hK=>?_
      refine wp_grow (v:=.slice ar k cr) (n:=k) (g0:=w1.heap.size) _ _ rfl rfl (by rfl) (by rfl) rfl (HOd.out.below HBd1.out) HRT1.out (fun z hz hl=>⟨by omega,fun he=>by have:=HOB.out z he;omega⟩) (by first | (rw [List.length_take];omega) | (simp;omega)) (by omega) (by omega) ?_
      intro gg cg w3 hO3 hG3 hB3 hP3
      have hl3:=hB3.size
      have e9:=hG3.block g9 (by simp;omega) (fun he=>by have:=HOB.out _ he.symm;omega)
      have E93:Hid (w3.heap[g9]?=W9.heap[g9]?):=J (e9.trans ((Below.heap_alloc w1 _ _ (by omega)).trans E91.out))
      have r33:w3.cell? ⟨g5,3,none⟩=some (.slice ar k cr):=(hB3.cell (p:=⟨g5,3,none⟩) (show g5 < W5.heap.size by omega)).trans r31
      have rf3:=fun o=>(hB3.frozen (p:=⟨g5,o,none⟩) (show g5 < W5.heap.size by omega)).trans ((HGd.out.step HBd1.out).fr o)
      have HO3:=J hO3
      have HB3:=J hB3
      clear hO3 hG3 hB3 hP3 e9
      refine hK.out _ _ (HQ.out _ E93.out) fun _=>?_
      clear hK K hHeld;rename_i hHeld;try simp only [Act.put,pA,pB,pC]
      refine rgT 7 _ hHeld ?_
      refine rgO 8 fun K hK=>?_
      go_simp
      skip
      refine hK.out _ _ (HQ.out _ ((yD w3 g5 3 _ g9 (by omega)).trans E93.out)) fun _=>?_
      clear hK K hHeld;rename_i hHeld;try simp only [Act.put,pA,pB,pC]
      refine rgD ?_
      clear hHeld
      go_wp2_with fail
      go_roundw
      case rel =>
       have h1:=HO3.out.setCell g5 3 (.slice (some ⟨gg,0,none⟩) (k+1) cg) hg5 (Nat.not_le.2 hg5)
       rw [HTK.out,←HSN.out] at h1
       have h2:=((HKd.out.then HBd1.out).thenB HB3.out).setCell (b:=g5) (o:=3) (.slice (some ⟨gg,0,none⟩) (k+1) cg) (.inl rfl)
       have h3:Blk (w3.setCell ⟨g5,3,none⟩ (.slice (some ⟨gg,0,none⟩) (k+1) cg)) g5 [.int .i64 4,.int .i64 0,.string ⟨#[]⟩,.slice (some ⟨gg,0,none⟩) (k+1) cg]:=((HGd.out.step HBd1.out).below HB3.out hg5).set 3 (.slice (some ⟨gg,0,none⟩) (k+1) cg) (by simp)
       refine ⟨k+1,(.slice (some ⟨gg,0,none⟩) (k+1) cg),hlt,by go_num,?_,?_,?_⟩
       ·with_reducible exact h1
       ·with_reducible exact h2
       ·with_reducible exact h3
      case measure=>simp [intOf];omega
     ·skip
      go_simp
      go_at_call 84
      refine (IH.out t.args[k] HMEM.out _ _ B room H y (HRd.out) HREP.out hl hn).mono ?_
      rintro e w1 ⟨at1,ct1,he,hB,hRT⟩
      obtain ⟨tk,htk⟩:∃ tk,tk=t.args[k]:=⟨_,rfl⟩
      rw [←htk] at he hRT
      subst he
      have hs1:=hB.size
      have HTK:=J htk
      have HBd1:=J hB
      have E91:Hid (w1.heap[g9]?=W9.heap[g9]?):=J ((hB.block _ (by omega)).trans E9.out)
      have r31:w1.cell? ⟨g5,3,none⟩=some (.slice ar k cr):=(hB.cell (p:=⟨g5,3,none⟩) (show g5 < Wd.heap.size by omega)).trans r3d
      have HRT1:=J hRT
      clear hB htk hRT
      refine hK.out _ _ (HQ.out _ E91.out) fun _=>?_
      clear hK K hHeld;rename_i hHeld;try simp only [Act.put,pA,pB,pC]
      refine rgW 1 5 (fun K hK=>?_) fun K hK=>?_
      ·skip
       go_simp
       skip
       refine hK.out _ _ (hHeld) fun _=>?_
       clear hK K hHeld;rename_i hHeld;try simp only [Act.put,pA,pB,pC]
       refine rgO 5 fun K hK=>?_
       refine build1 _ rfl (by rfl) ?_
       have r3b:(w1.alloc (.cells #[.int .i64 tk.kind,.int .i64 tk.n,.string tk.name,.slice at1 tk.args.length ct1] 25)).cell? ⟨g5,3,none⟩=some (.slice ar k cr):=((yA w1 _).cell (p:=⟨g5,3,none⟩) (show g5 < w1.heap.size by omega)).trans r31
       refine hK.out _ _ (HQ.out _ ((Below.heap_alloc w1 _ _ (by omega)).trans E91.out)) fun _=>?_
       clear hK K hHeld;rename_i hHeld;try simp only [Act.put,pA,pB,pC]
       refine rgO 6 fun K hK=>?_
       refine wp_grow (v:=.slice ar k cr) (n:=k) (g0:=w1.heap.size) _ _ rfl rfl (by rfl) (by rfl) rfl (HOd.out.below HBd1.out) HRT1.out (fun z hz hl=>⟨by omega,fun he=>by have:=HOB.out z he;omega⟩) (by first | (rw [List.length_take];omega) | (simp;omega)) (by omega) (by omega) ?_
       intro gg cg w3 hO3 hG3 hB3 hP3
       have hl3:=hB3.size
       have e9:=hG3.block g9 (by simp;omega) (fun he=>by have:=HOB.out _ he.symm;omega)
       have E93:Hid (w3.heap[g9]?=W9.heap[g9]?):=J (e9.trans ((Below.heap_alloc w1 _ _ (by omega)).trans E91.out))
       have r33:w3.cell? ⟨g5,3,none⟩=some (.slice ar k cr):=(hB3.cell (p:=⟨g5,3,none⟩) (show g5 < W5.heap.size by omega)).trans r31
       have rf3:=fun o=>(hB3.frozen (p:=⟨g5,o,none⟩) (show g5 < W5.heap.size by omega)).trans ((HGd.out.step HBd1.out).fr o)
       have HO3:=J hO3
       have HB3:=J hB3
       clear hO3 hG3 hB3 hP3 e9
       refine hK.out _ _ (HQ.out _ E93.out) fun _=>?_
       clear hK K hHeld;rename_i hHeld;try simp only [Act.put,pA,pB,pC]
       refine rgT 7 _ hHeld ?_
       refine rgO 8 fun K hK=>?_
       go_simp
       skip
       refine hK.out _ _ (HQ.out _ ((yD w3 g5 3 _ g9 (by omega)).trans E93.out)) fun _=>?_
       clear hK K hHeld;rename_i hHeld;try simp only [Act.put,pA,pB,pC]
       refine rgD ?_
       clear hHeld
       go_wp2_with fail
       go_roundw
       case rel =>
        have h1:=HO3.out.setCell g5 3 (.slice (some ⟨gg,0,none⟩) (k+1) cg) hg5 (Nat.not_le.2 hg5)
        rw [HTK.out,←HSN.out] at h1
        have h2:=((HKd.out.then HBd1.out).thenB HB3.out).setCell (b:=g5) (o:=3) (.slice (some ⟨gg,0,none⟩) (k+1) cg) (.inl rfl)
        have h3:Blk (w3.setCell ⟨g5,3,none⟩ (.slice (some ⟨gg,0,none⟩) (k+1) cg)) g5 [.int .i64 4,.int .i64 0,.string ⟨#[]⟩,.slice (some ⟨gg,0,none⟩) (k+1) cg]:=((HGd.out.step HBd1.out).below HB3.out hg5).set 3 (.slice (some ⟨gg,0,none⟩) (k+1) cg) (by simp)
        refine ⟨k+1,(.slice (some ⟨gg,0,none⟩) (k+1) cg),hlt,by go_num,?_,?_,?_⟩
        ·with_reducible exact h1
        ·with_reducible exact h2
        ·with_reducible exact h3
       case measure=>simp [intOf];omega
      ·skip
       refine build1 _ rfl (by rfl) ?_
       have r3b:(w1.alloc (.cells #[.int .i64 tk.kind,.int .i64 tk.n,.string tk.name,.slice at1 tk.args.length ct1] 25)).cell? ⟨g5,3,none⟩=some (.slice ar k cr):=((yA w1 _).cell (p:=⟨g5,3,none⟩) (show g5 < w1.heap.size by omega)).trans r31
       refine hK.out _ _ (HQ.out _ ((Below.heap_alloc w1 _ _ (by omega)).trans E91.out)) fun _=>?_
       clear hK K hHeld;rename_i hHeld;try simp only [Act.put,pA,pB,pC]
       refine rgO 1 fun K hK=>?_
       go_simp
       skip
       refine hK.out _ _ (hHeld) fun _=>?_
       clear hK K hHeld;rename_i hHeld;try simp only [Act.put,pA,pB,pC]
       refine rgO 6 fun K hK=>?_
       refine wp_grow (v:=.slice ar k cr) (n:=k) (g0:=w1.heap.size) _ _ rfl rfl (by rfl) (by rfl) rfl (HOd.out.below HBd1.out) HRT1.out (fun z hz hl=>⟨by omega,fun he=>by have:=HOB.out z he;omega⟩) (by first | (rw [List.length_take];omega) | (simp;omega)) (by omega) (by omega) ?_
       intro gg cg w3 hO3 hG3 hB3 hP3
       have hl3:=hB3.size
       have e9:=hG3.block g9 (by simp;omega) (fun he=>by have:=HOB.out _ he.symm;omega)
       have E93:Hid (w3.heap[g9]?=W9.heap[g9]?):=J (e9.trans ((Below.heap_alloc w1 _ _ (by omega)).trans E91.out))
       have r33:w3.cell? ⟨g5,3,none⟩=some (.slice ar k cr):=(hB3.cell (p:=⟨g5,3,none⟩) (show g5 < W5.heap.size by omega)).trans r31
       have rf3:=fun o=>(hB3.frozen (p:=⟨g5,o,none⟩) (show g5 < W5.heap.size by omega)).trans ((HGd.out.step HBd1.out).fr o)
       have HO3:=J hO3
       have HB3:=J hB3
       clear hO3 hG3 hB3 hP3 e9
       refine hK.out _ _ (HQ.out _ E93.out) fun _=>?_
       clear hK K hHeld;rename_i hHeld;try simp only [Act.put,pA,pB,pC]
       refine rgT 7 _ hHeld ?_
       refine rgO 8 fun K hK=>?_
       go_simp
       skip
       refine hK.out _ _ (HQ.out _ ((yD w3 g5 3 _ g9 (by omega)).trans E93.out)) fun _=>?_
       clear hK K hHeld;rename_i hHeld;try simp only [Act.put,pA,pB,pC]
       refine rgD ?_
       clear hHeld
       go_wp2_with fail
       go_roundw
       case rel =>
        have h1:=HO3.out.setCell g5 3 (.slice (some ⟨gg,0,none⟩) (k+1) cg) hg5 (Nat.not_le.2 hg5)
        rw [HTK.out,←HSN.out] at h1
        have h2:=((HKd.out.then HBd1.out).thenB HB3.out).setCell (b:=g5) (o:=3) (.slice (some ⟨gg,0,none⟩) (k+1) cg) (.inl rfl)
        have h3:Blk (w3.setCell ⟨g5,3,none⟩ (.slice (some ⟨gg,0,none⟩) (k+1) cg)) g5 [.int .i64 4,.int .i64 0,.string ⟨#[]⟩,.slice (some ⟨gg,0,none⟩) (k+1) cg]:=((HGd.out.step HBd1.out).below HB3.out hg5).set 3 (.slice (some ⟨gg,0,none⟩) (k+1) cg) (by simp)
        refine ⟨k+1,(.slice (some ⟨gg,0,none⟩) (k+1) cg),hlt,by go_num,?_,?_,?_⟩
        ·with_reducible exact h1
        ·with_reducible exact h2
        ·with_reducible exact h3
       case measure=>simp [intOf];omega
    ·have hkk:k=t.args.length:=by omega
     subst hkk
     have HX4q:=J (HX45.out.keep HKq.out (by omega))
     have HTL:Hid (t.args.take t.args.length=t.args):=J (List.take_of_length_le (Nat.le_refl _))
     go_wp2_with (first | (refine load_blk (o:=⟨some 48,.load 25 (.tmp 5),_,_,_,_⟩) 25 4 yN _ Tryz.underlying25 rfl _ rfl rfl rfl HGq.out rfl ?_) | (refine yI 25 4 yN _ _ rfl rfl rfl rfl rfl HX4q.out rfl rfl rfl ?_;intro W' hF hs' hBW hoth;have HF:=J hF;have HSZ:=J hs';have HBW:=J hBW;have HOTH:=J hoth;clear hF hBW hoth hs'))
     refine bodyPost_ret (result_blk Tryz.results84 yN _ Tryz.underlying25 rfl rfl HF.out rfl) rfl ⟨ar,cr,?_,HBW.out _ w (by omega) (HB5.out.trans (HKq.out.below (by omega) (fun b e=>by omega))),?_⟩
     ·rw [HT.out];rfl
     ·have h1:=HO.out.rsl (fun b hb=>hb)
      rw [HTL.out] at h1
      have h2:=(tupT_rt h1).to (S':=fun b=>w.heap.size≤b) (w':=W') (fun b hb _=>by omega) fun b hb hl=>HOTH.out b (by omega)
      have h3:RT (fun b=>w.heap.size≤b) W' t (.agg #[.int .i64 4,.int .i64 0,.string ⟨#[]⟩,.slice ar t.args.length cr]):=by rw [HT.out];exact h2
      rw [HT.out]
      exact h2
  ·obtain ⟨hk13,hs0,ha0,hxe⟩:=HXX.out.leaf hk4 hk2
   have k2:(x.kind == 2)=false:=by rw [HKK.out];simpa using hk2
   have k4:(x.kind == 4)=false:=by rw [HKK.out];simpa using hk4
   have HT:Hid (t=⟨x.kind,x.n,⟨#[]⟩,[]⟩):=J (by
    obtain ⟨k,n,s,l⟩:=t
    simp only at hs0 ha0 hxe
    rw [hs0,ha0,hxe])
   clear hk2 hk4 hk13 hs0 ha0 hxe
   go_enter Tryz.func84,Tryz.ntmps84
   go_upto_region 13 with fail
   rw [←HW0.out]
   obtain ⟨y0,y1⟩:=HX3.out.c2 0 1
   go_wp2_with (refine yI 25 4 yN _ _ rfl rfl rfl rfl rfl HX4.out rfl rfl rfl ?_;intro W' hF hs' hBW hoth;have HF:=J hF;have HSZ:=J hs';have HBW:=J hBW;have HOTH:=J hoth;clear hF hBW hoth hs')
   rw [HT.out]
   refine bodyPost_ret (result_blk Tryz.results84 yN _ Tryz.underlying25 rfl rfl HF.out rfl) rfl ⟨none,0,rfl,HBW.out _ w (by omega) HB0.out,?_⟩
   exact ⟨none,0,rfl,⟨Nat.le_refl _,fun _=>rfl⟩,by simp [RTs]⟩
end Go.Proofs.YtedfepnekjjmnabGreat
