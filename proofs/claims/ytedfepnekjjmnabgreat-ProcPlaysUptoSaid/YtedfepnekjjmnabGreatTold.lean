/-
  code.told: what tells a behaviour. No condition but a bound.
-/
import Derived.Test.YtedfepnekjjmnabGreatActT
import Derived.Test.YtedfepnekjjmnabGreatJd
import Derived.Test.YtedfepnekjjmnabGreatClause
namespace Go.Proofs.YtedfepnekjjmnabGreat
open Go.RowKit
set_option linter.unusedSimpArgs false
set_option linter.unusedVariables false
set_option maxRecDepth 100000
set_option maxHeartbeats 4000000
def ToldCut (W0:World) (ts:List T) (s5:Value) (wx:World):Prop :=
 ∃ g gl,s5=.pointer (some ⟨g,0,none⟩)∧W0.heap.size≤g∧Below W0.heap.size W0 wx∧Blk wx g [.int .i64 4,.int .i64 0,.string ⟨#[]⟩,.slice (some ⟨gl,0,none⟩) 2 2] ∧
  OwnG (fun b=>W0.heap.size≤b∧b≠g) W0.heap.size wx (.slice (some ⟨gl,0,none⟩) 2 2) ts∧gl≠g
def ActsRel (W6:World) (g8:Nat) (q1:Bool) (c:Clau) (s4 i:Value) (wi:World):Prop :=
 ∃ (j:Nat) (q2:Bool) (row8:Value),j≤c.acts.length∧i=.int .i64 j∧s4=.bool q2∧q2=(q1 && (c.acts.take j).all deedOk) ∧
  OwnG (fun b=>W6.heap.size≤b) W6.heap.size wi row8 ((c.acts.take j).map deedT)∧Keep (fun b=>b=g8) W6 wi∧Blk wi g8 [.int .i64 4,.int .i64 0,.string ⟨#[]⟩,row8]
def ToldRel (W0:World) (g:Nat) (q0:Bool) (b:Behv) (s4 i:Value) (wr:World):Prop :=
 ∃ (k:Nat) (q:Bool) (row:Value),k≤b.clauses.length∧i=.int .i64 k∧s4=.bool q∧q=(q0 && (b.clauses.take k).all clauOk) ∧
  OwnG (fun b=>W0.heap.size≤b∧b≠g) W0.heap.size wr row (yP sBeh :: yP b.name :: (b.clauses.take k).map clauT)∧row.ownBlock≠some g∧Below W0.heap.size W0 wr∧Blk wr g [.int .i64 4,.int .i64 0,.string ⟨#[]⟩,row]
theorem told_c (b:Behv) (a:Option Addr) (cap:Nat) (S:Nat→Prop) (w:World) (hv:RX clauE S S w b.clauses (.slice a b.clauses.length cap)) (hS:∀ x,S x→x < w.heap.size) (hb:behvB b≤17179869184) :
  Calls Tryz.prog 61 #[.agg #[.string b.name,.slice a b.clauses.length cap]] w (TermP w (behvT b) (behvOk b)):=by
 have hbn:b.name.size≤17179869184:=by unfold behvB at hb;omega
 have hbc:clausB b.clauses≤17179869184:=by unfold behvB at hb;omega
 have hlc:=clausB_len b.clauses
 have HV:=J hv
 have HS:=J hS
 clear hv hS hb
 go_enter Tryz.func61,Tryz.ntmps61
 go_upto_region 1 with fail
 obtain ⟨W0,hW0⟩:=I ((w.alloc (.cells #[.string b.name,.slice a b.clauses.length cap] 79)).alloc (.cells #[.int .i64 0,.int .i64 0,.string ⟨#[]⟩,.slice none 0 0] 25))
 have HX:Hid (Blk W0 w.heap.size [.string b.name,.slice a b.clauses.length cap]):=J (by rw [hW0];exact (Blk.new _ _ _ _ rfl).alloc _)
 have HZ:Hid (Blk W0 (w.heap.size+1) [.int .i64 0,.int .i64 0,.string ⟨#[]⟩,.slice none 0 0]):=J (by rw [hW0];exact Blk.new _ _ _ _ (by simp))
 have HB0:Hid (Below w.heap.size w W0):=J (by rw [hW0];exact (yA _ _).trans ((yA _ _).mono (by simp)))
 have HV0:=J (HV.out.below HB0.out)
 have hs0:w.heap.size+2≤W0.heap.size:=by rw [hW0];simp
 obtain ⟨z0,z1⟩:=HX.out.c2 0 1
 rw [←hW0]
 clear hW0
 obtain ⟨q0,hq0⟩:∃ q0,q0=(nameB b.name && (decide ((1:Int)≤b.clauses.length) && decide ((b.clauses.length:Int)≤6))):=⟨_,rfl⟩
 have HQ0:=J hq0
 clear hq0
 go_cut [4] (fun s4 wx=>s4=.bool q0∧wx=W0)
 case first =>
  cases hn:nameB b.name
  ·have HN:=J hn
   have HQ1:Hid (q0=false):=J (by rw [HQ0.out,hn];rfl)
   clear hn
   go_wp2_with fail
   refine (name_c b.name _ (by omega)).mono ?_
   rintro e w' ⟨he,hw⟩
   rw [HN.out] at he
   subst he
   obtain rfl:W0=w':=hw
   go_wp2_with fail
   go_meet
   exact ⟨by rw [HQ1.out],rfl⟩
  have HN:=J hn
  have HQ1:Hid (q0=(decide ((1:Int)≤b.clauses.length) && decide ((b.clauses.length:Int)≤6))):=J (by rw [HQ0.out,hn];rfl)
  clear hn
  go_wp2_with fail
  refine (name_c b.name _ (by omega)).mono ?_
  rintro e w' ⟨he,hw⟩
  rw [HN.out] at he
  subst he
  obtain rfl:W0=w':=hw
  go_wp2_with fail
  refine (cwithin_c _ _ _ _).mono ?_
  rintro e w' ⟨he,hw⟩
  rw [←HQ1.out] at he
  subst he
  obtain rfl:W0=w':=hw.symm
  go_wp2_with fail
  go_meet
  exact ⟨rfl,rfl⟩
 obtain ⟨rfl,hwc⟩:=hcut
 obtain rfl:W0=wc:=hwc.symm
 go_upto_region 2 with fail
 go_cut [5] (fun s5 wx=>ToldCut W0 [yP sBeh,yP b.name] s5 wx)
 case first =>
  have HQ:Hid (∀ w':World,Below W0.heap.size W0 w'→w'.cell? ⟨w.heap.size,0,none⟩=some (.string b.name)):=J fun w' h=>(HX.out.step h).cell 0 _ rfl
  refine yK (fun w'=>w'.cell? ⟨w.heap.size,0,none⟩=some (.string b.name)) (by as_aux_lemma=>kernel_rfl) (HQ.out) ?_
  intro Wd hB hWd hWd' hHeld
  have HCWd:=J hB
  clear hB
  refine rgT 1 _ hHeld ?_
  refine rgT 2 _ hHeld ?_
  refine rgW 0 6 (fun K hK=>?_) fun K hK=>?_
  ·skip
   go_simp
   go_at_call 59
   refine (word_cword ⟨#[98,101,104]⟩ _).mono ?_
   rintro e wa ⟨rfl,hB⟩
   have hzwa:=hB.size
   have HCwa:Hid (Below W0.heap.size W0 wa):=J (yB HCWd.out (by omega) hB)
   clear hB
   refine hK.out _ _ (HQ.out _ HCwa.out) fun _=>?_
   clear hK K hHeld;rename_i hHeld;try simp only [Act.put,pA,pB,pC]
   refine rgW 3 6 (fun K hK=>?_) fun K hK=>?_
   ·skip
    go_simp
    go_at_call 59
    refine (word_cword b.name _).mono ?_
    rintro e wb ⟨rfl,hB⟩
    have hzwb:=hB.size
    have HCwb:Hid (Below W0.heap.size W0 wb):=J (yB HCwa.out (by omega) hB)
    clear hB
    refine hK.out _ _ (HQ.out _ HCwb.out) fun _=>?_
    clear hK K hHeld;rename_i hHeld;try simp only [Act.put,pA,pB,pC]
    refine rgW 4 6 (fun K hK=>?_) fun K hK=>?_
    ·skip
     go_simp
     obtain ⟨wl,hwl⟩:=I (wb.alloc (.cells #[.int .i64 2,.int .i64 0,.string ⟨#[98,101,104]⟩,.slice none 0 0,.int .i64 2,.int .i64 0,.string b.name,.slice none 0 0] 25))
     have hzwl:wb.heap.size+1≤wl.heap.size:=by rw [hwl];simp
     have hzwl':wl.heap.size≤wb.heap.size+1:=by rw [hwl];simp
     have HOl:Hid (∀ P:Nat→Prop,OwnG P W0.heap.size wl (.slice (some ⟨wb.heap.size,0,none⟩) 2 2) [yP sBeh,yP b.name]):=J (fun P=>by rw [hwl];exact OwnG.lit (n:=2) (S:=fun _=>False) (CellsT.word sBeh (CellsT.word b.name CellsT.nil)) (fun _ hb=>hb.elim) (by omega) rfl (by omega) rfl)
     have hB:Below wb.heap.size wb wl:=by rw [hwl];exact yA _ _
     have HCwl:Hid (Below W0.heap.size W0 wl):=J (yB HCwb.out (by omega) hB)
     obtain ⟨gl,hgl⟩:=I (wb.heap.size)
     rw [←hgl] at HOl
     rw [←hwl,←hgl]
     have hgl1:wb.heap.size≤gl:=by omega
     have hgl2:gl≤wb.heap.size:=by omega
     clear hwl hB hgl
     refine hK.out _ _ (HQ.out _ HCwl.out) fun _=>?_
     clear hK K hHeld;rename_i hHeld;try simp only [Act.put,pA,pB,pC]
     refine rgW 5 6 (fun K hK=>?_) fun K hK=>?_
     ·skip
      go_simp
      go_at_call 58
      refine (ctuple_c _ _ _ _).mono ?_
      rintro e wt ⟨rfl,hB⟩
      have hzwt:=hB.size
      have HCwt:Hid (Below W0.heap.size W0 wt):=J (yB HCwl.out (by omega) hB)
      have HOl:=J (fun P=>(HOl.out P).below hB)
      clear hB
      refine hK.out _ _ (HQ.out _ HCwt.out) fun _=>?_
      clear hK K hHeld;rename_i hHeld;try simp only [Act.put,pA,pB,pC]
      refine rgO 6 fun K hK=>?_
      go_simp
      obtain ⟨wg,hwg⟩:=I (wt.alloc (.cells #[.int .i64 0,.int .i64 0,.string ⟨#[]⟩,.slice none 0 0] 25))
      have hzwg:wt.heap.size+1≤wg.heap.size:=by rw [hwg];simp
      have hzwg':wg.heap.size≤wt.heap.size+1:=by rw [hwg];simp
      have HG:Hid (Blk wg wt.heap.size [.int .i64 0,.int .i64 0,.string ⟨#[]⟩,.slice none 0 0]):=J (by rw [hwg];exact Blk.new _ _ _ _ rfl)
      have hB:Below wt.heap.size wt wg:=by rw [hwg];exact yA _ _
      have HCwg:Hid (Below W0.heap.size W0 wg):=J (yB HCwt.out (by omega) hB)
      have HOl:=J (fun P=>(HOl.out P).below hB)
      obtain ⟨g,hgg⟩:=I (wt.heap.size)
      rw [←hgg] at HG
      rw [←hwg,←hgg]
      have hgg1:wt.heap.size≤g:=by omega
      have hgg2:g≤wt.heap.size:=by omega
      clear hwg hB hgg
      refine hK.out _ _ (HQ.out _ HCwg.out) fun _=>?_
      clear hK K hHeld;rename_i hHeld;try simp only [Act.put,pA,pB,pC]
      refine rgO 7 fun K hK=>?_
      refine wp_store_blk 25 4 yN _ _ rfl rfl rfl rfl HG.out rfl rfl rfl ?_
      intro W' hF hs' hBW hoth
      have HF:=J hF
      have HFB:Hid (Below W0.heap.size W0 W'):=J (hBW _ _ (by omega) HCwg.out)
      have HOTH:=J hoth
      clear hF hBW hoth
      refine hK.out _ _ (HQ.out _ HFB.out) fun _=>?_
      clear hK K hHeld;rename_i hHeld;try simp only [Act.put,pA,pB,pC]
      refine rgD ?_
      clear hHeld
      go_wp2_with fail
      go_meet
      have hne:gl≠g:=by omega
      exact ⟨g,gl,rfl,by omega,HFB.out,HF.out,(HOl.out _).to (by omega) (fun x hx _=>HOTH.out x (fun e=>by rcases hx with hx | hx;exact hx.2 e;exact hne (by simpa [Value.ownBlock] using hx.trans (congrArg some e)))),hne⟩
     skip
     go_simp
     obtain ⟨wg,hwg⟩:=I (wl.alloc (.cells #[.int .i64 0,.int .i64 0,.string ⟨#[]⟩,.slice none 0 0] 25))
     have hzwg:wl.heap.size+1≤wg.heap.size:=by rw [hwg];simp
     have hzwg':wg.heap.size≤wl.heap.size+1:=by rw [hwg];simp
     have HG:Hid (Blk wg wl.heap.size [.int .i64 0,.int .i64 0,.string ⟨#[]⟩,.slice none 0 0]):=J (by rw [hwg];exact Blk.new _ _ _ _ rfl)
     have hB:Below wl.heap.size wl wg:=by rw [hwg];exact yA _ _
     have HCwg:Hid (Below W0.heap.size W0 wg):=J (yB HCwl.out (by omega) hB)
     have HOl:=J (fun P=>(HOl.out P).below hB)
     obtain ⟨g,hgg⟩:=I (wl.heap.size)
     rw [←hgg] at HG
     rw [←hwg,←hgg]
     have hgg1:wl.heap.size≤g:=by omega
     have hgg2:g≤wl.heap.size:=by omega
     clear hwg hB hgg
     refine hK.out _ _ (HQ.out _ HCwg.out) fun _=>?_
     clear hK K hHeld;rename_i hHeld;try simp only [Act.put,pA,pB,pC]
     refine rgO 5 fun K hK=>?_
     go_simp
     go_at_call 58
     refine (ctuple_c _ _ _ _).mono ?_
     rintro e wt ⟨rfl,hB⟩
     have hzwt:=hB.size
     have HCwt:Hid (Below W0.heap.size W0 wt):=J (yB HCwg.out (by omega) hB)
     have HOl:=J (fun P=>(HOl.out P).below hB)
     have HG:=J (HG.out.step hB)
     clear hB
     refine hK.out _ _ (HQ.out _ HCwt.out) fun _=>?_
     clear hK K hHeld;rename_i hHeld;try simp only [Act.put,pA,pB,pC]
     refine rgO 7 fun K hK=>?_
     refine wp_store_blk 25 4 yN _ _ rfl rfl rfl rfl HG.out rfl rfl rfl ?_
     intro W' hF hs' hBW hoth
     have HF:=J hF
     have HFB:Hid (Below W0.heap.size W0 W'):=J (hBW _ _ (by omega) HCwt.out)
     have HOTH:=J hoth
     clear hF hBW hoth
     refine hK.out _ _ (HQ.out _ HFB.out) fun _=>?_
     clear hK K hHeld;rename_i hHeld;try simp only [Act.put,pA,pB,pC]
     refine rgD ?_
     clear hHeld
     go_wp2_with fail
     go_meet
     have hne:gl≠g:=by omega
     exact ⟨g,gl,rfl,by omega,HFB.out,HF.out,(HOl.out _).to (by omega) (fun x hx _=>HOTH.out x (fun e=>by rcases hx with hx | hx;exact hx.2 e;exact hne (by simpa [Value.ownBlock] using hx.trans (congrArg some e)))),hne⟩
    skip
    go_simp
    obtain ⟨wg,hwg⟩:=I (wb.alloc (.cells #[.int .i64 0,.int .i64 0,.string ⟨#[]⟩,.slice none 0 0] 25))
    have hzwg:wb.heap.size+1≤wg.heap.size:=by rw [hwg];simp
    have hzwg':wg.heap.size≤wb.heap.size+1:=by rw [hwg];simp
    have HG:Hid (Blk wg wb.heap.size [.int .i64 0,.int .i64 0,.string ⟨#[]⟩,.slice none 0 0]):=J (by rw [hwg];exact Blk.new _ _ _ _ rfl)
    have hB:Below wb.heap.size wb wg:=by rw [hwg];exact yA _ _
    have HCwg:Hid (Below W0.heap.size W0 wg):=J (yB HCwb.out (by omega) hB)
    obtain ⟨g,hgg⟩:=I (wb.heap.size)
    rw [←hgg] at HG
    rw [←hwg,←hgg]
    have hgg1:wb.heap.size≤g:=by omega
    have hgg2:g≤wb.heap.size:=by omega
    clear hwg hB hgg
    refine hK.out _ _ (HQ.out _ HCwg.out) fun _=>?_
    clear hK K hHeld;rename_i hHeld;try simp only [Act.put,pA,pB,pC]
    refine rgO 4 fun K hK=>?_
    go_simp
    obtain ⟨wl,hwl⟩:=I (wg.alloc (.cells #[.int .i64 2,.int .i64 0,.string ⟨#[98,101,104]⟩,.slice none 0 0,.int .i64 2,.int .i64 0,.string b.name,.slice none 0 0] 25))
    have hzwl:wg.heap.size+1≤wl.heap.size:=by rw [hwl];simp
    have hzwl':wl.heap.size≤wg.heap.size+1:=by rw [hwl];simp
    have HOl:Hid (∀ P:Nat→Prop,OwnG P W0.heap.size wl (.slice (some ⟨wg.heap.size,0,none⟩) 2 2) [yP sBeh,yP b.name]):=J (fun P=>by rw [hwl];exact OwnG.lit (n:=2) (S:=fun _=>False) (CellsT.word sBeh (CellsT.word b.name CellsT.nil)) (fun _ hb=>hb.elim) (by omega) rfl (by omega) rfl)
    have hB:Below wg.heap.size wg wl:=by rw [hwl];exact yA _ _
    have HCwl:Hid (Below W0.heap.size W0 wl):=J (yB HCwg.out (by omega) hB)
    have HG:=J (HG.out.step hB)
    obtain ⟨gl,hgl⟩:=I (wg.heap.size)
    rw [←hgl] at HOl
    rw [←hwl,←hgl]
    have hgl1:wg.heap.size≤gl:=by omega
    have hgl2:gl≤wg.heap.size:=by omega
    clear hwl hB hgl
    refine hK.out _ _ (HQ.out _ HCwl.out) fun _=>?_
    clear hK K hHeld;rename_i hHeld;try simp only [Act.put,pA,pB,pC]
    refine rgO 5 fun K hK=>?_
    go_simp
    go_at_call 58
    refine (ctuple_c _ _ _ _).mono ?_
    rintro e wt ⟨rfl,hB⟩
    have hzwt:=hB.size
    have HCwt:Hid (Below W0.heap.size W0 wt):=J (yB HCwl.out (by omega) hB)
    have HOl:=J (fun P=>(HOl.out P).below hB)
    have HG:=J (HG.out.step hB)
    clear hB
    refine hK.out _ _ (HQ.out _ HCwt.out) fun _=>?_
    clear hK K hHeld;rename_i hHeld;try simp only [Act.put,pA,pB,pC]
    refine rgO 7 fun K hK=>?_
    refine wp_store_blk 25 4 yN _ _ rfl rfl rfl rfl HG.out rfl rfl rfl ?_
    intro W' hF hs' hBW hoth
    have HF:=J hF
    have HFB:Hid (Below W0.heap.size W0 W'):=J (hBW _ _ (by omega) HCwt.out)
    have HOTH:=J hoth
    clear hF hBW hoth
    refine hK.out _ _ (HQ.out _ HFB.out) fun _=>?_
    clear hK K hHeld;rename_i hHeld;try simp only [Act.put,pA,pB,pC]
    refine rgD ?_
    clear hHeld
    go_wp2_with fail
    go_meet
    have hne:gl≠g:=by omega
    exact ⟨g,gl,rfl,by omega,HFB.out,HF.out,(HOl.out _).to (by omega) (fun x hx _=>HOTH.out x (fun e=>by rcases hx with hx | hx;exact hx.2 e;exact hne (by simpa [Value.ownBlock] using hx.trans (congrArg some e)))),hne⟩
   skip
   go_simp
   obtain ⟨wg,hwg⟩:=I (wa.alloc (.cells #[.int .i64 0,.int .i64 0,.string ⟨#[]⟩,.slice none 0 0] 25))
   have hzwg:wa.heap.size+1≤wg.heap.size:=by rw [hwg];simp
   have hzwg':wg.heap.size≤wa.heap.size+1:=by rw [hwg];simp
   have HG:Hid (Blk wg wa.heap.size [.int .i64 0,.int .i64 0,.string ⟨#[]⟩,.slice none 0 0]):=J (by rw [hwg];exact Blk.new _ _ _ _ rfl)
   have hB:Below wa.heap.size wa wg:=by rw [hwg];exact yA _ _
   have HCwg:Hid (Below W0.heap.size W0 wg):=J (yB HCwa.out (by omega) hB)
   obtain ⟨g,hgg⟩:=I (wa.heap.size)
   rw [←hgg] at HG
   rw [←hwg,←hgg]
   have hgg1:wa.heap.size≤g:=by omega
   have hgg2:g≤wa.heap.size:=by omega
   clear hwg hB hgg
   refine hK.out _ _ (HQ.out _ HCwg.out) fun _=>?_
   clear hK K hHeld;rename_i hHeld;try simp only [Act.put,pA,pB,pC]
   refine rgO 3 fun K hK=>?_
   go_simp
   go_at_call 59
   refine (word_cword b.name _).mono ?_
   rintro e wb ⟨rfl,hB⟩
   have hzwb:=hB.size
   have HCwb:Hid (Below W0.heap.size W0 wb):=J (yB HCwg.out (by omega) hB)
   have HG:=J (HG.out.step hB)
   clear hB
   refine hK.out _ _ (HQ.out _ HCwb.out) fun _=>?_
   clear hK K hHeld;rename_i hHeld;try simp only [Act.put,pA,pB,pC]
   refine rgO 4 fun K hK=>?_
   go_simp
   obtain ⟨wl,hwl⟩:=I (wb.alloc (.cells #[.int .i64 2,.int .i64 0,.string ⟨#[98,101,104]⟩,.slice none 0 0,.int .i64 2,.int .i64 0,.string b.name,.slice none 0 0] 25))
   have hzwl:wb.heap.size+1≤wl.heap.size:=by rw [hwl];simp
   have hzwl':wl.heap.size≤wb.heap.size+1:=by rw [hwl];simp
   have HOl:Hid (∀ P:Nat→Prop,OwnG P W0.heap.size wl (.slice (some ⟨wb.heap.size,0,none⟩) 2 2) [yP sBeh,yP b.name]):=J (fun P=>by rw [hwl];exact OwnG.lit (n:=2) (S:=fun _=>False) (CellsT.word sBeh (CellsT.word b.name CellsT.nil)) (fun _ hb=>hb.elim) (by omega) rfl (by omega) rfl)
   have hB:Below wb.heap.size wb wl:=by rw [hwl];exact yA _ _
   have HCwl:Hid (Below W0.heap.size W0 wl):=J (yB HCwb.out (by omega) hB)
   have HG:=J (HG.out.step hB)
   obtain ⟨gl,hgl⟩:=I (wb.heap.size)
   rw [←hgl] at HOl
   rw [←hwl,←hgl]
   have hgl1:wb.heap.size≤gl:=by omega
   have hgl2:gl≤wb.heap.size:=by omega
   clear hwl hB hgl
   refine hK.out _ _ (HQ.out _ HCwl.out) fun _=>?_
   clear hK K hHeld;rename_i hHeld;try simp only [Act.put,pA,pB,pC]
   refine rgO 5 fun K hK=>?_
   go_simp
   go_at_call 58
   refine (ctuple_c _ _ _ _).mono ?_
   rintro e wt ⟨rfl,hB⟩
   have hzwt:=hB.size
   have HCwt:Hid (Below W0.heap.size W0 wt):=J (yB HCwl.out (by omega) hB)
   have HOl:=J (fun P=>(HOl.out P).below hB)
   have HG:=J (HG.out.step hB)
   clear hB
   refine hK.out _ _ (HQ.out _ HCwt.out) fun _=>?_
   clear hK K hHeld;rename_i hHeld;try simp only [Act.put,pA,pB,pC]
   refine rgO 7 fun K hK=>?_
   refine wp_store_blk 25 4 yN _ _ rfl rfl rfl rfl HG.out rfl rfl rfl ?_
   intro W' hF hs' hBW hoth
   have HF:=J hF
   have HFB:Hid (Below W0.heap.size W0 W'):=J (hBW _ _ (by omega) HCwt.out)
   have HOTH:=J hoth
   clear hF hBW hoth
   refine hK.out _ _ (HQ.out _ HFB.out) fun _=>?_
   clear hK K hHeld;rename_i hHeld;try simp only [Act.put,pA,pB,pC]
   refine rgD ?_
   clear hHeld
   go_wp2_with fail
   go_meet
   have hne:gl≠g:=by omega
   exact ⟨g,gl,rfl,by omega,HFB.out,HF.out,(HOl.out _).to (by omega) (fun x hx _=>HOTH.out x (fun e=>by rcases hx with hx | hx;exact hx.2 e;exact hne (by simpa [Value.ownBlock] using hx.trans (congrArg some e)))),hne⟩
  skip
  go_simp
  obtain ⟨wg,hwg⟩:=I (Wd.alloc (.cells #[.int .i64 0,.int .i64 0,.string ⟨#[]⟩,.slice none 0 0] 25))
  have hzwg:Wd.heap.size+1≤wg.heap.size:=by rw [hwg];simp
  have hzwg':wg.heap.size≤Wd.heap.size+1:=by rw [hwg];simp
  have HG:Hid (Blk wg Wd.heap.size [.int .i64 0,.int .i64 0,.string ⟨#[]⟩,.slice none 0 0]):=J (by rw [hwg];exact Blk.new _ _ _ _ rfl)
  have hB:Below Wd.heap.size Wd wg:=by rw [hwg];exact yA _ _
  have HCwg:Hid (Below W0.heap.size W0 wg):=J (yB HCWd.out (by omega) hB)
  obtain ⟨g,hgg⟩:=I (Wd.heap.size)
  rw [←hgg] at HG
  rw [←hwg,←hgg]
  have hgg1:Wd.heap.size≤g:=by omega
  have hgg2:g≤Wd.heap.size:=by omega
  clear hwg hB hgg
  refine hK.out _ _ (HQ.out _ HCwg.out) fun _=>?_
  clear hK K hHeld;rename_i hHeld;try simp only [Act.put,pA,pB,pC]
  refine rgO 0 fun K hK=>?_
  go_simp
  go_at_call 59
  refine (word_cword ⟨#[98,101,104]⟩ _).mono ?_
  rintro e wa ⟨rfl,hB⟩
  have hzwa:=hB.size
  have HCwa:Hid (Below W0.heap.size W0 wa):=J (yB HCwg.out (by omega) hB)
  have HG:=J (HG.out.step hB)
  clear hB
  refine hK.out _ _ (HQ.out _ HCwa.out) fun _=>?_
  clear hK K hHeld;rename_i hHeld;try simp only [Act.put,pA,pB,pC]
  refine rgO 3 fun K hK=>?_
  go_simp
  go_at_call 59
  refine (word_cword b.name _).mono ?_
  rintro e wb ⟨rfl,hB⟩
  have hzwb:=hB.size
  have HCwb:Hid (Below W0.heap.size W0 wb):=J (yB HCwa.out (by omega) hB)
  have HG:=J (HG.out.step hB)
  clear hB
  refine hK.out _ _ (HQ.out _ HCwb.out) fun _=>?_
  clear hK K hHeld;rename_i hHeld;try simp only [Act.put,pA,pB,pC]
  refine rgO 4 fun K hK=>?_
  go_simp
  obtain ⟨wl,hwl⟩:=I (wb.alloc (.cells #[.int .i64 2,.int .i64 0,.string ⟨#[98,101,104]⟩,.slice none 0 0,.int .i64 2,.int .i64 0,.string b.name,.slice none 0 0] 25))
  have hzwl:wb.heap.size+1≤wl.heap.size:=by rw [hwl];simp
  have hzwl':wl.heap.size≤wb.heap.size+1:=by rw [hwl];simp
  have HOl:Hid (∀ P:Nat→Prop,OwnG P W0.heap.size wl (.slice (some ⟨wb.heap.size,0,none⟩) 2 2) [yP sBeh,yP b.name]):=J (fun P=>by rw [hwl];exact OwnG.lit (n:=2) (S:=fun _=>False) (CellsT.word sBeh (CellsT.word b.name CellsT.nil)) (fun _ hb=>hb.elim) (by omega) rfl (by omega) rfl)
  have hB:Below wb.heap.size wb wl:=by rw [hwl];exact yA _ _
  have HCwl:Hid (Below W0.heap.size W0 wl):=J (yB HCwb.out (by omega) hB)
  have HG:=J (HG.out.step hB)
  obtain ⟨gl,hgl⟩:=I (wb.heap.size)
  rw [←hgl] at HOl
  rw [←hwl,←hgl]
  have hgl1:wb.heap.size≤gl:=by omega
  have hgl2:gl≤wb.heap.size:=by omega
  clear hwl hB hgl
  refine hK.out _ _ (HQ.out _ HCwl.out) fun _=>?_
  clear hK K hHeld;rename_i hHeld;try simp only [Act.put,pA,pB,pC]
  refine rgO 5 fun K hK=>?_
  go_simp
  go_at_call 58
  refine (ctuple_c _ _ _ _).mono ?_
  rintro e wt ⟨rfl,hB⟩
  have hzwt:=hB.size
  have HCwt:Hid (Below W0.heap.size W0 wt):=J (yB HCwl.out (by omega) hB)
  have HOl:=J (fun P=>(HOl.out P).below hB)
  have HG:=J (HG.out.step hB)
  clear hB
  refine hK.out _ _ (HQ.out _ HCwt.out) fun _=>?_
  clear hK K hHeld;rename_i hHeld;try simp only [Act.put,pA,pB,pC]
  refine rgO 7 fun K hK=>?_
  refine wp_store_blk 25 4 yN _ _ rfl rfl rfl rfl HG.out rfl rfl rfl ?_
  intro W' hF hs' hBW hoth
  have HF:=J hF
  have HFB:Hid (Below W0.heap.size W0 W'):=J (hBW _ _ (by omega) HCwt.out)
  have HOTH:=J hoth
  clear hF hBW hoth
  refine hK.out _ _ (HQ.out _ HFB.out) fun _=>?_
  clear hK K hHeld;rename_i hHeld;try simp only [Act.put,pA,pB,pC]
  refine rgD ?_
  clear hHeld
  go_wp2_with fail
  go_meet
  have hne:gl≠g:=by omega
  exact ⟨g,gl,rfl,by omega,HFB.out,HF.out,(HOl.out _).to (by omega) (fun x hx _=>HOTH.out x (fun e=>by rcases hx with hx | hx;exact hx.2 e;exact hne (by simpa [Value.ownBlock] using hx.trans (congrArg some e)))),hne⟩
 obtain ⟨g,gl,rfl,hg,hB2,hG,hO,hne⟩:=hcut
 have hgl:=hG.lt
 have hs2:=hB2.size
 have HG:=J hG
 have HO:=J hO
 have HB2:=J hB2
 have HNE:=J hne
 have z1c:wc.cell? ⟨w.heap.size,1,none⟩=some (.slice a b.clauses.length cap):=(hB2.cell (p:=⟨w.heap.size,1,none⟩) (by show w.heap.size < _;omega)).trans z1
 clear z0 z1 hG hO hB2 hne
 go_wp2_with fail
 go_loopw [4,31] (fun s4 i wr=>ToldRel W0 g q0 b s4 i wr) (fun _ i _=>b.clauses.length - (intOf i).toNat)
 case atStart=>exact ⟨0,q0,_,Nat.zero_le _,rfl,rfl,by simp,HO.out,(fun e=>HNE.out (by simpa [Value.ownBlock] using e)),HB2.out,HG.out⟩
 obtain ⟨k,q,row,hkl,rfl,rfl,hq,hO,hne,hB,hG⟩:=hrel
 obtain ⟨L,hL⟩:∃ L,L=yP sBeh :: yP b.name :: (b.clauses.take k).map clauT:=⟨_,rfl⟩
 have hLl:L.length≤k+2:=by rw [hL];simp;omega
 rw [←hL] at hO
 obtain ⟨ar,capr,rfl⟩:=hO.form
 have hsz:=hB.size
 have hgr:=hG.lt
 have HO:=J hO
 have HNE:=J hne
 have HB:=J hB
 have HG:=J hG
 have HQ:=J hq
 have HL:=J hL
 have HVr:=J (HV0.out.below HB.out)
 have HBr:Hid (Below w.heap.size w wr):=J (HB0.out.trans (HB.out.mono (by omega)))
 clear hO hne hB hG hq hL z1c
 by_cases hlt:k < b.clauses.length
 ·obtain ⟨ba,oa,rfl⟩:=HVr.out.addr (by decide) (by omega)
  obtain ⟨cells,hC,hcells⟩:=HVr.out.elem k hlt
  have hbk:=clausB_mem (List.getElem_mem hlt)
  obtain ⟨c,hc⟩:∃ c,c=b.clauses[k]:=⟨_,rfl⟩
  rw [←hc] at hC hbk
  obtain ⟨e1,f1,e2,f2,e3,f3,e4,f4,rfl,ht1,ht2,htA,ht4⟩:=hC
  have HR:Hid (wr.rangeAt ba (oa+k * 13) [.int .i64 c.state.kind,.int .i64 c.state.n,.string c.state.name,.slice e1 c.state.args.length f1,.int .i64 c.message.kind,.int .i64 c.message.n,.string c.message.name,.slice e2 c.message.args.length f2,.slice e3 c.acts.length f3,.int .i64 c.next.kind,.int .i64 c.next.n,.string c.next.name,.slice e4 c.next.args.length f4]):=J (fun i u hu=>(hcells i u hu).2)
  have HT1:=J ht1
  have HT2:=J ht2
  have HTA:=J htA
  have HT4:=J ht4
  have HCK:=J hc
  have hik:(k:Int) < b.clauses.length:=by omega
  have hbd:=deedsB_len c.acts
  have hba:deedsB c.acts≤clauB c:=by unfold clauB;omega
  have hbs:yC [c.state]≤clauB c∧yC [c.message]≤clauB c∧yC [c.next]≤clauB c:=by unfold clauB;omega
  clear hc ht1 ht2 htA ht4 hcells
  go_upto_region 6 with (refine load_at (o:=⟨some 34,.load 82 (.tmp 33),_,_,_,_⟩) 82 13 szClau _ Tryz.underlying82 rfl _ rfl rfl rfl HR.out rfl ?_)
  obtain ⟨W7,hW7⟩:=I (wr.alloc (.cells #[.int .i64 c.state.kind,.int .i64 c.state.n,.string c.state.name,.slice e1 c.state.args.length f1,.int .i64 c.message.kind,.int .i64 c.message.n,.string c.message.name,.slice e2 c.message.args.length f2,.slice e3 c.acts.length f3,.int .i64 c.next.kind,.int .i64 c.next.n,.string c.next.name,.slice e4 c.next.args.length f4] 82))
  obtain ⟨g7,hg7⟩:=I (wr.heap.size)
  have HX7:Hid (Blk W7 g7 [.int .i64 c.state.kind,.int .i64 c.state.n,.string c.state.name,.slice e1 c.state.args.length f1,.int .i64 c.message.kind,.int .i64 c.message.n,.string c.message.name,.slice e2 c.message.args.length f2,.slice e3 c.acts.length f3,.int .i64 c.next.kind,.int .i64 c.next.n,.string c.next.name,.slice e4 c.next.args.length f4]):=J (by rw [hW7];exact Blk.new _ _ _ _ hg7)
  have HB7:Hid (Below wr.heap.size wr W7):=J (by rw [hW7];exact yA _ _)
  have hs7:wr.heap.size+1≤W7.heap.size:=by rw [hW7];simp
  have h71:wr.heap.size≤g7:=by omega
  have h72:g7≤wr.heap.size:=by omega
  rw [←hW7,←hg7]
  clear hW7 hg7
  obtain ⟨q1,hq1⟩:∃ q1,q1=(q && decide ((c.acts.length:Int)≤8)):=⟨_,rfl⟩
  have HQ1:=J hq1
  have y8:=HX7.out.cell 8 _ rfl
  clear hq1
  go_cut [4] (fun s4 wx=>s4=.bool q1∧wx=W7)
  case first =>
   cases q
   ·have HQF:Hid (q1=false):=J (by rw [HQ1.out];rfl)
    go_wp2_with fail
    go_meet
    exact ⟨by rw [HQF.out],rfl⟩
   have HQF:Hid (q1=decide ((c.acts.length:Int)≤8)):=J (by rw [HQ1.out];rfl)
   go_wp2_with fail
   go_meet
   exact ⟨by rw [HQF.out],rfl⟩
  obtain ⟨rfl,hwc⟩:=hcut
  obtain rfl:W7=wc:=hwc.symm
  go_wp2_with fail
  refine (ctuple_c _ _ _ _).mono ?_
  rintro e w8 ⟨rfl,hB⟩
  have hs8:=hB.size
  have HB8:=J hB
  have y88:=(HX7.out.step hB).cell 8 _ rfl
  have hl78:g7 < w8.heap.size:=by omega
  clear hB y8
  go_wp2_with fail
  obtain ⟨W6,hW6⟩:=I (w8.alloc (.cells #[.int .i64 4,.int .i64 0,.string ⟨#[]⟩,.slice none 0 0] 25))
  obtain ⟨g8,hg8⟩:=I (w8.heap.size)
  have HG8:Hid (Blk W6 g8 [.int .i64 4,.int .i64 0,.string ⟨#[]⟩,.slice none 0 0]):=J (by rw [hW6];exact Blk.new _ _ _ _ hg8)
  have HB6:Hid (Below wr.heap.size wr W6):=J (by rw [hW6];exact (HB7.out.trans (HB8.out.mono (by omega))).alloc (by omega) _)
  have HX6:Hid (Blk W6 g7 [.int .i64 c.state.kind,.int .i64 c.state.n,.string c.state.name,.slice e1 c.state.args.length f1,.int .i64 c.message.kind,.int .i64 c.message.n,.string c.message.name,.slice e2 c.message.args.length f2,.slice e3 c.acts.length f3,.int .i64 c.next.kind,.int .i64 c.next.n,.string c.next.name,.slice e4 c.next.args.length f4]):=J (by rw [hW6];exact (HX7.out.step HB8.out).alloc _)
  have hs6:w8.heap.size+1≤W6.heap.size:=by rw [hW6];simp
  have h81:w8.heap.size≤g8:=by omega
  have h82:g8≤w8.heap.size:=by omega
  rw [←hW6,←hg8]
  clear hW6 hg8 y88
  have hg86:g8 < W6.heap.size:=by omega
  obtain ⟨wo,rfl⟩:∃ wo:World,wo=wr:=⟨_,rfl⟩
  go_loopw [4,46] (fun s4 i wi=>ActsRel W6 g8 q1 c s4 i wi) (fun _ i _=>c.acts.length - (intOf i).toNat)
  case atStart=>exact ⟨0,q1,_,Nat.zero_le _,rfl,rfl,by simp,OwnG.nil _ _ _,Keep.refl _ _,HG8.out⟩
  obtain ⟨j,q2,row8,hjl,rfl,rfl,hq2,hO8,hK8,hG8⟩:=hrel
  obtain ⟨L8,hL8⟩:∃ L8,L8=(c.acts.take j).map deedT:=⟨_,rfl⟩
  have hL8l:L8.length≤j:=by rw [hL8];simp;omega
  rw [←hL8] at hO8
  obtain ⟨a8,c8,rfl⟩:=hO8.form
  have hsi:=hK8.size
  have HO8:=J hO8
  have HK8:=J hK8
  have HGI:=J hG8
  have HQ2:=J hq2
  have HL8:=J hL8
  have HBi:Hid (Below wo.heap.size wo wr):=J (HB6.out.trans (hK8.below (by omega) fun b e=>by omega))
  clear hO8 hK8 hG8 hq2 hL8
  by_cases hlj:j < c.acts.length
  ·obtain ⟨bb,ob,rfl⟩:=(HTA.out.below HBi.out).addr (by decide) (by omega)
   obtain ⟨cells,hD,hdc⟩:=(HTA.out.below HBi.out).elem j hlj
   have hbj:=deedsB_mem (List.getElem_mem hlj)
   obtain ⟨d,hd⟩:∃ d,d=c.acts[j]:=⟨_,rfl⟩
   rw [←hd] at hD hbj
   obtain ⟨b1,p1,b2,p2,rfl,hr1,hr2⟩:=hD
   have HRD:Hid (wr.rangeAt bb (ob+j * 11) [.int .i64 d.kind,.int .i64 d.to.kind,.int .i64 d.to.n,.string d.to.name,.slice b1 d.to.args.length p1,.int .i64 d.what.kind,.int .i64 d.what.n,.string d.what.name,.slice b2 d.what.args.length p2,.string d.name,.int .i64 d.var]):=J (fun i u hu=>(hdc i u hu).2)
   have hr1':=(hr1.mono (S':=fun x=>x < wr.heap.size) (fun x hx=>by have:=HS.out x hx;omega)).alloc (.cells #[.int .i64 d.kind,.int .i64 d.to.kind,.int .i64 d.to.n,.string d.to.name,.slice b1 d.to.args.length p1,.int .i64 d.what.kind,.int .i64 d.what.n,.string d.what.name,.slice b2 d.what.args.length p2,.string d.name,.int .i64 d.var] 84)
   have hr2':=(hr2.mono (S':=fun x=>x < wr.heap.size) (fun x hx=>by have:=HS.out x hx;omega)).alloc (.cells #[.int .i64 d.kind,.int .i64 d.to.kind,.int .i64 d.to.n,.string d.to.name,.slice b1 d.to.args.length p1,.int .i64 d.what.kind,.int .i64 d.what.n,.string d.what.name,.slice b2 d.what.args.length p2,.string d.name,.int .i64 d.var] 84)
   have HR1:=J (hr1'.mono (S':=fun x=>x < (wr.alloc (.cells #[.int .i64 d.kind,.int .i64 d.to.kind,.int .i64 d.to.n,.string d.to.name,.slice b1 d.to.args.length p1,.int .i64 d.what.kind,.int .i64 d.what.n,.string d.what.name,.slice b2 d.what.args.length p2,.string d.name,.int .i64 d.var] 84)).heap.size) (fun x hx=>by simp;omega))
   have HR2:=J (hr2'.mono (S':=fun x=>x < (wr.alloc (.cells #[.int .i64 d.kind,.int .i64 d.to.kind,.int .i64 d.to.n,.string d.to.name,.slice b1 d.to.args.length p1,.int .i64 d.what.kind,.int .i64 d.what.n,.string d.what.name,.slice b2 d.what.args.length p2,.string d.name,.int .i64 d.var] 84)).heap.size) (fun x hx=>by simp;omega))
   have HBa:=J (yA wr (.cells #[.int .i64 d.kind,.int .i64 d.to.kind,.int .i64 d.to.n,.string d.to.name,.slice b1 d.to.args.length p1,.int .i64 d.what.kind,.int .i64 d.what.n,.string d.what.name,.slice b2 d.what.args.length p2,.string d.name,.int .i64 d.var] 84))
   have HDJ:=J hd
   have hij:(j:Int) < c.acts.length:=by omega
   clear hd hr1 hr2 hr1' hr2' hdc
   go_wp2_with (refine load_at (o:=⟨some 49,.load 84 (.tmp 48),_,_,_,_⟩) 84 11 szDeed _ Tryz.underlying84 rfl _ rfl rfl rfl HRD.out rfl ?_)
   refine (actT_c d b1 p1 b2 p2 _ HR1.out HR2.out (by omega)).mono ?_
   rintro e w1 ⟨at1,ct,he,hB,hRT⟩
   obtain ⟨td,htd⟩:∃ td,td=deedT d:=⟨_,rfl⟩
   obtain ⟨z,hz⟩:∃ z,z=deedOk d:=⟨_,rfl⟩
   rw [←htd,←hz] at he
   rw [←htd] at hRT
   subst he
   have hs1:=hB.size
   simp only [World.size_alloc] at hs1
   have HB1:Hid (Below wr.heap.size wr w1):=J (yB HBa.out (by simp) hB)
   have HQ3:Hid ((q2 && z)=(q1 && (c.acts.take (j+1)).all deedOk)):=J (by rw [allB_snoc _ hlj,←HDJ.out,hz,HQ2.out,Bool.and_assoc])
   have HL3:Hid (L8 ++ [td]=(c.acts.take (j+1)).map deedT):=J (by rw [map_snoc _ hlj,←HDJ.out,htd,HL8.out])
   have HRT:=J (hRT.alloc (.cells #[.int .i64 td.kind,.int .i64 td.n,.string td.name,.slice at1 td.args.length ct] 25))
   have HG1:=J (HGI.out.step HB1.out)
   have HO1:=J ((HO8.out.below HB1.out).alloc (.cells #[.int .i64 td.kind,.int .i64 td.n,.string td.name,.slice at1 td.args.length ct] 25))
   have HOB:=J HO8.out.block
   have r3:=HG1.out.cell 3 _ rfl
   have rf:=HG1.out.fr
   have rl:=HG1.out.lt
   have hne1:g8≠w1.heap.size:=by omega
   have hne2:g8≠w1.heap.size+1:=by omega
   clear htd hz hB hRT
   cases q2
   all_goals (
    go_wp2_with (at_builtin;refine append_grow' (v:=.slice a8 L8.length c8) (g:=w1.heap.size+1) _ _ rfl rfl (by rfl) (by rfl) (by simp) HO1.out HRT.out (fun x hx hl=>⟨by simp at hx;omega,fun he=>by have:=HOB.out x he;simp at hx;omega⟩) (by omega) (by simp;omega) ?_;intro v3 w3 hO3 hB3 hw3;obtain ⟨gg,cg,hv3⟩:=hO3.form;obtain rfl:v3=.slice gg (L8.length+1) cg:=(by rw [hv3,List.length_append];rfl);have g83:=(hB3.cell (p:=⟨g8,3,none⟩) hg86).trans ((HG1.out.alloc (.cells #[.int .i64 td.kind,.int .i64 td.n,.string td.name,.slice at1 td.args.length ct] 25)).cell 3 _ rfl);have gf3:=fun o=>(hB3.frozen (p:=⟨g8,o,none⟩) hg86).trans ((HG1.out.alloc (.cells #[.int .i64 td.kind,.int .i64 td.n,.string td.name,.slice at1 td.args.length ct] 25)).fr o);have HO3:=J hO3;have HB3:=J hB3;clear hO3 hB3 hw3 hv3)
    go_roundw
    case rel =>
     have h1:=HO3.out.setCell g8 3 (.slice gg (L8.length+1) cg) hg86 (Nat.not_le.2 hg86)
     rw [HL3.out] at h1
     have h2:=((HK8.out.then (HB1.out.alloc (by omega) (.cells #[.int .i64 td.kind,.int .i64 td.n,.string td.name,.slice at1 td.args.length ct] 25))).thenB HB3.out).setCell (b:=g8) (o:=3) (.slice gg (L8.length+1) cg) (.inl rfl)
     have h3:Blk (w3.setCell ⟨g8,3,none⟩ (.slice gg (L8.length+1) cg)) g8 [.int .i64 4,.int .i64 0,.string ⟨#[]⟩,.slice gg (L8.length+1) cg]:=((HG1.out.alloc (.cells #[.int .i64 td.kind,.int .i64 td.n,.string td.name,.slice at1 td.args.length ct] 25)).below HB3.out hg86).set 3 (.slice gg (L8.length+1) cg) (by simp)
     refine ⟨j+1,_,(.slice gg (L8.length+1) cg),hlj,by go_num,rfl,by simpa using HQ3.out,?_,?_,?_⟩
     ·with_reducible exact h1
     ·with_reducible exact h2
     ·with_reducible exact h3
    case measure=>simp [intOf];omega)
  skip
  have hjj:j=c.acts.length:=by omega
  subst hjj
  have HAL:Hid (L8=c.acts.map deedT):=J (by rw [HL8.out,List.take_of_length_le (Nat.le_refl _)])
  have HACT:Hid (RT (fun x=>W7.heap.size≤x) wr (tupT (c.acts.map deedT)) (.agg #[.int .i64 4,.int .i64 0,.string ⟨#[]⟩,.slice a8 L8.length c8])):=J (by rw [←HAL.out];exact tupT_rt ((HO8.out.rsl (fun b hb=>hb)).mono fun b hb=>by omega))
  have HQ15:Hid (q2=(q0 && (b.clauses.take (k+1)).all clauOk)):=J (by
   have d8:decide ((c.acts.length:Int)≤8)=decide (c.acts.length≤8):=by rw [decide_eq_decide];omega
   rw [allB_snoc _ hlt,←HCK.out,HQ2.out,HQ1.out,HQ.out,List.take_of_length_le (Nat.le_refl _),d8]
   unfold clauOk
   rw [Bool.and_assoc,Bool.and_assoc])
  have HL15:Hid (L ++ [clauT c]=yP sBeh :: yP b.name :: (b.clauses.take (k+1)).map clauT):=J (by rw [map_snoc _ hlt,←HCK.out,HL.out];rfl)
  have HXI:Hid (Blk wr g7 [.int .i64 c.state.kind,.int .i64 c.state.n,.string c.state.name,.slice e1 c.state.args.length f1,.int .i64 c.message.kind,.int .i64 c.message.n,.string c.message.name,.slice e2 c.message.args.length f2,.slice e3 c.acts.length f3,.int .i64 c.next.kind,.int .i64 c.next.n,.string c.next.name,.slice e4 c.next.args.length f4]):=J (HX6.out.keep HK8.out (fun e=>by omega))
  have HT1w:=J (HT1.out.below HBi.out)
  have HT2w:=J (HT2.out.below HBi.out)
  have HT4w:=J (HT4.out.below HBi.out)
  have hglr:g < wr.heap.size:=by omega
  have hg7r:g7 < wr.heap.size:=by omega
  have hg8r:g8 < wr.heap.size:=by omega
  have hworz:wo.heap.size+1≤wr.heap.size:=by omega
  have gr0:wr.cell? ⟨g,3,none⟩=some (.slice ar L.length capr):=((HG.out.step HBi.out).cell 3 _ rfl)
  have HOB:=J HO.out.block
  have hij:¬(c.acts.length:Int) < c.acts.length:=by omega
  go_upto_region 15 with fail
  have HQS:Hid (∀ w':World,w'.heap[g7]?=wr.heap[g7]?→w'.heap[g8]?=wr.heap[g8]?→w'.cell? ⟨g7,0,none⟩=some (.int .i64 c.state.kind)∧w'.cell? ⟨g7,1,none⟩=some (.int .i64 c.state.n)∧w'.cell? ⟨g7,2,none⟩=some (.string c.state.name)∧w'.cell? ⟨g7,3,none⟩=some (.slice e1 c.state.args.length f1)∧w'.cell? ⟨g7,4,none⟩=some (.int .i64 c.message.kind)∧w'.cell? ⟨g7,5,none⟩=some (.int .i64 c.message.n)∧w'.cell? ⟨g7,6,none⟩=some (.string c.message.name)∧w'.cell? ⟨g7,7,none⟩=some (.slice e2 c.message.args.length f2)∧w'.cell? ⟨g7,9,none⟩=some (.int .i64 c.next.kind)∧w'.cell? ⟨g7,10,none⟩=some (.int .i64 c.next.n)∧w'.cell? ⟨g7,11,none⟩=some (.string c.next.name)∧w'.cell? ⟨g7,12,none⟩=some (.slice e4 c.next.args.length f4)∧w'.cell? ⟨g8,0,none⟩=some (.int .i64 4)∧w'.cell? ⟨g8,1,none⟩=some (.int .i64 0)∧w'.cell? ⟨g8,2,none⟩=some (.string ⟨#[]⟩)∧w'.cell? ⟨g8,3,none⟩=some (.slice a8 L8.length c8)):=J fun w' e7 e8=>⟨(World.cell?_of_block (w:=wr) e7).trans (HXI.out.cell 0 _ rfl),(World.cell?_of_block (w:=wr) e7).trans (HXI.out.cell 1 _ rfl),(World.cell?_of_block (w:=wr) e7).trans (HXI.out.cell 2 _ rfl),(World.cell?_of_block (w:=wr) e7).trans (HXI.out.cell 3 _ rfl),(World.cell?_of_block (w:=wr) e7).trans (HXI.out.cell 4 _ rfl),(World.cell?_of_block (w:=wr) e7).trans (HXI.out.cell 5 _ rfl),(World.cell?_of_block (w:=wr) e7).trans (HXI.out.cell 6 _ rfl),(World.cell?_of_block (w:=wr) e7).trans (HXI.out.cell 7 _ rfl),(World.cell?_of_block (w:=wr) e7).trans (HXI.out.cell 9 _ rfl),(World.cell?_of_block (w:=wr) e7).trans (HXI.out.cell 10 _ rfl),(World.cell?_of_block (w:=wr) e7).trans (HXI.out.cell 11 _ rfl),(World.cell?_of_block (w:=wr) e7).trans (HXI.out.cell 12 _ rfl),(World.cell?_of_block (w:=wr) e8).trans (HGI.out.cell 0 _ rfl),(World.cell?_of_block (w:=wr) e8).trans (HGI.out.cell 1 _ rfl),(World.cell?_of_block (w:=wr) e8).trans (HGI.out.cell 2 _ rfl),(World.cell?_of_block (w:=wr) e8).trans (HGI.out.cell 3 _ rfl)⟩
  refine yK (fun w'=>w'.cell? ⟨g7,0,none⟩=some (.int .i64 c.state.kind)∧w'.cell? ⟨g7,1,none⟩=some (.int .i64 c.state.n)∧w'.cell? ⟨g7,2,none⟩=some (.string c.state.name)∧w'.cell? ⟨g7,3,none⟩=some (.slice e1 c.state.args.length f1)∧w'.cell? ⟨g7,4,none⟩=some (.int .i64 c.message.kind)∧w'.cell? ⟨g7,5,none⟩=some (.int .i64 c.message.n)∧w'.cell? ⟨g7,6,none⟩=some (.string c.message.name)∧w'.cell? ⟨g7,7,none⟩=some (.slice e2 c.message.args.length f2)∧w'.cell? ⟨g7,9,none⟩=some (.int .i64 c.next.kind)∧w'.cell? ⟨g7,10,none⟩=some (.int .i64 c.next.n)∧w'.cell? ⟨g7,11,none⟩=some (.string c.next.name)∧w'.cell? ⟨g7,12,none⟩=some (.slice e4 c.next.args.length f4)∧w'.cell? ⟨g8,0,none⟩=some (.int .i64 4)∧w'.cell? ⟨g8,1,none⟩=some (.int .i64 0)∧w'.cell? ⟨g8,2,none⟩=some (.string ⟨#[]⟩)∧w'.cell? ⟨g8,3,none⟩=some (.slice a8 L8.length c8)) (by as_aux_lemma=>kernel_rfl) (fun Wd h=>HQS.out _ (h.block g7 (by omega)) (h.block g8 (by omega))) ?_
  intro Wd hB hWd hWd' hHeld
  have E7Wd:Hid (Wd.heap[g7]?=wr.heap[g7]?):=J (hB.block g7 (by omega))
  have E8Wd:Hid (Wd.heap[g8]?=wr.heap[g8]?):=J (hB.block g8 (by omega))
  have HCWd:=J hB
  have grWd:Wd.cell? ⟨g,3,none⟩=some (.slice ar L.length capr):=(hB.cell (p:=⟨g,3,none⟩) hglr).trans gr0
  clear hB
  refine rgT 0 _ hHeld ?_
  refine rgT 3 _ hHeld ?_
  refine rgT 4 _ hHeld ?_
  refine rgT 6 _ hHeld ?_
  refine rgT 7 _ hHeld ?_
  refine rgT 9 _ hHeld ?_
  refine rgT 10 _ hHeld ?_
  refine rgT 11 _ hHeld ?_
  refine rgW 1 2 (fun K hK=>?_) fun K hK=>?_
  focus
   go_simp
   skip
   refine hK.out _ _ (hHeld) fun _=>?_
   clear hK K hHeld;rename_i hHeld;try simp only [Act.put,pA,pB,pC]
   refine rgO 2 fun K hK=>?_
  all_goals
   go_simp
   go_at_call 59
   refine (word_cword ⟨#[111,110]⟩ _).mono ?_
   rintro e wa ⟨rfl,hB⟩
   have hzwa:=hB.size
   have E7wa:Hid (wa.heap[g7]?=wr.heap[g7]?):=J ((hB.block g7 (by omega)).trans E7Wd.out)
   have E8wa:Hid (wa.heap[g8]?=wr.heap[g8]?):=J ((hB.block g8 (by omega)).trans E8Wd.out)
   have HCwa:Hid (Below wr.heap.size wr wa):=J (yB HCWd.out (by omega) hB)
   have grwa:=(HCwa.out.cell (p:=⟨g,3,none⟩) hglr).trans gr0
   clear hB
   refine hK.out _ _ (HQS.out _ E7wa.out E8wa.out) fun _=>?_
   clear hK K hHeld;rename_i hHeld;try simp only [Act.put,pA,pB,pC]
  rotate_left 1
  all_goals first | (refine rgO 5 fun K hK=>?_) | skip
  refine rgW 1 5 (fun K hK=>?_) fun K hK=>?_
  focus
   go_simp
   skip
   refine hK.out _ _ (hHeld) fun _=>?_
   clear hK K hHeld;rename_i hHeld;try simp only [Act.put,pA,pB,pC]
   refine rgO 5 fun K hK=>?_
  all_goals
   go_simp
   go_at_call 79
   refine (copied_c c.state _ _ _ (HT1w.out.below HCwa.out) (by omega)).mono ?_
   rintro e wx ⟨vwx,rfl,hB,bwx,qwx,rfl,hc,hr⟩
   have hzwx:=hB.size
   have HSwx:Hid (RT (fun x=>wr.heap.size≤x) wx c.state (.agg #[.int .i64 c.state.kind,.int .i64 c.state.n,.string c.state.name,.slice bwx c.state.args.length qwx])):=J (RT.to (S:=_) ⟨bwx,qwx,rfl,hc,hr⟩ (fun x hx _=>by omega) fun _ _ _=>rfl)
   have E7wx:Hid (wx.heap[g7]?=wr.heap[g7]?):=J ((hB.block g7 (by omega)).trans E7wa.out)
   have E8wx:Hid (wx.heap[g8]?=wr.heap[g8]?):=J ((hB.block g8 (by omega)).trans E8wa.out)
   have HCwx:Hid (Below wr.heap.size wr wx):=J (yB HCwa.out (by omega) hB)
   have grwx:=(HCwx.out.cell (p:=⟨g,3,none⟩) hglr).trans gr0
   clear hB hc hr
   refine hK.out _ _ (HQS.out _ E7wx.out E8wx.out) fun _=>?_
   clear hK K hHeld;rename_i hHeld;try simp only [Act.put,pA,pB,pC]
  rotate_left 1
  all_goals first | (refine rgO 8 fun K hK=>?_) | skip
  refine rgW 1 8 (fun K hK=>?_) fun K hK=>?_
  focus
   go_simp
   skip
   refine hK.out _ _ (hHeld) fun _=>?_
   clear hK K hHeld;rename_i hHeld;try simp only [Act.put,pA,pB,pC]
   refine rgO 8 fun K hK=>?_
  all_goals
   go_simp
   go_at_call 79
   refine (copied_c c.message _ _ _ (HT2w.out.below HCwx.out) (by omega)).mono ?_
   rintro e wy ⟨vwy,rfl,hB,bwy,qwy,rfl,hc,hr⟩
   have hzwy:=hB.size
   have HSwy:Hid (RT (fun x=>wr.heap.size≤x) wy c.message (.agg #[.int .i64 c.message.kind,.int .i64 c.message.n,.string c.message.name,.slice bwy c.message.args.length qwy])):=J (RT.to (S:=_) ⟨bwy,qwy,rfl,hc,hr⟩ (fun x hx _=>by omega) fun _ _ _=>rfl)
   have E7wy:Hid (wy.heap[g7]?=wr.heap[g7]?):=J ((hB.block g7 (by omega)).trans E7wx.out)
   have E8wy:Hid (wy.heap[g8]?=wr.heap[g8]?):=J ((hB.block g8 (by omega)).trans E8wx.out)
   have HCwy:Hid (Below wr.heap.size wr wy):=J (yB HCwx.out (by omega) hB)
   have grwy:=(HCwy.out.cell (p:=⟨g,3,none⟩) hglr).trans gr0
   have HSwx:=J (HSwx.out.below hB)
   clear hB hc hr
   refine hK.out _ _ (HQS.out _ E7wy.out E8wy.out) fun _=>?_
   clear hK K hHeld;rename_i hHeld;try simp only [Act.put,pA,pB,pC]
  rotate_left 1
  all_goals first | (refine rgO 12 fun K hK=>?_) | skip
  refine rgW 1 12 (fun K hK=>?_) fun K hK=>?_
  focus
   go_simp
   skip
   refine hK.out _ _ (hHeld) fun _=>?_
   clear hK K hHeld;rename_i hHeld;try simp only [Act.put,pA,pB,pC]
   refine rgO 12 fun K hK=>?_
  all_goals
   go_simp
   go_at_call 79
   refine (copied_c c.next _ _ _ (HT4w.out.below HCwy.out) (by omega)).mono ?_
   rintro e wu ⟨vwu,rfl,hB,bwu,qwu,rfl,hc,hr⟩
   have hzwu:=hB.size
   have HSwu:Hid (RT (fun x=>wr.heap.size≤x) wu c.next (.agg #[.int .i64 c.next.kind,.int .i64 c.next.n,.string c.next.name,.slice bwu c.next.args.length qwu])):=J (RT.to (S:=_) ⟨bwu,qwu,rfl,hc,hr⟩ (fun x hx _=>by omega) fun _ _ _=>rfl)
   have E7wu:Hid (wu.heap[g7]?=wr.heap[g7]?):=J ((hB.block g7 (by omega)).trans E7wy.out)
   have E8wu:Hid (wu.heap[g8]?=wr.heap[g8]?):=J ((hB.block g8 (by omega)).trans E8wy.out)
   have HCwu:Hid (Below wr.heap.size wr wu):=J (yB HCwy.out (by omega) hB)
   have grwu:=(HCwu.out.cell (p:=⟨g,3,none⟩) hglr).trans gr0
   have HSwx:=J (HSwx.out.below hB)
   have HSwy:=J (HSwy.out.below hB)
   clear hB hc hr
   refine hK.out _ _ (HQS.out _ E7wu.out E8wu.out) fun _=>?_
   clear hK K hHeld;rename_i hHeld;try simp only [Act.put,pA,pB,pC]
  rotate_left 1
  all_goals first | (refine rgO 13 fun K hK=>?_) | skip
  refine rgW 1 13 (fun K hK=>?_) fun K hK=>?_
  focus
   go_simp
   skip
   refine hK.out _ _ (hHeld) fun _=>?_
   clear hK K hHeld;rename_i hHeld;try simp only [Act.put,pA,pB,pC]
   refine rgO 13 fun K hK=>?_
  all_goals
   go_simp
   obtain ⟨wl,hwl⟩:=I (wu.alloc (.cells #[.int .i64 2,.int .i64 0,.string ⟨#[111,110]⟩,.slice none 0 0,.int .i64 c.state.kind,.int .i64 c.state.n,.string c.state.name,.slice bwx c.state.args.length qwx,.int .i64 c.message.kind,.int .i64 c.message.n,.string c.message.name,.slice bwy c.message.args.length qwy,.int .i64 4,.int .i64 0,.string ⟨#[]⟩,.slice a8 L8.length c8,.int .i64 c.next.kind,.int .i64 c.next.n,.string c.next.name,.slice bwu c.next.args.length qwu] 25))
   have hzl:wu.heap.size+1≤wl.heap.size:=by rw [hwl];simp
   have hzl':wl.heap.size≤wu.heap.size+1:=by rw [hwl];simp
   have hzle:wl.heap.size=wu.heap.size+1:=by omega
   have HLT:Hid (∀ w',Below wl.heap.size wl w'→RT (fun x=>W7.heap.size≤x) w' (clauT c) (.agg #[.int .i64 4,.int .i64 0,.string ⟨#[]⟩,.slice (some ⟨wu.heap.size,0,none⟩) 5 5])):=J (fun w' h=>tup_lit (S:=fun x=>W7.heap.size≤x) (w:=wu) (CellsT.word sOn (CellsT.tm (HSwx.out.mono fun x hx=>by omega) (CellsT.tm (HSwy.out.mono fun x hx=>by omega) (CellsT.tup (l:=c.acts.map deedT) (HACT.out.below HCwu.out) (CellsT.tm (HSwu.out.mono fun x hx=>by omega) CellsT.nil))))) 25 rfl rfl (by show Below (wu.heap.size+1) (wu.alloc (.cells #[.int .i64 2,.int .i64 0,.string ⟨#[111,110]⟩,.slice none 0 0,.int .i64 c.state.kind,.int .i64 c.state.n,.string c.state.name,.slice bwx c.state.args.length qwx,.int .i64 c.message.kind,.int .i64 c.message.n,.string c.message.name,.slice bwy c.message.args.length qwy,.int .i64 4,.int .i64 0,.string ⟨#[]⟩,.slice a8 L8.length c8,.int .i64 c.next.kind,.int .i64 c.next.n,.string c.next.name,.slice bwu c.next.args.length qwu] 25)) w';rw [←hwl,←hzle];exact h) (fun x hx _=>hx) (by omega))
   clear hzle
   have hB:Below wu.heap.size wu wl:=by rw [hwl];exact yA _ _
   have E7wl:Hid (wl.heap[g7]?=wr.heap[g7]?):=J ((hB.block g7 (by omega)).trans E7wu.out)
   have E8wl:Hid (wl.heap[g8]?=wr.heap[g8]?):=J ((hB.block g8 (by omega)).trans E8wu.out)
   have HCwl:Hid (Below wr.heap.size wr wl):=J (yB HCwu.out (by omega) hB)
   have grwl:=(HCwl.out.cell (p:=⟨g,3,none⟩) hglr).trans gr0
   obtain ⟨gn,hgn⟩:=I (wu.heap.size)
   rw [←hgn] at HLT
   rw [←hwl,←hgn]
   clear hwl hB hgn
   refine hK.out _ _ (HQS.out _ E7wl.out E8wl.out) fun _=>?_
   clear hK K hHeld;rename_i hHeld;try simp only [Act.put,pA,pB,pC]
  rotate_left 1
  all_goals first | (refine rgO 14 fun K hK=>?_) | skip
  refine rgW 1 14 (fun K hK=>?_) fun K hK=>?_
  focus
   go_simp
   skip
   refine hK.out _ _ (hHeld) fun _=>?_
   clear hK K hHeld;rename_i hHeld;try simp only [Act.put,pA,pB,pC]
   refine rgO 14 fun K hK=>?_
  all_goals
   go_simp
   go_at_call 58
   refine (ctuple_c _ _ _ _).mono ?_
   rintro e wt ⟨rfl,hB⟩
   have hzwt:=hB.size
   have HRT:=J (HLT.out _ hB)
   have E7wt:Hid (wt.heap[g7]?=wr.heap[g7]?):=J ((hB.block g7 (by omega)).trans E7wl.out)
   have E8wt:Hid (wt.heap[g8]?=wr.heap[g8]?):=J ((hB.block g8 (by omega)).trans E8wl.out)
   have HCwt:Hid (Below wr.heap.size wr wt):=J (yB HCwl.out (by omega) hB)
   have grwt:=(HCwt.out.cell (p:=⟨g,3,none⟩) hglr).trans gr0
   clear hB HLT
   refine hK.out _ _ (HQS.out _ E7wt.out E8wt.out) fun _=>?_
   clear hK K hHeld;rename_i hHeld;try simp only [Act.put,pA,pB,pC]
  rotate_left 1
  all_goals first | (refine rgO 15 fun K hK=>?_) | skip
  refine rgW 1 15 (fun K hK=>?_) fun K hK=>?_
  focus
   go_simp
   skip
   refine hK.out _ _ (hHeld) fun _=>?_
   clear hK K hHeld;rename_i hHeld;try simp only [Act.put,pA,pB,pC]
   refine rgO 15 fun K hK=>?_
  all_goals
   go_simp
   have grw15:(wt.alloc (.cells #[.int .i64 4,.int .i64 0,.string ⟨#[]⟩,.slice (some ⟨gn,0,none⟩) 5 5] 25)).cell? ⟨g,3,none⟩=some (.slice ar L.length capr):=((yA wt (.cells #[.int .i64 4,.int .i64 0,.string ⟨#[]⟩,.slice (some ⟨gn,0,none⟩) 5 5] 25)).cell (p:=⟨g,3,none⟩) (show g < wt.heap.size by omega)).trans grwt
   refine hK.out _ _ (HQS.out _ ((Below.heap_alloc wt (.cells #[.int .i64 4,.int .i64 0,.string ⟨#[]⟩,.slice (some ⟨gn,0,none⟩) 5 5] 25) g7 (by omega)).trans E7wt.out) ((Below.heap_alloc wt (.cells #[.int .i64 4,.int .i64 0,.string ⟨#[]⟩,.slice (some ⟨gn,0,none⟩) 5 5] 25) g8 (by omega)).trans E8wt.out)) fun _=>?_
   clear hK K hHeld;rename_i hHeld;try simp only [Act.put,pA,pB,pC]
  rotate_left 1
  focus
   refine rgO 1 fun K hK=>?_
   go_simp
   skip
   refine hK.out _ _ (hHeld) fun _=>?_
   clear hK K hHeld;rename_i hHeld;try simp only [Act.put,pA,pB,pC]
  all_goals
   refine rgO 16 fun K hK=>?_
   refine wp_grow (v:=.slice ar L.length capr) (g0:=wt.heap.size) _ _ rfl rfl (by rfl) (by rfl) rfl (HO.out.below (HBi.out.trans (HCwt.out.mono (by omega)))) HRT.out (fun x hx hl=>⟨⟨by omega,by omega⟩,fun he=>by have:=HOB.out x he;omega⟩) rfl (by omega) (by omega) ?_
   intro gg cg w3 hO3 hG3 hB3 hP3
   have q0:g7 < (wt.alloc (.cells #[.int .i64 4,.int .i64 0,.string ⟨#[]⟩,.slice (some ⟨gn,0,none⟩) 5 5] 25)).heap.size:=by rw [World.size_alloc];omega
   have q1:g8 < (wt.alloc (.cells #[.int .i64 4,.int .i64 0,.string ⟨#[]⟩,.slice (some ⟨gn,0,none⟩) 5 5] 25)).heap.size:=by rw [World.size_alloc];omega
   have q2:=hG3.block g7 q0 (fun he=>by have:=HOB.out _ he.symm;omega)
   have q3:=hG3.block g8 q1 (fun he=>by have:=HOB.out _ he.symm;omega)
   have E73:Hid (w3.heap[g7]?=wr.heap[g7]?):=J (q2.trans ((Below.heap_alloc wt (.cells #[.int .i64 4,.int .i64 0,.string ⟨#[]⟩,.slice (some ⟨gn,0,none⟩) 5 5] 25) g7 (by omega)).trans E7wt.out))
   have E83:Hid (w3.heap[g8]?=wr.heap[g8]?):=J (q3.trans ((Below.heap_alloc wt (.cells #[.int .i64 4,.int .i64 0,.string ⟨#[]⟩,.slice (some ⟨gn,0,none⟩) 5 5] 25) g8 (by omega)).trans E8wt.out))
   have hgw:g < (wt.alloc (.cells #[.int .i64 4,.int .i64 0,.string ⟨#[]⟩,.slice (some ⟨gn,0,none⟩) 5 5] 25)).heap.size:=by rw [World.size_alloc];omega
   have hgb:=hG3.block g hgw (fun he=>HNE.out he.symm)
   have hgb2:w3.heap[g]?=wt.heap[g]?:=hgb.trans (Below.heap_alloc wt (.cells #[.int .i64 4,.int .i64 0,.string ⟨#[]⟩,.slice (some ⟨gn,0,none⟩) 5 5] 25) g (by omega))
   have gr3:w3.cell? ⟨g,3,none⟩=some (.slice ar L.length capr):=(World.cell?_of_block (w:=wt) (a:=⟨g,3,none⟩) hgb2).trans grwt
   have HG3b:Hid (Blk w3 g [.int .i64 4,.int .i64 0,.string ⟨#[]⟩,.slice ar L.length capr]):=J (((HG.out.step HBi.out).step HCwt.out).heap hgb2)
   have gf3:=HG3b.out.fr
   have hggg:gg≠g:=fun he=>by
    subst he
    rcases hP3 with h | h
    ·exact HNE.out h
    ·omega
   have HNE3:Hid ((Value.slice (some ⟨gg,0,none⟩) (L.length+1) cg).ownBlock≠some g):=J (fun he=>hggg (by simpa [Value.ownBlock] using he))
   have HO3:=J hO3
   have HB3:=J hB3
   clear hO3 hG3 hB3 hP3 q0 q1 q2 q3 hgw hgb hgb2
   refine hK.out _ _ (HQS.out _ E73.out E83.out) fun _=>?_
   clear hK K hHeld;rename_i hHeld;try simp only [Act.put,pA,pB,pC]
  all_goals
   refine rgT 17 _ hHeld ?_
  all_goals
   refine rgO 18 fun K hK=>?_
   go_simp
   skip
   refine hK.out _ _ (HQS.out _ ((yD w3 g 3 _ g7 (by omega)).trans E73.out) ((yD w3 g 3 _ g8 (by omega)).trans E83.out)) fun _=>?_
   clear hK K hHeld;rename_i hHeld;try simp only [Act.put,pA,pB,pC]
  all_goals
   refine rgD ?_
   clear hHeld
   go_wp2_with fail
   go_roundw
   case rel =>
    have f1:=HO3.out.store1 g 3 (.slice (some ⟨gg,0,none⟩) (L.length+1) cg) HNE3.out (fun e=>e.2 rfl)
    rw [HL15.out] at f1
    have f2:Below W0.heap.size W0 (w3.setCell ⟨g,3,none⟩ (.slice (some ⟨gg,0,none⟩) (L.length+1) cg)):=((HB.out.trans (HBi.out.mono (by omega))).trans ((HCwt.out.mono (by omega)).trans HB3.out)).setCell (p:=⟨g,3,none⟩) hg _
    have f3:Blk (w3.setCell ⟨g,3,none⟩ (.slice (some ⟨gg,0,none⟩) (L.length+1) cg)) g [.int .i64 4,.int .i64 0,.string ⟨#[]⟩,.slice (some ⟨gg,0,none⟩) (L.length+1) cg]:=HG3b.out.set 3 (.slice (some ⟨gg,0,none⟩) (L.length+1) cg) (by simp)
    refine ⟨k+1,q2,(.slice (some ⟨gg,0,none⟩) (L.length+1) cg),hlt,by go_num,rfl,HQ15.out,?_,?_,?_,?_⟩
    ·with_reducible exact f1
    ·exact HNE3.out
    ·with_reducible exact f2
    ·with_reducible exact f3
   case measure=>simp [intOf];omega
 have hkk:k=b.clauses.length:=by omega
 subst hkk
 have HTT:Hid (behvT b=tupT L):=J (by unfold behvT;rw [HL.out,List.take_of_length_le (Nat.le_refl _)])
 have d1:decide ((1:Int)≤b.clauses.length)=decide (1≤b.clauses.length):=by rw [decide_eq_decide];omega
 have d2:decide ((b.clauses.length:Int)≤6)=decide (b.clauses.length≤6):=by rw [decide_eq_decide];omega
 have HOK:Hid (behvOk b=q):=J (by rw [HQ.out,HQ0.out,List.take_of_length_le (Nat.le_refl _),d1,d2];rfl)
 clear d1 d2
 have hik:¬(b.clauses.length:Int) < b.clauses.length:=by omega
 go_wp2_with (first | (refine load_blk (o:=⟨some 85,.load 25 (.tmp 5),_,_,_,_⟩) 25 4 yN _ Tryz.underlying25 rfl _ rfl rfl rfl HG.out rfl ?_) | (refine yI 25 4 yN _ _ rfl rfl rfl rfl rfl (HZ.out.step HB.out) rfl rfl rfl ?_;intro W' hF hs' hBW hoth;have HF:=J hF;have HFB:=J (hBW _ _ (by omega) HBr.out);have HOTH:=J hoth;clear hF hBW hoth))
 refine bodyPost_ret (yH Tryz.results61 yN _ Tryz.underlying25 rfl rfl HF.out rfl) rfl ⟨ar,capr,?_,HFB.out,?_⟩
 ·rw [HTT.out,HOK.out];rfl
 rw [HTT.out]
 refine tupT_rt (((OwnT.rsl2 HO.out).rsl.mono (S':=fun x=>W0.heap.size≤x) (fun x hx=>by rcases hx with hx | hx;exact (HO.out.block x hx).1;exact hx.1.1)).to (fun x hx _=>by omega) fun x hx _=>HOTH.out x (by omega))
end Go.Proofs.YtedfepnekjjmnabGreat
