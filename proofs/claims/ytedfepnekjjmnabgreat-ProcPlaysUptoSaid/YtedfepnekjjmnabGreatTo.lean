/-
  code.To: what tells a program as a term. No condition but a bound.
-/
import Derived.Test.YtedfepnekjjmnabGreatTold
import Derived.Test.YtedfepnekjjmnabGreatJf
namespace Go.Proofs.YtedfepnekjjmnabGreat
open Go.RowKit
set_option linter.unusedSimpArgs false
set_option linter.unusedVariables false
set_option maxRecDepth 100000
set_option maxHeartbeats 4000000
def ToP (w:World) (r:T×Int) (e:Ending) (w':World):Prop :=
 ∃ a cap,e=.returned (.tuple #[.agg #[.int .i64 r.1.kind,.int .i64 r.1.n,.string r.1.name,.slice a r.1.args.length cap],.int .i64 r.2])∧Below w.heap.size w w'∧RT (fun b=>w.heap.size≤b) w' r.1 (.agg #[.int .i64 r.1.kind,.int .i64 r.1.n,.string r.1.name,.slice a r.1.args.length cap])
def ProgRel (W0:World) (g:Nat) (q0:Bool) (l:List Behv) (s5 i:Value) (wr:World):Prop :=
 ∃ (k:Nat) (q:Bool) (row:Value),k≤l.length∧i=.int .i64 k∧s5=.bool q∧q=(q0 && (l.take k).all behvOk) ∧
  OwnG (fun b=>W0.heap.size≤b∧b≠g) W0.heap.size wr row (yP sCode :: (l.take k).map behvT)∧row.ownBlock≠some g∧Below W0.heap.size W0 wr∧Blk wr g [.int .i64 4,.int .i64 0,.string ⟨#[]⟩,row]
theorem toA_bad {l:List Behv} (h:progOk l=false):toA l=(yJ,5):=by unfold toA;rw [if_neg (by simp [h])]
theorem toA_check {l:List Behv} (h:progOk l=true) (hc:yE (progT l)≠0):toA l=(yJ,yE (progT l)):=by unfold toA;rw [if_pos h,if_neg hc]
theorem toA_ok {l:List Behv} (h:progOk l=true) (hc:yE (progT l)=0):toA l=(progT l,0):=by unfold toA;rw [if_pos h,if_pos hc]
theorem RT.zero {S:Nat→Prop} {w:World}:RT S w yJ (.agg #[.int .i64 0,.int .i64 0,.string ⟨#[]⟩,.slice none 0 0]):=⟨none,0,rfl,⟨Nat.le_refl _,fun _=>rfl⟩,by simp [yJ,RTs]⟩
theorem to_c (l:List Behv) (a:Option Addr) (cap:Nat) (S:Nat→Prop) (w:World) (hv:RX behvE S S w l (.slice a l.length cap)) (hS:∀ x,S x→x < w.heap.size) (hb:behvsB l≤8589934592) :
  Calls Tryz.prog 35 #[.slice a l.length cap] w (ToP w (toA l)):=by
 have hlb:=behvsB_len l
 have HV:=J hv
 have HS:=J hS
 obtain ⟨q0,hq0⟩:∃ q0,q0=(decide ((1:Int)≤l.length) && decide ((l.length:Int)≤7)):=⟨_,rfl⟩
 have HQ0:=J hq0
 clear hv hS hq0
 go_enter Tryz.func35,Tryz.ntmps35
 go_upto_region 1 with fail
 obtain ⟨W0,hW0⟩:=I (w.alloc (.cells #[.int .i64 0,.int .i64 0,.string ⟨#[]⟩,.slice none 0 0] 25))
 have HZ:Hid (Blk W0 w.heap.size [.int .i64 0,.int .i64 0,.string ⟨#[]⟩,.slice none 0 0]):=J (by rw [hW0];exact Blk.new _ _ _ _ rfl)
 have HB0:Hid (Below w.heap.size w W0):=J (by rw [hW0];exact yA _ _)
 have HV0:=J (HV.out.below HB0.out)
 have hs0:w.heap.size+1≤W0.heap.size:=by rw [hW0];simp
 rw [←hW0]
 clear hW0
 go_wp2_with fail
 refine (word_cword ⟨#[99,111,100,101]⟩ _).mono ?_
 rintro e w1 ⟨rfl,hB⟩
 have hs1:=hB.size
 have HB1:=J hB
 clear hB
 go_wp2_with fail
 obtain ⟨wl,hwl⟩:=I (w1.alloc (.cells #[.int .i64 2,.int .i64 0,.string ⟨#[99,111,100,101]⟩,.slice none 0 0] 25))
 obtain ⟨gl,hgl⟩:=I (w1.heap.size)
 have hzl:w1.heap.size+1≤wl.heap.size:=by rw [hwl];simp
 have HOl:Hid (OwnG (fun _=>False) W0.heap.size wl (.slice (some ⟨gl,0,none⟩) 1 1) [yP sCode]):=J (by rw [hwl];exact OwnG.lit (n:=1) (S:=fun _=>False) (CellsT.word sCode CellsT.nil) (fun _ hb=>hb.elim) (by omega) rfl (by omega) hgl)
 have HBl:Hid (Below W0.heap.size W0 wl):=J (by rw [hwl];exact HB1.out.alloc (by omega) _)
 have hgl1:w1.heap.size≤gl:=by omega
 have hgl2:gl≤w1.heap.size:=by omega
 rw [←hwl,←hgl]
 clear hwl hgl
 refine (ctuple_c _ _ _ _).mono ?_
 rintro e w2 ⟨rfl,hB⟩
 have hs2:=hB.size
 have HO2:=J (HOl.out.below hB)
 have HB2:Hid (Below W0.heap.size W0 w2):=J (yB HBl.out (by omega) hB)
 clear hB
 go_wp2_with fail
 obtain ⟨W3,hW3⟩:=I (w2.alloc (.cells #[.int .i64 4,.int .i64 0,.string ⟨#[]⟩,.slice (some ⟨gl,0,none⟩) 1 1] 25))
 obtain ⟨g,hg⟩:=I (w2.heap.size)
 have HG3:Hid (Blk W3 g [.int .i64 4,.int .i64 0,.string ⟨#[]⟩,.slice (some ⟨gl,0,none⟩) 1 1]):=J (by rw [hW3];exact Blk.new _ _ _ _ hg)
 have HO3:Hid (OwnG (fun b=>W0.heap.size≤b∧b≠g) W0.heap.size W3 (.slice (some ⟨gl,0,none⟩) 1 1) [yP sCode]):=J (by rw [hW3];exact OwnT.to (HO2.out.alloc _) (Nat.le_refl _) (fun b hb _=>hb.1.elim) fun _ _ _=>rfl)
 have HB3:Hid (Below W0.heap.size W0 W3):=J (by rw [hW3];exact HB2.out.alloc (by omega) _)
 have hg1:w2.heap.size≤g:=by omega
 have hg2:g≤w2.heap.size:=by omega
 have hs3:w2.heap.size+1≤W3.heap.size:=by rw [hW3];simp
 rw [←hW3,←hg]
 clear hW3 hg
 refine (cwithin_c _ _ _ _).mono ?_
 rintro e w' ⟨he,hw⟩
 rw [←HQ0.out] at he
 subst he
 obtain rfl:W3=w':=hw.symm
 go_wp2_with fail
 go_loopw [5,19] (fun s5 i wr=>ProgRel W0 g q0 l s5 i wr) (fun _ i _=>l.length - (intOf i).toNat)
 case atStart=>exact ⟨0,q0,_,Nat.zero_le _,rfl,rfl,by simp,HO3.out,(fun e=>absurd (show gl=g by simpa [Value.ownBlock] using e) (by omega)),HB3.out,HG3.out⟩
 obtain ⟨k,q,row,hkl,rfl,rfl,hq,hO,hne,hB,hG⟩:=hrel
 obtain ⟨L,hL⟩:∃ L,L=yP sCode :: (l.take k).map behvT:=⟨_,rfl⟩
 have hLl:L.length≤k+1:=by rw [hL];simp;omega
 rw [←hL] at hO
 obtain ⟨ar,capr,rfl⟩:=hO.form
 have hsz:=hB.size
 have hgr:=hG.lt
 have HO:=J hO
 have HNE:=J hne
 have HB:=J hB
 have HG:=J hG
 have HQ:=J hq
 have HL:=J hL
 have HVr:=J (HV0.out.below HB.out)
 have HBr:Hid (Below w.heap.size w wr):=J (HB0.out.trans (HB.out.mono (by omega)))
 clear hO hne hB hG hq hL
 by_cases hlt:k < l.length
 ·obtain ⟨ba,oa,rfl⟩:=HVr.out.addr (by decide) (by omega)
  obtain ⟨cells,hC,hcells⟩:=HVr.out.elem k hlt
  have hbk:=behvsB_mem (List.getElem_mem hlt)
  obtain ⟨b,hbl⟩:∃ b,b=l[k]:=⟨_,rfl⟩
  rw [←hbl] at hC hbk
  obtain ⟨e1,f1,rfl,hX⟩:=hC
  have HR:Hid (wr.rangeAt ba (oa+k * 2) [.string b.name,.slice e1 b.clauses.length f1]):=J (fun i u hu=>(hcells i u hu).2)
  have HX:=J hX
  have HBL:=J hbl
  have hik:(k:Int) < l.length:=by omega
  clear hX hbl hcells
  go_wp2_with (refine load_at (o:=⟨some 22,.load 79 (.tmp 21),_,_,_,_⟩) 79 2 szBeh _ Tryz.underlying79 rfl _ rfl rfl rfl HR.out rfl ?_)
  refine (told_c b e1 f1 S _ (HX.out.below (yA wr (.cells #[.string b.name,.slice e1 b.clauses.length f1] 79))) (fun x hx=>by have:=HS.out x hx;simp;omega) (by omega)).mono ?_
  rintro e w1 ⟨at1,ct,he,hB,hRT⟩
  obtain ⟨tb,htb⟩:∃ tb,tb=behvT b:=⟨_,rfl⟩
  obtain ⟨z,hz⟩:∃ z,z=behvOk b:=⟨_,rfl⟩
  rw [←htb,←hz] at he
  rw [←htb] at hRT
  subst he
  have hs1:=hB.size
  simp only [World.size_alloc] at hs1 hRT
  have HB1:Hid (Below wr.heap.size wr w1):=J (yB (yA wr (.cells #[.string b.name,.slice e1 b.clauses.length f1] 79)) (by simp) hB)
  have HQ3:Hid ((q && z)=(q0 && (l.take (k+1)).all behvOk)):=J (by rw [allB_snoc _ hlt,←HBL.out,hz,HQ.out,Bool.and_assoc])
  have HL3:Hid (L ++ [tb]=yP sCode :: (l.take (k+1)).map behvT):=J (by rw [map_snoc _ hlt,←HBL.out,htb,HL.out];rfl)
  have HRT:=J (hRT.alloc (.cells #[.int .i64 tb.kind,.int .i64 tb.n,.string tb.name,.slice at1 tb.args.length ct] 25))
  have HG1:=J ((HG.out.step HB1.out).alloc (.cells #[.int .i64 tb.kind,.int .i64 tb.n,.string tb.name,.slice at1 tb.args.length ct] 25))
  have HO1:=J ((HO.out.below HB1.out).alloc (.cells #[.int .i64 tb.kind,.int .i64 tb.n,.string tb.name,.slice at1 tb.args.length ct] 25))
  have HOB:=J HO.out.block
  have r3:=(HG.out.step HB1.out).cell 3 _ rfl
  have rf:=(HG.out.step HB1.out).fr
  have rl:=(HG.out.step HB1.out).lt
  have hne1:g≠w1.heap.size:=by omega
  have hne2:g≠w1.heap.size+1:=by omega
  have hg0:W0.heap.size≤g:=by omega
  clear htb hz hB hRT
  cases q
  all_goals (
   go_wp2_with (at_builtin;refine append_grow2 (v:=.slice ar L.length capr) (g0:=w1.heap.size+1) _ _ rfl rfl (by rfl) (by rfl) (by simp) HO1.out HRT.out (fun x hx hl=>⟨⟨by omega,by omega⟩,fun he=>by have:=HOB.out x he;omega⟩) rfl (by omega) (by simp;omega) ?_;intro gg cg w3 hO3 hG3 hB3 hP3;have hgq:g < ((w1.alloc (.cells #[.int .i64 tb.kind,.int .i64 tb.n,.string tb.name,.slice at1 tb.args.length ct] 25)).alloc (.cells #[.int .i64 tb.kind,.int .i64 tb.n,.string tb.name,.slice at1 tb.args.length ct] 25)).heap.size:=(by simp;omega);have hgb:=hG3.block g hgq (fun he=>HNE.out he.symm);have HG4:Hid (Blk w3 g [.int .i64 4,.int .i64 0,.string ⟨#[]⟩,.slice ar L.length capr]):=J ((HG1.out.alloc _).heap hgb);have gr3:=HG4.out.cell 3 _ rfl;have gf3:=HG4.out.fr;have hggg:gg≠g:=(fun he=>by
    subst he
    rcases hP3 with h | h
    ·exact HNE.out h
    ·simp at h;omega);have HO3:=J hO3;have HB3:=J hB3;clear hO3 hB3 hP3 hG3 hgb hgq)
   go_roundw
   case rel =>
    have hnn:(Value.slice (some ⟨gg,0,none⟩) (L.length+1) cg).ownBlock≠some g:=fun he=>hggg (by simpa [Value.ownBlock] using he)
    have h1:=HO3.out.store1 g 3 (.slice (some ⟨gg,0,none⟩) (L.length+1) cg) hnn (fun e=>e.2 rfl)
    rw [HL3.out] at h1
    have h2:Below W0.heap.size W0 (w3.setCell ⟨g,3,none⟩ (.slice (some ⟨gg,0,none⟩) (L.length+1) cg)):=(((HB.out.trans (HB1.out.mono (by omega))).alloc (by omega) (.cells #[.int .i64 tb.kind,.int .i64 tb.n,.string tb.name,.slice at1 tb.args.length ct] 25)).trans HB3.out).setCell (p:=⟨g,3,none⟩) hg0 _
    have h3:Blk (w3.setCell ⟨g,3,none⟩ (.slice (some ⟨gg,0,none⟩) (L.length+1) cg)) g [.int .i64 4,.int .i64 0,.string ⟨#[]⟩,.slice (some ⟨gg,0,none⟩) (L.length+1) cg]:=HG4.out.set 3 (.slice (some ⟨gg,0,none⟩) (L.length+1) cg) (by simp)
    refine ⟨k+1,_,(.slice (some ⟨gg,0,none⟩) (L.length+1) cg),hlt,by go_num,rfl,by simpa using HQ3.out,?_,?_,?_,?_⟩
    ·with_reducible exact h1
    ·exact hnn
    ·with_reducible exact h2
    ·with_reducible exact h3
   case measure=>simp [intOf];omega)
 have hkk:k=l.length:=by omega
 subst hkk
 have HTT:Hid (progT l=tupT L):=J (by unfold progT;rw [HL.out,List.take_of_length_le (Nat.le_refl _)])
 have d1:decide ((1:Int)≤l.length)=decide (1≤l.length):=by rw [decide_eq_decide];omega
 have d2:decide ((l.length:Int)≤7)=decide (l.length≤7):=by rw [decide_eq_decide];omega
 have HOK:Hid (progOk l=q):=J (by unfold progOk;rw [HQ.out,HQ0.out,List.take_of_length_le (Nat.le_refl _),d1,d2])
 clear d1 d2
 have hik:¬(l.length:Int) < l.length:=by omega
 have HRTT:Hid (RT (fun x=>W0.heap.size≤x) wr (progT l) (.agg #[.int .i64 4,.int .i64 0,.string ⟨#[]⟩,.slice ar L.length capr])):=J (by
  rw [HTT.out]
  exact tupT_rt ((OwnT.rsl2 HO.out).rsl.mono (S':=fun x=>W0.heap.size≤x) (fun x hx=>by rcases hx with hx | hx;exact (HO.out.block x hx).1;exact hx.1.1)))
 have hbp:=progT_bulk l
 cases q
 ·have HA:=J (toA_bad HOK.out)
  go_wp2_with (refine yI 25 4 yN _ _ rfl rfl rfl rfl rfl (HZ.out.step HB.out) rfl rfl rfl ?_;intro W' hF hs' hBW hoth;have HF:=J hF;have HFB:=J (hBW _ _ (by omega) HBr.out);have HOTH:=J hoth;clear hF hBW hoth)
  refine bodyPost_ret (yH Tryz.results35 yN _ Tryz.underlying25 rfl rfl HF.out rfl) rfl ⟨none,0,?_,HFB.out,?_⟩
  ·rw [HA.out];rfl
  rw [HA.out];exact RT.zero
 go_wp2_with (refine load_blk (o:=⟨some 42,.load 25 (.tmp 4),_,_,_,_⟩) 25 4 yN _ Tryz.underlying25 rfl _ rfl rfl rfl HG.out rfl ?_)
 refine (check_c (progT l) _ _ _ HRTT.out (by omega)).mono ?_
 rintro e w5 ⟨rfl,hB⟩
 have hs5:=hB.size
 have HB5:Hid (Below w.heap.size w w5):=J (yB HBr.out (by omega) hB)
 have HRT5:=J (HRTT.out.below hB)
 have HG5:=J (HG.out.step hB)
 have HZ5:=J ((HZ.out.step HB.out).step hB)
 clear hB
 by_cases hck:yE (progT l)=0
 ·have hckb:(yE (progT l) != 0)=false:=by simp [hck]
  have HA:=J (toA_ok HOK.out hck)
  clear hck
  go_wp2_with (first | (refine load_blk (o:=⟨some 48,.load 25 (.tmp 4),_,_,_,_⟩) 25 4 yN _ Tryz.underlying25 rfl _ rfl rfl rfl HG5.out rfl ?_) | (refine yI 25 4 yN _ _ rfl rfl rfl rfl rfl HZ5.out rfl rfl rfl ?_;intro W' hF hs' hBW hoth;have HF:=J hF;have HFB:=J (hBW _ _ (by omega) HB5.out);have HOTH:=J hoth;clear hF hBW hoth))
  refine bodyPost_ret (yH Tryz.results35 yN _ Tryz.underlying25 rfl rfl HF.out rfl) rfl ⟨ar,capr,?_,HFB.out,?_⟩
  ·rw [HA.out,HTT.out];rfl
  rw [HA.out]
  have h1:=HRT5.out.to (S':=fun x=>w.heap.size≤x) (w':=W') (fun x hx _=>by omega) fun x hx _=>HOTH.out x (by omega)
  rw [HTT.out] at h1
  show RT _ W' (progT l) _
  rw [HTT.out]
  exact h1
 have hckb:(yE (progT l) != 0)=true:=by simp [hck]
 have HA:=J (toA_check HOK.out hck)
 clear hck
 go_wp2_with (refine yI 25 4 yN _ _ rfl rfl rfl rfl rfl HZ5.out rfl rfl rfl ?_;intro W' hF hs' hBW hoth;have HF:=J hF;have HFB:=J (hBW _ _ (by omega) HB5.out);have HOTH:=J hoth;clear hF hBW hoth)
 refine bodyPost_ret (yH Tryz.results35 yN _ Tryz.underlying25 rfl rfl HF.out rfl) rfl ⟨none,0,?_,HFB.out,?_⟩
 ·rw [HA.out];rfl
 rw [HA.out];exact RT.zero
end Go.Proofs.YtedfepnekjjmnabGreat
