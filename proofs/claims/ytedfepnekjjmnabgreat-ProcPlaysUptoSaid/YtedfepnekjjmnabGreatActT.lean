/-
  code.actTerm: what tells an act. No condition but a bound.
-/
import Derived.Deep.DeepCutAuto
import Derived.Test.YtedfepnekjjmnabGreatJc
import Derived.Test.YtedfepnekjjmnabGreatJa
import Derived.Test.YtedfepnekjjmnabGreatJd
namespace Go.Proofs.YtedfepnekjjmnabGreat
open Go.RowKit
set_option linter.unusedSimpArgs false
set_option linter.unusedVariables false
set_option maxRecDepth 100000
set_option maxHeartbeats 4000000
def TermP (w:World) (t:T) (ok:Bool) (e:Ending) (w':World):Prop :=
 ∃ a cap,e=.returned (.tuple #[.agg #[.int .i64 t.kind,.int .i64 t.n,.string t.name,.slice a t.args.length cap],.bool ok])∧Below w.heap.size w w'∧RT (fun b=>w.heap.size≤b) w' t (.agg #[.int .i64 t.kind,.int .i64 t.n,.string t.name,.slice a t.args.length cap])
theorem CellsT.nil {S:Nat→Prop} {w:World}:CellsT S w [] []:=rfl
theorem CellsT.word {S:Nat→Prop} {w:World} (s:ByteArray) {ts:List T} {cs:List Value} (h:CellsT S w ts cs):CellsT S w (yP s :: ts) (.int .i64 2 :: .int .i64 0 :: .string s :: .slice none 0 0 :: cs) :=
 ⟨none,0,cs,rfl,⟨Nat.le_refl _,fun _=>rfl⟩,by simp [yP,RTs],h⟩
theorem CellsT.var {S:Nat→Prop} {w:World} (n:Int) {ts:List T} {cs:List Value} (h:CellsT S w ts cs):CellsT S w (vT n :: ts) (.int .i64 5 :: .int .i64 n :: .string ⟨#[]⟩ :: .slice none 0 0 :: cs) :=
 ⟨none,0,cs,rfl,⟨Nat.le_refl _,fun _=>rfl⟩,by simp [vT,RTs],h⟩
theorem CellsT.tm {S:Nat→Prop} {w:World} {t:T} {a:Option Addr} {cap:Nat} {ts:List T} {cs:List Value} (ht:RT S w t (.agg #[.int .i64 t.kind,.int .i64 t.n,.string t.name,.slice a t.args.length cap])) (h:CellsT S w ts cs):CellsT S w (t :: ts) (.int .i64 t.kind :: .int .i64 t.n :: .string t.name :: .slice a t.args.length cap :: cs):=by
 obtain ⟨a',cap',e,h1,h2⟩:=ht
 simp only [Value.agg.injEq,Array.mk.injEq,List.cons.injEq,Value.slice.injEq,and_true,true_and] at e
 obtain ⟨rfl,rfl⟩:=e
 exact ⟨_,_,cs,rfl,h1,h2,h⟩
theorem tup_lit {S S':Nat→Prop} {w w':World} {ts:List T} {cs:List Value} (h:CellsT S w ts cs) (e:TypeId) {n:Nat} (hn:ts.length=n) {B:Nat} (hB:B=w.heap.size) (hb:Below (w.heap.size+1) (w.alloc (.cells cs.toArray e)) w') (hs:∀ b,S b→b < w.heap.size→S' b) (hS:S' B) :
  RT S' w' (tupT ts) (.agg #[.int .i64 4,.int .i64 0,.string ⟨#[]⟩,.slice (some ⟨B,0,none⟩) n n]):=by
 subst hB hn
 have h1:=(RSl2.lit h e).to (w':=w') (R':=S') (S':=S') (fun b hb _=>by rw [hb];exact hS) (fun b hb hl=>by
  rcases Nat.lt_or_ge b w.heap.size with hlt | hge
  ·exact hs b hb hlt
  ·rw [show b=w.heap.size by simp at hl;omega];exact hS) fun b _ hl=>hb.block b (by simpa using hl)
 have h2:=h1.rsl.mono (S':=S') fun b hb=>by rcases hb with hb | hb <;> exact hb
 exact tupT_rt h2
theorem actT_send (d:Deed) (a1:Option Addr) (p1:Nat) (a2:Option Addr) (p2:Nat) (w:World) (h1:RT (fun b=>b < w.heap.size) w d.to (.agg #[.int .i64 d.to.kind,.int .i64 d.to.n,.string d.to.name,.slice a1 d.to.args.length p1])) (h2:RT (fun b=>b < w.heap.size) w d.what (.agg #[.int .i64 d.what.kind,.int .i64 d.what.n,.string d.what.name,.slice a2 d.what.args.length p2])) (hb:deedB d≤274877906944) (hk:d.kind=1) (bn bv:Bool) (e1:(d.name.toList == ([]:List UInt8))=bn) (e2:(d.var == 0)=bv) :
  Calls Tryz.prog 78 #[.agg #[.int .i64 d.kind,.int .i64 d.to.kind,.int .i64 d.to.n,.string d.to.name,.slice a1 d.to.args.length p1,.int .i64 d.what.kind,.int .i64 d.what.n,.string d.what.name,.slice a2 d.what.args.length p2,.string d.name,.int .i64 d.var]] w (TermP w (deedT d) (deedOk d)):=by
 have hb1:yC [d.to]≤274877906944:=by unfold deedB at hb;omega
 have hb2:yC [d.what]≤274877906944:=by unfold deedB at hb;omega
 have hb3:d.name.size≤274877906944:=by unfold deedB at hb;omega
 have H1:=J h1
 have H2:=J h2
 have HDT:Hid (deedT d=tupT [yP sSend,d.to,d.what]):=J (by unfold deedT;rw [if_pos hk])
 have HOK:Hid (deedOk d=(bn && bv)):=J (by unfold deedOk dbareB;rw [if_pos hk,e1,e2])
 have hk1:(d.kind == 1)=true:=by rw [hk];rfl
 have hk2:(d.kind == 2)=false:=by rw [hk];rfl
 have hk3:(d.kind == 3)=false:=by rw [hk];rfl
 have hk4:(d.kind == 4)=false:=by rw [hk];rfl
 clear h1 h2 hk hb
 cases bn <;> cases bv
 all_goals (
  go_enter Tryz.func78,Tryz.ntmps78
  go_upto_region 1 with fail
  obtain ⟨W0,hW0⟩:=I ((w.alloc (.cells #[.int .i64 d.kind,.int .i64 d.to.kind,.int .i64 d.to.n,.string d.to.name,.slice a1 d.to.args.length p1,.int .i64 d.what.kind,.int .i64 d.what.n,.string d.what.name,.slice a2 d.what.args.length p2,.string d.name,.int .i64 d.var] 84)).alloc (.cells #[.int .i64 0,.int .i64 0,.string ⟨#[]⟩,.slice none 0 0] 25))
  have HX:Hid (Blk W0 w.heap.size [.int .i64 d.kind,.int .i64 d.to.kind,.int .i64 d.to.n,.string d.to.name,.slice a1 d.to.args.length p1,.int .i64 d.what.kind,.int .i64 d.what.n,.string d.what.name,.slice a2 d.what.args.length p2,.string d.name,.int .i64 d.var]):=J (by rw [hW0];exact (Blk.new _ _ _ _ rfl).alloc _)
  have HZ:Hid (Blk W0 (w.heap.size+1) [.int .i64 0,.int .i64 0,.string ⟨#[]⟩,.slice none 0 0]):=J (by rw [hW0];exact Blk.new _ _ _ _ (by simp))
  have HB0:Hid (Below w.heap.size w W0):=J (by rw [hW0];exact (yA _ _).trans ((yA _ _).mono (by simp)))
  have H10:=J (H1.out.below (show Below w.heap.size w W0 from HB0.out))
  have H20:=J (H2.out.below (show Below w.heap.size w W0 from HB0.out))
  have hs0:w.heap.size+2≤W0.heap.size:=by rw [hW0];simp
  obtain ⟨z0,z9,z10⟩:=HX.out.c3 0 9 10
  rw [←hW0]
  clear hW0
  go_wp2_with fail
  have HQ:Hid (∀ w':World,Below W0.heap.size W0 w'→w'.cell? ⟨w.heap.size,1,none⟩=some (.int .i64 d.to.kind)∧w'.cell? ⟨w.heap.size,2,none⟩=some (.int .i64 d.to.n)∧w'.cell? ⟨w.heap.size,3,none⟩=some (.string d.to.name)∧w'.cell? ⟨w.heap.size,4,none⟩=some (.slice a1 d.to.args.length p1)∧w'.cell? ⟨w.heap.size,5,none⟩=some (.int .i64 d.what.kind)∧w'.cell? ⟨w.heap.size,6,none⟩=some (.int .i64 d.what.n)∧w'.cell? ⟨w.heap.size,7,none⟩=some (.string d.what.name)∧w'.cell? ⟨w.heap.size,8,none⟩=some (.slice a2 d.what.args.length p2)):=J fun w' h=>⟨(HX.out.step h).cell 1 _ rfl,(HX.out.step h).cell 2 _ rfl,(HX.out.step h).cell 3 _ rfl,(HX.out.step h).cell 4 _ rfl,(HX.out.step h).cell 5 _ rfl,(HX.out.step h).cell 6 _ rfl,(HX.out.step h).cell 7 _ rfl,(HX.out.step h).cell 8 _ rfl⟩
  refine yK (fun w'=>w'.cell? ⟨w.heap.size,1,none⟩=some (.int .i64 d.to.kind)∧w'.cell? ⟨w.heap.size,2,none⟩=some (.int .i64 d.to.n)∧w'.cell? ⟨w.heap.size,3,none⟩=some (.string d.to.name)∧w'.cell? ⟨w.heap.size,4,none⟩=some (.slice a1 d.to.args.length p1)∧w'.cell? ⟨w.heap.size,5,none⟩=some (.int .i64 d.what.kind)∧w'.cell? ⟨w.heap.size,6,none⟩=some (.int .i64 d.what.n)∧w'.cell? ⟨w.heap.size,7,none⟩=some (.string d.what.name)∧w'.cell? ⟨w.heap.size,8,none⟩=some (.slice a2 d.what.args.length p2)) (by kernel_rfl) (HQ.out) ?_
  intro Wd hB hWd hWd' hHeld
  have HCWd:=J hB
  clear hB
  refine rgT 1 _ hHeld ?_
  refine rgT 2 _ hHeld ?_
  refine rgT 4 _ hHeld ?_
  refine rgT 5 _ hHeld ?_
  refine rgT 9 _ hHeld ?_
  refine rgO 0 fun K hK=>?_
  go_simp
  go_at_call 59
  refine (word_cword ⟨#[115,101,110,100]⟩ _).mono ?_
  rintro e wa ⟨rfl,hB⟩
  have hzwa:=hB.size
  have HCwa:Hid (Below W0.heap.size W0 wa):=J (yB HCWd.out (by omega) hB)
  clear hB
  refine hK.out _ _ (HQ.out _ HCwa.out) fun _=>?_
  clear hK K hHeld;rename_i hHeld;try simp only [Act.put,pA,pB,pC]
  refine rgO 3 fun K hK=>?_
  go_simp
  go_at_call 79
  refine (copied_c d.to _ _ _ (H10.out.below HCwa.out) (by omega)).mono ?_
  rintro e wx ⟨vwx,rfl,hB,bwx,qwx,rfl,hc,hr⟩
  have hzwx:=hB.size
  have HRwx:Hid (RT (fun b=>W0.heap.size≤b) wx d.to (.agg #[.int .i64 d.to.kind,.int .i64 d.to.n,.string d.to.name,.slice bwx d.to.args.length qwx])):=J (RT.to (S:=_) ⟨bwx,qwx,rfl,hc,hr⟩ (fun b hb _=>by omega) fun _ _ _=>rfl)
  have HCwx:Hid (Below W0.heap.size W0 wx):=J (yB HCwa.out (by omega) hB)
  clear hB hc hr
  refine hK.out _ _ (HQ.out _ HCwx.out) fun _=>?_
  clear hK K hHeld;rename_i hHeld;try simp only [Act.put,pA,pB,pC]
  refine rgO 6 fun K hK=>?_
  go_simp
  go_at_call 79
  refine (copied_c d.what _ _ _ (H20.out.below HCwx.out) (by omega)).mono ?_
  rintro e wy ⟨vwy,rfl,hB,bwy,qwy,rfl,hc,hr⟩
  have hzwy:=hB.size
  have HRwy:Hid (RT (fun b=>W0.heap.size≤b) wy d.what (.agg #[.int .i64 d.what.kind,.int .i64 d.what.n,.string d.what.name,.slice bwy d.what.args.length qwy])):=J (RT.to (S:=_) ⟨bwy,qwy,rfl,hc,hr⟩ (fun b hb _=>by omega) fun _ _ _=>rfl)
  have HCwy:Hid (Below W0.heap.size W0 wy):=J (yB HCwx.out (by omega) hB)
  have HRwx:=J (HRwx.out.below hB)
  clear hB hc hr
  refine hK.out _ _ (HQ.out _ HCwy.out) fun _=>?_
  clear hK K hHeld;rename_i hHeld;try simp only [Act.put,pA,pB,pC]
  refine rgO 7 fun K hK=>?_
  go_simp
  obtain ⟨wl,hwl⟩:=I (wy.alloc (.cells #[.int .i64 2,.int .i64 0,.string ⟨#[115,101,110,100]⟩,.slice none 0 0,.int .i64 d.to.kind,.int .i64 d.to.n,.string d.to.name,.slice bwx d.to.args.length qwx,.int .i64 d.what.kind,.int .i64 d.what.n,.string d.what.name,.slice bwy d.what.args.length qwy] 25))
  have hzl:wl.heap.size=wy.heap.size+1:=by rw [hwl];simp
  have HLT:Hid (∀ w',Below wl.heap.size wl w'→RT (fun b=>W0.heap.size≤b) w' (tupT [yP sSend,d.to,d.what]) (.agg #[.int .i64 4,.int .i64 0,.string ⟨#[]⟩,.slice (some ⟨wy.heap.size,0,none⟩) 3 3])):=J (fun w' h=>tup_lit (S:=fun b=>W0.heap.size≤b) (w:=wy) (CellsT.word sSend (CellsT.tm HRwx.out (CellsT.tm HRwy.out CellsT.nil))) 25 rfl rfl (by show Below (wy.heap.size+1) (wy.alloc (.cells #[.int .i64 2,.int .i64 0,.string ⟨#[115,101,110,100]⟩,.slice none 0 0,.int .i64 d.to.kind,.int .i64 d.to.n,.string d.to.name,.slice bwx d.to.args.length qwx,.int .i64 d.what.kind,.int .i64 d.what.n,.string d.what.name,.slice bwy d.what.args.length qwy] 25)) w';rw [←hwl,←hzl];exact h) (fun b hb _=>hb) (by omega))
  have hB:Below wy.heap.size wy wl:=by rw [hwl];exact yA _ _
  have HCwl:Hid (Below W0.heap.size W0 wl):=J (yB HCwy.out (by omega) hB)
  obtain ⟨gl,hgl⟩:=I (wy.heap.size)
  rw [←hgl] at HLT
  rw [←hwl,←hgl]
  have hgl1:W0.heap.size≤gl:=by omega
  clear hwl hB hgl
  refine hK.out _ _ (HQ.out _ HCwl.out) fun _=>?_
  clear hK K hHeld;rename_i hHeld;try simp only [Act.put,pA,pB,pC]
  refine rgO 8 fun K hK=>?_
  go_simp
  go_at_call 58
  refine (ctuple_c _ _ _ _).mono ?_
  rintro e wt ⟨rfl,hB⟩
  have hzwt:=hB.size
  have HCwt:Hid (Below W0.heap.size W0 wt):=J (yB HCwl.out (by omega) hB)
  have HRT:=J (HLT.out _ hB)
  clear hB HLT
  refine hK.out _ _ (HQ.out _ HCwt.out) fun _=>?_
  clear hK K hHeld;rename_i hHeld;try simp only [Act.put,pA,pB,pC]
  refine rgO 10 fun K hK=>?_
  refine wp_store_blk 25 4 yN _ _ rfl rfl rfl rfl (HZ.out.step HCwt.out) rfl rfl rfl ?_
  intro W' hF hs' hBW hoth
  have HF:=J hF
  have HFB:=J (hBW _ _ (by omega) (HB0.out.trans (HCwt.out.mono (by omega))))
  have HOTH:=J hoth
  clear hF hBW hoth
  refine hK.out _ _ (by simp only [World.cell?_of_block (w:=wt) (a:=⟨w.heap.size,_,none⟩) (HOTH.out w.heap.size (by omega))];exact HQ.out _ HCwt.out) fun _=>?_
  clear hK K hHeld;rename_i hHeld;try simp only [Act.put,pA,pB,pC]
  refine rgT 11 _ hHeld ?_
  refine rgD ?_
  clear hHeld
  go_wp2_with fail
  refine bodyPost_ret (yH Tryz.results78 yN _ Tryz.underlying25 rfl rfl HF.out rfl) rfl ⟨some ⟨gl,0,none⟩,3,?_,HFB.out,?_⟩
  ·rw [HDT.out,HOK.out];rfl
  ·rw [HDT.out]
   exact HRT.out.to (fun b hb _=>by omega) fun b hb _=>HOTH.out b (by omega))
theorem actT_spawn0 (d:Deed) (a1:Option Addr) (p1:Nat) (a2:Option Addr) (p2:Nat) (w:World) (h1:RT (fun b=>b < w.heap.size) w d.to (.agg #[.int .i64 d.to.kind,.int .i64 d.to.n,.string d.to.name,.slice a1 d.to.args.length p1])) (h2:RT (fun b=>b < w.heap.size) w d.what (.agg #[.int .i64 d.what.kind,.int .i64 d.what.n,.string d.what.name,.slice a2 d.what.args.length p2])) (hb:deedB d≤274877906944) (hk:d.kind=2) (bn bv:Bool) (e1:(d.name.toList == ([]:List UInt8))=bn) (e2:(d.var == 0)=bv) (hn:nameB d.name=false) :
  Calls Tryz.prog 78 #[.agg #[.int .i64 d.kind,.int .i64 d.to.kind,.int .i64 d.to.n,.string d.to.name,.slice a1 d.to.args.length p1,.int .i64 d.what.kind,.int .i64 d.what.n,.string d.what.name,.slice a2 d.what.args.length p2,.string d.name,.int .i64 d.var]] w (TermP w (deedT d) (deedOk d)):=by
 have hb1:yC [d.to]≤274877906944:=by unfold deedB at hb;omega
 have hb2:yC [d.what]≤274877906944:=by unfold deedB at hb;omega
 have hb3:d.name.size≤274877906944:=by unfold deedB at hb;omega
 have H1:=J h1
 have H2:=J h2
 have HDT:Hid (deedT d=tupT [yP sSpawn,yP d.name,d.what,vT d.var]):=J (by unfold deedT;rw [if_neg (by omega),if_pos hk])
 have HOK:Hid (deedOk d=false):=J (by unfold deedOk;rw [if_neg (by omega),if_pos hk,hn];simp)
 have HNB:=J hn
 clear hn
 have hk1:(d.kind == 1)=false:=by rw [hk];rfl
 have hk2:(d.kind == 2)=true:=by rw [hk];rfl
 have hk3:(d.kind == 3)=false:=by rw [hk];rfl
 have hk4:(d.kind == 4)=false:=by rw [hk];rfl
 clear h1 h2 hk hb
 cases bn <;> cases bv
 all_goals (
  go_enter Tryz.func78,Tryz.ntmps78
  go_upto_region 1 with fail
  obtain ⟨W0,hW0⟩:=I ((w.alloc (.cells #[.int .i64 d.kind,.int .i64 d.to.kind,.int .i64 d.to.n,.string d.to.name,.slice a1 d.to.args.length p1,.int .i64 d.what.kind,.int .i64 d.what.n,.string d.what.name,.slice a2 d.what.args.length p2,.string d.name,.int .i64 d.var] 84)).alloc (.cells #[.int .i64 0,.int .i64 0,.string ⟨#[]⟩,.slice none 0 0] 25))
  have HX:Hid (Blk W0 w.heap.size [.int .i64 d.kind,.int .i64 d.to.kind,.int .i64 d.to.n,.string d.to.name,.slice a1 d.to.args.length p1,.int .i64 d.what.kind,.int .i64 d.what.n,.string d.what.name,.slice a2 d.what.args.length p2,.string d.name,.int .i64 d.var]):=J (by rw [hW0];exact (Blk.new _ _ _ _ rfl).alloc _)
  have HZ:Hid (Blk W0 (w.heap.size+1) [.int .i64 0,.int .i64 0,.string ⟨#[]⟩,.slice none 0 0]):=J (by rw [hW0];exact Blk.new _ _ _ _ (by simp))
  have HB0:Hid (Below w.heap.size w W0):=J (by rw [hW0];exact (yA _ _).trans ((yA _ _).mono (by simp)))
  have H10:=J (H1.out.below (show Below w.heap.size w W0 from HB0.out))
  have H20:=J (H2.out.below (show Below w.heap.size w W0 from HB0.out))
  have hs0:w.heap.size+2≤W0.heap.size:=by rw [hW0];simp
  obtain ⟨z0,z9,z10⟩:=HX.out.c3 0 9 10
  rw [←hW0]
  clear hW0
  go_wp2_with fail
  have HQ:Hid (∀ w':World,Below W0.heap.size W0 w'→w'.cell? ⟨w.heap.size,1,none⟩=some (.int .i64 d.to.kind)∧w'.cell? ⟨w.heap.size,2,none⟩=some (.int .i64 d.to.n)∧w'.cell? ⟨w.heap.size,3,none⟩=some (.string d.to.name)∧w'.cell? ⟨w.heap.size,4,none⟩=some (.slice a1 d.to.args.length p1)∧w'.cell? ⟨w.heap.size,5,none⟩=some (.int .i64 d.what.kind)∧w'.cell? ⟨w.heap.size,6,none⟩=some (.int .i64 d.what.n)∧w'.cell? ⟨w.heap.size,7,none⟩=some (.string d.what.name)∧w'.cell? ⟨w.heap.size,8,none⟩=some (.slice a2 d.what.args.length p2)∧w'.cell? ⟨w.heap.size,9,none⟩=some (.string d.name)∧w'.cell? ⟨w.heap.size,10,none⟩=some (.int .i64 d.var)):=J fun w' h=>⟨(HX.out.step h).cell 1 _ rfl,(HX.out.step h).cell 2 _ rfl,(HX.out.step h).cell 3 _ rfl,(HX.out.step h).cell 4 _ rfl,(HX.out.step h).cell 5 _ rfl,(HX.out.step h).cell 6 _ rfl,(HX.out.step h).cell 7 _ rfl,(HX.out.step h).cell 8 _ rfl,(HX.out.step h).cell 9 _ rfl,(HX.out.step h).cell 10 _ rfl⟩
  refine yK (fun w'=>w'.cell? ⟨w.heap.size,1,none⟩=some (.int .i64 d.to.kind)∧w'.cell? ⟨w.heap.size,2,none⟩=some (.int .i64 d.to.n)∧w'.cell? ⟨w.heap.size,3,none⟩=some (.string d.to.name)∧w'.cell? ⟨w.heap.size,4,none⟩=some (.slice a1 d.to.args.length p1)∧w'.cell? ⟨w.heap.size,5,none⟩=some (.int .i64 d.what.kind)∧w'.cell? ⟨w.heap.size,6,none⟩=some (.int .i64 d.what.n)∧w'.cell? ⟨w.heap.size,7,none⟩=some (.string d.what.name)∧w'.cell? ⟨w.heap.size,8,none⟩=some (.slice a2 d.what.args.length p2)∧w'.cell? ⟨w.heap.size,9,none⟩=some (.string d.name)∧w'.cell? ⟨w.heap.size,10,none⟩=some (.int .i64 d.var)) (by kernel_rfl) (HQ.out) ?_
  intro Wd hB hWd hWd' hHeld
  have HCWd:=J hB
  clear hB
  refine rgT 1 _ hHeld ?_
  refine rgT 2 _ hHeld ?_
  refine rgT 4 _ hHeld ?_
  refine rgT 5 _ hHeld ?_
  refine rgT 7 _ hHeld ?_
  refine rgT 8 _ hHeld ?_
  refine rgT 9 _ hHeld ?_
  refine rgT 12 _ hHeld ?_
  refine rgT 13 _ hHeld ?_
  refine rgO 0 fun K hK=>?_
  go_simp
  go_at_call 59
  refine (word_cword ⟨#[115,112,97,119,110]⟩ _).mono ?_
  rintro e wa ⟨rfl,hB⟩
  have hzwa:=hB.size
  have HCwa:Hid (Below W0.heap.size W0 wa):=J (yB HCWd.out (by omega) hB)
  clear hB
  refine hK.out _ _ (HQ.out _ HCwa.out) fun _=>?_
  clear hK K hHeld;rename_i hHeld;try simp only [Act.put,pA,pB,pC]
  refine rgO 3 fun K hK=>?_
  go_simp
  go_at_call 59
  refine (word_cword d.name _).mono ?_
  rintro e wb ⟨rfl,hB⟩
  have hzwb:=hB.size
  have HCwb:Hid (Below W0.heap.size W0 wb):=J (yB HCwa.out (by omega) hB)
  clear hB
  refine hK.out _ _ (HQ.out _ HCwb.out) fun _=>?_
  clear hK K hHeld;rename_i hHeld;try simp only [Act.put,pA,pB,pC]
  refine rgO 6 fun K hK=>?_
  go_simp
  go_at_call 79
  refine (copied_c d.what _ _ _ (H20.out.below HCwb.out) (by omega)).mono ?_
  rintro e wy ⟨vwy,rfl,hB,bwy,qwy,rfl,hc,hr⟩
  have hzwy:=hB.size
  have HRwy:Hid (RT (fun b=>W0.heap.size≤b) wy d.what (.agg #[.int .i64 d.what.kind,.int .i64 d.what.n,.string d.what.name,.slice bwy d.what.args.length qwy])):=J (RT.to (S:=_) ⟨bwy,qwy,rfl,hc,hr⟩ (fun b hb _=>by omega) fun _ _ _=>rfl)
  have HCwy:Hid (Below W0.heap.size W0 wy):=J (yB HCwb.out (by omega) hB)
  clear hB hc hr
  refine hK.out _ _ (HQ.out _ HCwy.out) fun _=>?_
  clear hK K hHeld;rename_i hHeld;try simp only [Act.put,pA,pB,pC]
  refine rgO 10 fun K hK=>?_
  go_simp
  obtain ⟨wl,hwl⟩:=I (wy.alloc (.cells #[.int .i64 2,.int .i64 0,.string ⟨#[115,112,97,119,110]⟩,.slice none 0 0,.int .i64 2,.int .i64 0,.string d.name,.slice none 0 0,.int .i64 d.what.kind,.int .i64 d.what.n,.string d.what.name,.slice bwy d.what.args.length qwy,.int .i64 5,.int .i64 d.var,.string ⟨#[]⟩,.slice none 0 0] 25))
  have hzl:wl.heap.size=wy.heap.size+1:=by rw [hwl];simp
  have HLT:Hid (∀ w',Below wl.heap.size wl w'→RT (fun b=>W0.heap.size≤b) w' (tupT [yP sSpawn,yP d.name,d.what,vT d.var]) (.agg #[.int .i64 4,.int .i64 0,.string ⟨#[]⟩,.slice (some ⟨wy.heap.size,0,none⟩) 4 4])):=J (fun w' h=>tup_lit (S:=fun b=>W0.heap.size≤b) (w:=wy) (CellsT.word sSpawn (CellsT.word d.name (CellsT.tm HRwy.out (CellsT.var d.var CellsT.nil)))) 25 rfl rfl (by show Below (wy.heap.size+1) (wy.alloc (.cells #[.int .i64 2,.int .i64 0,.string ⟨#[115,112,97,119,110]⟩,.slice none 0 0,.int .i64 2,.int .i64 0,.string d.name,.slice none 0 0,.int .i64 d.what.kind,.int .i64 d.what.n,.string d.what.name,.slice bwy d.what.args.length qwy,.int .i64 5,.int .i64 d.var,.string ⟨#[]⟩,.slice none 0 0] 25)) w';rw [←hwl,←hzl];exact h) (fun b hb _=>hb) (by omega))
  have hB:Below wy.heap.size wy wl:=by rw [hwl];exact yA _ _
  have HCwl:Hid (Below W0.heap.size W0 wl):=J (yB HCwy.out (by omega) hB)
  obtain ⟨gl,hgl⟩:=I (wy.heap.size)
  rw [←hgl] at HLT
  rw [←hwl,←hgl]
  have hgl1:W0.heap.size≤gl:=by omega
  clear hwl hB hgl
  refine hK.out _ _ (HQ.out _ HCwl.out) fun _=>?_
  clear hK K hHeld;rename_i hHeld;try simp only [Act.put,pA,pB,pC]
  refine rgO 11 fun K hK=>?_
  go_simp
  go_at_call 58
  refine (ctuple_c _ _ _ _).mono ?_
  rintro e wt ⟨rfl,hB⟩
  have hzwt:=hB.size
  have HCwt:Hid (Below W0.heap.size W0 wt):=J (yB HCwl.out (by omega) hB)
  have HRT:=J (HLT.out _ hB)
  clear hB HLT
  refine hK.out _ _ (HQ.out _ HCwt.out) fun _=>?_
  clear hK K hHeld;rename_i hHeld;try simp only [Act.put,pA,pB,pC]
  refine rgO 14 fun K hK=>?_
  go_simp
  go_at_call 21
  refine (name_c d.name _ (by omega)).mono ?_
  rintro e w' ⟨he,hw⟩
  rw [HNB.out] at he
  subst he
  obtain rfl:wt=w':=hw
  refine hK.out _ _ (hHeld) fun _=>?_
  clear hK K hHeld;rename_i hHeld;try simp only [Act.put,pA,pB,pC]
  refine rgT 15 _ hHeld ?_
  refine rgN 16 hHeld ?_
  refine rgN 17 hHeld ?_
  refine rgN 18 hHeld ?_
  refine rgT 19 _ hHeld ?_
  refine rgT 20 _ hHeld ?_
  refine rgN 21 hHeld ?_
  refine rgN 22 hHeld ?_
  refine rgN 23 hHeld ?_
  refine rgT 24 _ hHeld ?_
  refine rgO 25 fun K hK=>?_
  refine wp_store_blk 25 4 yN _ _ rfl rfl rfl rfl (HZ.out.step HCwt.out) rfl rfl rfl ?_
  intro W' hF hs' hBW hoth
  have HF:=J hF
  have HFB:=J (hBW _ _ (by omega) (HB0.out.trans (HCwt.out.mono (by omega))))
  have HOTH:=J hoth
  clear hF hBW hoth
  refine hK.out _ _ (by simp only [World.cell?_of_block (w:=wt) (a:=⟨w.heap.size,_,none⟩) (HOTH.out w.heap.size (by omega))];exact HQ.out _ HCwt.out) fun _=>?_
  clear hK K hHeld;rename_i hHeld;try simp only [Act.put,pA,pB,pC]
  refine rgT 26 _ hHeld ?_
  refine rgD ?_
  clear hHeld
  go_wp2_with fail
  refine bodyPost_ret (yH Tryz.results78 yN _ Tryz.underlying25 rfl rfl HF.out rfl) rfl ⟨some ⟨gl,0,none⟩,4,?_,HFB.out,?_⟩
  ·rw [HDT.out,HOK.out];rfl
  ·rw [HDT.out]
   exact HRT.out.to (fun b hb _=>by omega) fun b hb _=>HOTH.out b (by omega))
theorem actT_spawn1 (d:Deed) (a1:Option Addr) (p1:Nat) (a2:Option Addr) (p2:Nat) (w:World) (h1:RT (fun b=>b < w.heap.size) w d.to (.agg #[.int .i64 d.to.kind,.int .i64 d.to.n,.string d.to.name,.slice a1 d.to.args.length p1])) (h2:RT (fun b=>b < w.heap.size) w d.what (.agg #[.int .i64 d.what.kind,.int .i64 d.what.n,.string d.what.name,.slice a2 d.what.args.length p2])) (hb:deedB d≤274877906944) (hk:d.kind=2) (bn bv:Bool) (e1:(d.name.toList == ([]:List UInt8))=bn) (e2:(d.var == 0)=bv) (hn:nameB d.name=true) (hv:(decide (0≤d.var) && decide (d.var≤3))=false) :
  Calls Tryz.prog 78 #[.agg #[.int .i64 d.kind,.int .i64 d.to.kind,.int .i64 d.to.n,.string d.to.name,.slice a1 d.to.args.length p1,.int .i64 d.what.kind,.int .i64 d.what.n,.string d.what.name,.slice a2 d.what.args.length p2,.string d.name,.int .i64 d.var]] w (TermP w (deedT d) (deedOk d)):=by
 have hb1:yC [d.to]≤274877906944:=by unfold deedB at hb;omega
 have hb2:yC [d.what]≤274877906944:=by unfold deedB at hb;omega
 have hb3:d.name.size≤274877906944:=by unfold deedB at hb;omega
 have H1:=J h1
 have H2:=J h2
 have HDT:Hid (deedT d=tupT [yP sSpawn,yP d.name,d.what,vT d.var]):=J (by unfold deedT;rw [if_neg (by omega),if_pos hk])
 have HOK:Hid (deedOk d=false):=J (by unfold deedOk;rw [if_neg (by omega),if_pos hk,hn,hv];simp)
 have HNB:=J hn
 have HVB:=J hv
 clear hn hv
 have hk1:(d.kind == 1)=false:=by rw [hk];rfl
 have hk2:(d.kind == 2)=true:=by rw [hk];rfl
 have hk3:(d.kind == 3)=false:=by rw [hk];rfl
 have hk4:(d.kind == 4)=false:=by rw [hk];rfl
 clear h1 h2 hk hb
 cases bn <;> cases bv
 all_goals (
  go_enter Tryz.func78,Tryz.ntmps78
  go_upto_region 1 with fail
  obtain ⟨W0,hW0⟩:=I ((w.alloc (.cells #[.int .i64 d.kind,.int .i64 d.to.kind,.int .i64 d.to.n,.string d.to.name,.slice a1 d.to.args.length p1,.int .i64 d.what.kind,.int .i64 d.what.n,.string d.what.name,.slice a2 d.what.args.length p2,.string d.name,.int .i64 d.var] 84)).alloc (.cells #[.int .i64 0,.int .i64 0,.string ⟨#[]⟩,.slice none 0 0] 25))
  have HX:Hid (Blk W0 w.heap.size [.int .i64 d.kind,.int .i64 d.to.kind,.int .i64 d.to.n,.string d.to.name,.slice a1 d.to.args.length p1,.int .i64 d.what.kind,.int .i64 d.what.n,.string d.what.name,.slice a2 d.what.args.length p2,.string d.name,.int .i64 d.var]):=J (by rw [hW0];exact (Blk.new _ _ _ _ rfl).alloc _)
  have HZ:Hid (Blk W0 (w.heap.size+1) [.int .i64 0,.int .i64 0,.string ⟨#[]⟩,.slice none 0 0]):=J (by rw [hW0];exact Blk.new _ _ _ _ (by simp))
  have HB0:Hid (Below w.heap.size w W0):=J (by rw [hW0];exact (yA _ _).trans ((yA _ _).mono (by simp)))
  have H10:=J (H1.out.below (show Below w.heap.size w W0 from HB0.out))
  have H20:=J (H2.out.below (show Below w.heap.size w W0 from HB0.out))
  have hs0:w.heap.size+2≤W0.heap.size:=by rw [hW0];simp
  obtain ⟨z0,z9,z10⟩:=HX.out.c3 0 9 10
  rw [←hW0]
  clear hW0
  go_wp2_with fail
  have HQ:Hid (∀ w':World,Below W0.heap.size W0 w'→w'.cell? ⟨w.heap.size,1,none⟩=some (.int .i64 d.to.kind)∧w'.cell? ⟨w.heap.size,2,none⟩=some (.int .i64 d.to.n)∧w'.cell? ⟨w.heap.size,3,none⟩=some (.string d.to.name)∧w'.cell? ⟨w.heap.size,4,none⟩=some (.slice a1 d.to.args.length p1)∧w'.cell? ⟨w.heap.size,5,none⟩=some (.int .i64 d.what.kind)∧w'.cell? ⟨w.heap.size,6,none⟩=some (.int .i64 d.what.n)∧w'.cell? ⟨w.heap.size,7,none⟩=some (.string d.what.name)∧w'.cell? ⟨w.heap.size,8,none⟩=some (.slice a2 d.what.args.length p2)∧w'.cell? ⟨w.heap.size,9,none⟩=some (.string d.name)∧w'.cell? ⟨w.heap.size,10,none⟩=some (.int .i64 d.var)):=J fun w' h=>⟨(HX.out.step h).cell 1 _ rfl,(HX.out.step h).cell 2 _ rfl,(HX.out.step h).cell 3 _ rfl,(HX.out.step h).cell 4 _ rfl,(HX.out.step h).cell 5 _ rfl,(HX.out.step h).cell 6 _ rfl,(HX.out.step h).cell 7 _ rfl,(HX.out.step h).cell 8 _ rfl,(HX.out.step h).cell 9 _ rfl,(HX.out.step h).cell 10 _ rfl⟩
  refine yK (fun w'=>w'.cell? ⟨w.heap.size,1,none⟩=some (.int .i64 d.to.kind)∧w'.cell? ⟨w.heap.size,2,none⟩=some (.int .i64 d.to.n)∧w'.cell? ⟨w.heap.size,3,none⟩=some (.string d.to.name)∧w'.cell? ⟨w.heap.size,4,none⟩=some (.slice a1 d.to.args.length p1)∧w'.cell? ⟨w.heap.size,5,none⟩=some (.int .i64 d.what.kind)∧w'.cell? ⟨w.heap.size,6,none⟩=some (.int .i64 d.what.n)∧w'.cell? ⟨w.heap.size,7,none⟩=some (.string d.what.name)∧w'.cell? ⟨w.heap.size,8,none⟩=some (.slice a2 d.what.args.length p2)∧w'.cell? ⟨w.heap.size,9,none⟩=some (.string d.name)∧w'.cell? ⟨w.heap.size,10,none⟩=some (.int .i64 d.var)) (by kernel_rfl) (HQ.out) ?_
  intro Wd hB hWd hWd' hHeld
  have HCWd:=J hB
  clear hB
  refine rgT 1 _ hHeld ?_
  refine rgT 2 _ hHeld ?_
  refine rgT 4 _ hHeld ?_
  refine rgT 5 _ hHeld ?_
  refine rgT 7 _ hHeld ?_
  refine rgT 8 _ hHeld ?_
  refine rgT 9 _ hHeld ?_
  refine rgT 12 _ hHeld ?_
  refine rgT 13 _ hHeld ?_
  refine rgO 0 fun K hK=>?_
  go_simp
  go_at_call 59
  refine (word_cword ⟨#[115,112,97,119,110]⟩ _).mono ?_
  rintro e wa ⟨rfl,hB⟩
  have hzwa:=hB.size
  have HCwa:Hid (Below W0.heap.size W0 wa):=J (yB HCWd.out (by omega) hB)
  clear hB
  refine hK.out _ _ (HQ.out _ HCwa.out) fun _=>?_
  clear hK K hHeld;rename_i hHeld;try simp only [Act.put,pA,pB,pC]
  refine rgO 3 fun K hK=>?_
  go_simp
  go_at_call 59
  refine (word_cword d.name _).mono ?_
  rintro e wb ⟨rfl,hB⟩
  have hzwb:=hB.size
  have HCwb:Hid (Below W0.heap.size W0 wb):=J (yB HCwa.out (by omega) hB)
  clear hB
  refine hK.out _ _ (HQ.out _ HCwb.out) fun _=>?_
  clear hK K hHeld;rename_i hHeld;try simp only [Act.put,pA,pB,pC]
  refine rgO 6 fun K hK=>?_
  go_simp
  go_at_call 79
  refine (copied_c d.what _ _ _ (H20.out.below HCwb.out) (by omega)).mono ?_
  rintro e wy ⟨vwy,rfl,hB,bwy,qwy,rfl,hc,hr⟩
  have hzwy:=hB.size
  have HRwy:Hid (RT (fun b=>W0.heap.size≤b) wy d.what (.agg #[.int .i64 d.what.kind,.int .i64 d.what.n,.string d.what.name,.slice bwy d.what.args.length qwy])):=J (RT.to (S:=_) ⟨bwy,qwy,rfl,hc,hr⟩ (fun b hb _=>by omega) fun _ _ _=>rfl)
  have HCwy:Hid (Below W0.heap.size W0 wy):=J (yB HCwb.out (by omega) hB)
  clear hB hc hr
  refine hK.out _ _ (HQ.out _ HCwy.out) fun _=>?_
  clear hK K hHeld;rename_i hHeld;try simp only [Act.put,pA,pB,pC]
  refine rgO 10 fun K hK=>?_
  go_simp
  obtain ⟨wl,hwl⟩:=I (wy.alloc (.cells #[.int .i64 2,.int .i64 0,.string ⟨#[115,112,97,119,110]⟩,.slice none 0 0,.int .i64 2,.int .i64 0,.string d.name,.slice none 0 0,.int .i64 d.what.kind,.int .i64 d.what.n,.string d.what.name,.slice bwy d.what.args.length qwy,.int .i64 5,.int .i64 d.var,.string ⟨#[]⟩,.slice none 0 0] 25))
  have hzl:wl.heap.size=wy.heap.size+1:=by rw [hwl];simp
  have HLT:Hid (∀ w',Below wl.heap.size wl w'→RT (fun b=>W0.heap.size≤b) w' (tupT [yP sSpawn,yP d.name,d.what,vT d.var]) (.agg #[.int .i64 4,.int .i64 0,.string ⟨#[]⟩,.slice (some ⟨wy.heap.size,0,none⟩) 4 4])):=J (fun w' h=>tup_lit (S:=fun b=>W0.heap.size≤b) (w:=wy) (CellsT.word sSpawn (CellsT.word d.name (CellsT.tm HRwy.out (CellsT.var d.var CellsT.nil)))) 25 rfl rfl (by show Below (wy.heap.size+1) (wy.alloc (.cells #[.int .i64 2,.int .i64 0,.string ⟨#[115,112,97,119,110]⟩,.slice none 0 0,.int .i64 2,.int .i64 0,.string d.name,.slice none 0 0,.int .i64 d.what.kind,.int .i64 d.what.n,.string d.what.name,.slice bwy d.what.args.length qwy,.int .i64 5,.int .i64 d.var,.string ⟨#[]⟩,.slice none 0 0] 25)) w';rw [←hwl,←hzl];exact h) (fun b hb _=>hb) (by omega))
  have hB:Below wy.heap.size wy wl:=by rw [hwl];exact yA _ _
  have HCwl:Hid (Below W0.heap.size W0 wl):=J (yB HCwy.out (by omega) hB)
  obtain ⟨gl,hgl⟩:=I (wy.heap.size)
  rw [←hgl] at HLT
  rw [←hwl,←hgl]
  have hgl1:W0.heap.size≤gl:=by omega
  clear hwl hB hgl
  refine hK.out _ _ (HQ.out _ HCwl.out) fun _=>?_
  clear hK K hHeld;rename_i hHeld;try simp only [Act.put,pA,pB,pC]
  refine rgO 11 fun K hK=>?_
  go_simp
  go_at_call 58
  refine (ctuple_c _ _ _ _).mono ?_
  rintro e wt ⟨rfl,hB⟩
  have hzwt:=hB.size
  have HCwt:Hid (Below W0.heap.size W0 wt):=J (yB HCwl.out (by omega) hB)
  have HRT:=J (HLT.out _ hB)
  clear hB HLT
  refine hK.out _ _ (HQ.out _ HCwt.out) fun _=>?_
  clear hK K hHeld;rename_i hHeld;try simp only [Act.put,pA,pB,pC]
  refine rgO 14 fun K hK=>?_
  go_simp
  go_at_call 21
  refine (name_c d.name _ (by omega)).mono ?_
  rintro e w' ⟨he,hw⟩
  rw [HNB.out] at he
  subst he
  obtain rfl:wt=w':=hw
  refine hK.out _ _ (hHeld) fun _=>?_
  clear hK K hHeld;rename_i hHeld;try simp only [Act.put,pA,pB,pC]
  refine rgT 15 _ hHeld ?_
  refine rgT 16 _ hHeld ?_
  refine rgT 17 _ hHeld ?_
  refine rgO 18 fun K hK=>?_
  go_simp
  go_at_call 60
  refine (cwithin_c _ _ _ _).mono ?_
  rintro e w' ⟨he,hw⟩
  rw [HVB.out] at he
  subst he
  obtain rfl:wt=w':=hw.symm
  refine hK.out _ _ (hHeld) fun _=>?_
  clear hK K hHeld;rename_i hHeld;try simp only [Act.put,pA,pB,pC]
  refine rgT 19 _ hHeld ?_
  refine rgT 20 _ hHeld ?_
  refine rgN 21 hHeld ?_
  refine rgN 22 hHeld ?_
  refine rgN 23 hHeld ?_
  refine rgT 24 _ hHeld ?_
  refine rgO 25 fun K hK=>?_
  refine wp_store_blk 25 4 yN _ _ rfl rfl rfl rfl (HZ.out.step HCwt.out) rfl rfl rfl ?_
  intro W' hF hs' hBW hoth
  have HF:=J hF
  have HFB:=J (hBW _ _ (by omega) (HB0.out.trans (HCwt.out.mono (by omega))))
  have HOTH:=J hoth
  clear hF hBW hoth
  refine hK.out _ _ (by simp only [World.cell?_of_block (w:=wt) (a:=⟨w.heap.size,_,none⟩) (HOTH.out w.heap.size (by omega))];exact HQ.out _ HCwt.out) fun _=>?_
  clear hK K hHeld;rename_i hHeld;try simp only [Act.put,pA,pB,pC]
  refine rgT 26 _ hHeld ?_
  refine rgD ?_
  clear hHeld
  go_wp2_with fail
  refine bodyPost_ret (yH Tryz.results78 yN _ Tryz.underlying25 rfl rfl HF.out rfl) rfl ⟨some ⟨gl,0,none⟩,4,?_,HFB.out,?_⟩
  ·rw [HDT.out,HOK.out];rfl
  ·rw [HDT.out]
   exact HRT.out.to (fun b hb _=>by omega) fun b hb _=>HOTH.out b (by omega))
theorem actT_spawn2 (d:Deed) (a1:Option Addr) (p1:Nat) (a2:Option Addr) (p2:Nat) (w:World) (h1:RT (fun b=>b < w.heap.size) w d.to (.agg #[.int .i64 d.to.kind,.int .i64 d.to.n,.string d.to.name,.slice a1 d.to.args.length p1])) (h2:RT (fun b=>b < w.heap.size) w d.what (.agg #[.int .i64 d.what.kind,.int .i64 d.what.n,.string d.what.name,.slice a2 d.what.args.length p2])) (hb:deedB d≤274877906944) (hk:d.kind=2) (bn bv:Bool) (e1:(d.name.toList == ([]:List UInt8))=bn) (e2:(d.var == 0)=bv) (hn:nameB d.name=true) (hv:(decide (0≤d.var) && decide (d.var≤3))=true) (eb:Bool) (he:emptyB d.to=eb) :
  Calls Tryz.prog 78 #[.agg #[.int .i64 d.kind,.int .i64 d.to.kind,.int .i64 d.to.n,.string d.to.name,.slice a1 d.to.args.length p1,.int .i64 d.what.kind,.int .i64 d.what.n,.string d.what.name,.slice a2 d.what.args.length p2,.string d.name,.int .i64 d.var]] w (TermP w (deedT d) (deedOk d)):=by
 have hb1:yC [d.to]≤274877906944:=by unfold deedB at hb;omega
 have hb2:yC [d.what]≤274877906944:=by unfold deedB at hb;omega
 have hb3:d.name.size≤274877906944:=by unfold deedB at hb;omega
 have H1:=J h1
 have H2:=J h2
 have HDT:Hid (deedT d=tupT [yP sSpawn,yP d.name,d.what,vT d.var]):=J (by unfold deedT;rw [if_neg (by omega),if_pos hk])
 have HOK:Hid (deedOk d=eb):=J (by unfold deedOk;rw [if_neg (by omega),if_pos hk,hn,hv,he];simp)
 have HNB:=J hn
 have HVB:=J hv
 have HEB:=J he
 clear hn hv he
 have hk1:(d.kind == 1)=false:=by rw [hk];rfl
 have hk2:(d.kind == 2)=true:=by rw [hk];rfl
 have hk3:(d.kind == 3)=false:=by rw [hk];rfl
 have hk4:(d.kind == 4)=false:=by rw [hk];rfl
 clear h1 h2 hk hb
 cases bn <;> cases bv <;> cases eb
 all_goals (
  go_enter Tryz.func78,Tryz.ntmps78
  go_upto_region 1 with fail
  obtain ⟨W0,hW0⟩:=I ((w.alloc (.cells #[.int .i64 d.kind,.int .i64 d.to.kind,.int .i64 d.to.n,.string d.to.name,.slice a1 d.to.args.length p1,.int .i64 d.what.kind,.int .i64 d.what.n,.string d.what.name,.slice a2 d.what.args.length p2,.string d.name,.int .i64 d.var] 84)).alloc (.cells #[.int .i64 0,.int .i64 0,.string ⟨#[]⟩,.slice none 0 0] 25))
  have HX:Hid (Blk W0 w.heap.size [.int .i64 d.kind,.int .i64 d.to.kind,.int .i64 d.to.n,.string d.to.name,.slice a1 d.to.args.length p1,.int .i64 d.what.kind,.int .i64 d.what.n,.string d.what.name,.slice a2 d.what.args.length p2,.string d.name,.int .i64 d.var]):=J (by rw [hW0];exact (Blk.new _ _ _ _ rfl).alloc _)
  have HZ:Hid (Blk W0 (w.heap.size+1) [.int .i64 0,.int .i64 0,.string ⟨#[]⟩,.slice none 0 0]):=J (by rw [hW0];exact Blk.new _ _ _ _ (by simp))
  have HB0:Hid (Below w.heap.size w W0):=J (by rw [hW0];exact (yA _ _).trans ((yA _ _).mono (by simp)))
  have H10:=J (H1.out.below (show Below w.heap.size w W0 from HB0.out))
  have H20:=J (H2.out.below (show Below w.heap.size w W0 from HB0.out))
  have hs0:w.heap.size+2≤W0.heap.size:=by rw [hW0];simp
  obtain ⟨z0,z9,z10⟩:=HX.out.c3 0 9 10
  rw [←hW0]
  clear hW0
  go_wp2_with fail
  have HQ:Hid (∀ w':World,Below W0.heap.size W0 w'→w'.cell? ⟨w.heap.size,1,none⟩=some (.int .i64 d.to.kind)∧w'.cell? ⟨w.heap.size,2,none⟩=some (.int .i64 d.to.n)∧w'.cell? ⟨w.heap.size,3,none⟩=some (.string d.to.name)∧w'.cell? ⟨w.heap.size,4,none⟩=some (.slice a1 d.to.args.length p1)∧w'.cell? ⟨w.heap.size,5,none⟩=some (.int .i64 d.what.kind)∧w'.cell? ⟨w.heap.size,6,none⟩=some (.int .i64 d.what.n)∧w'.cell? ⟨w.heap.size,7,none⟩=some (.string d.what.name)∧w'.cell? ⟨w.heap.size,8,none⟩=some (.slice a2 d.what.args.length p2)∧w'.cell? ⟨w.heap.size,9,none⟩=some (.string d.name)∧w'.cell? ⟨w.heap.size,10,none⟩=some (.int .i64 d.var)):=J fun w' h=>⟨(HX.out.step h).cell 1 _ rfl,(HX.out.step h).cell 2 _ rfl,(HX.out.step h).cell 3 _ rfl,(HX.out.step h).cell 4 _ rfl,(HX.out.step h).cell 5 _ rfl,(HX.out.step h).cell 6 _ rfl,(HX.out.step h).cell 7 _ rfl,(HX.out.step h).cell 8 _ rfl,(HX.out.step h).cell 9 _ rfl,(HX.out.step h).cell 10 _ rfl⟩
  refine yK (fun w'=>w'.cell? ⟨w.heap.size,1,none⟩=some (.int .i64 d.to.kind)∧w'.cell? ⟨w.heap.size,2,none⟩=some (.int .i64 d.to.n)∧w'.cell? ⟨w.heap.size,3,none⟩=some (.string d.to.name)∧w'.cell? ⟨w.heap.size,4,none⟩=some (.slice a1 d.to.args.length p1)∧w'.cell? ⟨w.heap.size,5,none⟩=some (.int .i64 d.what.kind)∧w'.cell? ⟨w.heap.size,6,none⟩=some (.int .i64 d.what.n)∧w'.cell? ⟨w.heap.size,7,none⟩=some (.string d.what.name)∧w'.cell? ⟨w.heap.size,8,none⟩=some (.slice a2 d.what.args.length p2)∧w'.cell? ⟨w.heap.size,9,none⟩=some (.string d.name)∧w'.cell? ⟨w.heap.size,10,none⟩=some (.int .i64 d.var)) (by kernel_rfl) (HQ.out) ?_
  intro Wd hB hWd hWd' hHeld
  have HCWd:=J hB
  clear hB
  refine rgT 1 _ hHeld ?_
  refine rgT 2 _ hHeld ?_
  refine rgT 4 _ hHeld ?_
  refine rgT 5 _ hHeld ?_
  refine rgT 7 _ hHeld ?_
  refine rgT 8 _ hHeld ?_
  refine rgT 9 _ hHeld ?_
  refine rgT 12 _ hHeld ?_
  refine rgT 13 _ hHeld ?_
  refine rgO 0 fun K hK=>?_
  go_simp
  go_at_call 59
  refine (word_cword ⟨#[115,112,97,119,110]⟩ _).mono ?_
  rintro e wa ⟨rfl,hB⟩
  have hzwa:=hB.size
  have HCwa:Hid (Below W0.heap.size W0 wa):=J (yB HCWd.out (by omega) hB)
  clear hB
  refine hK.out _ _ (HQ.out _ HCwa.out) fun _=>?_
  clear hK K hHeld;rename_i hHeld;try simp only [Act.put,pA,pB,pC]
  refine rgO 3 fun K hK=>?_
  go_simp
  go_at_call 59
  refine (word_cword d.name _).mono ?_
  rintro e wb ⟨rfl,hB⟩
  have hzwb:=hB.size
  have HCwb:Hid (Below W0.heap.size W0 wb):=J (yB HCwa.out (by omega) hB)
  clear hB
  refine hK.out _ _ (HQ.out _ HCwb.out) fun _=>?_
  clear hK K hHeld;rename_i hHeld;try simp only [Act.put,pA,pB,pC]
  refine rgO 6 fun K hK=>?_
  go_simp
  go_at_call 79
  refine (copied_c d.what _ _ _ (H20.out.below HCwb.out) (by omega)).mono ?_
  rintro e wy ⟨vwy,rfl,hB,bwy,qwy,rfl,hc,hr⟩
  have hzwy:=hB.size
  have HRwy:Hid (RT (fun b=>W0.heap.size≤b) wy d.what (.agg #[.int .i64 d.what.kind,.int .i64 d.what.n,.string d.what.name,.slice bwy d.what.args.length qwy])):=J (RT.to (S:=_) ⟨bwy,qwy,rfl,hc,hr⟩ (fun b hb _=>by omega) fun _ _ _=>rfl)
  have HCwy:Hid (Below W0.heap.size W0 wy):=J (yB HCwb.out (by omega) hB)
  clear hB hc hr
  refine hK.out _ _ (HQ.out _ HCwy.out) fun _=>?_
  clear hK K hHeld;rename_i hHeld;try simp only [Act.put,pA,pB,pC]
  refine rgO 10 fun K hK=>?_
  go_simp
  obtain ⟨wl,hwl⟩:=I (wy.alloc (.cells #[.int .i64 2,.int .i64 0,.string ⟨#[115,112,97,119,110]⟩,.slice none 0 0,.int .i64 2,.int .i64 0,.string d.name,.slice none 0 0,.int .i64 d.what.kind,.int .i64 d.what.n,.string d.what.name,.slice bwy d.what.args.length qwy,.int .i64 5,.int .i64 d.var,.string ⟨#[]⟩,.slice none 0 0] 25))
  have hzl:wl.heap.size=wy.heap.size+1:=by rw [hwl];simp
  have HLT:Hid (∀ w',Below wl.heap.size wl w'→RT (fun b=>W0.heap.size≤b) w' (tupT [yP sSpawn,yP d.name,d.what,vT d.var]) (.agg #[.int .i64 4,.int .i64 0,.string ⟨#[]⟩,.slice (some ⟨wy.heap.size,0,none⟩) 4 4])):=J (fun w' h=>tup_lit (S:=fun b=>W0.heap.size≤b) (w:=wy) (CellsT.word sSpawn (CellsT.word d.name (CellsT.tm HRwy.out (CellsT.var d.var CellsT.nil)))) 25 rfl rfl (by show Below (wy.heap.size+1) (wy.alloc (.cells #[.int .i64 2,.int .i64 0,.string ⟨#[115,112,97,119,110]⟩,.slice none 0 0,.int .i64 2,.int .i64 0,.string d.name,.slice none 0 0,.int .i64 d.what.kind,.int .i64 d.what.n,.string d.what.name,.slice bwy d.what.args.length qwy,.int .i64 5,.int .i64 d.var,.string ⟨#[]⟩,.slice none 0 0] 25)) w';rw [←hwl,←hzl];exact h) (fun b hb _=>hb) (by omega))
  have hB:Below wy.heap.size wy wl:=by rw [hwl];exact yA _ _
  have HCwl:Hid (Below W0.heap.size W0 wl):=J (yB HCwy.out (by omega) hB)
  obtain ⟨gl,hgl⟩:=I (wy.heap.size)
  rw [←hgl] at HLT
  rw [←hwl,←hgl]
  have hgl1:W0.heap.size≤gl:=by omega
  clear hwl hB hgl
  refine hK.out _ _ (HQ.out _ HCwl.out) fun _=>?_
  clear hK K hHeld;rename_i hHeld;try simp only [Act.put,pA,pB,pC]
  refine rgO 11 fun K hK=>?_
  go_simp
  go_at_call 58
  refine (ctuple_c _ _ _ _).mono ?_
  rintro e wt ⟨rfl,hB⟩
  have hzwt:=hB.size
  have HCwt:Hid (Below W0.heap.size W0 wt):=J (yB HCwl.out (by omega) hB)
  have HRT:=J (HLT.out _ hB)
  clear hB HLT
  refine hK.out _ _ (HQ.out _ HCwt.out) fun _=>?_
  clear hK K hHeld;rename_i hHeld;try simp only [Act.put,pA,pB,pC]
  refine rgO 14 fun K hK=>?_
  go_simp
  go_at_call 21
  refine (name_c d.name _ (by omega)).mono ?_
  rintro e w' ⟨he,hw⟩
  rw [HNB.out] at he
  subst he
  obtain rfl:wt=w':=hw
  refine hK.out _ _ (hHeld) fun _=>?_
  clear hK K hHeld;rename_i hHeld;try simp only [Act.put,pA,pB,pC]
  refine rgT 15 _ hHeld ?_
  refine rgT 16 _ hHeld ?_
  refine rgT 17 _ hHeld ?_
  refine rgO 18 fun K hK=>?_
  go_simp
  go_at_call 60
  refine (cwithin_c _ _ _ _).mono ?_
  rintro e w' ⟨he,hw⟩
  rw [HVB.out] at he
  subst he
  obtain rfl:wt=w':=hw.symm
  refine hK.out _ _ (hHeld) fun _=>?_
  clear hK K hHeld;rename_i hHeld;try simp only [Act.put,pA,pB,pC]
  refine rgT 19 _ hHeld ?_
  refine rgT 20 _ hHeld ?_
  refine rgT 21 _ hHeld ?_
  refine rgT 22 _ hHeld ?_
  refine rgO 23 fun K hK=>?_
  go_simp
  go_at_call 94
  refine (cempty_c d.to a1 p1 _).mono ?_
  rintro e we ⟨he,hB⟩
  rw [HEB.out] at he
  subst he
  have hzwe:=hB.size
  have HCwe:Hid (Below W0.heap.size W0 we):=J (yB HCwt.out (by omega) hB)
  have HRT:=J (HRT.out.below hB)
  clear hB
  refine hK.out _ _ (HQ.out _ HCwe.out) fun _=>?_
  clear hK K hHeld;rename_i hHeld;try simp only [Act.put,pA,pB,pC]
  refine rgT 24 _ hHeld ?_
  refine rgO 25 fun K hK=>?_
  refine wp_store_blk 25 4 yN _ _ rfl rfl rfl rfl (HZ.out.step HCwe.out) rfl rfl rfl ?_
  intro W' hF hs' hBW hoth
  have HF:=J hF
  have HFB:=J (hBW _ _ (by omega) (HB0.out.trans (HCwe.out.mono (by omega))))
  have HOTH:=J hoth
  clear hF hBW hoth
  refine hK.out _ _ (by simp only [World.cell?_of_block (w:=we) (a:=⟨w.heap.size,_,none⟩) (HOTH.out w.heap.size (by omega))];exact HQ.out _ HCwe.out) fun _=>?_
  clear hK K hHeld;rename_i hHeld;try simp only [Act.put,pA,pB,pC]
  refine rgT 26 _ hHeld ?_
  refine rgD ?_
  clear hHeld
  go_wp2_with fail
  refine bodyPost_ret (yH Tryz.results78 yN _ Tryz.underlying25 rfl rfl HF.out rfl) rfl ⟨some ⟨gl,0,none⟩,4,?_,HFB.out,?_⟩
  ·rw [HDT.out,HOK.out];rfl
  ·rw [HDT.out]
   exact HRT.out.to (fun b hb _=>by omega) fun b hb _=>HOTH.out b (by omega))
theorem actT_link0 (d:Deed) (a1:Option Addr) (p1:Nat) (a2:Option Addr) (p2:Nat) (w:World) (h1:RT (fun b=>b < w.heap.size) w d.to (.agg #[.int .i64 d.to.kind,.int .i64 d.to.n,.string d.to.name,.slice a1 d.to.args.length p1])) (h2:RT (fun b=>b < w.heap.size) w d.what (.agg #[.int .i64 d.what.kind,.int .i64 d.what.n,.string d.what.name,.slice a2 d.what.args.length p2])) (hb:deedB d≤274877906944) (hk:d.kind=3) (bn bv:Bool) (hbb:(bn && bv)=false) (e1:(d.name.toList == ([]:List UInt8))=bn) (e2:(d.var == 0)=bv) :
  Calls Tryz.prog 78 #[.agg #[.int .i64 d.kind,.int .i64 d.to.kind,.int .i64 d.to.n,.string d.to.name,.slice a1 d.to.args.length p1,.int .i64 d.what.kind,.int .i64 d.what.n,.string d.what.name,.slice a2 d.what.args.length p2,.string d.name,.int .i64 d.var]] w (TermP w (deedT d) (deedOk d)):=by
 have hb1:yC [d.to]≤274877906944:=by unfold deedB at hb;omega
 have hb2:yC [d.what]≤274877906944:=by unfold deedB at hb;omega
 have hb3:d.name.size≤274877906944:=by unfold deedB at hb;omega
 have H1:=J h1
 have H2:=J h2
 have HDT:Hid (deedT d=tupT [yP sLink,d.to]):=J (by unfold deedT;rw [if_neg (by omega),if_neg (by omega),if_pos hk])
 have HOK:Hid (deedOk d=false):=J (by unfold deedOk dbareB;rw [if_neg (by omega),if_neg (by omega),if_pos hk,e1,e2,hbb];simp)
 have hk1:(d.kind == 1)=false:=by rw [hk];rfl
 have hk2:(d.kind == 2)=false:=by rw [hk];rfl
 have hk3:(d.kind == 3)=true:=by rw [hk];rfl
 have hk4:(d.kind == 4)=false:=by rw [hk];rfl
 clear h1 h2 hk hb
 cases bn <;> cases bv <;> (try cases hbb)
 all_goals (
  go_enter Tryz.func78,Tryz.ntmps78
  go_upto_region 1 with fail
  obtain ⟨W0,hW0⟩:=I ((w.alloc (.cells #[.int .i64 d.kind,.int .i64 d.to.kind,.int .i64 d.to.n,.string d.to.name,.slice a1 d.to.args.length p1,.int .i64 d.what.kind,.int .i64 d.what.n,.string d.what.name,.slice a2 d.what.args.length p2,.string d.name,.int .i64 d.var] 84)).alloc (.cells #[.int .i64 0,.int .i64 0,.string ⟨#[]⟩,.slice none 0 0] 25))
  have HX:Hid (Blk W0 w.heap.size [.int .i64 d.kind,.int .i64 d.to.kind,.int .i64 d.to.n,.string d.to.name,.slice a1 d.to.args.length p1,.int .i64 d.what.kind,.int .i64 d.what.n,.string d.what.name,.slice a2 d.what.args.length p2,.string d.name,.int .i64 d.var]):=J (by rw [hW0];exact (Blk.new _ _ _ _ rfl).alloc _)
  have HZ:Hid (Blk W0 (w.heap.size+1) [.int .i64 0,.int .i64 0,.string ⟨#[]⟩,.slice none 0 0]):=J (by rw [hW0];exact Blk.new _ _ _ _ (by simp))
  have HB0:Hid (Below w.heap.size w W0):=J (by rw [hW0];exact (yA _ _).trans ((yA _ _).mono (by simp)))
  have H10:=J (H1.out.below (show Below w.heap.size w W0 from HB0.out))
  have H20:=J (H2.out.below (show Below w.heap.size w W0 from HB0.out))
  have hs0:w.heap.size+2≤W0.heap.size:=by rw [hW0];simp
  obtain ⟨z0,z9,z10⟩:=HX.out.c3 0 9 10
  rw [←hW0]
  clear hW0
  go_wp2_with fail
  have HQ:Hid (∀ w':World,Below W0.heap.size W0 w'→w'.cell? ⟨w.heap.size,1,none⟩=some (.int .i64 d.to.kind)∧w'.cell? ⟨w.heap.size,2,none⟩=some (.int .i64 d.to.n)∧w'.cell? ⟨w.heap.size,3,none⟩=some (.string d.to.name)∧w'.cell? ⟨w.heap.size,4,none⟩=some (.slice a1 d.to.args.length p1)∧w'.cell? ⟨w.heap.size,5,none⟩=some (.int .i64 d.what.kind)∧w'.cell? ⟨w.heap.size,6,none⟩=some (.int .i64 d.what.n)∧w'.cell? ⟨w.heap.size,7,none⟩=some (.string d.what.name)∧w'.cell? ⟨w.heap.size,8,none⟩=some (.slice a2 d.what.args.length p2)):=J fun w' h=>⟨(HX.out.step h).cell 1 _ rfl,(HX.out.step h).cell 2 _ rfl,(HX.out.step h).cell 3 _ rfl,(HX.out.step h).cell 4 _ rfl,(HX.out.step h).cell 5 _ rfl,(HX.out.step h).cell 6 _ rfl,(HX.out.step h).cell 7 _ rfl,(HX.out.step h).cell 8 _ rfl⟩
  refine yK (fun w'=>w'.cell? ⟨w.heap.size,1,none⟩=some (.int .i64 d.to.kind)∧w'.cell? ⟨w.heap.size,2,none⟩=some (.int .i64 d.to.n)∧w'.cell? ⟨w.heap.size,3,none⟩=some (.string d.to.name)∧w'.cell? ⟨w.heap.size,4,none⟩=some (.slice a1 d.to.args.length p1)∧w'.cell? ⟨w.heap.size,5,none⟩=some (.int .i64 d.what.kind)∧w'.cell? ⟨w.heap.size,6,none⟩=some (.int .i64 d.what.n)∧w'.cell? ⟨w.heap.size,7,none⟩=some (.string d.what.name)∧w'.cell? ⟨w.heap.size,8,none⟩=some (.slice a2 d.what.args.length p2)) (by kernel_rfl) (HQ.out) ?_
  intro Wd hB hWd hWd' hHeld
  have HCWd:=J hB
  clear hB
  refine rgT 1 _ hHeld ?_
  refine rgT 2 _ hHeld ?_
  refine rgT 6 _ hHeld ?_
  refine rgO 0 fun K hK=>?_
  go_simp
  go_at_call 59
  refine (word_cword ⟨#[108,105,110,107]⟩ _).mono ?_
  rintro e wa ⟨rfl,hB⟩
  have hzwa:=hB.size
  have HCwa:Hid (Below W0.heap.size W0 wa):=J (yB HCWd.out (by omega) hB)
  clear hB
  refine hK.out _ _ (HQ.out _ HCwa.out) fun _=>?_
  clear hK K hHeld;rename_i hHeld;try simp only [Act.put,pA,pB,pC]
  refine rgO 3 fun K hK=>?_
  go_simp
  go_at_call 79
  refine (copied_c d.to _ _ _ (H10.out.below HCwa.out) (by omega)).mono ?_
  rintro e wx ⟨vwx,rfl,hB,bwx,qwx,rfl,hc,hr⟩
  have hzwx:=hB.size
  have HRwx:Hid (RT (fun b=>W0.heap.size≤b) wx d.to (.agg #[.int .i64 d.to.kind,.int .i64 d.to.n,.string d.to.name,.slice bwx d.to.args.length qwx])):=J (RT.to (S:=_) ⟨bwx,qwx,rfl,hc,hr⟩ (fun b hb _=>by omega) fun _ _ _=>rfl)
  have HCwx:Hid (Below W0.heap.size W0 wx):=J (yB HCwa.out (by omega) hB)
  clear hB hc hr
  refine hK.out _ _ (HQ.out _ HCwx.out) fun _=>?_
  clear hK K hHeld;rename_i hHeld;try simp only [Act.put,pA,pB,pC]
  refine rgO 4 fun K hK=>?_
  go_simp
  obtain ⟨wl,hwl⟩:=I (wx.alloc (.cells #[.int .i64 2,.int .i64 0,.string ⟨#[108,105,110,107]⟩,.slice none 0 0,.int .i64 d.to.kind,.int .i64 d.to.n,.string d.to.name,.slice bwx d.to.args.length qwx] 25))
  have hzl:wl.heap.size=wx.heap.size+1:=by rw [hwl];simp
  have HLT:Hid (∀ w',Below wl.heap.size wl w'→RT (fun b=>W0.heap.size≤b) w' (tupT [yP sLink,d.to]) (.agg #[.int .i64 4,.int .i64 0,.string ⟨#[]⟩,.slice (some ⟨wx.heap.size,0,none⟩) 2 2])):=J (fun w' h=>tup_lit (S:=fun b=>W0.heap.size≤b) (w:=wx) (CellsT.word sLink (CellsT.tm HRwx.out CellsT.nil)) 25 rfl rfl (by show Below (wx.heap.size+1) (wx.alloc (.cells #[.int .i64 2,.int .i64 0,.string ⟨#[108,105,110,107]⟩,.slice none 0 0,.int .i64 d.to.kind,.int .i64 d.to.n,.string d.to.name,.slice bwx d.to.args.length qwx] 25)) w';rw [←hwl,←hzl];exact h) (fun b hb _=>hb) (by omega))
  have hB:Below wx.heap.size wx wl:=by rw [hwl];exact yA _ _
  have HCwl:Hid (Below W0.heap.size W0 wl):=J (yB HCwx.out (by omega) hB)
  obtain ⟨gl,hgl⟩:=I (wx.heap.size)
  rw [←hgl] at HLT
  rw [←hwl,←hgl]
  have hgl1:W0.heap.size≤gl:=by omega
  clear hwl hB hgl
  refine hK.out _ _ (HQ.out _ HCwl.out) fun _=>?_
  clear hK K hHeld;rename_i hHeld;try simp only [Act.put,pA,pB,pC]
  refine rgO 5 fun K hK=>?_
  go_simp
  go_at_call 58
  refine (ctuple_c _ _ _ _).mono ?_
  rintro e wt ⟨rfl,hB⟩
  have hzwt:=hB.size
  have HCwt:Hid (Below W0.heap.size W0 wt):=J (yB HCwl.out (by omega) hB)
  have HRT:=J (HLT.out _ hB)
  clear hB HLT
  refine hK.out _ _ (HQ.out _ HCwt.out) fun _=>?_
  clear hK K hHeld;rename_i hHeld;try simp only [Act.put,pA,pB,pC]
  refine rgT 7 _ hHeld ?_
  refine rgN 8 hHeld ?_
  refine rgN 9 hHeld ?_
  refine rgN 10 hHeld ?_
  refine rgT 11 _ hHeld ?_
  refine rgO 12 fun K hK=>?_
  refine wp_store_blk 25 4 yN _ _ rfl rfl rfl rfl (HZ.out.step HCwt.out) rfl rfl rfl ?_
  intro W' hF hs' hBW hoth
  have HF:=J hF
  have HFB:=J (hBW _ _ (by omega) (HB0.out.trans (HCwt.out.mono (by omega))))
  have HOTH:=J hoth
  clear hF hBW hoth
  refine hK.out _ _ (by simp only [World.cell?_of_block (w:=wt) (a:=⟨w.heap.size,_,none⟩) (HOTH.out w.heap.size (by omega))];exact HQ.out _ HCwt.out) fun _=>?_
  clear hK K hHeld;rename_i hHeld;try simp only [Act.put,pA,pB,pC]
  refine rgT 13 _ hHeld ?_
  refine rgD ?_
  clear hHeld
  go_wp2_with fail
  refine bodyPost_ret (yH Tryz.results78 yN _ Tryz.underlying25 rfl rfl HF.out rfl) rfl ⟨some ⟨gl,0,none⟩,2,?_,HFB.out,?_⟩
  ·rw [HDT.out,HOK.out];rfl
  ·rw [HDT.out]
   exact HRT.out.to (fun b hb _=>by omega) fun b hb _=>HOTH.out b (by omega))
theorem actT_link1 (d:Deed) (a1:Option Addr) (p1:Nat) (a2:Option Addr) (p2:Nat) (w:World) (h1:RT (fun b=>b < w.heap.size) w d.to (.agg #[.int .i64 d.to.kind,.int .i64 d.to.n,.string d.to.name,.slice a1 d.to.args.length p1])) (h2:RT (fun b=>b < w.heap.size) w d.what (.agg #[.int .i64 d.what.kind,.int .i64 d.what.n,.string d.what.name,.slice a2 d.what.args.length p2])) (hb:deedB d≤274877906944) (hk:d.kind=3) (eb:Bool) (e1:(d.name.toList == ([]:List UInt8))=true) (e2:(d.var == 0)=true) (he:emptyB d.what=eb) :
  Calls Tryz.prog 78 #[.agg #[.int .i64 d.kind,.int .i64 d.to.kind,.int .i64 d.to.n,.string d.to.name,.slice a1 d.to.args.length p1,.int .i64 d.what.kind,.int .i64 d.what.n,.string d.what.name,.slice a2 d.what.args.length p2,.string d.name,.int .i64 d.var]] w (TermP w (deedT d) (deedOk d)):=by
 have hb1:yC [d.to]≤274877906944:=by unfold deedB at hb;omega
 have hb2:yC [d.what]≤274877906944:=by unfold deedB at hb;omega
 have hb3:d.name.size≤274877906944:=by unfold deedB at hb;omega
 have H1:=J h1
 have H2:=J h2
 have HDT:Hid (deedT d=tupT [yP sLink,d.to]):=J (by unfold deedT;rw [if_neg (by omega),if_neg (by omega),if_pos hk])
 have HOK:Hid (deedOk d=eb):=J (by unfold deedOk dbareB;rw [if_neg (by omega),if_neg (by omega),if_pos hk,e1,e2,he];simp)
 have HEB:=J he
 clear he
 have hk1:(d.kind == 1)=false:=by rw [hk];rfl
 have hk2:(d.kind == 2)=false:=by rw [hk];rfl
 have hk3:(d.kind == 3)=true:=by rw [hk];rfl
 have hk4:(d.kind == 4)=false:=by rw [hk];rfl
 clear h1 h2 hk hb
 cases eb
 all_goals (
  go_enter Tryz.func78,Tryz.ntmps78
  go_upto_region 1 with fail
  obtain ⟨W0,hW0⟩:=I ((w.alloc (.cells #[.int .i64 d.kind,.int .i64 d.to.kind,.int .i64 d.to.n,.string d.to.name,.slice a1 d.to.args.length p1,.int .i64 d.what.kind,.int .i64 d.what.n,.string d.what.name,.slice a2 d.what.args.length p2,.string d.name,.int .i64 d.var] 84)).alloc (.cells #[.int .i64 0,.int .i64 0,.string ⟨#[]⟩,.slice none 0 0] 25))
  have HX:Hid (Blk W0 w.heap.size [.int .i64 d.kind,.int .i64 d.to.kind,.int .i64 d.to.n,.string d.to.name,.slice a1 d.to.args.length p1,.int .i64 d.what.kind,.int .i64 d.what.n,.string d.what.name,.slice a2 d.what.args.length p2,.string d.name,.int .i64 d.var]):=J (by rw [hW0];exact (Blk.new _ _ _ _ rfl).alloc _)
  have HZ:Hid (Blk W0 (w.heap.size+1) [.int .i64 0,.int .i64 0,.string ⟨#[]⟩,.slice none 0 0]):=J (by rw [hW0];exact Blk.new _ _ _ _ (by simp))
  have HB0:Hid (Below w.heap.size w W0):=J (by rw [hW0];exact (yA _ _).trans ((yA _ _).mono (by simp)))
  have H10:=J (H1.out.below (show Below w.heap.size w W0 from HB0.out))
  have H20:=J (H2.out.below (show Below w.heap.size w W0 from HB0.out))
  have hs0:w.heap.size+2≤W0.heap.size:=by rw [hW0];simp
  obtain ⟨z0,z9,z10⟩:=HX.out.c3 0 9 10
  rw [←hW0]
  clear hW0
  go_wp2_with fail
  have HQ:Hid (∀ w':World,Below W0.heap.size W0 w'→w'.cell? ⟨w.heap.size,1,none⟩=some (.int .i64 d.to.kind)∧w'.cell? ⟨w.heap.size,2,none⟩=some (.int .i64 d.to.n)∧w'.cell? ⟨w.heap.size,3,none⟩=some (.string d.to.name)∧w'.cell? ⟨w.heap.size,4,none⟩=some (.slice a1 d.to.args.length p1)∧w'.cell? ⟨w.heap.size,5,none⟩=some (.int .i64 d.what.kind)∧w'.cell? ⟨w.heap.size,6,none⟩=some (.int .i64 d.what.n)∧w'.cell? ⟨w.heap.size,7,none⟩=some (.string d.what.name)∧w'.cell? ⟨w.heap.size,8,none⟩=some (.slice a2 d.what.args.length p2)):=J fun w' h=>⟨(HX.out.step h).cell 1 _ rfl,(HX.out.step h).cell 2 _ rfl,(HX.out.step h).cell 3 _ rfl,(HX.out.step h).cell 4 _ rfl,(HX.out.step h).cell 5 _ rfl,(HX.out.step h).cell 6 _ rfl,(HX.out.step h).cell 7 _ rfl,(HX.out.step h).cell 8 _ rfl⟩
  refine yK (fun w'=>w'.cell? ⟨w.heap.size,1,none⟩=some (.int .i64 d.to.kind)∧w'.cell? ⟨w.heap.size,2,none⟩=some (.int .i64 d.to.n)∧w'.cell? ⟨w.heap.size,3,none⟩=some (.string d.to.name)∧w'.cell? ⟨w.heap.size,4,none⟩=some (.slice a1 d.to.args.length p1)∧w'.cell? ⟨w.heap.size,5,none⟩=some (.int .i64 d.what.kind)∧w'.cell? ⟨w.heap.size,6,none⟩=some (.int .i64 d.what.n)∧w'.cell? ⟨w.heap.size,7,none⟩=some (.string d.what.name)∧w'.cell? ⟨w.heap.size,8,none⟩=some (.slice a2 d.what.args.length p2)) (by kernel_rfl) (HQ.out) ?_
  intro Wd hB hWd hWd' hHeld
  have HCWd:=J hB
  clear hB
  refine rgT 1 _ hHeld ?_
  refine rgT 2 _ hHeld ?_
  refine rgT 6 _ hHeld ?_
  refine rgO 0 fun K hK=>?_
  go_simp
  go_at_call 59
  refine (word_cword ⟨#[108,105,110,107]⟩ _).mono ?_
  rintro e wa ⟨rfl,hB⟩
  have hzwa:=hB.size
  have HCwa:Hid (Below W0.heap.size W0 wa):=J (yB HCWd.out (by omega) hB)
  clear hB
  refine hK.out _ _ (HQ.out _ HCwa.out) fun _=>?_
  clear hK K hHeld;rename_i hHeld;try simp only [Act.put,pA,pB,pC]
  refine rgO 3 fun K hK=>?_
  go_simp
  go_at_call 79
  refine (copied_c d.to _ _ _ (H10.out.below HCwa.out) (by omega)).mono ?_
  rintro e wx ⟨vwx,rfl,hB,bwx,qwx,rfl,hc,hr⟩
  have hzwx:=hB.size
  have HRwx:Hid (RT (fun b=>W0.heap.size≤b) wx d.to (.agg #[.int .i64 d.to.kind,.int .i64 d.to.n,.string d.to.name,.slice bwx d.to.args.length qwx])):=J (RT.to (S:=_) ⟨bwx,qwx,rfl,hc,hr⟩ (fun b hb _=>by omega) fun _ _ _=>rfl)
  have HCwx:Hid (Below W0.heap.size W0 wx):=J (yB HCwa.out (by omega) hB)
  clear hB hc hr
  refine hK.out _ _ (HQ.out _ HCwx.out) fun _=>?_
  clear hK K hHeld;rename_i hHeld;try simp only [Act.put,pA,pB,pC]
  refine rgO 4 fun K hK=>?_
  go_simp
  obtain ⟨wl,hwl⟩:=I (wx.alloc (.cells #[.int .i64 2,.int .i64 0,.string ⟨#[108,105,110,107]⟩,.slice none 0 0,.int .i64 d.to.kind,.int .i64 d.to.n,.string d.to.name,.slice bwx d.to.args.length qwx] 25))
  have hzl:wl.heap.size=wx.heap.size+1:=by rw [hwl];simp
  have HLT:Hid (∀ w',Below wl.heap.size wl w'→RT (fun b=>W0.heap.size≤b) w' (tupT [yP sLink,d.to]) (.agg #[.int .i64 4,.int .i64 0,.string ⟨#[]⟩,.slice (some ⟨wx.heap.size,0,none⟩) 2 2])):=J (fun w' h=>tup_lit (S:=fun b=>W0.heap.size≤b) (w:=wx) (CellsT.word sLink (CellsT.tm HRwx.out CellsT.nil)) 25 rfl rfl (by show Below (wx.heap.size+1) (wx.alloc (.cells #[.int .i64 2,.int .i64 0,.string ⟨#[108,105,110,107]⟩,.slice none 0 0,.int .i64 d.to.kind,.int .i64 d.to.n,.string d.to.name,.slice bwx d.to.args.length qwx] 25)) w';rw [←hwl,←hzl];exact h) (fun b hb _=>hb) (by omega))
  have hB:Below wx.heap.size wx wl:=by rw [hwl];exact yA _ _
  have HCwl:Hid (Below W0.heap.size W0 wl):=J (yB HCwx.out (by omega) hB)
  obtain ⟨gl,hgl⟩:=I (wx.heap.size)
  rw [←hgl] at HLT
  rw [←hwl,←hgl]
  have hgl1:W0.heap.size≤gl:=by omega
  clear hwl hB hgl
  refine hK.out _ _ (HQ.out _ HCwl.out) fun _=>?_
  clear hK K hHeld;rename_i hHeld;try simp only [Act.put,pA,pB,pC]
  refine rgO 5 fun K hK=>?_
  go_simp
  go_at_call 58
  refine (ctuple_c _ _ _ _).mono ?_
  rintro e wt ⟨rfl,hB⟩
  have hzwt:=hB.size
  have HCwt:Hid (Below W0.heap.size W0 wt):=J (yB HCwl.out (by omega) hB)
  have HRT:=J (HLT.out _ hB)
  clear hB HLT
  refine hK.out _ _ (HQ.out _ HCwt.out) fun _=>?_
  clear hK K hHeld;rename_i hHeld;try simp only [Act.put,pA,pB,pC]
  refine rgT 7 _ hHeld ?_
  refine rgT 8 _ hHeld ?_
  refine rgT 9 _ hHeld ?_
  refine rgO 10 fun K hK=>?_
  go_simp
  go_at_call 94
  refine (cempty_c d.what a2 p2 _).mono ?_
  rintro e we ⟨he,hB⟩
  rw [HEB.out] at he
  subst he
  have hzwe:=hB.size
  have HCwe:Hid (Below W0.heap.size W0 we):=J (yB HCwt.out (by omega) hB)
  have HRT:=J (HRT.out.below hB)
  clear hB
  refine hK.out _ _ (HQ.out _ HCwe.out) fun _=>?_
  clear hK K hHeld;rename_i hHeld;try simp only [Act.put,pA,pB,pC]
  refine rgT 11 _ hHeld ?_
  refine rgO 12 fun K hK=>?_
  refine wp_store_blk 25 4 yN _ _ rfl rfl rfl rfl (HZ.out.step HCwe.out) rfl rfl rfl ?_
  intro W' hF hs' hBW hoth
  have HF:=J hF
  have HFB:=J (hBW _ _ (by omega) (HB0.out.trans (HCwe.out.mono (by omega))))
  have HOTH:=J hoth
  clear hF hBW hoth
  refine hK.out _ _ (by simp only [World.cell?_of_block (w:=we) (a:=⟨w.heap.size,_,none⟩) (HOTH.out w.heap.size (by omega))];exact HQ.out _ HCwe.out) fun _=>?_
  clear hK K hHeld;rename_i hHeld;try simp only [Act.put,pA,pB,pC]
  refine rgT 13 _ hHeld ?_
  refine rgD ?_
  clear hHeld
  go_wp2_with fail
  refine bodyPost_ret (yH Tryz.results78 yN _ Tryz.underlying25 rfl rfl HF.out rfl) rfl ⟨some ⟨gl,0,none⟩,2,?_,HFB.out,?_⟩
  ·rw [HDT.out,HOK.out];rfl
  ·rw [HDT.out]
   exact HRT.out.to (fun b hb _=>by omega) fun b hb _=>HOTH.out b (by omega))
theorem actT_stop0 (d:Deed) (a1:Option Addr) (p1:Nat) (a2:Option Addr) (p2:Nat) (w:World) (h1:RT (fun b=>b < w.heap.size) w d.to (.agg #[.int .i64 d.to.kind,.int .i64 d.to.n,.string d.to.name,.slice a1 d.to.args.length p1])) (h2:RT (fun b=>b < w.heap.size) w d.what (.agg #[.int .i64 d.what.kind,.int .i64 d.what.n,.string d.what.name,.slice a2 d.what.args.length p2])) (hb:deedB d≤274877906944) (hk:d.kind=4) (bn bv:Bool) (hbb:(bn && bv)=false) (e1:(d.name.toList == ([]:List UInt8))=bn) (e2:(d.var == 0)=bv) :
  Calls Tryz.prog 78 #[.agg #[.int .i64 d.kind,.int .i64 d.to.kind,.int .i64 d.to.n,.string d.to.name,.slice a1 d.to.args.length p1,.int .i64 d.what.kind,.int .i64 d.what.n,.string d.what.name,.slice a2 d.what.args.length p2,.string d.name,.int .i64 d.var]] w (TermP w (deedT d) (deedOk d)):=by
 have hb1:yC [d.to]≤274877906944:=by unfold deedB at hb;omega
 have hb2:yC [d.what]≤274877906944:=by unfold deedB at hb;omega
 have hb3:d.name.size≤274877906944:=by unfold deedB at hb;omega
 have H1:=J h1
 have H2:=J h2
 have HDT:Hid (deedT d=tupT [yP sStop]):=J (by unfold deedT;rw [if_neg (by omega),if_neg (by omega),if_neg (by omega),if_pos hk])
 have HOK:Hid (deedOk d=false):=J (by unfold deedOk dbareB;rw [if_neg (by omega),if_neg (by omega),if_neg (by omega),if_pos hk,e1,e2,hbb];simp)
 have hk1:(d.kind == 1)=false:=by rw [hk];rfl
 have hk2:(d.kind == 2)=false:=by rw [hk];rfl
 have hk3:(d.kind == 3)=false:=by rw [hk];rfl
 have hk4:(d.kind == 4)=true:=by rw [hk];rfl
 clear h1 h2 hk hb
 cases bn <;> cases bv <;> (try cases hbb)
 all_goals (
  go_enter Tryz.func78,Tryz.ntmps78
  go_upto_region 1 with fail
  obtain ⟨W0,hW0⟩:=I ((w.alloc (.cells #[.int .i64 d.kind,.int .i64 d.to.kind,.int .i64 d.to.n,.string d.to.name,.slice a1 d.to.args.length p1,.int .i64 d.what.kind,.int .i64 d.what.n,.string d.what.name,.slice a2 d.what.args.length p2,.string d.name,.int .i64 d.var] 84)).alloc (.cells #[.int .i64 0,.int .i64 0,.string ⟨#[]⟩,.slice none 0 0] 25))
  have HX:Hid (Blk W0 w.heap.size [.int .i64 d.kind,.int .i64 d.to.kind,.int .i64 d.to.n,.string d.to.name,.slice a1 d.to.args.length p1,.int .i64 d.what.kind,.int .i64 d.what.n,.string d.what.name,.slice a2 d.what.args.length p2,.string d.name,.int .i64 d.var]):=J (by rw [hW0];exact (Blk.new _ _ _ _ rfl).alloc _)
  have HZ:Hid (Blk W0 (w.heap.size+1) [.int .i64 0,.int .i64 0,.string ⟨#[]⟩,.slice none 0 0]):=J (by rw [hW0];exact Blk.new _ _ _ _ (by simp))
  have HB0:Hid (Below w.heap.size w W0):=J (by rw [hW0];exact (yA _ _).trans ((yA _ _).mono (by simp)))
  have H10:=J (H1.out.below (show Below w.heap.size w W0 from HB0.out))
  have H20:=J (H2.out.below (show Below w.heap.size w W0 from HB0.out))
  have hs0:w.heap.size+2≤W0.heap.size:=by rw [hW0];simp
  obtain ⟨z0,z9,z10⟩:=HX.out.c3 0 9 10
  rw [←hW0]
  clear hW0
  go_wp2_with fail
  refine (word_cword ⟨#[115,116,111,112]⟩ _).mono ?_
  rintro e wa ⟨rfl,hB⟩
  have hza:=hB.size
  have HCa:=J hB
  clear hB
  go_wp2_with fail
  refine (ctuple_c _ _ _ _).mono ?_
  rintro e wt ⟨rfl,hB⟩
  have hzt:=hB.size
  simp only [World.size_alloc] at hzt
  have HRT:Hid (RT (fun b=>W0.heap.size≤b) wt (tupT [yP sStop]) (.agg #[.int .i64 4,.int .i64 0,.string ⟨#[]⟩,.slice (some ⟨wa.heap.size,0,none⟩) 1 1])):=J (tup_lit (S:=fun b=>W0.heap.size≤b) (w:=wa) (CellsT.word sStop CellsT.nil) 25 rfl rfl (by have hB':=hB;simp only [World.size_alloc] at hB';exact hB') (fun b hb _=>hb) (by omega))
  have HCt:Hid (Below W0.heap.size W0 wt):=J (yB (HCa.out.alloc (by omega) _) (by simp;omega) hB)
  obtain ⟨gl,hgl⟩:=I (wa.heap.size)
  rw [←hgl]
  rw [←hgl] at HRT
  have hgl1:W0.heap.size≤gl:=by omega
  clear hB hgl z0 z9 z10
  go_wp2_with (refine yI 25 4 yN _ _ rfl rfl rfl rfl rfl (HZ.out.step HCt.out) rfl rfl rfl ?_;intro W' hF hs' hBW hoth;have HF:=J hF;have HFB:=J (hBW _ _ (by omega) (HB0.out.trans (HCt.out.mono (by omega))));have HOTH:=J hoth;clear hF hBW hoth)
  refine bodyPost_ret (yH Tryz.results78 yN _ Tryz.underlying25 rfl rfl HF.out rfl) rfl ⟨some ⟨gl,0,none⟩,1,?_,HFB.out,?_⟩
  ·rw [HDT.out,HOK.out];rfl
  ·rw [HDT.out]
   exact HRT.out.to (fun b hb _=>by omega) fun b hb _=>HOTH.out b (by omega))
theorem actT_stop1 (d:Deed) (a1:Option Addr) (p1:Nat) (a2:Option Addr) (p2:Nat) (w:World) (h1:RT (fun b=>b < w.heap.size) w d.to (.agg #[.int .i64 d.to.kind,.int .i64 d.to.n,.string d.to.name,.slice a1 d.to.args.length p1])) (h2:RT (fun b=>b < w.heap.size) w d.what (.agg #[.int .i64 d.what.kind,.int .i64 d.what.n,.string d.what.name,.slice a2 d.what.args.length p2])) (hb:deedB d≤274877906944) (hk:d.kind=4) (e1:(d.name.toList == ([]:List UInt8))=true) (e2:(d.var == 0)=true) (he:emptyB d.to=false) :
  Calls Tryz.prog 78 #[.agg #[.int .i64 d.kind,.int .i64 d.to.kind,.int .i64 d.to.n,.string d.to.name,.slice a1 d.to.args.length p1,.int .i64 d.what.kind,.int .i64 d.what.n,.string d.what.name,.slice a2 d.what.args.length p2,.string d.name,.int .i64 d.var]] w (TermP w (deedT d) (deedOk d)):=by
 have hb1:yC [d.to]≤274877906944:=by unfold deedB at hb;omega
 have hb2:yC [d.what]≤274877906944:=by unfold deedB at hb;omega
 have hb3:d.name.size≤274877906944:=by unfold deedB at hb;omega
 have H1:=J h1
 have H2:=J h2
 have HDT:Hid (deedT d=tupT [yP sStop]):=J (by unfold deedT;rw [if_neg (by omega),if_neg (by omega),if_neg (by omega),if_pos hk])
 have HOK:Hid (deedOk d=false):=J (by unfold deedOk dbareB;rw [if_neg (by omega),if_neg (by omega),if_neg (by omega),if_pos hk,e1,e2,he];simp)
 have HEB:=J he
 clear he
 have hk1:(d.kind == 1)=false:=by rw [hk];rfl
 have hk2:(d.kind == 2)=false:=by rw [hk];rfl
 have hk3:(d.kind == 3)=false:=by rw [hk];rfl
 have hk4:(d.kind == 4)=true:=by rw [hk];rfl
 clear h1 h2 hk hb
 all_goals (
  go_enter Tryz.func78,Tryz.ntmps78
  go_upto_region 1 with fail
  obtain ⟨W0,hW0⟩:=I ((w.alloc (.cells #[.int .i64 d.kind,.int .i64 d.to.kind,.int .i64 d.to.n,.string d.to.name,.slice a1 d.to.args.length p1,.int .i64 d.what.kind,.int .i64 d.what.n,.string d.what.name,.slice a2 d.what.args.length p2,.string d.name,.int .i64 d.var] 84)).alloc (.cells #[.int .i64 0,.int .i64 0,.string ⟨#[]⟩,.slice none 0 0] 25))
  have HX:Hid (Blk W0 w.heap.size [.int .i64 d.kind,.int .i64 d.to.kind,.int .i64 d.to.n,.string d.to.name,.slice a1 d.to.args.length p1,.int .i64 d.what.kind,.int .i64 d.what.n,.string d.what.name,.slice a2 d.what.args.length p2,.string d.name,.int .i64 d.var]):=J (by rw [hW0];exact (Blk.new _ _ _ _ rfl).alloc _)
  have HZ:Hid (Blk W0 (w.heap.size+1) [.int .i64 0,.int .i64 0,.string ⟨#[]⟩,.slice none 0 0]):=J (by rw [hW0];exact Blk.new _ _ _ _ (by simp))
  have HB0:Hid (Below w.heap.size w W0):=J (by rw [hW0];exact (yA _ _).trans ((yA _ _).mono (by simp)))
  have H10:=J (H1.out.below (show Below w.heap.size w W0 from HB0.out))
  have H20:=J (H2.out.below (show Below w.heap.size w W0 from HB0.out))
  have hs0:w.heap.size+2≤W0.heap.size:=by rw [hW0];simp
  obtain ⟨z0,z9,z10⟩:=HX.out.c3 0 9 10
  rw [←hW0]
  clear hW0
  go_wp2_with fail
  refine (word_cword ⟨#[115,116,111,112]⟩ _).mono ?_
  rintro e wa ⟨rfl,hB⟩
  have hza:=hB.size
  have HCa:=J hB
  clear hB
  go_wp2_with fail
  refine (ctuple_c _ _ _ _).mono ?_
  rintro e wt ⟨rfl,hB⟩
  have hzt:=hB.size
  simp only [World.size_alloc] at hzt
  have HRT:Hid (RT (fun b=>W0.heap.size≤b) wt (tupT [yP sStop]) (.agg #[.int .i64 4,.int .i64 0,.string ⟨#[]⟩,.slice (some ⟨wa.heap.size,0,none⟩) 1 1])):=J (tup_lit (S:=fun b=>W0.heap.size≤b) (w:=wa) (CellsT.word sStop CellsT.nil) 25 rfl rfl (by have hB':=hB;simp only [World.size_alloc] at hB';exact hB') (fun b hb _=>hb) (by omega))
  have HCt:Hid (Below W0.heap.size W0 wt):=J (yB (HCa.out.alloc (by omega) _) (by simp;omega) hB)
  obtain ⟨gl,hgl⟩:=I (wa.heap.size)
  rw [←hgl]
  rw [←hgl] at HRT
  have hgl1:W0.heap.size≤gl:=by omega
  clear hB hgl z0 z9 z10
  obtain ⟨y1,y2,y3,y4⟩:=(HX.out.step HCt.out).c4 1 2 3 4
  go_wp2_with fail
  refine (cempty_c d.to a1 p1 _).mono ?_
  rintro e we ⟨he,hB⟩
  rw [HEB.out] at he
  subst he
  have hze:=hB.size
  have HCe:Hid (Below W0.heap.size W0 we):=J (yB HCt.out (by omega) hB)
  have HRT:=J (HRT.out.below hB)
  clear hB y1 y2 y3 y4
  go_wp2_with (refine yI 25 4 yN _ _ rfl rfl rfl rfl rfl (HZ.out.step HCe.out) rfl rfl rfl ?_;intro W' hF hs' hBW hoth;have HF:=J hF;have HFB:=J (hBW _ _ (by omega) (HB0.out.trans (HCe.out.mono (by omega))));have HOTH:=J hoth;clear hF hBW hoth)
  refine bodyPost_ret (yH Tryz.results78 yN _ Tryz.underlying25 rfl rfl HF.out rfl) rfl ⟨some ⟨gl,0,none⟩,1,?_,HFB.out,?_⟩
  ·rw [HDT.out,HOK.out];rfl
  ·rw [HDT.out]
   exact HRT.out.to (fun b hb _=>by omega) fun b hb _=>HOTH.out b (by omega))
theorem actT_stop2 (d:Deed) (a1:Option Addr) (p1:Nat) (a2:Option Addr) (p2:Nat) (w:World) (h1:RT (fun b=>b < w.heap.size) w d.to (.agg #[.int .i64 d.to.kind,.int .i64 d.to.n,.string d.to.name,.slice a1 d.to.args.length p1])) (h2:RT (fun b=>b < w.heap.size) w d.what (.agg #[.int .i64 d.what.kind,.int .i64 d.what.n,.string d.what.name,.slice a2 d.what.args.length p2])) (hb:deedB d≤274877906944) (hk:d.kind=4) (e1:(d.name.toList == ([]:List UInt8))=true) (e2:(d.var == 0)=true) (he:emptyB d.to=true) (fb:Bool) (hf:emptyB d.what=fb) :
  Calls Tryz.prog 78 #[.agg #[.int .i64 d.kind,.int .i64 d.to.kind,.int .i64 d.to.n,.string d.to.name,.slice a1 d.to.args.length p1,.int .i64 d.what.kind,.int .i64 d.what.n,.string d.what.name,.slice a2 d.what.args.length p2,.string d.name,.int .i64 d.var]] w (TermP w (deedT d) (deedOk d)):=by
 have hb1:yC [d.to]≤274877906944:=by unfold deedB at hb;omega
 have hb2:yC [d.what]≤274877906944:=by unfold deedB at hb;omega
 have hb3:d.name.size≤274877906944:=by unfold deedB at hb;omega
 have H1:=J h1
 have H2:=J h2
 have HDT:Hid (deedT d=tupT [yP sStop]):=J (by unfold deedT;rw [if_neg (by omega),if_neg (by omega),if_neg (by omega),if_pos hk])
 have HOK:Hid (deedOk d=fb):=J (by unfold deedOk dbareB;rw [if_neg (by omega),if_neg (by omega),if_neg (by omega),if_pos hk,e1,e2,he,hf];simp)
 have HEB:=J he
 have HFB2:=J hf
 clear he hf
 have hk1:(d.kind == 1)=false:=by rw [hk];rfl
 have hk2:(d.kind == 2)=false:=by rw [hk];rfl
 have hk3:(d.kind == 3)=false:=by rw [hk];rfl
 have hk4:(d.kind == 4)=true:=by rw [hk];rfl
 clear h1 h2 hk hb
 cases fb
 all_goals (
  go_enter Tryz.func78,Tryz.ntmps78
  go_upto_region 1 with fail
  obtain ⟨W0,hW0⟩:=I ((w.alloc (.cells #[.int .i64 d.kind,.int .i64 d.to.kind,.int .i64 d.to.n,.string d.to.name,.slice a1 d.to.args.length p1,.int .i64 d.what.kind,.int .i64 d.what.n,.string d.what.name,.slice a2 d.what.args.length p2,.string d.name,.int .i64 d.var] 84)).alloc (.cells #[.int .i64 0,.int .i64 0,.string ⟨#[]⟩,.slice none 0 0] 25))
  have HX:Hid (Blk W0 w.heap.size [.int .i64 d.kind,.int .i64 d.to.kind,.int .i64 d.to.n,.string d.to.name,.slice a1 d.to.args.length p1,.int .i64 d.what.kind,.int .i64 d.what.n,.string d.what.name,.slice a2 d.what.args.length p2,.string d.name,.int .i64 d.var]):=J (by rw [hW0];exact (Blk.new _ _ _ _ rfl).alloc _)
  have HZ:Hid (Blk W0 (w.heap.size+1) [.int .i64 0,.int .i64 0,.string ⟨#[]⟩,.slice none 0 0]):=J (by rw [hW0];exact Blk.new _ _ _ _ (by simp))
  have HB0:Hid (Below w.heap.size w W0):=J (by rw [hW0];exact (yA _ _).trans ((yA _ _).mono (by simp)))
  have H10:=J (H1.out.below (show Below w.heap.size w W0 from HB0.out))
  have H20:=J (H2.out.below (show Below w.heap.size w W0 from HB0.out))
  have hs0:w.heap.size+2≤W0.heap.size:=by rw [hW0];simp
  obtain ⟨z0,z9,z10⟩:=HX.out.c3 0 9 10
  rw [←hW0]
  clear hW0
  go_wp2_with fail
  refine (word_cword ⟨#[115,116,111,112]⟩ _).mono ?_
  rintro e wa ⟨rfl,hB⟩
  have hza:=hB.size
  have HCa:=J hB
  clear hB
  go_wp2_with fail
  refine (ctuple_c _ _ _ _).mono ?_
  rintro e wt ⟨rfl,hB⟩
  have hzt:=hB.size
  simp only [World.size_alloc] at hzt
  have HRT:Hid (RT (fun b=>W0.heap.size≤b) wt (tupT [yP sStop]) (.agg #[.int .i64 4,.int .i64 0,.string ⟨#[]⟩,.slice (some ⟨wa.heap.size,0,none⟩) 1 1])):=J (tup_lit (S:=fun b=>W0.heap.size≤b) (w:=wa) (CellsT.word sStop CellsT.nil) 25 rfl rfl (by have hB':=hB;simp only [World.size_alloc] at hB';exact hB') (fun b hb _=>hb) (by omega))
  have HCt:Hid (Below W0.heap.size W0 wt):=J (yB (HCa.out.alloc (by omega) _) (by simp;omega) hB)
  obtain ⟨gl,hgl⟩:=I (wa.heap.size)
  rw [←hgl]
  rw [←hgl] at HRT
  have hgl1:W0.heap.size≤gl:=by omega
  clear hB hgl z0 z9 z10
  obtain ⟨y1,y2,y3,y4⟩:=(HX.out.step HCt.out).c4 1 2 3 4
  go_wp2_with fail
  refine (cempty_c d.to a1 p1 _).mono ?_
  rintro e we ⟨he,hB⟩
  rw [HEB.out] at he
  subst he
  have hze:=hB.size
  have HCe:Hid (Below W0.heap.size W0 we):=J (yB HCt.out (by omega) hB)
  have HRT:=J (HRT.out.below hB)
  clear hB y1 y2 y3 y4
  obtain ⟨y5,y6,y7,y8⟩:=(HX.out.step HCe.out).c4 5 6 7 8
  go_wp2_with fail
  refine (cempty_c d.what a2 p2 _).mono ?_
  rintro e wf ⟨he,hB⟩
  rw [HFB2.out] at he
  subst he
  have hzf:=hB.size
  have HCf:Hid (Below W0.heap.size W0 wf):=J (yB HCe.out (by omega) hB)
  have HRT:=J (HRT.out.below hB)
  clear hB y5 y6 y7 y8
  go_wp2_with (refine yI 25 4 yN _ _ rfl rfl rfl rfl rfl (HZ.out.step HCf.out) rfl rfl rfl ?_;intro W' hF hs' hBW hoth;have HF:=J hF;have HFB:=J (hBW _ _ (by omega) (HB0.out.trans (HCf.out.mono (by omega))));have HOTH:=J hoth;clear hF hBW hoth)
  refine bodyPost_ret (yH Tryz.results78 yN _ Tryz.underlying25 rfl rfl HF.out rfl) rfl ⟨some ⟨gl,0,none⟩,1,?_,HFB.out,?_⟩
  ·rw [HDT.out,HOK.out];rfl
  ·rw [HDT.out]
   exact HRT.out.to (fun b hb _=>by omega) fun b hb _=>HOTH.out b (by omega))
theorem actT_other (d:Deed) (a1:Option Addr) (p1:Nat) (a2:Option Addr) (p2:Nat) (w:World) (h1:RT (fun b=>b < w.heap.size) w d.to (.agg #[.int .i64 d.to.kind,.int .i64 d.to.n,.string d.to.name,.slice a1 d.to.args.length p1])) (h2:RT (fun b=>b < w.heap.size) w d.what (.agg #[.int .i64 d.what.kind,.int .i64 d.what.n,.string d.what.name,.slice a2 d.what.args.length p2])) (hb:deedB d≤274877906944) (bn bv:Bool) (e1:(d.name.toList == ([]:List UInt8))=bn) (e2:(d.var == 0)=bv) (n1:d.kind≠1) (n2:d.kind≠2) (n3:d.kind≠3) (n4:d.kind≠4) :
  Calls Tryz.prog 78 #[.agg #[.int .i64 d.kind,.int .i64 d.to.kind,.int .i64 d.to.n,.string d.to.name,.slice a1 d.to.args.length p1,.int .i64 d.what.kind,.int .i64 d.what.n,.string d.what.name,.slice a2 d.what.args.length p2,.string d.name,.int .i64 d.var]] w (TermP w (deedT d) (deedOk d)):=by
 have hb1:yC [d.to]≤274877906944:=by unfold deedB at hb;omega
 have hb2:yC [d.what]≤274877906944:=by unfold deedB at hb;omega
 have hb3:d.name.size≤274877906944:=by unfold deedB at hb;omega
 have H1:=J h1
 have H2:=J h2
 have HDT:Hid (deedT d=yJ):=J (by unfold deedT;rw [if_neg n1,if_neg n2,if_neg n3,if_neg n4])
 have HOK:Hid (deedOk d=false):=J (by unfold deedOk;rw [if_neg n1,if_neg n2,if_neg n3,if_neg n4])
 have hk1:(d.kind == 1)=false:=by simpa using n1
 have hk2:(d.kind == 2)=false:=by simpa using n2
 have hk3:(d.kind == 3)=false:=by simpa using n3
 have hk4:(d.kind == 4)=false:=by simpa using n4
 clear h1 h2 hb n1 n2 n3 n4
 cases bn <;> cases bv
 all_goals (
  go_enter Tryz.func78,Tryz.ntmps78
  go_upto_region 1 with fail
  obtain ⟨W0,hW0⟩:=I ((w.alloc (.cells #[.int .i64 d.kind,.int .i64 d.to.kind,.int .i64 d.to.n,.string d.to.name,.slice a1 d.to.args.length p1,.int .i64 d.what.kind,.int .i64 d.what.n,.string d.what.name,.slice a2 d.what.args.length p2,.string d.name,.int .i64 d.var] 84)).alloc (.cells #[.int .i64 0,.int .i64 0,.string ⟨#[]⟩,.slice none 0 0] 25))
  have HX:Hid (Blk W0 w.heap.size [.int .i64 d.kind,.int .i64 d.to.kind,.int .i64 d.to.n,.string d.to.name,.slice a1 d.to.args.length p1,.int .i64 d.what.kind,.int .i64 d.what.n,.string d.what.name,.slice a2 d.what.args.length p2,.string d.name,.int .i64 d.var]):=J (by rw [hW0];exact (Blk.new _ _ _ _ rfl).alloc _)
  have HZ:Hid (Blk W0 (w.heap.size+1) [.int .i64 0,.int .i64 0,.string ⟨#[]⟩,.slice none 0 0]):=J (by rw [hW0];exact Blk.new _ _ _ _ (by simp))
  have HB0:Hid (Below w.heap.size w W0):=J (by rw [hW0];exact (yA _ _).trans ((yA _ _).mono (by simp)))
  have H10:=J (H1.out.below (show Below w.heap.size w W0 from HB0.out))
  have H20:=J (H2.out.below (show Below w.heap.size w W0 from HB0.out))
  have hs0:w.heap.size+2≤W0.heap.size:=by rw [hW0];simp
  obtain ⟨z0,z9,z10⟩:=HX.out.c3 0 9 10
  rw [←hW0]
  clear hW0
  go_wp2_with (refine yI 25 4 yN _ _ rfl rfl rfl rfl rfl HZ.out rfl rfl rfl ?_;intro W' hF hs' hBW hoth;have HF:=J hF;have HFB:=J (hBW _ _ (by omega) HB0.out);have HOTH:=J hoth;clear hF hBW hoth)
  refine bodyPost_ret (yH Tryz.results78 yN _ Tryz.underlying25 rfl rfl HF.out rfl) rfl ⟨none,0,?_,HFB.out,?_⟩
  ·rw [HDT.out,HOK.out];rfl
  ·rw [HDT.out];exact zeroT_rt _ _)
theorem actT_c (d:Deed) (a1:Option Addr) (p1:Nat) (a2:Option Addr) (p2:Nat) (w:World) (h1:RT (fun b=>b < w.heap.size) w d.to (.agg #[.int .i64 d.to.kind,.int .i64 d.to.n,.string d.to.name,.slice a1 d.to.args.length p1])) (h2:RT (fun b=>b < w.heap.size) w d.what (.agg #[.int .i64 d.what.kind,.int .i64 d.what.n,.string d.what.name,.slice a2 d.what.args.length p2])) (hb:deedB d≤274877906944) :
  Calls Tryz.prog 78 #[.agg #[.int .i64 d.kind,.int .i64 d.to.kind,.int .i64 d.to.n,.string d.to.name,.slice a1 d.to.args.length p1,.int .i64 d.what.kind,.int .i64 d.what.n,.string d.what.name,.slice a2 d.what.args.length p2,.string d.name,.int .i64 d.var]] w (TermP w (deedT d) (deedOk d)):=by
 by_cases k1:d.kind=1
 ·exact actT_send d a1 p1 a2 p2 w h1 h2 hb k1 _ _ rfl rfl
 by_cases k2:d.kind=2
 ·cases hn:nameB d.name
  ·exact actT_spawn0 d a1 p1 a2 p2 w h1 h2 hb k2 _ _ rfl rfl hn
  cases hv:(decide (0≤d.var) && decide (d.var≤3))
  ·exact actT_spawn1 d a1 p1 a2 p2 w h1 h2 hb k2 _ _ rfl rfl hn hv
  exact actT_spawn2 d a1 p1 a2 p2 w h1 h2 hb k2 _ _ rfl rfl hn hv _ rfl
 by_cases k3:d.kind=3
 ·cases e1:(d.name.toList == ([]:List UInt8)) <;> cases e2:(d.var == 0)
  ·exact actT_link0 d a1 p1 a2 p2 w h1 h2 hb k3 _ _ rfl e1 e2
  ·exact actT_link0 d a1 p1 a2 p2 w h1 h2 hb k3 _ _ rfl e1 e2
  ·exact actT_link0 d a1 p1 a2 p2 w h1 h2 hb k3 _ _ rfl e1 e2
  exact actT_link1 d a1 p1 a2 p2 w h1 h2 hb k3 _ e1 e2 rfl
 by_cases k4:d.kind=4
 ·cases e1:(d.name.toList == ([]:List UInt8)) <;> cases e2:(d.var == 0)
  ·exact actT_stop0 d a1 p1 a2 p2 w h1 h2 hb k4 _ _ rfl e1 e2
  ·exact actT_stop0 d a1 p1 a2 p2 w h1 h2 hb k4 _ _ rfl e1 e2
  ·exact actT_stop0 d a1 p1 a2 p2 w h1 h2 hb k4 _ _ rfl e1 e2
  cases he:emptyB d.to
  ·exact actT_stop1 d a1 p1 a2 p2 w h1 h2 hb k4 e1 e2 he
  exact actT_stop2 d a1 p1 a2 p2 w h1 h2 hb k4 e1 e2 he _ rfl
 exact actT_other d a1 p1 a2 p2 w h1 h2 hb _ _ rfl rfl k1 k2 k3 k4
end Go.Proofs.YtedfepnekjjmnabGreat
