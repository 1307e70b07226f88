/-
  clerkref.value, clerkref.Value where the bound row's own block is told from what its terms lead to. Conditions: a formed term, four bound ones, bounds. Printed by mvr.py.
-/
import Derived.Test.YtedfepnekjjmnabGreatJd
import Derived.Test.YtedfepnekjjmnabGreatJi
namespace Go.Proofs.YtedfepnekjjmnabGreat
open Go.RowKit
set_option linter.unusedSimpArgs false
set_option linter.unusedVariables false
set_option maxRecDepth 100000
set_option maxHeartbeats 4000000
section
variable {bd:List T} {self:Int} {x:T} {R S:Nat→Prop} {w:World} {v vb:Value}
theorem rvalR_5 (hv:RT S w x v) (hb:RX termE R S w bd vb) (hR:∀ b,R b→b < w.heap.size) (hl:bd.length=4) (hS:∀ b,S b→b < w.heap.size) (hk:x.kind=5) (hn:∃ k:Nat,x.n=k∧k < 4):Calls Tryz.prog 77 #[v,vb,.int .i64 self] w (VPost S w (valT bd self x)):=by
 obtain ⟨a,cap,rfl,hcap,hr⟩:=hv
 obtain ⟨ab,capb,rfl,-⟩:=hb.form
 obtain ⟨k,hn,hk4⟩:=hn
 obtain ⟨b,o,rfl⟩:=hb.addr (by decide) (by omega)
 obtain ⟨c4,hc1,hc2⟩:=hb.elem k (by omega)
 obtain ⟨a',cap',rfl,hct,hrt⟩:=hc1
 have d0:w.cell? ⟨b,o+k * 4,none⟩=_:=(hc2 0 _ rfl).2
 have d1:w.cell? ⟨b,o+k * 4+1,none⟩=_:=(hc2 1 _ rfl).2
 have d2:w.cell? ⟨b,o+k * 4+2,none⟩=_:=(hc2 2 _ rfl).2
 have d3:w.cell? ⟨b,o+k * 4+3,none⟩=_:=(hc2 3 _ rfl).2
 have hE:RT S w bd[k] (.agg #[.int .i64 bd[k].kind,.int .i64 bd[k].n,.string bd[k].name,.slice a' bd[k].args.length cap']):=⟨a',cap',rfl,hct,hrt⟩
 have hE:=J hE
 have HV:=J (valT_5 (bd:=bd) (self:=self) hk hn (by omega))
 have h1:w.heap.size < w.heap.size+1+1:=by omega
 have hlb:b < w.heap.size:=hR b (hc2 0 _ rfl).1
 have hlb':b < w.heap.size+1:=by omega
 clear hcap hr hc2 hct hrt hb
 rw [hn,hl,hk]
 have hkl:(k:Int) < 4:=by omega
 generalize bd[k]=u at *
 go_enter Tryz.func77,Tryz.ntmps77
 go_wp2_with fail
 go_region
 go_wp2_with fail
 refine bodyPost_ret (v:=.tuple #[.agg #[.int .i64 u.kind,.int .i64 u.n,.string u.name,.slice a' u.args.length cap'],.bool (u.kind != 6)]) (by simp [results,Tryz.results77,go_sem]) rfl (VPost.of u _ _ rfl ?_ ?_ ?_)
 ·repeat refine Below.setCell ?_ (by simp <;> omega) _
  exact Below.drew ((yA _ _).alloc (by simp) _)
 ·refine RT.mono (S:=S) ?_ fun b hb=>.inl hb
  repeat refine RT.slot ?_ _ _ _ (fun b hb=>by have:=hS b hb;simp <;> omega)
  exact hE.out.below (Below.drew ((yA _ _).alloc (by simp) _))
 rw [HV.out,varO];by_cases h:u.kind=6 <;> simp [h]
theorem rvalR_tup (hv:RT S w x v) (hbd:RX termE R S w bd vb) (hR:∀ b,R b→b < w.heap.size) (hS:∀ b,S b→b < w.heap.size) (hb:yC [x]≤1099511627776) (hk:x.kind=4) (hs:isT x sSelf 0=false) (hp:isT x sPut 1=false) 
  (ih:∀ y∈x.args,∀ (R S:Nat→Prop) (W:World) (p q:Value),RT S W y p→RX termE R S W bd q→(∀ b,R b→b < W.heap.size)→(∀ b,S b→b < W.heap.size)→Calls Tryz.prog 77 #[p,q,.int .i64 self] W (VPost S W (valT bd self y))) :
  Calls Tryz.prog 77 #[v,vb,.int .i64 self] w (VPost S w (valT bd self x)):=by
 obtain ⟨a,cap,rfl,hcap,hr⟩:=hv
 have HX:Hid (RT S w x _):=J ⟨a,cap,rfl,hcap,hr⟩
 have HR:=J hr
 have HBD:=J hbd
 have HRR:=J hR;clear hR
 have IH:=J ih;clear ih hbd
 have hba:=yR x
 have hla:=yM x.args
 have HV:=J (valT_tup (bd:=bd) (self:=self) hk hs hp)
 have h1:w.heap.size < w.heap.size+1+1:=by omega
 have h4:(x.kind == 4)=true:=by simpa using hk
 have h5:(x.kind == 5)=false:=by simp [hk]
 have h6:(x.kind == 6)=false:=by simp [hk]
 clear hk hcap hr
 go_enter Tryz.func77,Tryz.ntmps77
 go_wp2_with fail
 refine (is_Is x sSelf 0 S _ _ ((HX.out.alloc _).alloc _) (by omega) (by omega) (by omega)).mono ?_
 rintro e w1 ⟨rfl,hB1⟩
 rw [hs]
 have hs1:=hB1.size
 obtain ⟨hcc,hff⟩:=bcell hB1
 simp only [World.size_alloc] at hs1 hcc hff
 have g1:w.heap.size < w1.heap.size:=by omega
 have g2:w.heap.size+1 < w1.heap.size:=by omega
 have HB1:=J (yB ((yA _ _).alloc (by simp) _) (by simp <;> omega) hB1)
 have hs0:w.heap.size≤w1.heap.size:=by omega
 go_wp2_with fail
 refine (is_Is x sPut 1 S _ _ (HX.out.below HB1.out) (by omega) (by omega) (by omega)).mono ?_
 rintro e w2 ⟨rfl,hB2⟩
 rw [hp]
 have hs2:=hB2.size
 obtain ⟨hcc2,hff2⟩:=bcell hB2
 have HB2:=J (yB HB1.out (by omega) hB2)
 have g3:w.heap.size < w2.heap.size:=by omega
 have g4:w.heap.size+1 < w2.heap.size:=by omega
 have hx:w.heap.size+1 < w.heap.size+1+1:=by omega
 have hc3:w2.cell? ⟨w.heap.size,0,none⟩=some (.int .i64 x.kind)∧w2.cell? ⟨w.heap.size,1,none⟩=some (.int .i64 x.n)∧w2.cell? ⟨w.heap.size,2,none⟩=some (.string x.name)∧w2.cell? ⟨w.heap.size,3,none⟩=some (.slice a x.args.length cap):=by
  rw [hcc2 _ _ g1,hcc2 _ _ g1,hcc2 _ _ g1,hcc2 _ _ g1,hcc _ _ h1,hcc _ _ h1,hcc _ _ h1,hcc _ _ h1];go_simp
 have hz3:w2.cell? ⟨w.heap.size+1,0,none⟩=some (.int .i64 0)∧w2.cell? ⟨w.heap.size+1,1,none⟩=some (.int .i64 0)∧w2.cell? ⟨w.heap.size+1,2,none⟩=some (.string ⟨#[]⟩)∧w2.cell? ⟨w.heap.size+1,3,none⟩=some (.slice none 0 0):=by
  rw [hcc2 _ _ g2,hcc2 _ _ g2,hcc2 _ _ g2,hcc2 _ _ g2,hcc _ _ hx,hcc _ _ hx,hcc _ _ hx,hcc _ _ hx];go_simp
 have hfz:∀ o,w2.frozen? ⟨w.heap.size+1,o,none⟩=false:=fun o=>by rw [hff2 _ _ g2,hff _ _ hx];go_simp
 clear hcc hff hcc2 hff2 hB1 hB2
 go_wp2_with fail
 go_loopw [9] (fun i wr=>∃ (k:Nat) (vs:List T) (row:Value),k≤x.args.length∧i=.int .i64 k∧valL bd self (x.args.take k)=some vs∧OwnG (fun b=>S b∨w2.heap.size+1≤b) (w2.heap.size+1) wr row vs∧Below w2.heap.size w2 wr∧w2.heap.size+1≤wr.heap.size ∧
   (wr.cell? ⟨w2.heap.size,0,none⟩=some (.int .i64 4)∧wr.cell? ⟨w2.heap.size,1,none⟩=some (.int .i64 0)∧wr.cell? ⟨w2.heap.size,2,none⟩=some (.string ⟨#[]⟩)∧wr.cell? ⟨w2.heap.size,3,none⟩=some row)∧∀ o,wr.frozen? ⟨w2.heap.size,o,none⟩=false) (fun i _=>x.args.length - (intOf i).toNat)
 case atStart=>exact ⟨0,[],_,Nat.zero_le _,rfl,by rw [List.take_zero,valL_nil],OwnG.nil _ _ _,yA _ _,by simp,by go_simp,fun o=>by go_simp⟩
 obtain ⟨k,vs,row,hkl,rfl,hval,hT,hB,hsz,⟨f0,f1,f2,f3⟩,hf8⟩:=hrel
 have HT:=J hT;clear hT
 have HVL:=J hval;clear hval
 have hcB:=hB.cell (p:=⟨w.heap.size,3,none⟩) g3
 rw [hc3.2.2.2] at hcB
 have HBr:=J (yB HB2.out (by omega) hB)
 by_cases hlt:k < x.args.length
 ·obtain ⟨b,o,rfl⟩:=HR.out.addr (by omega)
  obtain ⟨a',cap',hSb,d0,d1,d2,d3,hE⟩:=(HR.out.below HBr.out).elem k hlt
  have hE:=J hE
  go_wp2_with fail
  refine (IH.out _ (List.getElem_mem hlt) R S _ _ _ hE.out (HBD.out.below HBr.out) (fun b hb=>by have:=HRR.out b hb;omega) (fun b hb=>by have:=hS b hb;omega)).mono ?_
  rintro e w3 ⟨t1,v1,ok,rfl,hB3,⟨a1,cap1,rfl,hcap1,hr1⟩,ho⟩
  have HR1:Hid (RT (fun b=>S b∨wr.heap.size≤b) w3 t1 _):=J ⟨a1,cap1,rfl,hcap1,hr1⟩
  have hs3:=hB3.size
  clear d0 d1 d2 d3 hr1 hcap1
  have hcB3:=hB3.cell (p:=⟨w.heap.size,3,none⟩) (by show w.heap.size < _;omega)
  rw [hcB] at hcB3
  have f03:=hB3.cell (p:=⟨w2.heap.size,0,none⟩) (by show w2.heap.size < _;omega)
  have f13:=hB3.cell (p:=⟨w2.heap.size,1,none⟩) (by show w2.heap.size < _;omega)
  have f23:=hB3.cell (p:=⟨w2.heap.size,2,none⟩) (by show w2.heap.size < _;omega)
  have f33:=hB3.cell (p:=⟨w2.heap.size,3,none⟩) (by show w2.heap.size < _;omega)
  rw [f0] at f03
  rw [f1] at f13
  rw [f2] at f23
  rw [f3] at f33
  have ff3:∀ o,w3.frozen? ⟨w2.heap.size,o,none⟩=false:=fun o=>by rw [hB3.frozen (p:=⟨w2.heap.size,o,none⟩) (by show w2.heap.size < _;omega)];exact hf8 o
  cases ok
  ·have HV2:=J (show valT bd self x=none by rw [HV.out,valL_none hlt ho];rfl)
   have hz6:=fun o=>hB3.cell (p:=⟨w.heap.size+1,o,none⟩) (by show w.heap.size+1 < _;omega)
   have hz7:=fun o=>hB3.frozen (p:=⟨w.heap.size+1,o,none⟩) (by show w.heap.size+1 < _;omega)
   have hz8:=fun o=>hB.cell (p:=⟨w.heap.size+1,o,none⟩) g4
   have hz9:=fun o=>hB.frozen (p:=⟨w.heap.size+1,o,none⟩) g4
   have hy3:w3.cell? ⟨w.heap.size+1,0,none⟩=some (.int .i64 0)∧w3.cell? ⟨w.heap.size+1,1,none⟩=some (.int .i64 0)∧w3.cell? ⟨w.heap.size+1,2,none⟩=some (.string ⟨#[]⟩)∧w3.cell? ⟨w.heap.size+1,3,none⟩=some (.slice none 0 0):=by
    rw [hz6,hz6,hz6,hz6,hz8,hz8,hz8,hz8];exact hz3
   have hyf:∀ o,w3.frozen? ⟨w.heap.size+1,o,none⟩=false:=fun o=>by rw [hz7,hz9];exact hfz o
   have hx3:w3.cell? ⟨w.heap.size,0,none⟩=some (.int .i64 x.kind)∧w3.cell? ⟨w.heap.size,1,none⟩=some (.int .i64 x.n)∧w3.cell? ⟨w.heap.size,2,none⟩=some (.string x.name)∧w3.cell? ⟨w.heap.size,3,none⟩=some (.slice (some ⟨b,o,none⟩) x.args.length cap):=by
    have q:=fun o=>hB3.cell (p:=⟨w.heap.size,o,none⟩) (by show w.heap.size < _;omega)
    have r:=fun o=>hB.cell (p:=⟨w.heap.size,o,none⟩) g3
    rw [q,q,q,q,r,r,r,r];exact hc3
   obtain ⟨y0,y1,y2,y3⟩:=hy3
   obtain ⟨x0,x1,x2,x3⟩:=hx3
   clear hz6 hz7 hz8 hz9 hc3 hz3 hfz hcB hcB3 f0 f1 f2 f3 f03 f13 f23 f33 hf8 ff3
   have hn1:w.heap.size < w3.heap.size:=by omega
   have hn2:w.heap.size+1 < w3.heap.size:=by omega
   go_wp2_with fail
   refine bodyPost_ret (v:=.tuple #[.agg #[.int .i64 x.kind,.int .i64 x.n,.string x.name,.slice (some ⟨b,o,none⟩) x.args.length cap],.bool false]) (by simp [results,Tryz.results77,go_sem,hn1,hn2,y0,y1,y2,y3]) rfl (VPost.of x _ _ rfl ?_ ?_ HV2.out)
   ·refine Below.alloc ?_ (by simp <;> omega) _
    repeat refine Below.setCell ?_ (by simp <;> omega) _
    exact yB HBr.out (by omega) hB3
   refine RT.mono (S:=S) (RT.alloc ?_ _) fun b hb=>.inl hb
   repeat refine RT.slot ?_ _ _ _ (fun b hb=>by have:=hS b hb;simp <;> omega)
   exact (HX.out.below HBr.out).below hB3
  have HO:=J (show valT bd self x.args[k]=some t1 from ho)
  clear ho
  have HT3:=J ((HT.out.below hB3).alloc (.cells #[.int .i64 t1.kind,.int .i64 t1.n,.string t1.name,.slice a1 t1.args.length cap1] 25))
  have HT0:=J HT.out.block
  have hlv:=valL_length HVL.out
  have hnn:vs.length+1≤1099511627776:=by rw [hlv];simp;omega
  have hw3:w2.heap.size < w3.heap.size:=by omega
  have HW4:Hid (∀ w4,Below (w2.heap.size+1) (w3.alloc (.cells #[.int .i64 t1.kind,.int .i64 t1.n,.string t1.name,.slice a1 t1.args.length cap1] 25)) w4→(w4.cell? ⟨w2.heap.size,0,none⟩=some (.int .i64 4)∧w4.cell? ⟨w2.heap.size,1,none⟩=some (.int .i64 0)∧w4.cell? ⟨w2.heap.size,2,none⟩=some (.string ⟨#[]⟩)∧w4.cell? ⟨w2.heap.size,3,none⟩=some row)∧∀ o,w4.frozen? ⟨w2.heap.size,o,none⟩=false):=J fun w4 h=>by
   have hlt:w2.heap.size < w2.heap.size+1:=by omega
   have q:=fun o=>h.cell (p:=⟨w2.heap.size,o,none⟩) hlt
   have r:=fun o=>h.frozen (p:=⟨w2.heap.size,o,none⟩) hlt
   refine ⟨⟨?_,?_,?_,?_⟩,fun o=>?_⟩
   ·rw [q];go_simp
   ·rw [q];go_simp
   ·rw [q];go_simp
   ·rw [q];go_simp
   ·rw [r];go_simp
  go_wp2_with (at_builtin;refine append_grow' _ _ rfl rfl rfl rfl (by simp) HT3.out (HR1.out.alloc _) (fun b hb hl=>⟨by rcases hb with hb | hb;exact .inl hb;exact .inr (by omega),fun he=>by have:=HT0.out b he;rcases hb with hb | hb;(have:=hS b hb;omega);omega⟩) hnn (by simp <;> omega) ?_;intro v4 w4 hT4 hB4 hw4;have hs4:=hB4.size;have H4:=J hT4;clear hT4 hw4;simp only [World.size_alloc] at hs4;obtain ⟨a4,cap4,hv4⟩:=H4.out.form;subst hv4;obtain ⟨⟨q0,q1,q2,q3⟩,q4⟩:=HW4.out w4 hB4)
  go_roundw
  case rel =>
   refine ⟨k+1,vs ++ [t1],_,by omega,by go_num,valL_snoc hlt HVL.out HO.out,H4.out.setCell _ _ _ (by omega) (fun hP=>by rcases hP with hP | hP;(have:=hS _ hP;omega);omega),?_,by simp;omega,?_,fun o=>by go_simp⟩
   ·exact Below.setCell (((yB hB (by omega) hB3).alloc (by omega) _).trans (hB4.mono (by omega))) (Nat.le_refl _) _
   go_simp
  case measure=>simp [intOf];omega
 have hkk:k=x.args.length:=by omega
 subst hkk
 have hval:=HVL.out
 rw [List.take_of_length_le (Nat.le_refl _)] at hval
 have hlv:=valL_length hval
 have HV2:=J (show valT bd self x=(if isT x sAdd 2 then sumO (vs.getD 1 yJ) (vs.getD 2 yJ) else some (tupT vs)) by rw [HV.out,hval];rfl)
 have hcr:wr.cell? ⟨w.heap.size,0,none⟩=some (.int .i64 x.kind)∧wr.cell? ⟨w.heap.size,1,none⟩=some (.int .i64 x.n)∧wr.cell? ⟨w.heap.size,2,none⟩=some (.string x.name)∧wr.cell? ⟨w.heap.size,3,none⟩=some (.slice a x.args.length cap):=by
  have r:=fun o=>hB.cell (p:=⟨w.heap.size,o,none⟩) g3
  rw [r,r,r,r];exact hc3
 have hzr:wr.cell? ⟨w.heap.size+1,0,none⟩=some (.int .i64 0)∧wr.cell? ⟨w.heap.size+1,1,none⟩=some (.int .i64 0)∧wr.cell? ⟨w.heap.size+1,2,none⟩=some (.string ⟨#[]⟩)∧wr.cell? ⟨w.heap.size+1,3,none⟩=some (.slice none 0 0):=by
  have r:=fun o=>hB.cell (p:=⟨w.heap.size+1,o,none⟩) g4
  rw [r,r,r,r];exact hz3
 have hfr:∀ o,wr.frozen? ⟨w.heap.size+1,o,none⟩=false:=fun o=>by rw [hB.frozen (p:=⟨w.heap.size+1,o,none⟩) g4];exact hfz o
 obtain ⟨x0,x1,x2,x3⟩:=hcr
 obtain ⟨y0,y1,y2,y3⟩:=hzr
 clear hc3 hz3 hfz hcB
 have hn1:w.heap.size < wr.heap.size:=by omega
 have hn2:w.heap.size+1 < wr.heap.size:=by omega
 have hn3:w2.heap.size < wr.heap.size:=by omega
 go_wp2_with fail
 refine (is_Is x sAdd 2 S _ _ (HX.out.below HBr.out) (by omega) (by omega) (by omega)).mono ?_
 rintro e w5 ⟨rfl,hB5⟩
 have hs5:=hB5.size
 obtain ⟨hcc5,hff5⟩:=bcell hB5
 have HB5:=J (yB HBr.out (by omega) hB5)
 have HT5:=J (HT.out.below hB5)
 obtain ⟨a5,cap5,hrow,hcap5,hr5⟩:=HT5.out.rsl (fun b hb=>.inr hb)
 subst hrow
 have HT6:=J hr5;clear hr5
 have hn4:w.heap.size+1 < w5.heap.size:=by omega
 cases hadd:isT x sAdd 2
 ·rw [hadd] at HV2
  go_wp2_with fail
  refine bodyPost_ret (v:=.tuple #[.agg #[.int .i64 4,.int .i64 0,.string ⟨#[]⟩,.slice a5 vs.length cap5],.bool true]) (by simp [results,Tryz.results77,go_sem,hcc5,hn2,y0,y1,y2,y3,hlv]) rfl (VPost.of (tupT vs) _ _ rfl ?_ ?_ HV2.out)
  ·repeat refine Below.setCell ?_ (by simp <;> omega) _
   exact HB5.out
  refine RT.mono (S:=fun b=>S b∨w2.heap.size+1≤b) ?_ fun b hb=>by rcases hb with hb | hb;exact .inl hb;exact .inr (by omega)
  repeat refine RT.slot ?_ _ _ _ (fun b hb=>by rcases hb with hb | hb;(have:=hS b hb;omega);omega)
  exact ⟨a5,cap5,rfl,hcap5,HT6.out⟩
 rw [hadd] at HV2
 have hln:=isT_length hadd
 obtain ⟨b5,o5,rfl⟩:=HT6.out.addr (by omega)
 obtain ⟨a6,cap6,hS6,d0,d1,d2,d3,hE6⟩:=HT6.out.elem 1 (by omega)
 obtain ⟨a7,cap7,hS7,e0,e1,e2,e3,hE7⟩:=HT6.out.elem 2 (by omega)
 have hv1:vs.getD 1 yJ=vs[1]'(by omega):=by simp [List.getD,show 1 < vs.length by omega]
 have hv2:vs.getD 2 yJ=vs[2]'(by omega):=by simp [List.getD,show 2 < vs.length by omega]
 rw [hv1,hv2] at HV2
 clear hE6 hE7 hv1 hv2
 simp only [Nat.one_mul] at d0 d1 d2 d3
 generalize vs[1]=t1 at *
 generalize vs[2]=t2 at *
 have hn5:b5 < w5.heap.size:=by rcases hS6 with h | h;(have:=hS _ h;omega);exact World.block_lt_of_cell? w5 _ d0
 have hn6:w2.heap.size < w5.heap.size:=by omega
 have hn7:w2.heap.size < w5.heap.size+1:=by omega
 have hn8:b5 < w5.heap.size+1:=by omega
 have hl5:(1:Int) < vs.length:=by omega
 have hl6:(2:Int) < vs.length:=by omega
 go_wp2_with fail
 have HSM:=J (show sumO t1 t2=if (t1.kind == 1 && t2.kind == 1 && inB (sumN t1 t2) (-1099511627776) 1099511627776) then some (numT (sumN t1 t2)) else none from rfl)
 have hB6:=fun o1 o2:Obj=>yB ((HB5.out.alloc (show w.heap.size≤w5.heap.size by omega) o1).alloc (by simp;omega) o2) (by simp;omega) (Below.refl _ _)
 have hn9:w.heap.size+1 < w5.heap.size+1:=by omega
 have yy:w5.cell? ⟨w.heap.size+1,0,none⟩=some (.int .i64 0)∧w5.cell? ⟨w.heap.size+1,1,none⟩=some (.int .i64 0)∧w5.cell? ⟨w.heap.size+1,2,none⟩=some (.string ⟨#[]⟩)∧w5.cell? ⟨w.heap.size+1,3,none⟩=some (.slice none 0 0):=by
  rw [hcc5 _ _ hn2,hcc5 _ _ hn2,hcc5 _ _ hn2,hcc5 _ _ hn2];exact ⟨y0,y1,y2,y3⟩
 have yf:∀ o,w5.frozen? ⟨w.heap.size+1,o,none⟩=false:=fun o=>by rw [hff5 _ _ hn2];exact hfr o
 have q3:w5.cell? ⟨w2.heap.size,3,none⟩=some (.slice (some ⟨b5,o5,none⟩) vs.length cap5):=by rw [hcc5 _ _ hn3];exact f3
 obtain ⟨z0,z1,z2,z3⟩:=yy
 clear x0 x1 x2 x3 y0 y1 y2 y3 hcc5 hff5 hfr f0 f1 f2 f3 hf8 HX HR HBD IH hB hB5 HT HT5 HT6 HVL HB1 HB2 HBr HV hn1 hn2 hn3
 go_region
 all_goals
  cases hk1:(t1.kind == 1)
  ·have HS2:=J (show sumO t1 t2=none by rw [HSM.out,hk1];rfl)
   go_wp2_with fail
   refine bodyPost_ret (v:=.tuple #[.agg #[.int .i64 1,.int .i64 (sumN t1 t2),.string ⟨#[]⟩,.slice none 0 0],.bool false]) (by simp [results,Tryz.results77,go_sem,hn4,hn9,z0,z1,z2,z3,sumN]) rfl (VPost.of (numT (sumN t1 t2)) _ _ rfl ?_ (numT_rt _ _ _) (by rw [HV2.out];simp [HS2.out]))
   repeat' (first | exact HB5.out | apply Below.drew | refine Below.alloc ?_ (by simp <;> omega) _ | refine Below.setCell ?_ (by simp <;> omega) _)
  ·cases hk2:(t2.kind == 1)
   ·have HS2:=J (show sumO t1 t2=none by rw [HSM.out,hk1,hk2];rfl)
    go_wp2_with fail
    refine bodyPost_ret (v:=.tuple #[.agg #[.int .i64 1,.int .i64 (sumN t1 t2),.string ⟨#[]⟩,.slice none 0 0],.bool false]) (by simp [results,Tryz.results77,go_sem,hn4,hn9,z0,z1,z2,z3,sumN]) rfl (VPost.of (numT (sumN t1 t2)) _ _ rfl ?_ (numT_rt _ _ _) (by rw [HV2.out];simp [HS2.out]))
    repeat' (first | exact HB5.out | apply Below.drew | refine Below.alloc ?_ (by simp <;> omega) _ | refine Below.setCell ?_ (by simp <;> omega) _)
   ·have HS2:=J (show sumO t1 t2=if inB (sumN t1 t2) (-1099511627776) 1099511627776 then some (numT (sumN t1 t2)) else none by rw [HSM.out,hk1,hk2];rfl)
    go_wp2_with (go_at_call 9;refine (in_c _ _ _ _).mono ?_;rintro e w' ⟨rfl,rfl⟩)
    refine bodyPost_ret (v:=.tuple #[.agg #[.int .i64 1,.int .i64 (sumN t1 t2),.string ⟨#[]⟩,.slice none 0 0],.bool (inB (sumN t1 t2) (-1099511627776) 1099511627776)]) (by simp [results,Tryz.results77,go_sem,hn4,hn9,z0,z1,z2,z3,sumN]) rfl (VPost.of (numT (sumN t1 t2)) _ _ rfl ?_ (numT_rt _ _ _) (by rw [HV2.out];simp [HS2.out]))
    repeat' (first | exact HB5.out | apply Below.drew | refine Below.alloc ?_ (by simp <;> omega) _ | refine Below.setCell ?_ (by simp <;> omega) _)
end
theorem rvalR_c (bd:List T) (self:Int) (hl:bd.length=4):∀ (x:T) (R S:Nat→Prop) (w:World) (v vb:Value),RT S w x v→RX termE R S w bd vb→(∀ b,R b→b < w.heap.size)→(∀ b,S b→b < w.heap.size)→yC [x]≤1099511627776→formL [x]=true →
  Calls Tryz.prog 77 #[v,vb,.int .i64 self] w (VPost S w (valT bd self x)):=by
 intro x
 induction x using T.ind with
 | h x ih =>
  intro R S w v vb hv hb hR hS hbk hf
  by_cases h6:x.kind=6
  ·exact rval_6 hv hS h6
  by_cases h5:x.kind=5
  ·exact rvalR_5 hv hb hR hl hS h5 (form_var hf h5)
  by_cases h4:x.kind=4
  ·cases hs:isT x sSelf 0
   ·cases hp:isT x sPut 1
    ·exact rvalR_tup hv hb hR hS hbk h4 hs hp fun y hy R S W p q h1 h2 h4 h3=>ih y hy R S W p q h1 h2 h4 h3 (by have:=bulk_mem hy;have:=yR x;omega) (form_args hf hy)
    ·exact rval_put hv hS hbk h4 hs hp
   ·exact rval_self hv hS hbk h4 hs
  ·exact rval_o hv hS h4 h5 h6
theorem rvalueR_c (bd:List T) (self:Int) (hl:bd.length=4) (x:T) (R S:Nat→Prop) (w:World) (v vb:Value) (hv:RT S w x v) (hb:RX termE R S w bd vb) (hR:∀ b,R b→b < w.heap.size) (hS:∀ b,S b→b < w.heap.size) (hbk:yC [x]+yC bd≤2000000) (hf:formL [x]=true) :
  Calls Tryz.prog 57 #[v,vb,.int .i64 self] w (VF S w (valF bd self x)):=by
 obtain ⟨a,cap,rfl,hcap,hr⟩:=hv
 obtain ⟨ab,capb,rfl,-⟩:=hb.form
 have HX:Hid (RT S w x _):=J ⟨a,cap,rfl,hcap,hr⟩
 have HB:Hid (RX termE R S w bd _):=J hb
 clear hcap hr hb
 have HV:=J (valT_bulk bd self hl x)
 have HM:=J (mul_small (yC [x]) (yC bd) hbk)
 have hS':∀ b,S b→b < w.heap.size+1+1:=fun b h=>by have:=hS b h;omega
 have HL:=J hl;clear hl
 go_enter Tryz.func57,Tryz.ntmps57
 go_wp2_with fail
 refine (rvalR_c bd self HL.out x R S _ _ _ ((HX.out.alloc _).alloc _) ((HB.out.below (yA _ _)).below (yA _ _)) (fun b hb=>by have:=hR b hb;simp;omega) (by simpa using hS') (by omega) hf).mono ?_
 rintro e w1 ⟨t,vt,ok,rfl,hB1,⟨a1,cap1,rfl,hc1,hr1⟩,ho⟩
 have HT:Hid (RT (fun b=>S b∨w.heap.size+1+1≤b) w1 t _):=J ⟨a1,cap1,rfl,hc1,by simpa using hr1⟩
 have hs1:=hB1.size
 obtain ⟨hcc,hff⟩:=bcell hB1
 simp only [World.size_alloc] at hs1 hcc hff
 have g1:w.heap.size < w1.heap.size:=by omega
 have g2:w.heap.size+1 < w1.heap.size:=by omega
 have HB1:=J (yB ((yA _ _).alloc (by simp) _) (by simp <;> omega) hB1)
 clear hB1 hc1 hr1
 have HBO:Hid (∀ o u0 u1 u2 u3,Below w.heap.size w (((((w1.setCell ⟨w.heap.size+1,0,none⟩ u0).setCell ⟨w.heap.size+1,1,none⟩ u1).setCell ⟨w.heap.size+1,2,none⟩ u2).setCell ⟨w.heap.size+1,3,none⟩ u3).alloc o)):=J fun o u0 u1 u2 u3=>by
  refine Below.alloc ?_ (by simp <;> omega) _
  repeat refine Below.setCell ?_ (by simp <;> omega) _
  exact HB1.out
 cases ok
 ·have HN:=J (valF_none (show valT bd self x=none from ho));clear ho
  go_wp2_with fail
  exact bodyPost_ret (v:=.tuple #[.agg #[.int .i64 0,.int .i64 0,.string ⟨#[]⟩,.slice none 0 0],.bool false]) (by simp [results,Tryz.results57,go_sem,hcc,hff,g1,g2]) rfl (VF.none HN.out rfl (HBO.out _ _ _ _ _))
 have HO:=J (show valT bd self x=some t from ho);clear ho
 have hbt:=Nat.le_trans (HV.out t hf HO.out) HM.out
 have HT2:=J (HT.out.alloc (.cells #[.int .i64 t.kind,.int .i64 t.n,.string t.name,.slice a1 t.args.length cap1] 25))
 go_wp2_with fail
 refine (rcheck_c t _ _ _ HT2.out.bound (fun b hb=>hb) hbt).mono ?_
 rintro e w2 ⟨rfl,hB2⟩
 have hs2:=hB2.size
 obtain ⟨hcc2,hff2⟩:=bcell hB2
 simp only [World.size_alloc] at hs2 hcc2 hff2
 have g3:w.heap.size < w2.heap.size:=by omega
 have g4:w.heap.size+1 < w2.heap.size:=by omega
 have g5:w1.heap.size < w2.heap.size:=by omega
 have k1:w.heap.size < w1.heap.size+1:=by omega
 have k2:w.heap.size+1 < w1.heap.size+1:=by omega
 have HB2:=J (yB (HB1.out.alloc (by omega) _) (by simp;omega) hB2)
 have HT3:=J (HT2.out.below hB2)
 clear hB2
 by_cases hc:yE t=0
 ·have hcb:(yE t != 0)=false:=by simp [hc]
  have HF:=J (valF_some HO.out hc);clear hc
  go_wp2_with fail
  refine bodyPost_ret (v:=.tuple #[.agg #[.int .i64 t.kind,.int .i64 t.n,.string t.name,.slice a1 t.args.length cap1],.bool true]) (by simp [results,Tryz.results57,go_sem,hcc,hff,hcc2,hff2,g1,g2,g3,g4]) rfl (VF.some HF.out rfl ?_ ?_)
  ·repeat refine Below.setCell ?_ (by simp <;> omega) _
   exact HB2.out
  refine RT.mono (S:=fun b=>S b∨w.heap.size+1+1≤b) ?_ fun b hb=>by rcases hb with hb | hb;exact .inl hb;exact .inr (by omega)
  repeat refine RT.slot ?_ _ _ _ (fun b hb=>by rcases hb with hb | hb;(have:=hS b hb;omega);omega)
  exact HT3.out
 have hcb:(yE t != 0)=true:=by simp [hc]
 have HF:=J (valF_bad HO.out hc);clear hc
 go_wp2_with fail
 refine bodyPost_ret (v:=.tuple #[.agg #[.int .i64 0,.int .i64 0,.string ⟨#[]⟩,.slice none 0 0],.bool false]) (by simp [results,Tryz.results57,go_sem,hcc,hff,hcc2,hff2,g1,g2,g3,g4]) rfl (VF.none HF.out rfl ?_)
 repeat refine Below.setCell ?_ (by simp <;> omega) _
 exact HB2.out
theorem zero_valR (bd:List T) (self:Int):valT bd self yJ=some yJ:=valT_o (by simp [yJ]) (by simp [yJ]) (by simp [yJ])
theorem rvalueZ_c (bd:List T) (self:Int) (hl:bd.length=4) (R S:Nat→Prop) (w:World) (v vb:Value) (hv:RT S w yJ v) (hb:RX termE R S w bd vb) (hR:∀ b,R b→b < w.heap.size) (hS:∀ b,S b→b < w.heap.size) (hbk:yC [yJ]+yC bd≤2000000) :
  Calls Tryz.prog 57 #[v,vb,.int .i64 self] w (VF S w (valF bd self yJ)):=by
 obtain ⟨a,cap,rfl,hcap,hr⟩:=hv
 obtain ⟨ab,capb,rfl,-⟩:=hb.form
 have HX:Hid (RT S w yJ _):=J ⟨a,cap,rfl,hcap,hr⟩
 have HB:Hid (RX termE R S w bd _):=J hb
 clear hcap hr hb
 have HV:Hid (∀ t,valT bd self yJ=some t→yC [t]≤yC [yJ] * (yC bd+1)):=J fun t h=>by rw [zero_valR] at h;cases h;exact le_mul_pos _ _ (by omega)
 have HM:=J (mul_small (yC [yJ]) (yC bd) hbk)
 have hS':∀ b,S b→b < w.heap.size+1+1:=fun b h=>by have:=hS b h;omega
 have HL:=J hl;clear hl
 go_enter Tryz.func57,Tryz.ntmps57
 go_wp2_with fail
 refine (rval_o (bd:=bd) (self:=self) ((HX.out.alloc _).alloc _) (by simpa using hS') (by simp [yJ]) (by simp [yJ]) (by simp [yJ])).mono ?_
 rintro e w1 ⟨t,vt,ok,rfl,hB1,⟨a1,cap1,rfl,hc1,hr1⟩,ho⟩
 have HT:Hid (RT (fun b=>S b∨w.heap.size+1+1≤b) w1 t _):=J ⟨a1,cap1,rfl,hc1,by simpa using hr1⟩
 have hs1:=hB1.size
 obtain ⟨hcc,hff⟩:=bcell hB1
 simp only [World.size_alloc] at hs1 hcc hff
 have g1:w.heap.size < w1.heap.size:=by omega
 have g2:w.heap.size+1 < w1.heap.size:=by omega
 have HB1:=J (yB ((yA _ _).alloc (by simp) _) (by simp <;> omega) hB1)
 clear hB1 hc1 hr1
 have HBO:Hid (∀ o u0 u1 u2 u3,Below w.heap.size w (((((w1.setCell ⟨w.heap.size+1,0,none⟩ u0).setCell ⟨w.heap.size+1,1,none⟩ u1).setCell ⟨w.heap.size+1,2,none⟩ u2).setCell ⟨w.heap.size+1,3,none⟩ u3).alloc o)):=J fun o u0 u1 u2 u3=>by
  refine Below.alloc ?_ (by simp <;> omega) _
  repeat refine Below.setCell ?_ (by simp <;> omega) _
  exact HB1.out
 cases ok
 ·have HN:=J (valF_none (show valT bd self yJ=none from ho));clear ho
  go_wp2_with fail
  exact bodyPost_ret (v:=.tuple #[.agg #[.int .i64 0,.int .i64 0,.string ⟨#[]⟩,.slice none 0 0],.bool false]) (by simp [results,Tryz.results57,go_sem,hcc,hff,g1,g2]) rfl (VF.none HN.out rfl (HBO.out _ _ _ _ _))
 have HO:=J (show valT bd self yJ=some t from ho);clear ho
 have hbt:=Nat.le_trans (HV.out t HO.out) HM.out
 have HT2:=J (HT.out.alloc (.cells #[.int .i64 t.kind,.int .i64 t.n,.string t.name,.slice a1 t.args.length cap1] 25))
 go_wp2_with fail
 refine (rcheck_c t _ _ _ HT2.out.bound (fun b hb=>hb) hbt).mono ?_
 rintro e w2 ⟨rfl,hB2⟩
 have hs2:=hB2.size
 obtain ⟨hcc2,hff2⟩:=bcell hB2
 simp only [World.size_alloc] at hs2 hcc2 hff2
 have g3:w.heap.size < w2.heap.size:=by omega
 have g4:w.heap.size+1 < w2.heap.size:=by omega
 have g5:w1.heap.size < w2.heap.size:=by omega
 have k1:w.heap.size < w1.heap.size+1:=by omega
 have k2:w.heap.size+1 < w1.heap.size+1:=by omega
 have HB2:=J (yB (HB1.out.alloc (by omega) _) (by simp;omega) hB2)
 have HT3:=J (HT2.out.below hB2)
 clear hB2
 by_cases hc:yE t=0
 ·have hcb:(yE t != 0)=false:=by simp [hc]
  have HF:=J (valF_some HO.out hc);clear hc
  go_wp2_with fail
  refine bodyPost_ret (v:=.tuple #[.agg #[.int .i64 t.kind,.int .i64 t.n,.string t.name,.slice a1 t.args.length cap1],.bool true]) (by simp [results,Tryz.results57,go_sem,hcc,hff,hcc2,hff2,g1,g2,g3,g4]) rfl (VF.some HF.out rfl ?_ ?_)
  ·repeat refine Below.setCell ?_ (by simp <;> omega) _
   exact HB2.out
  refine RT.mono (S:=fun b=>S b∨w.heap.size+1+1≤b) ?_ fun b hb=>by rcases hb with hb | hb;exact .inl hb;exact .inr (by omega)
  repeat refine RT.slot ?_ _ _ _ (fun b hb=>by rcases hb with hb | hb;(have:=hS b hb;omega);omega)
  exact HT3.out
 have hcb:(yE t != 0)=true:=by simp [hc]
 have HF:=J (valF_bad HO.out hc);clear hc
 go_wp2_with fail
 refine bodyPost_ret (v:=.tuple #[.agg #[.int .i64 0,.int .i64 0,.string ⟨#[]⟩,.slice none 0 0],.bool false]) (by simp [results,Tryz.results57,go_sem,hcc,hff,hcc2,hff2,g1,g2,g3,g4]) rfl (VF.none HF.out rfl ?_)
 repeat refine Below.setCell ?_ (by simp <;> omega) _
 exact HB2.out
end Go.Proofs.YtedfepnekjjmnabGreat
