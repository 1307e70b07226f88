/-
  reckon.value, reckon.Value, whole: what is reckoned leads to new blocks alone. Conditions: bounds on how much there is. Printed by mvt.py.
-/
import Derived.Test.YtedfepnekjjmnabGreatJc
import Derived.Test.YtedfepnekjjmnabGreatJd
namespace Go.Proofs.YtedfepnekjjmnabGreat
open Go.RowKit
set_option linter.unusedSimpArgs false
set_option linter.unusedVariables false
set_option maxRecDepth 100000
set_option maxHeartbeats 4000000
theorem form_leaf {x:T} (h:formL [x]=true) (h4:x.kind≠4):x.args=[]:=by
 rw [formL_cons] at h
 simp only [Bool.and_eq_true] at h
 have h:=h.1.1
 have key:x.args.length=0:=by
  unfold headB bareB at h
  simp only [h4,if_false] at h
  repeat' split at h
  all_goals first | (simp only [Bool.and_eq_true,decide_eq_true_eq] at h;omega) | simp_all
 exact List.length_eq_zero_iff.1 key
theorem valN_c (bd:List T) (self:Int) (hl:bd.length=4) (hbb:yC bd≤1099511627776):∀ (x:T) (S:Nat→Prop) (w:World) (v vb:Value),RT S w x v→RSl S w bd vb→(∀ b,S b→b < w.heap.size)→yC [x]≤1099511627776→formL [x]=true →
  Calls Tryz.prog 85 #[v,vb,.int .i64 self] w (VPost (fun _=>False) w (valT bd self x)):=by
 intro x
 induction x using T.ind with
 | h x ih =>
  intro S w v vb hv hb hS hbk hf
  by_cases h6:x.kind=6
  ·exact valN_6 hv h6
  by_cases h5:x.kind=5
  ·exact valN_5 hv hb hl hS hbb h5 (form_var hf h5)
  by_cases h4:x.kind=4
  ·cases hs:isT x sSelf 0
   ·cases hp:isT x sPut 1
    ·exact valN_tup hv hb hS hbk h4 hs hp fun y hy S W p q h1 h2 h3=>ih y hy S W p q h1 h2 h3 (by have:=bulk_mem hy;have:=yR x;omega) (form_args hf hy)
    ·exact valN_put hv hS hbk h4 hs hp
   ·exact valN_self hv hS hbk h4 hs
  ·exact valN_o hv hS hbk (form_leaf hf h4) h4 h5 h6
theorem valueN_c (bd:List T) (self:Int) (x:T) (S:Nat→Prop) (w:World) (v vb:Value) (hv:RT S w x v) (hb:RSl S w bd vb) (hS:∀ b,S b→b < w.heap.size) (hbk:yC [x]+yC bd≤2000000) :
  Calls Tryz.prog 69 #[v,vb,.int .i64 self] w (RO (fun _=>False) w (reckO bd self x)):=by
 obtain ⟨a,cap,rfl,hcap,hr⟩:=hv
 obtain ⟨ab,capb,rfl,hcapb,hrb⟩:=hb
 have HX:Hid (RT S w x _):=J ⟨a,cap,rfl,hcap,hr⟩
 have HB:Hid (RSl S w bd _):=J ⟨ab,capb,rfl,hcapb,hrb⟩
 clear hcap hr hcapb hrb
 have h1:w.heap.size < w.heap.size+1+1:=by omega
 have h2:w.heap.size+1 < w.heap.size+1+1:=by omega
 go_enter Tryz.func69,Tryz.ntmps69
 go_wp2_with fail
 refine (check_c x S _ _ ((HX.out.alloc _).alloc _) (by omega)).mono ?_
 rintro e w1 ⟨rfl,hB1⟩
 have hs1:=hB1.size
 obtain ⟨hcc,hff⟩:=bcell hB1
 simp only [World.size_alloc] at hs1 hcc hff
 have g1:w.heap.size < w1.heap.size:=by omega
 have g2:w.heap.size+1 < w1.heap.size:=by omega
 have HB1:=J (yB ((yA _ _).alloc (by simp) _) (by simp <;> omega) hB1)
 clear hB1
 by_cases hc:yE x=0
 ·have hcb:(yE x != 0)=false:=by simp [hc]
  have HC:=J hc;clear hc
  go_wp2_with fail
  refine (bound_c bd S _ _ (HB.out.below HB1.out) (by omega)).mono ?_
  rintro e w2 ⟨rfl,hB2⟩
  have hs2:=hB2.size
  obtain ⟨hcc2,hff2⟩:=bcell hB2
  have g3:w.heap.size < w2.heap.size:=by omega
  have g4:w.heap.size+1 < w2.heap.size:=by omega
  have HB2:=J (yB HB1.out (by omega) hB2)
  clear hB2
  cases hbd:boundB bd
  ·have HR:=J (reckO_bound (self:=self) HC.out hbd);clear hbd
   go_wp2_with fail
   refine bodyPost_ret (v:=.tuple #[.agg #[.int .i64 0,.int .i64 0,.string ⟨#[]⟩,.slice none 0 0],.int .i64 5]) (by simp [results,Tryz.results69,go_sem,hcc,hff,hcc2,hff2,g1,g2,g3,g4]) rfl (RO.zero HR.out rfl ?_)
   repeat refine Below.setCell ?_ (by simp <;> omega) _
   exact HB2.out
  have HBD:=J hbd;clear hbd
  by_cases hself:1≤self∧self≤99
  ·obtain ⟨hs3,hs4⟩:=hself
   have HI:=J (show inB self 1 99=true by simp [inB,hs3,hs4])
   go_wp2_with fail
   refine (valN_c bd self (boundB_len HBD.out) (by omega) x S _ _ _ (HX.out.below HB2.out) (HB.out.below HB2.out) (fun b hb=>by have:=hS b hb;omega) (by omega) (check_form' HC.out)).mono ?_
   rintro e w3 ⟨t,vt,ok,rfl,hB3,⟨a1,cap1,rfl,hc1,hr1⟩,ho⟩
   have HT:Hid (RT (fun b=>False∨w2.heap.size≤b) w3 t _):=J ⟨a1,cap1,rfl,hc1,hr1⟩
   have hs5:=hB3.size
   obtain ⟨hcc3,hff3⟩:=bcell hB3
   have g5:w.heap.size < w3.heap.size:=by omega
   have g6:w.heap.size+1 < w3.heap.size:=by omega
   have HB3:=J (yB HB2.out (by omega) hB3)
   clear hB3 hc1 hr1
   cases ok
   ·have HR:=J (reckO_none HC.out HBD.out HI.out (valF_none (show valT bd self x=none from ho)));clear ho
    go_wp2_with fail
    refine bodyPost_ret (v:=.tuple #[.agg #[.int .i64 0,.int .i64 0,.string ⟨#[]⟩,.slice none 0 0],.int .i64 7]) (by simp [results,Tryz.results69,go_sem,hcc,hff,hcc2,hff2,hcc3,hff3,g1,g2,g3,g4,g5,g6]) rfl (RO.zero HR.out rfl ?_)
    refine Below.alloc ?_ (by simp <;> omega) _
    repeat refine Below.setCell ?_ (by simp <;> omega) _
    exact HB3.out
   have HO:=J (show valT bd self x=some t from ho);clear ho
   have hbt:=Nat.le_trans (valT_bulk bd self (boundB_len HBD.out) x t (check_form' HC.out) HO.out) (mul_small _ _ hbk)
   have HT2:=J (HT.out.alloc (.cells #[.int .i64 t.kind,.int .i64 t.n,.string t.name,.slice a1 t.args.length cap1] 25))
   go_wp2_with fail
   refine (check_c t _ _ _ HT2.out hbt).mono ?_
   rintro e w4 ⟨rfl,hB4⟩
   have hs6:=hB4.size
   obtain ⟨hcc4,hff4⟩:=bcell hB4
   simp only [World.size_alloc] at hs6 hcc4 hff4
   have g7:w.heap.size < w4.heap.size:=by omega
   have g8:w.heap.size+1 < w4.heap.size:=by omega
   have g9:w3.heap.size < w4.heap.size:=by omega
   have k1:w.heap.size < w3.heap.size+1:=by omega
   have k2:w.heap.size+1 < w3.heap.size+1:=by omega
   have HB4:=J (yB (HB3.out.alloc (by omega) _) (by simp;omega) hB4)
   have HT3:=J (HT2.out.below hB4)
   clear hB4
   by_cases hc:yE t=0
   ·have hcb:(yE t != 0)=false:=by simp [hc]
    have HR:=J (reckO_some HC.out HBD.out HI.out (valF_some HO.out hc));clear hc
    go_wp2_with fail
    refine bodyPost_ret (v:=.tuple #[.agg #[.int .i64 t.kind,.int .i64 t.n,.string t.name,.slice a1 t.args.length cap1],.int .i64 0]) (by simp [results,Tryz.results69,go_sem,hcc,hff,hcc2,hff2,hcc3,hff3,hcc4,hff4,g1,g2,g3,g4,g5,g6,g7,g8,k2]) rfl (RO.some HR.out rfl ?_ ?_)
    ·repeat refine Below.setCell ?_ (by simp <;> omega) _
     exact HB4.out
    refine RT.mono (S:=fun b=>False∨w2.heap.size≤b) ?_ fun b hb=>by rcases hb with hb | hb;exact hb.elim;exact .inr (by omega)
    repeat refine RT.slot ?_ _ _ _ (fun b hb=>by rcases hb with hb | hb;exact hb.elim;omega)
    exact HT3.out
   have hcb:(yE t != 0)=true:=by simp [hc]
   have HR:=J (reckO_none HC.out HBD.out HI.out (valF_bad HO.out hc));clear hc
   go_wp2_with fail
   refine bodyPost_ret (v:=.tuple #[.agg #[.int .i64 0,.int .i64 0,.string ⟨#[]⟩,.slice none 0 0],.int .i64 7]) (by simp [results,Tryz.results69,go_sem,hcc,hff,hcc2,hff2,hcc3,hff3,hcc4,hff4,g1,g2,g3,g4,g5,g6,g7,g8,k2]) rfl (RO.zero HR.out rfl ?_)
   repeat refine Below.setCell ?_ (by simp <;> omega) _
   exact HB4.out
  have HR:=J (reckO_self HC.out HBD.out (show inB self 1 99=false by simp [inB];omega))
  by_cases hs3:self < 1
  ·go_wp2_with fail
   refine bodyPost_ret (v:=.tuple #[.agg #[.int .i64 0,.int .i64 0,.string ⟨#[]⟩,.slice none 0 0],.int .i64 1]) (by simp [results,Tryz.results69,go_sem,hcc,hff,hcc2,hff2,g1,g2,g3,g4]) rfl (RO.zero HR.out rfl ?_)
   repeat refine Below.setCell ?_ (by simp <;> omega) _
   exact HB2.out
  have hs4:99 < self:=by omega
  have hs5:1≤self:=by omega
  clear hself hs3
  go_wp2_with fail
  refine bodyPost_ret (v:=.tuple #[.agg #[.int .i64 0,.int .i64 0,.string ⟨#[]⟩,.slice none 0 0],.int .i64 1]) (by simp [results,Tryz.results69,go_sem,hcc,hff,hcc2,hff2,g1,g2,g3,g4]) rfl (RO.zero HR.out rfl ?_)
  repeat refine Below.setCell ?_ (by simp <;> omega) _
  exact HB2.out
 have hcb:(yE x != 0)=true:=by simp [hc]
 have HR:=J (reckO_check (bd:=bd) (self:=self) hc);clear hc
 go_wp2_with fail
 refine bodyPost_ret (v:=.tuple #[.agg #[.int .i64 0,.int .i64 0,.string ⟨#[]⟩,.slice none 0 0],.int .i64 (yE x)]) (by simp [results,Tryz.results69,go_sem,hcc,hff,g1,g2]) rfl (RO.zero HR.out rfl ?_)
 repeat refine Below.setCell ?_ (by simp <;> omega) _
 exact HB1.out
end Go.Proofs.YtedfepnekjjmnabGreat
