/-
  Contracts and plain laws, joined: Depth OrdPlain Ref1 Same Free Small Box. Conditions stand in each.
-/
import Derived.Laws.CopyOwn
import Derived.Test.YtedfepnekjjmnabGreatJa
import Derived.Test.YtedfepnekjjmnabGreatForm
import Derived.Test.YtedfepnekjjmnabGreatOrder
namespace Go.Proofs.YtedfepnekjjmnabGreat
open Go.RowKit
set_option linter.unusedSimpArgs false
set_option linter.unusedVariables false
set_option maxRecDepth 100000
set_option maxHeartbeats 1000000
def dpL:List T→Nat
 | []=>0
 | ⟨k,_,_,l⟩ :: ts=>max (if k=4 then 1+dpL l else 0) (dpL ts)
theorem dpL_cons (t:T) (ts:List T):dpL (t :: ts)=max (if t.kind=4 then 1+dpL t.args else 0) (dpL ts):=by
 obtain ⟨k,n,s,l⟩:=t;rw [dpL]
theorem dpL_append (a b:List T):dpL (a ++ b)=max (dpL a) (dpL b):=by
 induction a with
 | nil=>simp [dpL]
 | cons t ts ih=>simp only [List.cons_append,dpL_cons,ih];omega
theorem dpL_le:∀ m (ts:List T),yC ts≤m→dpL ts≤yC ts:=by
 intro m
 induction m with
 | zero=>intro ts h;cases ts with
  | nil=>simp [dpL]
  | cons t ts=>rw [yG] at h;omega
 | succ m ih =>
  intro ts h
  cases ts with
  | nil=>simp [dpL]
  | cons t ts =>
   rw [yG] at h
   have h1:=ih t.args (by omega)
   have h2:=ih ts (by omega)
   rw [dpL_cons,yG]
   split <;> omega
theorem dpL_snoc {l:List T} {k:Nat} (h:k < l.length):dpL (l.take (k+1))=max (dpL (l.take k)) (dpL [l[k]]):=by
 rw [take_snoc' l k h,dpL_append]
theorem depth_c:∀ (t:T) (S:Nat→Prop) (w:World) (v:Value),RT S w t v→yC [t]≤1099511627776 →
  Calls Tryz.prog 73 #[v] w fun e w'=>e=.returned (.int .i64 (dpL [t]))∧Below w.heap.size w w':=by
 intro t
 induction t using T.ind with
 | h t ih =>
  intro S w v hv hb
  obtain ⟨a,cap,rfl,hcap,hr⟩:=hv
  have hba:=yR t
  have hla:=yM t.args
  have hsz:=dpL_le _ t.args (Nat.le_refl _)
  have HX:=J (show dpL [t]=if t.kind=4 then 1+dpL t.args else 0 by rw [dpL_cons];simp [dpL])
  have IH:=J ih;clear ih
  have HR:=J hr;clear hr
  by_cases hk:(t.kind == 4)=true
  ·have hk':(t.kind != 4)=false:=by simpa using hk
   go_enter Tryz.func73,Tryz.ntmps73
   go_wp2_with fail
   go_loopw [3,12] (fun nn i wr=>∃ k:Nat,k≤t.args.length∧i=.int .i64 k∧nn=.int .i64 ((dpL (t.args.take k):Nat):Int)∧Below w.heap.size w wr) (fun _ i _=>t.args.length - (intOf i).toNat)
   case atStart=>exact ⟨0,Nat.zero_le _,rfl,by simp [dpL],yA _ _⟩
   case round =>
    obtain ⟨k,hkl,rfl,rfl,hB⟩:=hrel
    have hbt:=bulk_take t.args k
    have hst:=dpL_le _ (t.args.take k) (Nat.le_refl _)
    by_cases hlt:k < t.args.length
    ·obtain ⟨b,o,rfl⟩:=HR.out.addr (by omega)
     obtain ⟨a',cap',_,d0,d1,d2,d3,hE⟩:=(HR.out.below hB).elem k hlt
     have hbk:=bulk_at hlt
     have hsk:=dpL_le _ [t.args[k]] (Nat.le_refl _)
     have HS:=J (dpL_snoc hlt)
     have hsz':=hB.size
     go_wp2_with fail
     refine (IH.out _ (List.getElem_mem hlt) S _ _ (hE.alloc _) (by omega)).mono ?_
     rintro e w1 ⟨rfl,hB1⟩
     go_wp2_with fail
     go_roundw
     case rel=>exact ⟨k+1,by omega,by go_num,by rw [HS.out];go_num,yB (hB.alloc (by omega) _) (by simp;omega) hB1⟩
     case measure=>simp [intOf];omega
    ·have hkk:k=t.args.length:=by omega
     subst hkk
     go_wp2_with fail
     go_ret
     refine ⟨yO ?_,hB⟩
     rw [HX.out,if_pos (by simpa using hk)];omega
  ·have hk':(t.kind != 4)=true:=by simpa using hk
   go_enter Tryz.func73,Tryz.ntmps73
   go_wp2_with fail
   go_ret
   refine ⟨yO ?_,yA _ _⟩
   rw [HX.out,if_neg (by simpa using hk)];rfl
def yF:List T→Bool
 | []=>true
 | ⟨k,_,_,l⟩ :: ts=>(k != 5 && k != 6 && yF l) && yF ts
theorem closedL_cons (t:T) (ts:List T):yF (t :: ts)=((t.kind != 5 && t.kind != 6 && yF t.args) && yF ts):=by
 obtain ⟨k,n,s,l⟩:=t;rw [yF]
theorem closedL_any (ts:List T):yF ts=!(ts.any fun x=>!yF [x]):=by
 induction ts with
 | nil=>simp [yF]
 | cons t ts ih=>rw [closedL_cons,ih,List.any_cons,closedL_cons];simp [yF]
theorem closed_c:∀ (t:T) (S:Nat→Prop) (w:World) (v:Value),RT S w t v→yC [t]≤1099511627776 →
  Calls Tryz.prog 52 #[v] w fun e w'=>e=.returned (.bool (yF [t]))∧Below w.heap.size w w':=by
 intro t
 induction t using T.ind with
 | h t ih =>
  intro S w v hv hb
  obtain ⟨a,cap,rfl,hcap,hr⟩:=hv
  have hba:=yR t
  have hla:=yM t.args
  have IH:=J ih;clear ih
  have HR:=J hr;clear hr
  have HF:=J (show yF [t]=(t.kind != 5 && t.kind != 6 && yF t.args) by rw [closedL_cons];simp [yF])
  have hf:∀ x∈t.args,∀ (W:World) (u:Value),RT S W x u→Calls Tryz.prog 75 #[u] W fun e w'=>e=.returned (.bool (!yF [x]))∧Below W.heap.size W w':=by
   intro x hx W u hu
   obtain ⟨a,cap,rfl,hcap,hr⟩:=hu
   have hbx:=bulk_mem hx
   go_enter Tryz.func75,Tryz.ntmps75
   go_wp2_with fail
   refine (IH.out x hx S _ _ (RT.alloc ⟨a,cap,rfl,hcap,hr⟩ _) (by omega)).mono ?_
   rintro e w1 ⟨rfl,hB1⟩
   go_wp2_with fail
   go_ret
   exact ⟨rfl,yB (yA _ _) (by simp) hB1⟩
  have HFF:=J hf;clear hf
  have HN:=J (closedL_any t.args)
  by_cases hk5:t.kind=5
  ·go_enter Tryz.func52,Tryz.ntmps52
   go_wp2_with fail
   go_ret
   exact ⟨yL (by rw [HF.out];simp [hk5]),yA _ _⟩
  by_cases hk6:t.kind=6
  ·go_enter Tryz.func52,Tryz.ntmps52
   go_wp2_with fail
   go_ret
   exact ⟨yL (by rw [HF.out];simp [hk6]),yA _ _⟩
  go_enter Tryz.func52,Tryz.ntmps52
  go_wp2_with fail
  refine (containsFunc_Closed1 _ S _ _ _ ((RT.args hcap HR.out).alloc _) (by omega) HFF.out).mono ?_;rintro e w1 ⟨rfl,hB1⟩
  go_wp2_with fail
  go_ret
  exact ⟨yL (by rw [HF.out,HN.out]),yB (yA _ _) (by simp) hB1⟩
def yE (t:T):Int:=if formL [t] then (if dpL [t]≤12∧szL [t]≤200 then 0 else 2) else 5
theorem check_c (t:T) (S:Nat→Prop) (w:World) (v:Value) (hv:RT S w t v) (hb:yC [t]≤1099511627776) :
  Calls Tryz.prog 51 #[v] w fun e w'=>e=.returned (.int .i64 (yE t))∧Below w.heap.size w w':=by
 obtain ⟨a,cap,rfl,hcap,hr⟩:=hv
 have HV:Hid (RT S w t _):=J ⟨a,cap,rfl,hcap,hr⟩
 clear hr
 have hdb:=dpL_le _ [t] (Nat.le_refl _)
 have HC:=J (show yE t=if formL [t] then (if dpL [t]≤12∧szL [t]≤200 then 0 else 2) else 5 from rfl)
 have hsb:=szL_le _ [t] (Nat.le_refl _)
 cases hf:formL [t]
 all_goals have HF:=J hf;clear hf
 ·go_enter Tryz.func51,Tryz.ntmps51
  go_wp2_with fail
  refine (form_c t S _ _ (HV.out.alloc _) hb).mono ?_
  rintro e w1 ⟨rfl,hB1⟩
  rw [HF.out]
  go_wp2_with fail
  go_ret
  exact ⟨yO (by rw [HC.out,HF.out];simp),yB (yA _ _) (by simp) hB1⟩
 by_cases hd:dpL [t]≤12
 ·by_cases hs:szL [t]≤200
  all_goals
   go_enter Tryz.func51,Tryz.ntmps51
   go_wp2_with fail
   refine (form_c t S _ _ (HV.out.alloc _) hb).mono ?_
   rintro e w1 ⟨rfl,hB1⟩
   rw [HF.out]
   obtain ⟨hc1,-⟩:=bcell hB1
   have hs1:w.heap.size < w1.heap.size:=by have:=hB1.size;simp at this;omega
   simp only [World.size_alloc] at hc1
   go_wp2_with fail
   refine (depth_c t S _ _ ((HV.out.alloc _).below hB1) hb).mono ?_
   rintro e w2 ⟨rfl,hB2⟩
   obtain ⟨hc2,-⟩:=bcell hB2
   have hs2:w.heap.size < w2.heap.size:=by have:=hB2.size;omega
   go_wp2_with fail
   refine (size_c t S _ _ (((HV.out.alloc _).below hB1).below hB2) hb).mono ?_
   rintro e w3 ⟨rfl,hB3⟩
   go_wp2_with fail
   go_ret
   exact ⟨yO (by rw [HC.out,HF.out];simp [hd,hs]),yB (yB (yB (yA _ _) (by simp) hB1) (by omega) hB2) (by omega) hB3⟩
 go_enter Tryz.func51,Tryz.ntmps51
 go_wp2_with fail
 refine (form_c t S _ _ (HV.out.alloc _) hb).mono ?_
 rintro e w1 ⟨rfl,hB1⟩
 rw [HF.out]
 obtain ⟨hc1,-⟩:=bcell hB1
 have hs1:w.heap.size < w1.heap.size:=by have:=hB1.size;simp at this;omega
 simp only [World.size_alloc] at hc1
 go_wp2_with fail
 refine (depth_c t S _ _ ((HV.out.alloc _).below hB1) hb).mono ?_
 rintro e w2 ⟨rfl,hB2⟩
 go_wp2_with fail
 go_ret
 exact ⟨yO (by rw [HC.out,HF.out];simp [hd]),yB (yB (yA _ _) (by simp) hB1) (by omega) hB2⟩
structure Cmp3 {α:Type} (f:α→α→Int) (x y z:α):Prop where
 a1:f y x = - f x y
 a2:f z y = - f y z
 a3:f z x = - f x z
 z1:f x y=0↔x=y
 z2:f y z=0↔y=z
 z3:f x z=0↔x=z
 t:f x y≤0→f y z≤0→f x z≤0
def lexI {α β:Type} (f:α→α→Int) (g:β→β→Int) (x y:α×β):Int:=orI [f x.1 y.1,g x.2 y.2]
theorem lexI_eq {α β:Type} (f:α→α→Int) (g:β→β→Int) (x y:α×β):lexI f g x y=if f x.1 y.1=0 then g x.2 y.2 else f x.1 y.1:=by
 simp only [lexI,orI];split
 ·split <;> omega
 rfl
theorem lex3 {α β:Type} {f:α→α→Int} {g:β→β→Int} {x y z:α×β} (h:Cmp3 f x.1 y.1 z.1) (k:Cmp3 g x.2 y.2 z.2):Cmp3 (lexI f g) x y z:=by
 obtain ⟨a1,a2,a3,z1,z2,z3,t⟩:=h
 obtain ⟨b1,b2,b3,y1,y2,y3,s⟩:=k
 have e:f x.1 z.1=0→f y.1 z.1 = - f x.1 y.1:=fun h=>by rw [←z3.1 h];exact a1
 refine ⟨?_,?_,?_,?_,?_,?_,?_⟩
 all_goals simp only [lexI_eq]
 ·rw [a1];split <;> split <;> omega
 ·rw [a2];split <;> split <;> omega
 ·rw [a3];split <;> split <;> omega
 ·rw [Prod.ext_iff,←z1,←y1];split <;> omega
 ·rw [Prod.ext_iff,←z2,←y2];split <;> omega
 ·rw [Prod.ext_iff,←z3,←y3];split <;> omega
 intro h1 h2
 by_cases h3:f x.1 z.1=0
 ·have:=e h3
  rw [if_pos h3]
  by_cases h4:f x.1 y.1=0
  ·rw [if_pos h4] at h1;rw [if_pos (by omega)] at h2;exact s h1 h2
  rw [if_neg h4] at h1;rw [if_neg (by omega)] at h2;omega
 rw [if_neg h3]
 refine t ?_ ?_
 ·split at h1 <;> omega
 split at h2 <;> omega
theorem cmp3_int (x y z:Int):Cmp3 cmpI x y z:=by
 constructor <;> simp only [cmpI] <;> (repeat' split) <;> omega
structure ListCmp {α:Type} (f:α→α→Int) (F:List α→List α→Int):Prop where
 nn:F [] []=0
 nc:∀ y ys,F [] (y :: ys) = -1
 cn:∀ x xs,F (x :: xs) []=1
 cc:∀ x xs y ys,F (x :: xs) (y :: ys)=lexI f F (x,xs) (y,ys)
theorem two_of_three {α:Type} {f:α→α→Int} {x y:α} (h:Cmp3 f x y x):f y x = - f x y∧(f x y=0↔x=y):=⟨h.a1,h.z1⟩
theorem list3 {α:Type} {f:α→α→Int} {F:List α→List α→Int} (H:ListCmp f F) {p:α→Prop} (hp:∀ a b c,p a→p b→p c→Cmp3 f a b c):∀ n (xs ys zs:List α),xs.length+ys.length+zs.length≤n→(∀ x,x∈xs∨x∈ys∨x∈zs→p x)→Cmp3 F xs ys zs:=by
 intro n
 induction n with
 | zero =>
  intro xs ys zs hn _
  obtain rfl:xs=[]:=List.eq_nil_of_length_eq_zero (by omega)
  obtain rfl:ys=[]:=List.eq_nil_of_length_eq_zero (by omega)
  obtain rfl:zs=[]:=List.eq_nil_of_length_eq_zero (by omega)
  constructor <;> simp [H.nn]
 | succ n ih =>
  have two:∀ x xs y ys,xs.length+ys.length+1≤n→(∀ a,a∈x :: xs∨a∈y :: ys→p a)→F (y :: ys) (x :: xs) = - F (x :: xs) (y :: ys)∧(F (x :: xs) (y :: ys)=0↔x :: xs=y :: ys):=by
   intro x xs y ys hn h
   have k:=ih xs ys [] (by simp;omega) fun a ha=>h a (by rcases ha with ha | ha | ha <;> simp_all)
   have hxy:=two_of_three (hp x y x (h x (by simp)) (h y (by simp)) (h x (by simp)))
   rw [H.cc,H.cc,lexI_eq,lexI_eq]
   simp only
   refine ⟨?_,?_⟩
   ·rw [hxy.1,k.a1];split <;> split <;> omega
   ·simp only [List.cons.injEq]
    rw [←hxy.2,←k.z1];split <;> omega
  intro xs ys zs hn h
  match xs,ys,zs with
  | [],[],[]=>constructor <;> simp [H.nn]
  | [],[],z :: zs=>constructor <;> simp [H.nn,H.nc,H.cn]
  | [],y :: ys,[]=>constructor <;> simp [H.nn,H.nc,H.cn]
  | x :: xs,[],[]=>constructor <;> simp [H.nn,H.nc,H.cn]
  | [],y :: ys,z :: zs =>
   have k:=two y ys z zs (by simp at hn;omega) fun a ha=>h a (by rcases ha with ha | ha <;> simp [ha])
   exact ⟨by rw [H.nc,H.cn];rfl,k.1,by rw [H.nc,H.cn];rfl,by rw [H.nc];simp,k.2,by rw [H.nc];simp,fun _ _=>by rw [H.nc];decide⟩
  | x :: xs,[],z :: zs =>
   have k:=two x xs z zs (by simp at hn;omega) fun a ha=>h a (by rcases ha with ha | ha <;> simp [ha])
   exact ⟨by rw [H.nc,H.cn],by rw [H.nc,H.cn];rfl,k.1,by rw [H.cn];simp,by rw [H.nc];simp,k.2,fun h1 _=>by rw [H.cn] at h1;exact absurd h1 (by decide)⟩
  | x :: xs,y :: ys,[] =>
   have k:=two x xs y ys (by simp at hn;omega) fun a ha=>h a (by rcases ha with ha | ha <;> simp [ha])
   exact ⟨k.1,by rw [H.nc,H.cn],by rw [H.nc,H.cn],k.2,by rw [H.cn];simp,by rw [H.cn];simp,fun _ h1=>by rw [H.cn] at h1;exact absurd h1 (by decide)⟩
  | x :: xs,y :: ys,z :: zs =>
   have k:=ih xs ys zs (by simp at hn;omega) fun a ha=>h a (by rcases ha with ha | ha | ha <;> simp [ha])
   obtain ⟨a1,a2,a3,z1,z2,z3,t⟩:=lex3 (x:=(x,xs)) (y:=(y,ys)) (z:=(z,zs)) (hp x y z (h x (by simp)) (h y (by simp)) (h z (by simp))) k
   refine ⟨?_,?_,?_,?_,?_,?_,?_⟩ <;> simp only [H.cc]
   ·exact a1
   ·exact a2
   ·exact a3
   ·rw [z1];simp
   ·rw [z2];simp
   ·rw [z3];simp
   ·exact t
theorem cmp3_u8 (x y z:UInt8):Cmp3 (fun a b:UInt8=>cmpI a.toNat b.toNat) x y z:=by
 have h:=cmp3_int x.toNat y.toNat z.toNat
 have e:∀ a b:UInt8,((a.toNat:Int)=b.toNat↔a=b):=fun a b=>⟨fun h=>UInt8.toNat_inj.1 (by omega),fun h=>by rw [h]⟩
 exact ⟨h.a1,h.a2,h.a3,h.z1.trans (e _ _),h.z2.trans (e _ _),h.z3.trans (e _ _),h.t⟩
theorem bytes_listCmp:ListCmp (fun a b:UInt8=>cmpI a.toNat b.toNat) Lib.compareBytes:=by
 refine ⟨rfl,fun _ _=>rfl,fun _ _=>rfl,fun x xs y ys=>?_⟩
 rw [Lib.compareBytes,lexI_eq]
 simp only [cmpI,UInt8.lt_iff_toNat_lt]
 by_cases h1:x.toNat < y.toNat
 ·have:(x.toNat:Int) < y.toNat:=by omega
  simp [h1,this]
 have h1':¬(x.toNat:Int) < y.toNat:=by omega
 by_cases h2:y.toNat < x.toNat
 ·have:(y.toNat:Int) < x.toNat:=by omega
  simp [h1,h1',h2,this]
 have:¬(y.toNat:Int) < x.toNat:=by omega
 simp [h1,h1',h2,this]
theorem cmp3_bytes (x y z:List UInt8):Cmp3 Lib.compareBytes x y z:=list3 bytes_listCmp (p:=fun _=>True) (fun a b c _ _ _=>cmp3_u8 a b c) _ x y z (Nat.le_refl _) fun _ _=>trivial
theorem ordL_listCmp:ListCmp ordT ordL:=⟨ordL_nn,ordL_nc,ordL_cn,fun x xs y ys=>by rw [ordL_cons];rfl⟩
def keyT (t:T):Int×Int×List UInt8×Int×List T:=(t.kind,t.n,t.name.data.toList,t.args.length,t.args)
theorem ordT_lex (x y:T):ordT x y=lexI cmpI (lexI cmpI (lexI Lib.compareBytes (lexI cmpI ordL))) (keyT x) (keyT y):=by
 simp only [ordT,lexI_eq,keyT,orI]
 repeat' split
 all_goals first | rfl | omega
theorem keyT_inj {x y:T}:keyT x=keyT y↔x=y:=by
 constructor
 ·intro h
  obtain ⟨k,n,s,l⟩:=x
  obtain ⟨k',n',s',l'⟩:=y
  simp only [keyT,Prod.mk.injEq] at h
  obtain ⟨rfl,rfl,h3,_,rfl⟩:=h
  have:s=s':=by
   obtain ⟨a⟩:=s;obtain ⟨b⟩:=s'
   simp only at h3
   congr 1
   exact Array.toList_inj.1 h3
  rw [this]
 intro h;rw [h]
theorem ordT_3':∀ n (x y z:T),yC [x]≤n→yC [y]≤n→yC [z]≤n→Cmp3 ordT x y z:=by
 intro n
 induction n with
 | zero=>intro x y z h;have:=yR x;omega
 | succ n ih =>
  intro x y z h1 h2 h3
  have hx:=yR x
  have hy:=yR y
  have hz:=yR z
  have hL:Cmp3 ordL x.args y.args z.args:=list3 ordL_listCmp (p:=fun t=>yC [t]≤n) ih _ _ _ _ (Nat.le_refl _) fun a ha=>by
   rcases ha with ha | ha | ha
   ·have:=bulk_mem ha;omega
   ·have:=bulk_mem ha;omega
   ·have:=bulk_mem ha;omega
  have k:=lex3 (x:=keyT x) (y:=keyT y) (z:=keyT z) (f:=cmpI) (g:=lexI cmpI (lexI Lib.compareBytes (lexI cmpI ordL))) (cmp3_int _ _ _) (lex3 (cmp3_int _ _ _) (lex3 (cmp3_bytes _ _ _) (lex3 (cmp3_int _ _ _) hL)))
  obtain ⟨a1,a2,a3,z1,z2,z3,t⟩:=k
  simp only [←ordT_lex,keyT_inj] at a1 a2 a3 z1 z2 z3 t
  exact ⟨a1,a2,a3,z1,z2,z3,t⟩
theorem ordT_3 (x y z:T):Cmp3 ordT x y z:=ordT_3' (yC [x]+yC [y]+yC [z]) x y z (by omega) (by omega) (by omega)
theorem in_c (n lo hi:Int) (w:World) :
  Calls Tryz.prog 9 #[.int .i64 n,.int .i64 lo,.int .i64 hi] w fun e w'=>e=.returned (.bool (inB n lo hi))∧w=w':=by
 by_cases h:lo≤n
 ·go_enter Tryz.func9,Tryz.ntmps9
  go_wp2
  go_ret
  exact ⟨by simp [inB,h],rfl⟩
 go_enter Tryz.func9,Tryz.ntmps9
 go_wp2
 go_ret
 exact ⟨by simp [inB];omega,rfl⟩
def nameR (s:ByteArray) (k:Nat):Bool:=inB s.size 1 8 && (s.data.toList.take k).all lowB
theorem nameR_end (s:ByteArray):nameR s s.size=nameB s:=by
 unfold nameR nameB inB
 rw [List.take_of_length_le (by simp)]
 congr 1
 simp only [Bool.and_eq_decide,decide_eq_decide]
 simp;omega
theorem nameR_succ (s:ByteArray) (k:Nat) (h:k < s.size):nameR s (k+1)=(nameR s k && lowB s[k]):=by
 unfold nameR;rw [all_take_succ s k h,Bool.and_assoc]
theorem rname_c (s:ByteArray) (w:World) (hs:s.size≤1099511627776) :
  Calls Tryz.prog 24 #[.string s] w fun e w'=>e=.returned (.bool (nameB s))∧w=w':=by
 have HE:=J (nameR_end s)
 have H0:=J (show nameR s 0=inB s.size 1 8 by simp [nameR])
 go_enter Tryz.func24,Tryz.ntmps24
 go_wp2_with (go_at_call 9;refine (in_c _ _ _ _).mono ?_;rintro e w' ⟨rfl,rfl⟩)
 go_loop [3,4] (fun ok i=>∃ k:Nat,k≤s.size∧i=.int .i64 k∧ok=.bool (nameR s k)) (fun _ i=>s.size - (intOf i).toNat)
 case atStart=>exact ⟨0,Nat.zero_le _,rfl,by rw [H0.out]⟩
 obtain ⟨k,hk,rfl,rfl⟩:=hrel
 by_cases hlt:k < s.size
 ·have HS:=J (nameR_succ s k hlt)
  cases hn:nameR s k
  ·have HN:=J hn;clear hn
   go_wp2
   go_round
   case rel=>exact ⟨k+1,by omega,by go_num,by rw [HS.out,HN.out];rfl⟩
   case measure=>simp [intOf];omega
  have HN:=J hn;clear hn
  by_cases ha:s[k].toNat < 97
  ·skip
   go_wp2
   go_round
   case rel=>exact ⟨k+1,by omega,by go_num,by rw [HS.out,HN.out];simp [lowB];first | omega | (rw [Bool.eq_iff_iff];simp;omega)⟩
   case measure=>simp [intOf];omega
  by_cases hb:122 < s[k].toNat
  ·skip
   go_wp2
   go_round
   case rel=>exact ⟨k+1,by omega,by go_num,by rw [HS.out,HN.out];simp [lowB];first | omega | (rw [Bool.eq_iff_iff];simp;omega)⟩
   case measure=>simp [intOf];omega
  skip
  go_wp2
  go_round
  case rel=>exact ⟨k+1,by omega,by go_num,by rw [HS.out,HN.out];simp [lowB];first | omega | (rw [Bool.eq_iff_iff];simp;omega)⟩
  case measure=>simp [intOf];omega
 have hkk:k=s.size:=by omega
 subst hkk
 go_wp2
 go_ret
 exact ⟨yL HE.out,rfl⟩
theorem rsize_c:∀ (t:T) (S:Nat→Prop) (w:World) (v:Value),RT S w t v→yC [t]≤1099511627776 →
  Calls Tryz.prog 26 #[v] w fun e w'=>e=.returned (.int .i64 (szL [t]))∧Below w.heap.size w w':=by
 intro t
 induction t using T.ind with
 | h t ih =>
  intro S w v hv hb
  obtain ⟨a,cap,rfl,hcap,hr⟩:=hv
  have hba:=yR t
  have hla:=yM t.args
  have hsz:=szL_le _ t.args (Nat.le_refl _)
  have HX:=J (show szL [t]=if t.kind=4 then 1+t.args.length+szL t.args else 0 by rw [szL_cons];simp [szL])
  have IH:=J ih;clear ih
  have HR:=J hr;clear hr
  by_cases hk:(t.kind == 4)=true
  ·go_enter Tryz.func26,Tryz.ntmps26
   go_wp2_with fail
   go_loopw [3,4] (fun nn i wr=>∃ k:Nat,k≤t.args.length∧i=.int .i64 k∧nn=.int .i64 ((1+k+szL (t.args.take k):Nat):Int)∧Below w.heap.size w wr∧w.heap.size+1≤wr.heap.size∧wr.cell? ⟨w.heap.size,3,none⟩=some (.slice a t.args.length cap)) (fun _ i _=>t.args.length - (intOf i).toNat)
   case atStart=>exact ⟨0,Nat.zero_le _,rfl,by simp [szL],yA _ _,by simp,by go_simp⟩
   case round =>
    obtain ⟨k,hkl,rfl,rfl,hB,hsw,hbox⟩:=hrel
    have hbt:=bulk_take t.args k
    have hst:=szL_le _ (t.args.take k) (Nat.le_refl _)
    by_cases hlt:k < t.args.length
    ·obtain ⟨b,o,rfl⟩:=HR.out.addr (by omega)
     obtain ⟨a',cap',_,d0,d1,d2,d3,hE⟩:=(HR.out.below hB).elem k hlt
     have hbk:=bulk_at hlt
     have hsk:=szL_le _ [t.args[k]] (Nat.le_refl _)
     have HS:=J (szL_snoc hlt)
     go_wp2_with fail
     refine (IH.out _ (List.getElem_mem hlt) S _ _ hE (by omega)).mono ?_
     rintro e w1 ⟨rfl,hB1⟩
     have hs1:=hB1.size
     have hbox1:=(hB1.cell (p:=⟨w.heap.size,3,none⟩) (show w.heap.size < wr.heap.size by omega)).trans hbox
     go_wp2_with fail
     go_roundw
     case rel=>exact ⟨k+1,by omega,by go_num,by rw [HS.out];go_num,yB hB (by omega) hB1,by omega,hbox1⟩
     case measure=>simp [intOf];omega
    ·have hkk:k=t.args.length:=by omega
     subst hkk
     go_wp2_with fail
     go_ret
     refine ⟨yO ?_,hB⟩
     rw [HX.out,if_pos (by simpa using hk)];simp
  ·go_enter Tryz.func26,Tryz.ntmps26
   go_wp2_with fail
   go_ret
   refine ⟨yO ?_,yA _ _⟩
   rw [HX.out,if_neg (by simpa using hk)];rfl
theorem closedL_all:∀ m (ts:List T),yC ts≤m→yF ts=(allL ts).all fun x=>x.kind != 5 && x.kind != 6:=by
 intro m
 induction m with
 | zero=>intro ts h;cases ts with
  | nil=>simp [yF,allL]
  | cons t ts=>rw [yG] at h;omega
 | succ m ih =>
  intro ts h
  cases ts with
  | nil=>simp [yF,allL]
  | cons t ts =>
   rw [yG] at h
   rw [closedL_cons,allL_cons,List.all_cons,List.all_append,ih t.args (by omega),ih ts (by omega)]
   simp only [Bool.and_assoc]
theorem all_snoc {α:Type} (p:α→Bool) (l:List α) (k:Nat) (h:k < l.length):(l.take (k+1)).all p=((l.take k).all p && p l[k]):=by
 rw [take_snoc' l k h,List.all_append];simp
theorem all_false_at {α:Type} (p:α→Bool) (l:List α) (k:Nat) (h:k < l.length) (hf:p l[k]=false):l.all p=false:=by
 rw [List.all_eq_false];exact ⟨l[k],List.getElem_mem _,by simp [hf]⟩
theorem rclosed_c (t:T) (S:Nat→Prop) (w:World) (v:Value) (hv:RT S w t v) (hS:∀ b,S b→b < w.heap.size) (hb:yC [t]≤1099511627776) :
  Calls Tryz.prog 55 #[v] w fun e w'=>e=.returned (.bool (yF [t]))∧Below w.heap.size w w':=by
 have HC:=J (closedL_all _ [t] (Nat.le_refl _))
 have hal:=allL_le _ [t] (Nat.le_refl _)
 obtain ⟨a,cap,rfl,hcap,hr⟩:=hv
 have HV:Hid (RT S w t _):=J ⟨a,cap,rfl,hcap,hr⟩
 have HS:=J hS;clear hS hr
 go_enter Tryz.func55,Tryz.ntmps55
 go_wp2_with fail
 refine (all_c t 0 S _ _ (HV.out.alloc _) (fun b hb=>by have:=HS.out b hb;simp <;> omega) (by omega) (by omega)).mono ?_
 rintro e w1 ⟨v1,v2,rfl,hB1,hr1,hr2⟩
 obtain ⟨a1,cap1,rfl⟩:=hr1.form
 have HR1:=J hr1;clear hr1 hr2
 have hs1:=hB1.size
 simp only [World.size_alloc] at hs1
 have hBB:=yB (yA w _) (by simp) hB1
 go_wp2_with fail
 go_loop [5] (fun i=>∃ k:Nat,k≤(allL [t]).length∧i=.int .i64 k∧((allL [t]).take k).all (fun x=>x.kind != 5 && x.kind != 6)=true) (fun i=>(allL [t]).length - (intOf i).toNat)
 case atStart=>exact ⟨0,Nat.zero_le _,rfl,rfl⟩
 obtain ⟨k,hk,rfl,hall⟩:=hrel
 have HA:=J hall;clear hall
 by_cases hlt:k < (allL [t]).length
 ·obtain ⟨b,o,rfl⟩:=HR1.out.addr (by omega)
  obtain ⟨a',cap',_,d0,d1,d2,d3,hE⟩:=HR1.out.elem k hlt
  have HSN:=J (all_snoc (fun x:T=>x.kind != 5 && x.kind != 6) (allL [t]) k hlt)
  have HF:=J (all_false_at (fun x:T=>x.kind != 5 && x.kind != 6) (allL [t]) k hlt)
  by_cases h5:(allL [t])[k].kind=5
  ·have e5:((allL [t])[k].kind == 5)=true:=by simpa using h5
   go_wp2_with fail
   go_ret
   exact ⟨yL (by rw [HC.out,HF.out (by simp [h5])]),hBB⟩
  have e5:((allL [t])[k].kind == 5)=false:=by simpa using h5
  by_cases h6:(allL [t])[k].kind=6
  ·have e6:((allL [t])[k].kind == 6)=true:=by simpa using h6
   go_wp2_with fail
   go_ret
   exact ⟨yL (by rw [HC.out,HF.out (by simp [h6])]),hBB⟩
  have e6:((allL [t])[k].kind == 6)=false:=by simpa using h6
  go_wp2_with fail
  go_round
  case rel=>exact ⟨k+1,by omega,by go_num,by rw [HSN.out,HA.out];simp [h5,h6]⟩
  case measure=>simp [intOf];omega
 have hkk:k=(allL [t]).length:=by omega
 subst hkk
 go_wp2_with fail
 go_ret
 exact ⟨yL (by have:=HA.out;rw [List.take_length] at this;rw [HC.out,this]),hBB⟩
def sameT (x y:T):Bool:=ordT x y == 0
def sameL (xs ys:List T):Bool:=ordL xs ys == 0
theorem sameT_iff (x y:T):sameT x y=true↔x=y:=by rw [sameT,beq_iff_eq];exact (ordT_3 x y x).z1
theorem ordL_3 (xs ys zs:List T):Cmp3 ordL xs ys zs:=list3 ordL_listCmp (p:=fun _=>True) (fun a b c _ _ _=>ordT_3 a b c) _ _ _ _ (Nat.le_refl _) fun _ _=>trivial
theorem sameL_iff (xs ys:List T):sameL xs ys=true↔xs=ys:=by rw [sameL,beq_iff_eq];exact (ordL_3 xs ys xs).z1
theorem sameT_false {x y:T} (h:x≠y):sameT x y=false:=by
 cases e:sameT x y
 ·rfl
 exact absurd ((sameT_iff x y).1 e) h
theorem sameL_false {x y:List T} (h:x≠y):sameL x y=false:=by
 cases e:sameL x y
 ·rfl
 exact absurd ((sameL_iff x y).1 e) h
theorem ba_ext {s t:ByteArray} (h:s.data.toList=t.data.toList):s=t:=by
 obtain ⟨a⟩:=s;obtain ⟨b⟩:=t;congr 1;exact Array.toList_inj.1 h
theorem sameT_parts (x y:T) (h1:x.kind=y.kind) (h2:x.n=y.n) (h3:x.name.toList=y.name.toList):sameT x y=sameL x.args y.args:=by
 have hn:x.name=y.name:=by
  rw [Lib.toList_data,Lib.toList_data] at h3
  exact ba_ext h3
 cases e:sameL x.args y.args
 ·exact sameT_false fun h=>by rw [h] at e;rw [(sameL_iff _ _).2 rfl] at e;cases e
 rw [sameT_iff]
 have:=(sameL_iff _ _).1 e
 obtain ⟨k,n,s,l⟩:=x
 obtain ⟨k',n',s',l'⟩:=y
 simp_all
theorem sameL_at {xs ys:List T} {k:Nat} (h1:k < xs.length) (h2:k < ys.length) (h:sameT xs[k] ys[k]=false):sameL xs ys=false :=
 sameL_false fun e=>by subst e;rw [(sameT_iff _ _).2 rfl] at h;cases h
theorem sameL_all {xs ys:List T} (hl:xs.length=ys.length) (h:∀ i (h1:i < xs.length) (h2:i < ys.length),sameT xs[i] ys[i]=true):sameL xs ys=true:=by
 rw [sameL_iff]
 exact List.ext_getElem hl fun i h1 h2=>(sameT_iff _ _).1 (h i h1 h2)
theorem equalFunc_Same (S:Nat→Prop) (xs ys:List T) (w:World) (u v:Value) (hu:RSl S w xs u) (hv:RSl S w ys v) (hlx:xs.length≤1099511627776) (hly:ys.length≤1099511627776)
  (hf:∀ x∈xs,∀ y∈ys,∀ (W:World) (p q:Value),RT S W x p→RT S W y q→Calls Tryz.prog 17 #[p,q] W fun e w'=>e=.returned (.bool (sameT x y))∧Below W.heap.size W w') :
  Calls Tryz.prog 50 #[u,v,.func (.func 17) #[] #[]] w fun e w'=>e=.returned (.bool (sameL xs ys))∧Below w.heap.size w w':=by
 obtain ⟨a1,cap1,rfl,hc1,hr1⟩:=hu
 obtain ⟨a2,cap2,rfl,hc2,hr2⟩:=hv
 have HF:=J hf;clear hf
 have HX:=J hr1;clear hr1
 have HY:=J hr2;clear hr2
 by_cases hll:xs.length=ys.length
 ·have hle:xs.length≤ys.length:=by omega
  have hge:ys.length≤xs.length:=by omega
  have hb:((xs.length:Int) != (ys.length:Int))=false:=by simp [hll]
  have HL:=J hll;clear hll
  go_enter Tryz.func50,Tryz.ntmps50
  go_wp2_with fail
  go_loopw [17] (fun i wr=>∃ k:Nat,k≤xs.length∧i=.int .i64 k∧(∀ i (h0:i < k) (h1:i < xs.length) (h2:i < ys.length),sameT xs[i] ys[i]=true)∧Below w.heap.size w wr) (fun i _=>xs.length - (intOf i).toNat)
  case atStart=>exact ⟨0,Nat.zero_le _,rfl,fun i h0=>by omega,Below.refl _ _⟩
  obtain ⟨k,hkx,rfl,hall,hB⟩:=hrel
  have HA:=J hall;clear hall
  have hsw:=hB.size
  by_cases hlt:k < xs.length
  ·obtain ⟨b,o,rfl⟩:=HX.out.addr (by omega)
   obtain ⟨a',cap',_,d0,d1,d2,d3,hE⟩:=(HX.out.below hB).elem k hlt
   have hlt2:k < ys.length:=by omega
   obtain ⟨b2,o2,rfl⟩:=HY.out.addr (by omega)
   obtain ⟨a2',cap2',_,e0,e1,e2,e3,hE2⟩:=(HY.out.below hB).elem k hlt2
   have hblt:=World.block_lt_of_cell? wr _ e0
   have HAT:=J (sameL_at hlt hlt2)
   go_wp2_with fail
   refine (HF.out _ (List.getElem_mem hlt) _ (List.getElem_mem hlt2) _ _ _ ((hE.alloc _).alloc _) ((hE2.alloc _).alloc _)).mono ?_
   have HK:Hid (sameT xs[k] ys[k]=true→∀ i (h0:i < k+1) (h1:i < xs.length) (h2:i < ys.length),sameT xs[i] ys[i]=true):=J fun he i h0 h1 h2=>by
    by_cases hik:i < k
    ·exact HA.out i hik h1 h2
    ·have:i=k:=by omega
     subst this;exact he
   cases hz:sameT xs[k] ys[k]
   ·have HZ:=J hz;clear hz
    rintro e w1 ⟨rfl,hB1⟩
    go_wp2_with fail
    go_ret
    exact ⟨yL (by rw [HAT.out HZ.out]),yB ((hB.alloc (by omega) _).alloc (by simp <;> omega) _) (by simp <;> omega) hB1⟩
   have HZ:=J hz;clear hz
   rintro e w1 ⟨rfl,hB1⟩
   go_wp2_with fail
   go_roundw
   case rel=>exact ⟨k+1,by omega,by go_num,HK.out HZ.out,yB ((hB.alloc (by omega) _).alloc (by simp <;> omega) _) (by simp <;> omega) hB1⟩
   case measure=>simp [intOf];omega
  have hkk:k=xs.length:=by omega
  subst hkk
  go_wp2_with fail
  go_ret
  exact ⟨yL (by rw [sameL_all HL.out fun i h1 h2=>HA.out i h1 h1 h2]),hB⟩
 have hb:((xs.length:Int) != (ys.length:Int))=true:=by simp;omega
 have HL:=J hll;clear hll
 go_enter Tryz.func50,Tryz.ntmps50
 go_wp2_with fail
 go_ret
 exact ⟨yL (by rw [sameL_false fun e=>HL.out (by rw [e])]),Below.refl _ _⟩
theorem sameTerms_of (S:Nat→Prop) (xs ys:List T) (w:World) (u v:Value) (hu:RSl S w xs u) (hv:RSl S w ys v) (hlx:xs.length≤1099511627776) (hly:ys.length≤1099511627776)
  (hf:∀ x∈xs,∀ y∈ys,∀ (W:World) (p q:Value),RT S W x p→RT S W y q→Calls Tryz.prog 17 #[p,q] W fun e w'=>e=.returned (.bool (sameT x y))∧Below W.heap.size W w') :
  Calls Tryz.prog 19 #[u,v] w fun e w'=>e=.returned (.bool (sameL xs ys))∧Below w.heap.size w w':=by
 have HF:=J hf;clear hf
 have HU:=J hu;clear hu
 have HV:=J hv;clear hv
 go_enter Tryz.func19,Tryz.ntmps19
 go_wp2_with fail
 refine (equalFunc_Same S xs ys _ _ _ HU.out HV.out hlx hly HF.out).mono ?_
 rintro e w1 ⟨rfl,hB1⟩
 go_wp2_with fail
 go_ret
 exact ⟨rfl,hB1⟩
theorem same_c:∀ (x:T) (y:T) (S:Nat→Prop) (w:World) (p q:Value),RT S w x p→RT S w y q→yC [x]≤1099511627776→yC [y]≤1099511627776 →
  Calls Tryz.prog 17 #[p,q] w fun e w'=>e=.returned (.bool (sameT x y))∧Below w.heap.size w w':=by
 intro x
 induction x using T.ind with
 | h x ih =>
  intro y S w p q hp hq hbx hby
  obtain ⟨a1,cap1,rfl,hc1,hr1⟩:=hp
  obtain ⟨a2,cap2,rfl,hc2,hr2⟩:=hq
  have hba:=yR x
  have hbb:=yR y
  have hla:=yM x.args
  have hlb:=yM y.args
  have IH:=J ih;clear ih
  have HX:Hid (RSl S w x.args (.slice a1 x.args.length cap1)):=J ⟨a1,cap1,rfl,hc1,hr1⟩
  have HY:Hid (RSl S w y.args (.slice a2 y.args.length cap2)):=J ⟨a2,cap2,rfl,hc2,hr2⟩
  clear hr1 hr2 hc1 hc2
  have HF:Hid (∀ x1∈x.args,∀ y1∈y.args,∀ (W:World) (p q:Value),RT S W x1 p→RT S W y1 q→Calls Tryz.prog 17 #[p,q] W fun e w'=>e=.returned (.bool (sameT x1 y1))∧Below W.heap.size W w'):=J fun x1 hx y1 hy W p q h1 h2=>IH.out x1 hx y1 S W p q h1 h2 (by have:=bulk_mem hx;omega) (by have:=bulk_mem hy;omega)
  have HBB:Hid (∀ o1 o2,Below w.heap.size w ((w.alloc o1).alloc o2)):=J fun o1 o2=>(yA _ _).alloc (by simp) _
  have HN:=J (show x≠y→sameT x y=false from sameT_false)
  cases h1:(x.kind == y.kind)
  ·have H1:=J (show sameT x y=false from HN.out fun e=>by rw [e] at h1;simp at h1)
   go_enter Tryz.func17,Tryz.ntmps17
   go_wp2_with fail
   go_ret
   exact ⟨yL H1.out.symm,HBB.out _ _⟩
  cases h2:(x.n == y.n)
  ·have H1:=J (show sameT x y=false from HN.out fun e=>by rw [e] at h2;simp at h2)
   go_enter Tryz.func17,Tryz.ntmps17
   go_wp2_with fail
   go_ret
   exact ⟨yL H1.out.symm,HBB.out _ _⟩
  cases h3:(x.name.toList == y.name.toList)
  ·have H1:=J (show sameT x y=false from HN.out fun e=>by rw [e] at h3;simp at h3)
   go_enter Tryz.func17,Tryz.ntmps17
   go_wp2_with fail
   go_ret
   exact ⟨yL H1.out.symm,HBB.out _ _⟩
  have HP:=J (sameT_parts x y (by simpa using h1) (by simpa using h2) (by simpa using h3))
  go_enter Tryz.func17,Tryz.ntmps17
  go_wp2_with fail
  refine (sameTerms_of S x.args y.args _ _ _ ((HX.out.alloc _).alloc _) ((HY.out.alloc _).alloc _) (by omega) (by omega) HF.out).mono ?_
  rintro e w1 ⟨rfl,hB1⟩
  go_wp2_with fail
  go_ret
  exact ⟨yL (by rw [HP.out]),yB (HBB.out _ _) (by simp <;> omega) hB1⟩
theorem sameTerms_c (S:Nat→Prop) (xs ys:List T) (w:World) (u v:Value) (hu:RSl S w xs u) (hv:RSl S w ys v) (hx:yC xs≤1099511627776) (hy:yC ys≤1099511627776) :
  Calls Tryz.prog 19 #[u,v] w fun e w'=>e=.returned (.bool (sameL xs ys))∧Below w.heap.size w w' :=
 sameTerms_of S xs ys w u v hu hv (by have:=yM xs;omega) (by have:=yM ys;omega) fun x hx y hy W p q h1 h2=>same_c x y S W p q h1 h2 (by have:=bulk_mem hx;omega) (by have:=bulk_mem hy;omega)
/-! ### Small terms -/
def numT (n:Int):T:=⟨1,n,⟨#[]⟩,[]⟩
def yP (s:ByteArray):T:=⟨2,0,s,[]⟩
def tupT (l:List T):T:=⟨4,0,⟨#[]⟩,l⟩
theorem numT_rt (S:Nat→Prop) (w:World) (n:Int):RT S w (numT n) (.agg #[.int .i64 1,.int .i64 n,.string ⟨#[]⟩,.slice none 0 0]):=⟨none,0,rfl,⟨Nat.le_refl _,fun _=>rfl⟩,by simp [numT,RTs]⟩
theorem tupT_rt {S:Nat→Prop} {w:World} {l:List T} {v:Value} (h:RSl S w l v):RT S w (tupT l) (.agg #[.int .i64 4,.int .i64 0,.string ⟨#[]⟩,v]):=by
 obtain ⟨a,cap,rfl,h1,h2⟩:=h;exact ⟨a,cap,rfl,h1,h2⟩
def anyT:T:=⟨6,0,⟨#[]⟩,[]⟩
def freeL:List T:=[anyT,anyT,anyT,anyT]
section
variable {P:Program} {w:World} {ops:Array Oper} {rest:List Oper} {o:Oper} {a:Act} {Q:Exit→Act→World→Prop}
theorem run_copy_many (w:World) (dT sT ty elem:TypeId) (g o dLen dCap m:Nat) (a:Addr) (sLen sCap:Nat) (cur:Array Value) (t:TypeId) (cs:List Value)
  (hu:P.underlying dT=some (.slice elem)) (hs:(P.info? elem).map (·.size)=some m)
  (hg:w.heap[g]?=some (.cells cur t (0,0))) (hn:cs.length=Nat.min sLen dLen * m)
  (hsrc:∀ j v,cs[j]?=some v→w.cell? (a.add j)=some v) (hfit:o+cs.length≤cur.size) (h1:∀ v∈cs,v.oneCell'=true) :
  (Builtin.copy_ #[dT,sT] ty #[.slice (some ⟨g,o,none⟩) dLen dCap,.slice (some a) sLen sCap]).run P w =
   .ok (goInt (Nat.min sLen dLen)) (w.setRow g (cur.toList.take o ++ cs ++ cur.toList.drop (o+cs.length)).toArray):=by
 have hl:=run_loadCells_list (P:=P) w a cs hsrc
 have hst:=run_storeCells_at P g o t cs 0 cur w hg (by simpa using hfit) h1
 cases hq:P.info? elem with
 | none=>simp [hq] at hs
 | some i =>
  have hi:i.size=m:=by simpa [hq] using hs
  simp [Builtin.copy_,run_underlying hu,Builtin.lenOf,Builtin.firstCells,sizeOf,typeInfo,hq,hi,←hn,hl,hst]
end
def anyC:List Value:=[.int .i64 6,.int .i64 0,.string ⟨#[]⟩,.slice none 0 0]
theorem mul64_c (w:World):Calls Tryz.prog 107 #[.int .u64 1,.int .u64 4] w fun e w'=>e=.returned (.tuple #[.int .u64 0,.int .u64 4])∧w'=w:=by
 go_enter Tryz.func107,Tryz.ntmps107
 go_wp2_with fail
 exact bodyPost_ret (v:=.tuple #[.int .u64 0,.int .u64 4]) (by simp [results,Tryz.results107,go_sem];decide) rfl ⟨rfl,rfl⟩
theorem mul_c (w:World):Calls Tryz.prog 97 #[.int .u64 1,.int .u64 4] w fun e w'=>e=.returned (.tuple #[.int .u64 0,.int .u64 4])∧w'=w:=by
 go_enter Tryz.func97,Tryz.ntmps97
 go_wp2_with fail
 refine (mul64_c _).mono ?_
 rintro e w1 ⟨rfl,rfl⟩
 go_wp2_with fail
 exact bodyPost_ret (v:=.tuple #[.int .u64 0,.int .u64 4]) (by simp [results,Tryz.results97,go_sem]) rfl ⟨rfl,rfl⟩
theorem infoTermSize:(Tryz.prog.info? 25).map (·.size)=some 4:=by kernel_rfl
def zeroC:List Value:=[.int .i64 0,.int .i64 0,.string ⟨#[]⟩,.slice none 0 0]
def someC (k:Nat):List Value:=(List.replicate k anyC).flatten ++ (List.replicate (4 - k) zeroC).flatten
theorem make4 (w:World):(Instr.makeSlice 23 (.int .i64 4) (.int .i64 4)).run Tryz.prog w=.ok (.slice (some ⟨w.heap.size,0,none⟩) 4 4) (w.alloc (.cells (someC 0).toArray 25)):=by
 have h:=info25
 cases hq:Tryz.prog.info? 25 with
 | none=>rw [hq] at h;cases h
 | some i =>
  rw [hq] at h
  simp only [Option.map_some,Option.some.injEq,Prod.mk.injEq] at h
  obtain ⟨hz,h1,h2⟩:=h
  have:=run_make (P:=Tryz.prog) w 23 25 i _ Tryz.underlying23 hq hz .i64 .i64 4 4 (by decide) (by decide) (by rw [h2];decide) (by decide)
  rw [this,h1]
  have e:madeCells (Value.agg #[Value.int IntKind.i64 0,Value.int IntKind.i64 0,Value.string { data:=#[] },Value.slice none 0 0]).cells (Int.toNat 4 * 4)=(someC 0).toArray:=by kernel_rfl
  rw [e];rfl
def copies (k:Nat):List Value:=(List.replicate k anyC).flatten
theorem copy_any (w:World) (g k m n d c:Nat) (ad:Addr) (sCap:Nat) (hd:d=4 - k) (hg:w.heap[g]?=some (.cells (someC k).toArray 25)) (hn:Nat.min m d=n) (hk:(k=0∧n=1)∨(k=1∧n=1)∨(k=2∧n=2))
  (hsrc:∀ j v,(copies n)[j]?=some v→w.cell? (ad.add j)=some v) :
  ∃ w',(Builtin.copy_ #[23,23] 3 #[.slice (some ⟨g,k * 4,none⟩) d c,.slice (some ad) m sCap]).run Tryz.prog w=.ok (goInt n) w'∧w'.heap[g]?=some (.cells (someC (k+n)).toArray 25)∧Below g w w':=by
 have hlen:(copies n).length=Nat.min m d * 4:=by rw [hn];rcases hk with ⟨_,rfl⟩ | ⟨_,rfl⟩ | ⟨_,rfl⟩ <;> rfl
 have hfit:k * 4+(copies n).length≤(someC k).toArray.size:=by rcases hk with ⟨rfl,rfl⟩ | ⟨rfl,rfl⟩ | ⟨rfl,rfl⟩ <;> decide
 have h1:∀ v∈copies n,v.oneCell'=true:=by rcases hk with ⟨rfl,rfl⟩ | ⟨rfl,rfl⟩ | ⟨rfl,rfl⟩ <;> (intro v hv;simp [copies,anyC,List.replicate] at hv;(repeat' (first | (rcases hv with rfl | hv) | subst hv)) <;> rfl)
 refine ⟨_,by rw [run_copy_many (P:=Tryz.prog) w 23 23 3 25 g (k * 4) d c 4 ad m sCap _ 25 (copies n) Tryz.underlying23 infoTermSize hg hlen hsrc hfit h1,hn],?_,below_setRow (Below.refl _ _) (Nat.le_refl _) _⟩
 rw [setRow_heap w g _ _ _ _ hg]
 congr 2
 rcases hk with ⟨rfl,rfl⟩ | ⟨rfl,rfl⟩ | ⟨rfl,rfl⟩ <;> rfl
theorem src_any {w:World} {g k n:Nat} (hg:w.heap[g]?=some (.cells (someC k).toArray 25)) (hk:(k=1∧n=1)∨(k=2∧n=2)):∀ j v,(copies n)[j]?=some v→w.cell? ((⟨g,0,none⟩:Addr).add j)=some v:=by
 intro j v hv
 have e:(⟨g,0,none⟩:Addr).add j=⟨g,j,none⟩:=by unfold Addr.add;split <;> simp_all
 rw [e,cell_of_row w g j _ _ _ hg]
 rcases hk with ⟨rfl,rfl⟩ | ⟨rfl,rfl⟩
 ·rcases j with _ | _ | _ | _ | j
  all_goals first | exact hv | (simp [copies,anyC,List.replicate] at hv)
 rcases j with _ | _ | _ | _ | _ | _ | _ | _ | j
 all_goals first | exact hv | (simp [copies,anyC,List.replicate] at hv)
theorem free_rsl {w:World} {g:Nat} {S:Nat→Prop} (hg:w.heap[g]?=some (.cells (someC 4).toArray 25)) (hS:S g):RSl S w freeL (.slice (some ⟨g,0,none⟩) 4 4):=by
 refine ⟨_,4,rfl,⟨Nat.le_refl _,by simp⟩,RTs_of _ _ _ _ _ fun j hj=>?_⟩
 have hj':j < 4:=hj
 refine ⟨g,0,none,0,rfl,hS,?_⟩
 rcases j with _ | _ | _ | _ | j
 all_goals first
  | omega
  | exact ⟨cell_of_row w g _ _ _ _ hg,cell_of_row w g _ _ _ _ hg,cell_of_row w g _ _ _ _ hg,cell_of_row w g _ _ _ _ hg,⟨Nat.le_refl _,fun _=>rfl⟩,by simp [freeL,anyT,RTs]⟩
theorem repeat_c (w:World) (b:Nat) (h0:w.cell? ⟨b,0,none⟩=some (.int .i64 6)) (h1:w.cell? ⟨b,1,none⟩=some (.int .i64 0)) (h2:w.cell? ⟨b,2,none⟩=some (.string ⟨#[]⟩)) (h3:w.cell? ⟨b,3,none⟩=some (.slice none 0 0)) :
  Calls Tryz.prog 82 #[.slice (some ⟨b,0,none⟩) 1 1,.int .i64 4] w fun e w'=>∃ v,e=.returned v∧Below w.heap.size w w'∧RSl (fun b=>w.heap.size≤b) w' freeL v:=by
 have hlb:b < w.heap.size:=World.block_lt_of_cell? w _ h0
 have hmk:=make4 w
 have hg0:=heap_alloc_new w (.cells (someC 0).toArray 25)
 have hsrc:∀ j v,(copies 1)[j]?=some v→(w.alloc (.cells (someC 0).toArray 25)).cell? ((⟨b,0,none⟩:Addr).add j)=some v:=by
  intro j v hv
  have e:(⟨b,0,none⟩:Addr).add j=⟨b,j,none⟩:=by unfold Addr.add;split <;> simp_all
  rw [e,World.cell?_of_block (w:=w) (Below.heap_alloc _ _ _ hlb)]
  rcases j with _ | _ | _ | _ | j
  all_goals first | (simp [copies,anyC] at hv;done) | (simp [copies,anyC] at hv;subst hv;assumption)
 obtain ⟨w2,hcp,hg2,hB2⟩:=copy_any (w.alloc (.cells (someC 0).toArray 25)) w.heap.size 0 1 1 4 4 ⟨b,0,none⟩ 1 rfl hg0 rfl (.inl ⟨rfl,rfl⟩) hsrc
 have hB2:=J (show Below w.heap.size w w2 from (yA _ _).trans hB2)
 go_enter Tryz.func82,Tryz.ntmps82
 go_wp2_with fail
 refine (mul_c _).mono ?_
 rintro e w1 ⟨rfl,rfl⟩
 go_wp2_with fail
 have HMK:=J hmk
 clear hmk hcp hsrc hg0 h0 h1 h2 h3
 go_loopw [8] (fun i wr=>∃ k:Nat,i=.int .i64 k∧(k=1∨k=2∨k=4)∧wr.heap[w1.heap.size]?=some (.cells (someC k).toArray 25)∧Below w1.heap.size w1 wr) (fun i _=>4 - (intOf i).toNat)
 case atStart=>exact ⟨1,rfl,.inl rfl,hg2,hB2.out⟩
 obtain ⟨k,rfl,hk,hgk,hB⟩:=hrel
 rcases hk with rfl | rfl | rfl
 ·obtain ⟨w3,hcp,hg3,hB3⟩:=copy_any wr.drew w1.heap.size 1 1 1 3 3 ⟨w1.heap.size,0,none⟩ 4 rfl hgk rfl (.inr (.inl ⟨rfl,rfl⟩)) (src_any (w:=wr.drew) hgk (.inl ⟨rfl,rfl⟩))
  go_wp2_with fail
  go_region
  go_wp2_with fail
  go_roundw
  case rel=>exact ⟨2,rfl,by omega,hg3,hB.drew.trans hB3⟩
  case measure=>simp [intOf]
 ·obtain ⟨w3,hcp,hg3,hB3⟩:=copy_any wr.drew w1.heap.size 2 2 2 2 2 ⟨w1.heap.size,0,none⟩ 4 rfl hgk rfl (.inr (.inr ⟨rfl,rfl⟩)) (src_any (w:=wr.drew) hgk (.inr ⟨rfl,rfl⟩))
  go_wp2_with fail
  go_region
  go_wp2_with fail
  go_roundw
  case rel=>exact ⟨4,rfl,by omega,hg3,hB.drew.trans hB3⟩
  case measure=>simp [intOf]
 go_wp2_with fail
 go_ret
 exact ⟨_,rfl,hB,free_rsl hgk (Nat.le_refl _)⟩
theorem tuple_c (a:Option Addr) (n cap:Nat) (w:World):Calls Tryz.prog 29 #[.slice a n cap] w fun e w'=>e=.returned (.agg #[.int .i64 4,.int .i64 0,.string ⟨#[]⟩,.slice a n cap])∧Below w.heap.size w w':=by
 go_enter Tryz.func29,Tryz.ntmps29
 go_wp2_with fail
 exact bodyPost_ret (v:=.agg #[.int .i64 4,.int .i64 0,.string ⟨#[]⟩,.slice a n cap]) (by simp [results,Tryz.results29,go_sem]) rfl ⟨rfl,yA _ _⟩
theorem RSl2.lit {S:Nat→Prop} {w:World} {ts:List T} {cs:List Value} (h:CellsT S w ts cs) (e:TypeId):RSl2 (fun b=>b=w.heap.size) S (w.alloc (.cells cs.toArray e)) ts (.slice (some ⟨w.heap.size,0,none⟩) ts.length ts.length) :=
 ⟨_,_,cs,rfl,⟨Nat.le_refl _,by simp⟩,h.to (fun _ h _=>h) (fun b _ hb=>Below.heap_alloc _ _ _ hb),fun j u hu=>⟨w.heap.size,0,rfl,rfl,by rw [Nat.zero_add,World.cell?_alloc_new];simp [hu]⟩⟩
def Box (w:World) (B:Nat) (c0 c1 c2 c3:Value):Prop:=w.cell? ⟨B,0,none⟩=some c0∧w.cell? ⟨B,1,none⟩=some c1∧w.cell? ⟨B,2,none⟩=some c2∧w.cell? ⟨B,3,none⟩=some c3
theorem Box.lt {w:World} {B:Nat} {c0 c1 c2 c3:Value} (h:Box w B c0 c1 c2 c3):B < w.heap.size:=World.block_lt_of_cell? w _ h.1
theorem Box.below {w w':World} {B N:Nat} {c0 c1 c2 c3:Value} (h:Box w B c0 c1 c2 c3) (hB:Below N w w') (hN:B < N):Box w' B c0 c1 c2 c3:=by
 have e:∀ o,w'.cell? ⟨B,o,none⟩=w.cell? ⟨B,o,none⟩:=fun o=>World.cell?_of_block (w:=w) (hB.block B hN)
 exact ⟨by rw [e];exact h.1,by rw [e];exact h.2.1,by rw [e];exact h.2.2.1,by rw [e];exact h.2.2.2⟩
theorem Box.step {w w':World} {B:Nat} {c0 c1 c2 c3:Value} (h:Box w B c0 c1 c2 c3) (hB:Below w.heap.size w w'):Box w' B c0 c1 c2 c3:=h.below hB h.lt
theorem Box.alloc {w:World} {B:Nat} {c0 c1 c2 c3:Value} (h:Box w B c0 c1 c2 c3) (o:Obj):Box (w.alloc o) B c0 c1 c2 c3:=h.step (yA w o)
theorem Box.new (w:World) (c0 c1 c2 c3:Value) (e:TypeId):Box (w.alloc (.cells #[c0,c1,c2,c3] e)) w.heap.size c0 c1 c2 c3:=by
 refine ⟨?_,?_,?_,?_⟩ <;> (rw [World.cell?_alloc_new];rfl)
theorem Box.st4 (w:World) (B:Nat) {d0 d1 d2 d3:Value} (h:Box w B d0 d1 d2 d3) (c0 c1 c2 c3:Value):Box (st4 w B 0 c0 c1 c2 c3) B c0 c1 c2 c3:=by
 have:=st4_cells (c0:=c0) (c1:=c1) (c2:=c2) (c3:=c3) h.1 h.2.1 h.2.2.1 h.2.2.2
 simpa [Box] using this
def Row4 (w:World) (B:Nat) (e:TypeId) (c0 c1 c2 c3:Value):Prop:=w.heap[B]?=some (.cells #[c0,c1,c2,c3] e (0,0))
theorem Row4.step {w w':World} {B:Nat} {e:TypeId} {c0 c1 c2 c3:Value} (h:Row4 w B e c0 c1 c2 c3) (hB:Below w.heap.size w w'):Row4 w' B e c0 c1 c2 c3:=by
 have hl:B < w.heap.size:=by unfold Row4 at h;exact (Array.getElem?_eq_some_iff.1 h).1
 rw [Row4,hB.block B hl];exact h
theorem Row4.alloc {w:World} {B:Nat} {e:TypeId} {c0 c1 c2 c3:Value} (h:Row4 w B e c0 c1 c2 c3) (o:Obj):Row4 (w.alloc o) B e c0 c1 c2 c3:=h.step (yA w o)
theorem Row4.frozen {w:World} {B:Nat} {e:TypeId} {c0 c1 c2 c3:Value} (h:Row4 w B e c0 c1 c2 c3) (o:Nat):w.frozen? ⟨B,o,none⟩=false:=frozen_of_row w B o _ e h
structure Fin (W wx:World) (t:T) (v:Value):Prop where
 ex:∃ B a cap,v=.pointer (some ⟨B,0,none⟩)∧W.heap.size≤B∧B < wx.heap.size∧Box wx B (.int .i64 t.kind) (.int .i64 t.n) (.string t.name) (.slice a t.args.length cap)∧RT (fun b=>b < wx.heap.size) wx t (.agg #[.int .i64 t.kind,.int .i64 t.n,.string t.name,.slice a t.args.length cap])∧Below W.heap.size W wx
theorem Fin.new {S:Nat→Prop} {W w2:World} {t:T} {a:Option Addr} {cap:Nat} (hr:RT S w2 t (.agg #[.int .i64 t.kind,.int .i64 t.n,.string t.name,.slice a t.args.length cap])) (hB:Below W.heap.size W w2) (e:TypeId) :
  Fin W (w2.alloc (.cells #[.int .i64 t.kind,.int .i64 t.n,.string t.name,.slice a t.args.length cap] e)) t (.pointer (some ⟨w2.heap.size,0,none⟩)) :=
 ⟨w2.heap.size,a,cap,rfl,hB.size,by simp,Box.new _ _ _ _ _ _,(hr.alloc _).to (fun _ _ h=>h) (fun _ _ _=>rfl),hB.alloc hB.size _⟩
theorem Fin.old {S:Nat→Prop} {W w2:World} {t:T} {a:Option Addr} {cap B:Nat} {z0 z1 z2 z3:Value} (hr:RT S w2 t (.agg #[.int .i64 t.kind,.int .i64 t.n,.string t.name,.slice a t.args.length cap])) (hB:Below W.heap.size W w2) (hbox:Box w2 B z0 z1 z2 z3) (hW:W.heap.size≤B) (hS:∀ b,S b→b≠B) :
  Fin W ((((w2.setCell ⟨B,0,none⟩ (.int .i64 t.kind)).setCell ⟨B,1,none⟩ (.int .i64 t.n)).setCell ⟨B,2,none⟩ (.string t.name)).setCell ⟨B,3,none⟩ (.slice a t.args.length cap)) t (.pointer (some ⟨B,0,none⟩)):=by
 rw [st4_0]
 refine ⟨B,a,cap,rfl,hW,?_,Box.st4 _ _ hbox _ _ _ _,?_,st4_below hB hW⟩
 ·rw [st4_size];exact hbox.lt
 exact (hr.st4 B 0 _ _ _ _ hS).to (fun _ _ h=>h) (fun _ _ _=>rfl)
end Go.Proofs.YtedfepnekjjmnabGreat
