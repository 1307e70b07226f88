/-
  Contracts and plain laws, joined: ValC Value ClosesP BindP KPut RowG. Conditions stand in each.
-/
import Derived.Deep.AppendLies
import Derived.Deep.RegionLaw
import Derived.Test.YtedfepnekjjmnabGreatRvalT
import Derived.Test.YtedfepnekjjmnabGreatJc
import Derived.Test.YtedfepnekjjmnabGreatJb
import Derived.Test.YtedfepnekjjmnabGreatJa
namespace Go.Proofs.YtedfepnekjjmnabGreat
open Go.RowKit
set_option linter.unusedSimpArgs false
set_option linter.unusedVariables false
set_option maxRecDepth 100000
set_option maxHeartbeats 400000
theorem bulk_tup (l:List T):yC [tupT l]=1+yC l:=by simp [tupT,yC,ByteArray.size]
theorem bulk_num (n:Int):yC [numT n]=1:=by simp [numT,yC,ByteArray.size]
theorem bulk_pid (n:Int):yC [pidT n]=1:=by simp [pidT,yC,ByteArray.size]
theorem bulk_one (t:T):yC [t]=1+t.name.size+yC t.args:=by rw [yG];simp [yC]
theorem mul_split (a b c B:Nat):(a+b+c) * B=a * B+b * B+c * B:=by rw [Nat.add_mul,Nat.add_mul]
theorem le_mul_pos (a B:Nat) (h:1≤B):a≤a * B:=Nat.le_mul_of_pos_right a h
theorem valT_bulk (bd:List T) (self:Int) (hl:bd.length=4):∀ (x t:T),formL [x]=true→valT bd self x=some t→yC [t]≤yC [x] * (yC bd+1):=by
 intro x
 induction x using T.ind with
 | h x ih =>
  intro t hf hv
  have h1:=bulk_one x
  have hB:1≤yC bd+1:=by omega
  have hX:=le_mul_pos (yC [x]) _ hB
  have hA:=le_mul_pos (yC x.args) _ hB
  have hN:=le_mul_pos x.name.size _ hB
  have hM:=mul_split 1 x.name.size (yC x.args) (yC bd+1)
  rw [←h1] at hM
  generalize hM1:yC [x] * (yC bd+1)=m1 at *
  generalize hM3:yC x.args * (yC bd+1)=m3 at *
  generalize hM4:x.name.size * (yC bd+1)=m4 at *
  by_cases h6:x.kind=6
  ·rw [valT_6 h6] at hv;cases hv
  by_cases h5:x.kind=5
  ·obtain ⟨k,hk,hk4⟩:=form_var hf h5
   rw [valT_5 h5 hk (by omega)] at hv
   have:=bulk_at (ts:=bd) (i:=k) (by omega)
   unfold varO at hv
   split at hv
   ·cases hv
   ·simp only [Option.some.injEq] at hv;subst hv;omega
  by_cases h4:x.kind=4
  ·cases hs:isT x sSelf 0
   ·cases hp:isT x sPut 1
    ·rw [valT_tup h4 hs hp] at hv
     obtain ⟨vs,hvs,hv⟩:=Option.bind_eq_some_iff.1 hv
     have key:∀ (l us:List T),(∀ y∈l,y∈x.args)→valL bd self l=some us→yC us≤yC l * (yC bd+1):=by
      intro l
      induction l with
      | nil=>intro us _ h;rw [valL_nil] at h;cases h;simp [yC]
      | cons y l ihl =>
       intro us hm h
       rw [valL_cons] at h
       obtain ⟨u,hu,h⟩:=Option.bind_eq_some_iff.1 h
       obtain ⟨us',hus,rfl⟩:=Option.map_eq_some_iff.1 h
       have g1:=ih y (hm y (by simp)) u (form_args hf (hm y (by simp))) hu
       have g2:=ihl us' (fun z hz=>hm z (by simp [hz])) hus
       have e1:yC (u :: us')=yC [u]+yC us':=bulkL_append [u] us'
       have e2:yC (y :: l)=yC [y]+yC l:=bulkL_append [y] l
       rw [e1,e2,Nat.add_mul];omega
     have g:=key _ _ (fun y h=>h) hvs
     rw [hM3] at g
     split at hv
     ·unfold sumO at hv
      split at hv
      ·simp only [Option.some.injEq] at hv;subst hv;rw [bulk_num];omega
      ·cases hv
     ·simp only [Option.some.injEq] at hv;subst hv;rw [bulk_tup];omega
    ·have hln:=isT_length hp
     rw [valT_put h4 hs hp (by omega)] at hv
     have:=bulk_at (ts:=x.args) (i:=1) (by omega)
     unfold putO at hv
     split at hv
     ·simp only [Option.some.injEq] at hv;subst hv;omega
     ·cases hv
   ·rw [valT_self h4 hs] at hv;simp only [Option.some.injEq] at hv;subst hv;rw [bulk_pid];omega
  ·rw [valT_o h4 h5 h6] at hv;simp only [Option.some.injEq] at hv;subst hv;omega
def valF (bd:List T) (self:Int) (x:T):Option T:=(valT bd self x).bind fun t=>if yE t=0 then some t else none
theorem valF_none {bd:List T} {self:Int} {x:T} (h:valT bd self x=none):valF bd self x=none:=by rw [valF,h];rfl
theorem valF_some {bd:List T} {self:Int} {x t:T} (h:valT bd self x=some t) (hc:yE t=0):valF bd self x=some t:=by rw [valF,h];simp [hc]
theorem valF_bad {bd:List T} {self:Int} {x t:T} (h:valT bd self x=some t) (hc:yE t≠0):valF bd self x=none:=by rw [valF,h];simp [hc]
theorem four_mul (a m:Nat):4 * (a * m)≤(a+m) * (a+m):=by
 rcases Nat.le_total a m with h | h
 ·obtain ⟨d,rfl⟩:=Nat.le.dest h
  have e:(a+(a+d)) * (a+(a+d))=4 * (a * (a+d))+d * d:=by
   simp only [Nat.mul_add,Nat.add_mul,Nat.mul_comm d a];omega
  omega
 obtain ⟨d,rfl⟩:=Nat.le.dest h
 have e:(m+d+m) * (m+d+m)=4 * ((m+d) * m)+d * d:=by
  simp only [Nat.mul_add,Nat.add_mul,Nat.mul_comm d m];omega
 omega
theorem mul_small (a b:Nat) (h:a+b≤2000000):a * (b+1)≤1099511627776:=by
 have h1:=four_mul a (b+1)
 have h2:(a+(b+1)) * (a+(b+1))≤2000001 * 2000001:=Nat.mul_le_mul (by omega) (by omega)
 omega
theorem zeroT_rt (S:Nat→Prop) (w:World):RT S w yJ (.agg #[.int .i64 0,.int .i64 0,.string ⟨#[]⟩,.slice none 0 0]):=⟨none,0,rfl,⟨Nat.le_refl _,fun _=>rfl⟩,by simp [yJ,RTs]⟩
def VF (S:Nat→Prop) (w:World) (o:Option T) (e:Ending) (w':World):Prop :=
 ∃ v,e=.returned (.tuple #[v,.bool o.isSome])∧Below w.heap.size w w'∧RT (fun b=>S b∨w.heap.size≤b) w' (o.getD yJ) v
theorem VF.none {S:Nat→Prop} {w w':World} {e:Ending} {o:Option T} (ho:o=Option.none) (he:e=.returned (.tuple #[.agg #[.int .i64 0,.int .i64 0,.string ⟨#[]⟩,.slice Option.none 0 0],.bool false])) (hB:Below w.heap.size w w'):VF S w o e w':=by
 subst ho;exact ⟨_,he,hB,zeroT_rt _ _⟩
theorem VF.some {S:Nat→Prop} {w w':World} {e:Ending} {o:Option T} {t:T} {v:Value} (ho:o=Option.some t) (he:e=.returned (.tuple #[v,.bool true])) (hB:Below w.heap.size w w') (hr:RT (fun b=>S b∨w.heap.size≤b) w' t v):VF S w o e w':=by
 subst ho;exact ⟨_,he,hB,hr⟩
theorem RT.bound {S:Nat→Prop} {w:World} {t:T} {v:Value} (h:RT S w t v):RT (fun b=>b < w.heap.size) w t v:=h.to (fun _ _ hl=>hl) fun _ _ _=>rfl
theorem RSl.bound {S:Nat→Prop} {w:World} {t:List T} {v:Value} (h:RSl S w t v):RSl (fun b=>b < w.heap.size) w t v:=h.to (fun _ _ hl=>hl) fun _ _ _=>rfl
def reckO (bd:List T) (self:Int) (x:T):T×Int :=
 if yE x≠0 then (yJ,yE x) else if boundB bd=false then (yJ,5) else if inB self 1 99=false then (yJ,1) else match valF bd self x with | some t=>(t,0) | none=>(yJ,7)
section
variable {bd:List T} {self:Int} {x:T}
theorem reckO_check (h:yE x≠0):reckO bd self x=(yJ,yE x):=by rw [reckO,if_pos h]
theorem reckO_bound (h:yE x=0) (hb:boundB bd=false):reckO bd self x=(yJ,5):=by rw [reckO,if_neg (by simp [h]),if_pos hb]
theorem reckO_self (h:yE x=0) (hb:boundB bd=true) (hs:inB self 1 99=false):reckO bd self x=(yJ,1):=by rw [reckO,if_neg (by simp [h]),if_neg (by simp [hb]),if_pos hs]
theorem reckO_none (h:yE x=0) (hb:boundB bd=true) (hs:inB self 1 99=true) (hv:valF bd self x=none):reckO bd self x=(yJ,7):=by rw [reckO,if_neg (by simp [h]),if_neg (by simp [hb]),if_neg (by simp [hs]),hv]
theorem reckO_some {t:T} (h:yE x=0) (hb:boundB bd=true) (hs:inB self 1 99=true) (hv:valF bd self x=some t):reckO bd self x=(t,0):=by rw [reckO,if_neg (by simp [h]),if_neg (by simp [hb]),if_neg (by simp [hs]),hv]
theorem boundB_len (h:boundB bd=true):bd.length=4:=by simp only [boundB,Bool.and_eq_true,beq_iff_eq] at h;exact h.1
theorem check_form' {t:T} (h:yE t=0):formL [t]=true:=by
 unfold yE at h
 split at h
 ·assumption
 omega
end
def RO (S:Nat→Prop) (w:World) (o:T×Int) (e:Ending) (w':World):Prop :=
 ∃ v,e=.returned (.tuple #[v,.int .i64 o.2])∧Below w.heap.size w w'∧RT (fun b=>S b∨w.heap.size≤b) w' o.1 v
theorem RO.open {S:Nat→Prop} {w w':World} {e:Ending} {t:T} {n:Int} (h:RO S w (t,n) e w'):∃ a cap,e=.returned (.tuple #[.agg #[.int .i64 t.kind,.int .i64 t.n,.string t.name,.slice a t.args.length cap],.int .i64 n])∧Below w.heap.size w w' ∧
  RT (fun b=>S b∨w.heap.size≤b) w' t (.agg #[.int .i64 t.kind,.int .i64 t.n,.string t.name,.slice a t.args.length cap]):=by
 obtain ⟨v,he,hB,a,cap,rfl,hc,hr⟩:=h;exact ⟨a,cap,he,hB,a,cap,rfl,hc,hr⟩
theorem RO.zero {S:Nat→Prop} {w w':World} {e:Ending} {o:T×Int} {n:Int} (ho:o=(yJ,n)) (he:e=.returned (.tuple #[.agg #[.int .i64 0,.int .i64 0,.string ⟨#[]⟩,.slice none 0 0],.int .i64 n])) (hB:Below w.heap.size w w'):RO S w o e w':=by
 subst ho;exact ⟨_,he,hB,zeroT_rt _ _⟩
theorem RO.some {S:Nat→Prop} {w w':World} {e:Ending} {o:T×Int} {t:T} {v:Value} (ho:o=(t,0)) (he:e=.returned (.tuple #[v,.int .i64 0])) (hB:Below w.heap.size w w') (hr:RT (fun b=>S b∨w.heap.size≤b) w' t v):RO S w o e w':=by
 subst ho;exact ⟨_,he,hB,hr⟩
theorem any_bnd:bndB anyT=true:=by simp [bndB,yE,formL_cons,formL,headB,bareB,dpL_cons,dpL,szL_cons,szL,anyT]
theorem freeL_bound:boundB freeL=true:=by simp [boundB,freeL,any_bnd]
theorem form_bare {x:T} (h:formL [x]=true) (h4:x.kind≠4):x.args=[]:=by
 rw [formL_cons] at h
 simp only [Bool.and_eq_true] at h
 have h1:=h.1.1
 simp only [headB,bareB] at h1
 repeat' (split at h1)
 all_goals first | omega | (simp at h1;done) | (simp only [Bool.and_eq_true,decide_eq_true_eq,beq_iff_eq] at h1;exact List.eq_nil_of_length_eq_zero (by omega))
theorem closed_leaf {x:T} (h:formL [x]=true) (h4:x.kind≠4) (h5:x.kind≠5) (h6:x.kind≠6):yF [x]=true:=by
 rw [closedL_cons,form_bare h h4];simp [yF,h5,h6]
theorem closed_tup (l:List T):yF [tupT l]=yF l:=by rw [closedL_cons];simp [tupT,yF]
theorem closed_num (n:Int):yF [numT n]=true:=by rw [closedL_cons];simp [numT,yF]
theorem closed_pid (n:Int):yF [pidT n]=true:=by rw [closedL_cons];simp [pidT,yF]
theorem bound_closed {bd:List T} (hb:boundB bd=true) {t:T} (ht:t∈bd) (h6:t.kind≠6):yF [t]=true:=by
 simp only [boundB,Bool.and_eq_true,List.all_eq_true] at hb
 have:=hb.2 t ht
 simp only [bndB,Bool.and_eq_true,Bool.or_eq_true,beq_iff_eq] at this
 rcases this.2 with h | h
 ·exact absurd h h6
 exact h
theorem closedL_pair (t:T) (l:List T):yF (t :: l)=(yF [t] && yF l):=by rw [closedL_cons,closedL_cons];simp [yF]
theorem valL_closed {bd:List T} {self:Int}:∀ (l vs:List T),(∀ y∈l,∀ t,valT bd self y=some t→yF [t]=true)→valL bd self l=some vs→yF vs=true
 | [],vs,_,h=>by rw [valL_nil] at h;cases h;simp [yF]
 | y :: l,vs,hy,h=>by
  rw [valL_cons] at h
  obtain ⟨v,hv,h⟩:=Option.bind_eq_some_iff.1 h
  obtain ⟨us,hu,rfl⟩:=Option.map_eq_some_iff.1 h
  rw [closedL_pair,hy y (by simp) v hv,valL_closed l us (fun z hz=>hy z (by simp [hz])) hu];rfl
theorem valT_closed {bd:List T} {self:Int} (hb:boundB bd=true):∀ (x:T),formL [x]=true→∀ t,valT bd self x=some t→yF [t]=true:=by
 intro x
 induction x using T.ind with
 | h x ih =>
  intro hf t ht
  by_cases h6:x.kind=6
  ·rw [valT_6 h6] at ht;cases ht
  by_cases h5:x.kind=5
  ·obtain ⟨k,hk,hk4⟩:=form_var hf h5
   have hl:=boundB_len hb
   rw [valT_5 h5 hk (by omega)] at ht
   unfold varO at ht
   split at ht
   ·cases ht
   ·rename_i hn
    simp only [Option.some.injEq] at ht
    subst ht
    exact bound_closed hb (List.getElem_mem _) (by simpa using hn)
  by_cases h4:x.kind=4
  ·cases hs:isT x sSelf 0
   ·cases hp:isT x sPut 1
    ·rw [valT_tup h4 hs hp] at ht
     obtain ⟨vs,hv,ht⟩:=Option.bind_eq_some_iff.1 ht
     have hc:=valL_closed x.args vs (fun y hy=>ih y hy (form_args hf hy)) hv
     split at ht
     ·unfold sumO at ht
      split at ht
      ·simp only [Option.some.injEq] at ht;subst ht;exact closed_num _
      ·cases ht
     ·simp only [Option.some.injEq] at ht;subst ht;rw [closed_tup];exact hc
    ·have hl:=isT_length hp
     rw [valT_put h4 hs hp (by omega)] at ht
     unfold putO at ht
     split at ht
     ·simp only [Option.some.injEq] at ht;subst ht;assumption
     ·cases ht
   ·rw [valT_self h4 hs] at ht
    simp only [Option.some.injEq] at ht;subst ht;exact closed_pid _
  ·rw [valT_o h4 h5 h6] at ht
   simp only [Option.some.injEq] at ht;subst ht;exact closed_leaf hf h4 h5 h6
theorem valF_check {bd:List T} {self:Int} {x t:T} (h:valF bd self x=some t):valT bd self x=some t∧yE t=0:=by
 obtain ⟨u,hu,h⟩:=Option.bind_eq_some_iff.1 h
 split at h
 ·simp only [Option.some.injEq] at h;subst h;exact ⟨hu,by assumption⟩
 cases h
theorem reckO_good {bd:List T} {self:Int} {x:T} (h:(reckO bd self x).2=0):yF [(reckO bd self x).1]=true∧yE (reckO bd self x).1=0:=by
 unfold reckO at h ⊢
 split
 ·rename_i h1;rw [if_pos h1] at h;exact absurd h h1
 rename_i h1
 rw [if_neg h1] at h
 split
 ·rename_i h2;rw [if_pos h2] at h;cases h
 rename_i h2
 rw [if_neg h2] at h
 split
 ·rename_i h3;rw [if_pos h3] at h;cases h
 rename_i h3
 rw [if_neg h3] at h
 cases hv:valF bd self x with
 | none=>rw [hv] at h;cases h
 | some t=>exact ⟨valT_closed (by simpa using h2) x (check_form' (by simpa using h1)) t (valF_check hv).1,(valF_check hv).2⟩
def Stay (b c:List T):Prop:=b.length=c.length∧∀ i (h1:i < b.length) (h2:i < c.length),b[i].kind≠6→c[i]=b[i]
theorem Stay.refl (b:List T):Stay b b:=⟨rfl,fun _ _ _ _=>rfl⟩
theorem Stay.trans {a b c:List T} (h:Stay a b) (k:Stay b c):Stay a c :=
 ⟨h.1.trans k.1,fun i h1 h2 hn=>by
  have h3:i < b.length:=by have:=h.1;omega
  have e:=h.2 i h1 h3 hn
  rw [k.2 i h3 h2 (by rw [e];exact hn),e]⟩
theorem Stay.set {b:List T} {k:Nat} (hk:k < b.length) (h6:b[k].kind=6) (t:T):Stay b (b.set k t):=by
 refine ⟨by simp,fun i h1 h2 hn=>?_⟩
 have:k≠i:=fun e=>by subst e;exact hn h6
 simp [List.getElem_set,this]
theorem closed_at {l:List T} (h:yF l=true) {y:T} (hy:y∈l):yF [y]=true:=by
 induction l with
 | nil=>cases hy
 | cons x l ih =>
  rw [closedL_pair,Bool.and_eq_true] at h
  rcases List.mem_cons.1 hy with rfl | hy
  ·exact h.1
  ·exact ih h.2 hy
theorem closed_args {t:T} (h:yF [t]=true) {y:T} (hy:y∈t.args):yF [y]=true:=by
 rw [closedL_cons,Bool.and_eq_true,Bool.and_eq_true] at h
 exact closed_at h.1.2 hy
theorem szL_pair (t:T) (ts:List T):szL (t :: ts)=szL [t]+szL ts:=by rw [szL_cons,szL_cons t []];simp [szL]
theorem dpL_pair (t:T) (ts:List T):dpL (t :: ts)=max (dpL [t]) (dpL ts):=by rw [dpL_cons,dpL_cons t []];simp [dpL]
theorem fitL_all {Q:T→Prop}:∀ (ps ts b:List T),(∀ p∈ps,∀ (t:T) (b:List T),Q t→(∀ y∈b,Q y)→∀ y∈(fitT p t b).2,Q y)→(∀ y∈ts,Q y)→(∀ y∈b,Q y)→∀ y∈(fitL ps ts b).2,Q y
 | [],ts,b,_,_,hb=>by rw [fitL_nil];exact hb
 | p :: ps,[],b,_,_,hb=>by
  have:fitL (p :: ps) [] b=(true,b):=by rw [fitL];intro h;cases h
  rw [this];exact hb
 | p :: ps,t :: ts,b,h,ht,hb=>by
  have h1:=h p (by simp) t b (ht t (by simp)) hb
  rw [fitL_cons]
  split
  ·exact fitL_all ps ts _ (fun q hq=>h q (by simp [hq])) (fun y hy=>ht y (by simp [hy])) h1
  ·exact h1
theorem fitT_all {Q:T→Prop} (hQ:∀ t,Q t→∀ y∈t.args,Q y) (p:T):∀ (t:T) (b:List T),Q t→(∀ y∈b,Q y)→∀ y∈(fitT p t b).2,Q y:=by
 induction p using T.ind with
 | h p ih =>
  intro t b ht hb
  unfold fitT fitH
  repeat' split
  all_goals first
   | exact hb
   | exact fitL_all _ _ _ (fun q hq t b=>ih q hq t b) (hQ t ht) hb
   | skip
  intro y hy
  rcases List.mem_or_eq_of_mem_set hy with hy | rfl
  ·exact hb y hy
  ·exact ht
theorem check_args {t:T} (h:yE t=0) {y:T} (hy:y∈t.args):yE y=0:=by
 have hf:=check_form' h
 have hfy:=form_args hf hy
 have h4:t.kind=4:=by
  by_cases h4:t.kind=4
  ·exact h4
  rw [form_bare hf h4] at hy;cases hy
 unfold yE at h ⊢
 rw [if_pos hfy]
 rw [if_pos hf] at h
 have h1:∀ (l:List T),y∈l→szL [y]≤szL l∧dpL [y]≤dpL l:=by
  intro l
  induction l with
  | nil=>intro h;cases h
  | cons x l ih =>
   intro hm
   rw [szL_pair x,dpL_pair x]
   rcases List.mem_cons.1 hm with rfl | hm
   ·omega
   ·have:=ih hm;omega
 have h2:=h1 t.args hy
 have h3:szL [t]=1+t.args.length+szL t.args:=by rw [szL_cons,if_pos h4];simp [szL]
 have h5:dpL [t]=1+dpL t.args:=by rw [dpL_cons,if_pos h4];simp [dpL]
 split at h
 ·rw [if_pos (by omega)]
 cases h
theorem fit_bound {p t:T} {b:List T} (hb:boundB b=true) (ht:yE t=0) (hc:yF [t]=true):boundB (fitT p t b).2=true:=by
 have hl:=boundB_len hb
 rw [boundB,fitT_length,hl]
 simp only [beq_self_eq_true,Bool.true_and,List.all_eq_true]
 have hb':=hb
 simp only [boundB,Bool.and_eq_true,List.all_eq_true] at hb'
 refine fitT_all (Q:=fun y=>bndB y=true) ?_ p t b (by simp [bndB,ht,hc]) hb'.2
 intro t ht y hy
 simp only [bndB,Bool.and_eq_true,Bool.or_eq_true,beq_iff_eq] at ht ⊢
 refine ⟨check_args ht.1 hy,.inr ?_⟩
 rcases ht.2 with h6 | hc
 ·rw [form_bare (check_form' ht.1) (by omega)] at hy;cases hy
 exact closed_args hc hy
section
variable {ops:Array Oper} {o:Oper} {a:Act} {Q:Exit→Act→World→Prop}
end
theorem OwnG.store1 {P:Nat→Prop} {base:Nat} {w:World} {v:Value} {ts:List T} (h:OwnG P base w v ts) (B o:Nat) (u:Value) (hB:v.ownBlock≠some B) (hP:¬P B):OwnG P base (w.setCell ⟨B,o,none⟩ u) v ts :=
 h.to (by simp) fun b hb _=>yD w B o u b fun e=>by
  subst e
  rcases hb with hb | hb
  ·exact hP hb
  ·exact hB hb
theorem OwnG.lit {P S:Nat→Prop} {base:Nat} {w:World} {ts:List T} {cs:List Value} (h:CellsT S w ts cs) (hS:∀ b,S b→b < w.heap.size→P b) (hb:base≤w.heap.size) {n:Nat} (hn:ts.length=n) (hm:n≤1099511627776) {B:Nat} (hB:B=w.heap.size) :
  OwnG P base (w.alloc (.cells cs.toArray 25)) (.slice (some ⟨B,0,none⟩) n n) ts:=by
 subst hn hB
 have h1:=World.ownsRow_lit (e:=25) (size:=4) (base:=base) w cs.toArray ts.length hb (by unfold maxLen;omega) (by simpa using h.length)
 refine ⟨cs,by simpa using h1,?_⟩
 exact ((h.to (S':=fun b=>P b∧b < w.heap.size+1∧b≠w.heap.size) (fun b hb hl=>⟨hS b hb hl,by omega,by omega⟩) fun b _ hl=>Below.heap_alloc _ _ _ hl).to (fun b hb _=>⟨hb.1,by simpa using hb.2.1,fun e=>hb.2.2 (by simpa [Value.ownBlock] using e.symm)⟩) fun _ _ _=>rfl)
theorem CellsT.tup {S:Nat→Prop} {w:World} {l:List T} {a:Option Addr} {n cap:Nat} {ts:List T} {cs:List Value} (ht:RT S w (tupT l) (.agg #[.int .i64 4,.int .i64 0,.string ⟨#[]⟩,.slice a n cap])) (h:CellsT S w ts cs):CellsT S w (tupT l :: ts) (.int .i64 4 :: .int .i64 0 :: .string ⟨#[]⟩ :: .slice a n cap :: cs):=by
 obtain ⟨a',cap',e,h1,h2⟩:=ht
 simp only [tupT,Value.agg.injEq,Array.mk.injEq,List.cons.injEq,Value.slice.injEq,and_true,true_and] at e
 obtain ⟨rfl,rfl,rfl⟩:=e
 exact ⟨_,_,cs,rfl,h1,h2,h⟩
theorem Blk.heap {w w':World} {B:Nat} {cs:List Value} (h:Blk w B cs) (he:w'.heap[B]?=w.heap[B]?):Blk w' B cs:=by
 have hlt:B < w'.heap.size:=by
  have h1:w.heap[B]?=some (w.heap[B]'h.lt):=Array.getElem?_eq_getElem h.lt
  rw [h1] at he
  exact (Array.getElem?_eq_some_iff.1 he).1
 exact ⟨hlt,fun j u hu=>(World.cell?_of_block (w:=w) (a:=⟨B,j,none⟩) he).trans (h.cell j u hu),fun o=>(World.frozen?_of_block (w:=w) (a:=⟨B,o,none⟩) he).trans (h.fr o)⟩
section
variable {ops:Array Oper} {rest:List Oper} {o:Oper} {a:Act} {Q:Exit→Act→World→Prop} {K:Act→World→Prop} {w:World}
theorem load_at (ty:TypeId) (k:Nat) (hi:(Tryz.prog.info? ty).map (·.size)=some k) (d:TypeDesc) (hu:Tryz.prog.underlying ty=some d) (hr:d.isRow=true) (x:Operand) (hgd:o.guard=none) (ho:o.op=.load ty x)
  {b off:Nat} {cs:List Value} (hx:a.eval x=.pointer (some ⟨b,off,none⟩)) (hR:w.rangeAt b off cs) (hl:cs.length=k)
  (h:wpList Tryz.prog ops Q rest (a.put o.dst (.agg cs.toArray)) w):wpList Tryz.prog ops Q (o :: rest) a w :=
 wpList_load_mid hgd ty x ho b off hx cs d hR hu hr (by rw [hi,hl]) h
theorem step_grow2 {K:Act→World→Prop} {E:Prop} (s x:Operand) (hgd:o.guard=none) (ho:o.op=.call { callee:=.builtin .append,args:=#[s,x],argTypes:=#[23,23] })
  {P R:Nat→Prop} {base:Nat} {w0:World} {v:Value} {ts:List T} {t:T} {c0 c1 c2 c3:Value} {g0 n:Nat} (hs:a.eval s=v) (hx:a.eval x=.slice (some ⟨g0,0,none⟩) 1 1) (hg0:g0=w0.heap.size) (hown:OwnG P base w0 v ts)
  (ht:RT R w0 t (.agg #[c0,c1,c2,c3])) (hR:∀ b,R b→b < w0.heap.size→P b∧v.ownBlock≠some b) (hnl:ts.length=n) (hn:n+1≤1099511627776) (hbase:base≤w0.heap.size)
  (h:∀ g cap w',OwnG P base w' (.slice (some ⟨g,0,none⟩) (n+1) cap) (ts ++ [t])→(w0.alloc (.cells #[c0,c1,c2,c3] 25)).grownBy w' v.ownBlock→Below base w0 w'→(v.ownBlock=some g∨w0.heap.size < g)→K (a.put o.dst (.slice (some ⟨g,0,none⟩) (n+1) cap)) w') :
  if Region.wanted o (yielded ops a.tmps)=true then Oper.wp Tryz.prog o a (w0.alloc (.cells #[c0,c1,c2,c3] 25)) K Q else E:=by
 subst hg0 hnl
 have hlt:=hown.block
 obtain ⟨i,hi,hz0,hz1,hz2⟩:=info_parts info25
 have hown1:OwnT (fun b=>P b∧b < w0.heap.size∧v.ownBlock≠some b) base (w0.alloc (.cells #[c0,c1,c2,c3] 25)) v ts:=OwnT.to hown (Nat.le_refl _) (fun _ h _=>h) fun b _ hb=>Below.heap_alloc _ _ _ hb
 have hl:=(ht.to (S':=fun b=>P b∧b < w0.heap.size∧v.ownBlock≠some b) (fun b hb hl=>⟨(hR b hb hl).1,hl,(hR b hb hl).2⟩) fun _ _ _=>rfl).one 25
 obtain ⟨cs,ho1,hC⟩:=hown1
 obtain ⟨au,cap,ds,e,hcap,hD,hj⟩:=hl
 simp only [Value.slice.injEq] at e
 obtain ⟨rfl,-,rfl⟩:=e
 refine step_append_lies _ hgd s x 23 ho base 25 i _ 4 56 Tryz.underlying23 hi hz0 hz1 hz2 rfl (by decide) v _ cs hs ho1 ⟨w0.heap.size,0,none⟩ 1 1 ds hx (by simpa using hD.length) ?_ hD.oneCell (by decide) (by unfold maxLen;omega) (by omega) (by simp;omega) _ rfl ?_
 ·intro j u' hu
  obtain ⟨b,o',e,_,hc⟩:=hj j u' hu
  simp only [Option.some.injEq] at e
  rw [e]
  unfold Addr.add
  split
  ·rename_i h0;subst h0;exact hc
  exact hc
 intro g cap w' h1 h2 h3 h4
 have h2s:=h2.size
 simp only [World.size_alloc] at h2s h3
 have hblk:∀ b,(P b∧b < w0.heap.size∧v.ownBlock≠some b)→b < (w0.alloc (.cells #[c0,c1,c2,c3] 25)).heap.size→w'.heap[b]?=(w0.alloc (.cells #[c0,c1,c2,c3] 25)).heap[b]?:=fun b hb hlt=>h2.block b hlt (fun e=>hb.2.2 e.symm)
 have hO:OwnT (fun b=>P b∧b < w0.heap.size∧v.ownBlock≠some b) base w' (.slice (some ⟨g,0,none⟩) (ts.length+1) cap) (ts ++ [t]):=⟨cs ++ ds,by simpa using h1,(hC.to (fun _ h _=>h) hblk).append (hD.to (fun _ h _=>h) hblk)⟩
 refine h g cap w' (hO.to (Nat.le_refl _) (fun b hb _=>⟨hb.1,by have:=hb.2.1;omega,fun e=>?_⟩) fun _ _ _=>rfl) h2 ?_ ?_
 ·simp only [Value.ownBlock,Option.some.injEq] at e
  subst e
  rcases h3 with h5 | h5
  ·exact hb.2.2 h5
  have:=hb.2.1;omega
 ·exact grown_below ((Below.refl _ _).alloc hbase _) h2 (by simp;omega) fun b hb=>(hlt b hb).1
 rcases h3 with h5 | h5
 ·exact .inl h5
 exact .inr (by omega)
theorem wp_grow (s x:Operand) (hgd:o.guard=none) (ho:o.op=.call { callee:=.builtin .append,args:=#[s,x],argTypes:=#[23,23] })
  {P R:Nat→Prop} {base:Nat} {w0:World} {v:Value} {ts:List T} {t:T} {c0 c1 c2 c3:Value} {g0 n:Nat} (hs:a.eval s=v) (hx:a.eval x=.slice (some ⟨g0,0,none⟩) 1 1) (hg0:g0=w0.heap.size) (hown:OwnG P base w0 v ts)
  (ht:RT R w0 t (.agg #[c0,c1,c2,c3])) (hR:∀ b,R b→b < w0.heap.size→P b∧v.ownBlock≠some b) (hnl:ts.length=n) (hn:n+1≤1099511627776) (hbase:base≤w0.heap.size)
  (h:∀ g cap w',OwnG P base w' (.slice (some ⟨g,0,none⟩) (n+1) cap) (ts ++ [t])→(w0.alloc (.cells #[c0,c1,c2,c3] 25)).grownBy w' v.ownBlock→Below base w0 w'→(v.ownBlock=some g∨w0.heap.size < g)→K (a.put o.dst (.slice (some ⟨g,0,none⟩) (n+1) cap)) w') :
  Oper.wp Tryz.prog o a (w0.alloc (.cells #[c0,c1,c2,c3] 25)) K Q:=by
 have h1:=step_grow2 (ops:=#[]) (Q:=Q) (E:=True) s x hgd ho hs hx hg0 hown ht hR hnl hn hbase h
 rwa [if_pos (by simp [Region.wanted,hgd])] at h1
end
end Go.Proofs.YtedfepnekjjmnabGreat
