/-
  Contracts and plain laws, joined: Bound ValP Code1 Deed Blk FitP Fits Fits4 FrameB FromP HeapP MFits MFitsO ProcF RFits RFitsO Reg Build Proc9 Proc10 RNamed Rval Sum ToP BackP Val Val5 ValN ValNT ValPut ValT. Conditions stand in each.
-/
import Derived.Deep.MidRow
import Derived.Deep.RegionHeld3
import Derived.Deep.LoopGhost
import Derived.Deep.DeepCutAuto
import Derived.StillTailTactics
import Derived.Great.BuildSlice
import Derived.Deep.CutBlock
import Derived.Test.YtedfepnekjjmnabGreatRCheck
import Derived.Test.YtedfepnekjjmnabGreatJa
import Derived.Test.YtedfepnekjjmnabGreatJb
import Derived.Test.YtedfepnekjjmnabGreatForm
namespace Go.Proofs.YtedfepnekjjmnabGreat
open Go.RowKit
set_option linter.unusedSimpArgs false
set_option linter.unusedVariables false
set_option maxRecDepth 100000
set_option maxHeartbeats 4000000
def bndB (t:T):Bool:=yE t == 0 && (t.kind == 6 || yF [t])
def boundB (l:List T):Bool:=l.length == 4 && l.all bndB
theorem boundB_any (l:List T):boundB l=(l.length == 4 && !(l.any fun t=>!bndB t)):=by
 rw [boundB];congr 1;induction l with
 | nil=>rfl
 | cons t l ih=>simp only [List.all_cons,List.any_cons,Bool.not_or,Bool.not_not,ih]
theorem free_c (t:T) (S:Nat→Prop) (w:World) (v:Value) (hv:RT S w t v):Calls Tryz.prog 68 #[v] w fun e w'=>e=.returned (.bool (t.kind == 6))∧Below w.heap.size w w':=by
 obtain ⟨a,cap,rfl,hcap,hr⟩:=hv
 clear hr hcap
 go_enter Tryz.func68,Tryz.ntmps68
 go_wp2_with fail
 go_ret
 exact ⟨rfl,yA _ _⟩
theorem bound1_c (t:T) (S:Nat→Prop) (w:World) (v:Value) (hv:RT S w t v) (hb:yC [t]≤1099511627776) :
  Calls Tryz.prog 95 #[v] w fun e w'=>e=.returned (.bool (!bndB t))∧Below w.heap.size w w':=by
 obtain ⟨a,cap,rfl,hcap,hr⟩:=hv
 have HV:Hid (RT S w t _):=J ⟨a,cap,rfl,hcap,hr⟩
 clear hr hcap
 have HR:=J (show bndB t=(yE t == 0 && (t.kind == 6 || yF [t])) from rfl)
 go_enter Tryz.func95,Tryz.ntmps95
 go_wp2_with fail
 refine (check_c t _ _ _ (HV.out.alloc _) hb).mono ?_
 rintro e w1 ⟨rfl,hB1⟩
 have h1:=hB1.size
 obtain ⟨hcc,-⟩:=bcell hB1
 simp only [World.size_alloc] at hcc h1
 have hs1:w.heap.size < w1.heap.size:=by omega
 have HV1:=J ((HV.out.alloc (.cells #[.int .i64 t.kind,.int .i64 t.n,.string t.name,.slice a t.args.length cap] 25)).below hB1)
 have HB1:=J (yB (yA _ _) (by simp) hB1)
 by_cases hc:yE t=0
 ·have hcb:(yE t != 0)=false:=by simp [hc]
  have HC:=J hc;clear hc
  go_wp2_with fail
  refine (free_c t _ _ _ HV1.out).mono ?_
  rintro e w2 ⟨rfl,hB2⟩
  have h2:=hB2.size
  obtain ⟨hcc2,-⟩:=bcell hB2
  cases hk:(t.kind == 6)
  ·have HK:=J hk;clear hk
   go_wp2_with fail
   refine (closed_c t _ _ _ (HV1.out.below hB2) hb).mono ?_
   rintro e w3 ⟨rfl,hB3⟩
   go_wp2_with fail
   go_ret
   exact ⟨yL (by rw [HR.out,HC.out,HK.out];simp),yB (yB HB1.out (by omega) hB2) (by omega) hB3⟩
  have HK:=J hk;clear hk
  go_wp2_with fail
  go_ret
  exact ⟨yL (by rw [HR.out,HC.out,HK.out];simp),yB HB1.out (by omega) hB2⟩
 have hcb:(yE t != 0)=true:=by simp [hc]
 have HC:=J (show (yE t == 0)=false by simp [hc])
 go_wp2_with fail
 go_ret
 exact ⟨yL (by rw [HR.out,HC.out];simp),HB1.out⟩
theorem bound_c (l:List T) (S:Nat→Prop) (w:World) (v:Value) (hv:RSl S w l v) (hb:yC l≤1099511627776) :
  Calls Tryz.prog 80 #[v] w fun e w'=>e=.returned (.bool (boundB l))∧Below w.heap.size w w':=by
 have hll:=yM l
 obtain ⟨a,cap,rfl,hcap,hr⟩:=hv
 have HV:Hid (RSl S w l _):=J ⟨a,cap,rfl,hcap,hr⟩
 clear hr hcap
 have HA:=J (boundB_any l)
 have HF:Hid (∀ x∈l,∀ (W:World) (u:Value),RT S W x u→Calls Tryz.prog 95 #[u] W fun e w'=>e=.returned (.bool (!bndB x))∧Below W.heap.size W w'):=J fun x hx W u hu=>bound1_c x S W u hu (by have:=bulk_mem hx;omega)
 cases h4:((l.length:Int) == 4)
 ·have h4':=J (show (l.length == 4)=false by simp at h4 ⊢;omega)
  go_enter Tryz.func80,Tryz.ntmps80
  go_wp2_with fail
  go_ret
  exact ⟨yL (by rw [HA.out,h4'.out];rfl),Below.refl _ _⟩
 have h4':=J (show (l.length == 4)=true by simp at h4 ⊢;omega)
 go_enter Tryz.func80,Tryz.ntmps80
 go_wp2_with fail
 refine (containsFunc_Bound1 _ S _ _ _ HV.out (by omega) HF.out).mono ?_
 rintro e w1 ⟨rfl,hB1⟩
 go_wp2_with fail
 go_ret
 exact ⟨yL (by rw [HA.out,h4'.out];rfl),hB1⟩
def yJ:T:=⟨0,0,⟨#[]⟩,[]⟩
def pidT (n:Int):T:=⟨3,n,⟨#[]⟩,[]⟩
def sSelf:ByteArray:=⟨#[115,101,108,102]⟩
def sPut:ByteArray:=⟨#[112,117,116]⟩
def sAdd:ByteArray:=⟨#[97,100,100]⟩
def sumN (a b:T):Int:=Go.RowKit.wrap64 (a.n+b.n)
def sumB (a b:T):Bool:=a.kind == 1 && b.kind == 1 && inB (sumN a b) (-1099511627776) 1099511627776
def sumO (a b:T):Option T:=if sumB a b then some (numT (sumN a b)) else none
def varO (t:T):Option T:=if t.kind == 6 then none else some t
def putO (t:T):Option T:=if yF [t] then some t else none
def valH (bd:List T) (self:Int) (x:T) (r:Option (List T)):Option T :=
 if x.kind=6 then none else if x.kind=5 then varO (bd.getD x.n.toNat yJ) else if isT x sSelf 0 then some (pidT self)
 else if isT x sPut 1 then putO (x.args.getD 1 yJ) else if x.kind≠4 then some x
 else r.bind fun vs=>if isT x sAdd 2 then sumO (vs.getD 1 yJ) (vs.getD 2 yJ) else some (tupT vs)
def valL (bd:List T) (self:Int):List T→Option (List T)
 | []=>some []
 | ⟨k,n,s,l⟩ :: ts=>(valH bd self ⟨k,n,s,l⟩ (valL bd self l)).bind fun v=>(valL bd self ts).map fun vs=>v :: vs
def valT (bd:List T) (self:Int) (x:T):Option T:=valH bd self x (valL bd self x.args)
theorem valL_cons (bd:List T) (self:Int) (t:T) (ts:List T):valL bd self (t :: ts)=(valT bd self t).bind fun v=>(valL bd self ts).map fun vs=>v :: vs:=by
 obtain ⟨k,n,s,l⟩:=t;rw [valL];rfl
theorem valL_nil (bd:List T) (self:Int):valL bd self []=some []:=by rw [valL]
theorem valL_length {bd:List T} {self:Int} {l vs:List T} (h:valL bd self l=some vs):vs.length=l.length:=by
 induction l generalizing vs with
 | nil=>rw [valL_nil] at h;cases h;rfl
 | cons t l ih =>
  rw [valL_cons] at h
  obtain ⟨v,hv,h⟩:=Option.bind_eq_some_iff.1 h
  obtain ⟨us,hu,rfl⟩:=Option.map_eq_some_iff.1 h
  simp [ih hu]
theorem valL_append {bd:List T} {self:Int} (a b:List T):valL bd self (a ++ b)=(valL bd self a).bind fun us=>(valL bd self b).map fun vs=>us ++ vs:=by
 induction a with
 | nil=>rw [valL_nil];simp
 | cons t a ih =>
  rw [List.cons_append,valL_cons,valL_cons,ih]
  cases valT bd self t <;> cases valL bd self a <;> cases valL bd self b <;> rfl
theorem valL_snoc {bd:List T} {self:Int} {l vs:List T} {k:Nat} {t:T} (h:k < l.length) (hp:valL bd self (l.take k)=some vs) (ht:valT bd self l[k]=some t):valL bd self (l.take (k+1))=some (vs ++ [t]):=by
 rw [take_snoc' l k h,valL_append,hp,valL_cons,ht,valL_nil];rfl
theorem valL_none {bd:List T} {self:Int} {l:List T} {k:Nat} (h:k < l.length) (ht:valT bd self l[k]=none):valL bd self l=none:=by
 have e:l=l.take k ++ (l[k] :: l.drop (k+1)):=by simp
 rw [e,valL_append,valL_cons,ht];cases valL bd self (l.take k) <;> rfl
theorem valT_6 {bd:List T} {self:Int} {x:T} (h:x.kind=6):valT bd self x=none:=by rw [valT,valH,if_pos h]
theorem valT_5 {bd:List T} {self:Int} {x:T} (h:x.kind=5) {k:Nat} (hk:x.n=k) (hl:k < bd.length):valT bd self x=varO bd[k]:=by
 rw [valT,valH,if_neg (by omega),if_pos h,hk];simp [hl]
theorem valT_o {bd:List T} {self:Int} {x:T} (h:x.kind≠4) (h5:x.kind≠5) (h6:x.kind≠6):valT bd self x=some x:=by
 have e:(x.kind == 4)=false:=by simpa using h
 rw [valT,valH,if_neg h6,if_neg h5,isT_kind e,isT_kind e];simp [h]
theorem valT_self {bd:List T} {self:Int} {x:T} (h:x.kind=4) (hs:isT x sSelf 0=true):valT bd self x=some (pidT self):=by
 rw [valT,valH,if_neg (by omega),if_neg (by omega),if_pos hs]
theorem valT_put {bd:List T} {self:Int} {x:T} (h:x.kind=4) (hs:isT x sSelf 0=false) (hp:isT x sPut 1=true) (hl:1 < x.args.length):valT bd self x=putO x.args[1]:=by
 rw [valT,valH,if_neg (by omega),if_neg (by omega),if_neg (by simp [hs]),if_pos hp];simp [hl]
theorem valT_tup {bd:List T} {self:Int} {x:T} (h:x.kind=4) (hs:isT x sSelf 0=false) (hp:isT x sPut 1=false) :
  valT bd self x=(valL bd self x.args).bind fun vs=>if isT x sAdd 2 then sumO (vs.getD 1 yJ) (vs.getD 2 yJ) else some (tupT vs):=by
 rw [valT,valH,if_neg (by omega),if_neg (by omega),if_neg (by simp [hs]),if_neg (by simp [hp]),if_neg (by simp [h])]
theorem isT_length {x:T} {s:ByteArray} {n:Int} (h:isT x s n=true):(x.args.length:Int)=n+1:=by
 simp only [isT,Bool.and_eq_true,decide_eq_true_eq] at h;exact h.1.2
theorem form_var {x:T} (h:formL [x]=true) (hk:x.kind=5):∃ k:Nat,x.n=k∧k < 4:=by
 rw [formL_cons] at h
 simp only [Bool.and_eq_true] at h
 have:=h.1.1
 simp only [headB,hk] at this
 simp [inB] at this
 exact ⟨x.n.toNat,by omega,by omega⟩
theorem form_args {x:T} (h:formL [x]=true) {y:T} (hy:y∈x.args):formL [y]=true:=by
 rw [formL_cons] at h
 simp only [Bool.and_eq_true] at h
 rw [formL_all,List.all_eq_true] at h
 exact h.1.2 y hy
theorem RTs.shift {S:Nat→Prop} {w:World} {b o:Nat}:∀ (ts:List T) (i:Nat),RTs S w ts (some ⟨b,o,none⟩) (i+1)→RTs S w ts (some ⟨b,o+4,none⟩) i
 | [],_,_=>by simp [RTs]
 | t :: ts,i,h=>by
  rw [RTs_cons] at h ⊢
  obtain ⟨⟨b',o',a',cap,e,hS,h0,h1,h2,h3,h4,h5⟩,hr⟩:=h
  simp only [Option.some.injEq,Addr.mk.injEq,and_true] at e
  obtain ⟨rfl,rfl⟩:=e
  have e:o+(i+1) * 4=o+4+i * 4:=by omega
  rw [e] at h0 h1 h2 h3
  exact ⟨⟨b,o+4,a',cap,rfl,hS,h0,h1,h2,h3,h4,h5⟩,RTs.shift ts (i+1) hr⟩
theorem RTs.tail {S:Nat→Prop} {w:World} {b o:Nat} {t:T} {ts:List T} (h:RTs S w (t :: ts) (some ⟨b,o,none⟩) 0):RTs S w ts (some ⟨b,o+4,none⟩) 0:=by
 rw [RTs_cons] at h;exact RTs.shift ts 0 h.2
def restL (s:ByteArray) (t:T):Option (List T):=if t.kind == 4 && headIs s t.args then some t.args.tail else none
def RestP (S:Nat→Prop) (w:World) (s:ByteArray) (t:T) (e:Ending) (w':World):Prop :=
 ∃ a cap,e=.returned (.tuple #[.slice a ((restL s t).getD []).length cap,.bool (restL s t).isSome])∧Below w.heap.size w w'∧RSl S w' ((restL s t).getD []) (.slice a ((restL s t).getD []).length cap)
theorem RestP.no {S:Nat→Prop} {w:World} {s:ByteArray} {t:T} {e:Ending} {w':World} (h:restL s t=none) (he:e=.returned (.tuple #[.slice none 0 0,.bool false])) (hB:Below w.heap.size w w'):RestP S w s t e w':=by
 refine ⟨none,0,by rw [h];exact he,hB,?_⟩
 rw [h]
 exact ⟨none,0,rfl,⟨Nat.le_refl _,fun _=>rfl⟩,by simp [RTs]⟩
theorem word_cword (s:ByteArray) (w:World):Calls Tryz.prog 59 #[.string s] w fun e w'=>e=.returned (.agg #[.int .i64 2,.int .i64 0,.string s,.slice none 0 0])∧Below w.heap.size w w':=by
 go_enter Tryz.func59,Tryz.ntmps59
 go_wp2_with fail
 exact bodyPost_ret (v:=.agg #[.int .i64 2,.int .i64 0,.string s,.slice none 0 0]) (by simp [results,Tryz.results59,go_sem]) rfl ⟨rfl,yA _ _⟩
theorem word_Ratom (s:ByteArray) (w:World):Calls Tryz.prog 28 #[.string s] w fun e w'=>e=.returned (.agg #[.int .i64 2,.int .i64 0,.string s,.slice none 0 0])∧Below w.heap.size w w':=by
 go_enter Tryz.func28,Tryz.ntmps28
 go_wp2_with fail
 exact bodyPost_ret (v:=.agg #[.int .i64 2,.int .i64 0,.string s,.slice none 0 0]) (by simp [results,Tryz.results28,go_sem]) rfl ⟨rfl,yA _ _⟩
theorem ctuple_c (a:Option Addr) (n cap:Nat) (w:World):Calls Tryz.prog 58 #[.slice a n cap] w fun e w'=>e=.returned (.agg #[.int .i64 4,.int .i64 0,.string ⟨#[]⟩,.slice a n cap])∧Below w.heap.size w w':=by
 go_enter Tryz.func58,Tryz.ntmps58
 go_wp2_with fail
 exact bodyPost_ret (v:=.agg #[.int .i64 4,.int .i64 0,.string ⟨#[]⟩,.slice a n cap]) (by simp [results,Tryz.results58,go_sem]) rfl ⟨rfl,yA _ _⟩
theorem cwithin_c (n lo hi:Int) (w:World):Calls Tryz.prog 60 #[.int .i64 n,.int .i64 lo,.int .i64 hi] w fun e w'=>e=.returned (.bool (decide (lo≤n) && decide (n≤hi)))∧w'=w:=by
 by_cases h1:lo≤n <;> by_cases h2:n≤hi <;> simp only [h1,h2,decide_true,decide_false]
 all_goals
  go_enter Tryz.func60,Tryz.ntmps60
  go_wp2_with fail
  go_ret
  exact ⟨rfl,rfl⟩
def emptyB (t:T):Bool:=t.kind == 0 && t.n == 0 && t.name.toList == [] && decide (t.args.length=0)
theorem emptyB_iff (t:T):emptyB t=true↔t=yJ:=by
 obtain ⟨k,n,s,l⟩:=t
 simp only [emptyB,Bool.and_eq_true,beq_iff_eq,decide_eq_true_eq,yJ,T.mk.injEq,List.length_eq_zero_iff]
 constructor
 ·rintro ⟨⟨⟨h1,h2⟩,h3⟩,h4⟩
  exact ⟨h1,h2,ba_ext (by rw [←Lib.toList_data,h3]),h4⟩
 rintro ⟨h1,h2,rfl,h4⟩
 exact ⟨⟨⟨h1,h2⟩,by rw [Lib.toList_data]⟩,h4⟩
theorem cempty_c (t:T) (a:Option Addr) (cap:Nat) (w:World):Calls Tryz.prog 94 #[.agg #[.int .i64 t.kind,.int .i64 t.n,.string t.name,.slice a t.args.length cap]] w fun e w'=>e=.returned (.bool (emptyB t))∧Below w.heap.size w w':=by
 obtain ⟨q,hq⟩:∃ q,decide (t.args.length=0)=q:=⟨_,rfl⟩
 have h4:((t.args.length:Int) == 0)=q:=by
  rw [←hq]
  by_cases h:t.args.length=0
  ·simp [h]
  rw [decide_eq_false h,beq_eq_false_iff_ne];omega
 cases h1:(t.kind == 0) <;> cases h2:(t.n == 0) <;> cases h3:(t.name.toList == ([]:List UInt8)) <;> cases q
 all_goals
  have HE:=J (show emptyB t=_ from by rw [emptyB,h1,h2,h3,hq])
  clear hq
  go_enter Tryz.func94,Tryz.ntmps94
  go_wp2_with fail
  go_ret
  exact ⟨yL (by rw [HE.out];first | rfl | (rw [h4];rfl)),yA _ _⟩
structure Deed where
 kind:Int
 «to»:T
 what:T
 name:ByteArray
 var:Int
structure Clau where
 state:T
 message:T
 acts:List Deed
 next:T
structure Behv where
 name:ByteArray
 clauses:List Clau
def deedB (d:Deed):Nat:=1+yC [d.to]+yC [d.what]+d.name.size
def deedsB:List Deed→Nat
 | []=>0
 | d :: l=>deedB d+deedsB l
def clauB (c:Clau):Nat:=1+yC [c.state]+yC [c.message]+deedsB c.acts+yC [c.next]
def clausB:List Clau→Nat
 | []=>0
 | c :: l=>clauB c+clausB l
def behvB (b:Behv):Nat:=1+b.name.size+clausB b.clauses
def behvsB:List Behv→Nat
 | []=>0
 | b :: l=>behvB b+behvsB l
theorem deedsB_len (l:List Deed):l.length≤deedsB l:=by
 induction l with
 | nil=>simp [deedsB]
 | cons d l ih=>simp only [deedsB,deedB,List.length_cons];omega
theorem clausB_len (l:List Clau):l.length≤clausB l:=by
 induction l with
 | nil=>simp [clausB]
 | cons d l ih=>simp only [clausB,clauB,List.length_cons];omega
theorem behvsB_len (l:List Behv):l.length≤behvsB l:=by
 induction l with
 | nil=>simp [behvsB]
 | cons d l ih=>simp only [behvsB,behvB,List.length_cons];omega
theorem deedsB_mem {l:List Deed} {d:Deed} (h:d∈l):deedB d≤deedsB l:=by
 induction l with
 | nil=>cases h
 | cons e l ih =>
  rcases List.mem_cons.1 h with rfl | h
  ·simp only [deedsB];omega
  ·have:=ih h;simp only [deedsB];omega
theorem clausB_mem {l:List Clau} {d:Clau} (h:d∈l):clauB d≤clausB l:=by
 induction l with
 | nil=>cases h
 | cons e l ih =>
  rcases List.mem_cons.1 h with rfl | h
  ·simp only [clausB];omega
  ·have:=ih h;simp only [clausB];omega
theorem behvsB_mem {l:List Behv} {d:Behv} (h:d∈l):behvB d≤behvsB l:=by
 induction l with
 | nil=>cases h
 | cons e l ih =>
  rcases List.mem_cons.1 h with rfl | h
  ·simp only [behvsB];omega
  ·have:=ih h;simp only [behvsB];omega
def deedC (S:Nat→Prop) (w:World) (d:Deed) (cs:List Value):Prop :=
 ∃ a1 p1 a2 p2,cs=[.int .i64 d.kind,.int .i64 d.to.kind,.int .i64 d.to.n,.string d.to.name,.slice a1 d.to.args.length p1,.int .i64 d.what.kind,.int .i64 d.what.n,.string d.what.name,.slice a2 d.what.args.length p2,.string d.name,.int .i64 d.var] ∧
  RT S w d.to (.agg #[.int .i64 d.to.kind,.int .i64 d.to.n,.string d.to.name,.slice a1 d.to.args.length p1])∧RT S w d.what (.agg #[.int .i64 d.what.kind,.int .i64 d.what.n,.string d.what.name,.slice a2 d.what.args.length p2])
def deedE:El Deed where
 k:=11
 C:=deedC
 len:=by rintro S w x cs ⟨a1,p1,a2,p2,rfl,-⟩;rfl
 one:=by rintro S w x cs ⟨a1,p1,a2,p2,rfl,-⟩;simp [Value.oneCell']
 «to»:=by rintro S S' w w' x cs ⟨a1,p1,a2,p2,rfl,h1,h2⟩ hs hc;exact ⟨a1,p1,a2,p2,rfl,h1.to hs hc,h2.to hs hc⟩
def clauC (S:Nat→Prop) (w:World) (c:Clau) (cs:List Value):Prop :=
 ∃ a1 p1 a2 p2 a3 p3 a4 p4,cs=[.int .i64 c.state.kind,.int .i64 c.state.n,.string c.state.name,.slice a1 c.state.args.length p1,.int .i64 c.message.kind,.int .i64 c.message.n,.string c.message.name,.slice a2 c.message.args.length p2,
   .slice a3 c.acts.length p3,.int .i64 c.next.kind,.int .i64 c.next.n,.string c.next.name,.slice a4 c.next.args.length p4] ∧
  RT S w c.state (.agg #[.int .i64 c.state.kind,.int .i64 c.state.n,.string c.state.name,.slice a1 c.state.args.length p1])∧RT S w c.message (.agg #[.int .i64 c.message.kind,.int .i64 c.message.n,.string c.message.name,.slice a2 c.message.args.length p2]) ∧
  RX deedE S S w c.acts (.slice a3 c.acts.length p3)∧RT S w c.next (.agg #[.int .i64 c.next.kind,.int .i64 c.next.n,.string c.next.name,.slice a4 c.next.args.length p4])
def clauE:El Clau where
 k:=13
 C:=clauC
 len:=by rintro S w x cs ⟨a1,p1,a2,p2,a3,p3,a4,p4,rfl,-⟩;rfl
 one:=by rintro S w x cs ⟨a1,p1,a2,p2,a3,p3,a4,p4,rfl,-⟩;simp [Value.oneCell']
 «to»:=by rintro S S' w w' x cs ⟨a1,p1,a2,p2,a3,p3,a4,p4,rfl,h1,h2,h3,h4⟩ hs hc;exact ⟨a1,p1,a2,p2,a3,p3,a4,p4,rfl,h1.to hs hc,h2.to hs hc,h3.to hs hs fun b hb=>hc b (hb.elim id id),h4.to hs hc⟩
def behvC (S:Nat→Prop) (w:World) (b:Behv) (cs:List Value):Prop :=
 ∃ a p,cs=[.string b.name,.slice a b.clauses.length p]∧RX clauE S S w b.clauses (.slice a b.clauses.length p)
def behvE:El Behv where
 k:=2
 C:=behvC
 len:=by rintro S w x cs ⟨a1,p1,rfl,-⟩;rfl
 one:=by rintro S w x cs ⟨a1,p1,rfl,-⟩;simp [Value.oneCell']
 «to»:=by rintro S S' w w' x cs ⟨a1,p1,rfl,h3⟩ hs hc;exact ⟨a1,p1,rfl,h3.to hs hs fun b hb=>hc b (hb.elim id id)⟩
def deedF:ElT deedE where
 e:=84
 sl:=80
 bytes:=144
 z:=.agg #[.int .i64 0,.int .i64 0,.int .i64 0,.string ⟨#[]⟩,.slice none 0 0,.int .i64 0,.int .i64 0,.string ⟨#[]⟩,.slice none 0 0,.string ⟨#[]⟩,.int .i64 0]
 hund:=Tryz.underlying80
 info:=by kernel_rfl
 hzs:=rfl
 hk:=by decide
 hb:=by decide
def clauF:ElT clauE where
 e:=82
 sl:=77
 bytes:=192
 z:=.agg #[.int .i64 0,.int .i64 0,.string ⟨#[]⟩,.slice none 0 0,.int .i64 0,.int .i64 0,.string ⟨#[]⟩,.slice none 0 0,.slice none 0 0,.int .i64 0,.int .i64 0,.string ⟨#[]⟩,.slice none 0 0]
 hund:=Tryz.underlying77
 info:=by kernel_rfl
 hzs:=rfl
 hk:=by decide
 hb:=by decide
def behvF:ElT behvE where
 e:=79
 sl:=22
 bytes:=40
 z:=.agg #[.string ⟨#[]⟩,.slice none 0 0]
 hund:=Tryz.underlying22
 info:=by kernel_rfl
 hzs:=rfl
 hk:=by decide
 hb:=by decide
structure Blk (w:World) (B:Nat) (cs:List Value):Prop where
 lt:B < w.heap.size
 cell:∀ j u,cs[j]?=some u→w.cell? ⟨B,j,none⟩=some u
 fr:∀ o,w.frozen? ⟨B,o,none⟩=false
theorem Blk.below {w w':World} {B N:Nat} {cs:List Value} (h:Blk w B cs) (hB:Below N w w') (hN:B < N):Blk w' B cs :=
 ⟨Nat.lt_of_lt_of_le h.lt hB.size,fun j u hu=>(hB.cell (p:=⟨B,j,none⟩) hN).trans (h.cell j u hu),fun o=>(hB.frozen (p:=⟨B,o,none⟩) hN).trans (h.fr o)⟩
theorem Blk.step {w w':World} {B:Nat} {cs:List Value} (h:Blk w B cs) (hB:Below w.heap.size w w'):Blk w' B cs:=h.below hB h.lt
theorem Blk.alloc {w:World} {B:Nat} {cs:List Value} (h:Blk w B cs) (o:Obj):Blk (w.alloc o) B cs:=h.step (yA w o)
theorem Blk.new (w:World) (c:Array Value) (e:TypeId) (B:Nat) (hB:B=w.heap.size):Blk (w.alloc (.cells c e)) B c.toList:=by
 subst hB
 exact ⟨by simp,fun j u hu=>by rw [World.cell?_alloc_new];simpa using hu,fun o=>frozen_of_row _ _ o c e (heap_alloc_new w _)⟩
def setAll (w:World) (B:Nat):Nat→List Value→World
 | _,[]=>w
 | i,c :: cs=>setAll (w.setCell ⟨B,i,none⟩ c) B (i+1) cs
theorem setAll_heap (w:World) (B:Nat):∀ (cs:List Value) (i:Nat),(setAll w B i cs).heap.size=w.heap.size∧∀ b,b≠B→(setAll w B i cs).heap[b]?=w.heap[b]?:=by
 intro cs
 induction cs generalizing w with
 | nil=>intro i;exact ⟨rfl,fun _ _=>rfl⟩
 | cons c cs ih =>
  intro i
  obtain ⟨h1,h2⟩:=ih (w.setCell ⟨B,i,none⟩ c) (i+1)
  exact ⟨by rw [setAll,h1];simp,fun b hb=>by rw [setAll,h2 b hb,yD _ _ _ _ _ hb]⟩
theorem setAll_below {N:Nat} {a w:World} (h:Below N a w) (B:Nat) (hB:N≤B):∀ (cs:List Value) (i:Nat),Below N a (setAll w B i cs):=by
 intro cs
 induction cs generalizing w with
 | nil=>intro i;exact h
 | cons c cs ih=>intro i;exact ih (h.setCell (p:=⟨B,i,none⟩) hB c) (i+1)
theorem Blk.set {w:World} {B:Nat} {cs:List Value} (h:Blk w B cs) (i:Nat) (c:Value) (hi:i < cs.length):Blk (w.setCell ⟨B,i,none⟩ c) B (cs.set i c):=by
 refine ⟨by have:=h.lt;simpa using this,fun j u hu=>?_,fun o=>?_⟩
 ·rw [List.getElem?_set] at hu
  split at hu
  ·rename_i e
   subst e
   have h0:=h.cell i cs[i] (by simp)
   rw [World.cell?_setCell_same _ _ _ h0];exact hu
  rename_i e
  rw [World.cell?_setCell_other _ _ _ _ (by simp only [ne_eq,Addr.mk.injEq,and_true,true_and];exact fun h=>e h)]
  exact h.cell j u hu
 have:=h.fr o
 go_simp
theorem Blk.all {w:World} {B:Nat}:∀ (cs pre old:List Value),Blk w B (pre ++ old)→cs.length=old.length→Blk (setAll w B pre.length cs) B (pre ++ cs)
 | [],pre,old,h,hl=>by
  obtain rfl:old=[]:=List.eq_nil_of_length_eq_zero hl.symm
  exact h
 | c :: cs,pre,o :: old,h,hl=>by
  have h1:=h.set pre.length c (by simp)
  have e:(pre ++ o :: old).set pre.length c=(pre ++ [c]) ++ old:=by simp
  rw [e] at h1
  have h2:=Blk.all (w:=w.setCell ⟨B,pre.length,none⟩ c) cs (pre ++ [c]) old h1 (by simpa using hl)
  simpa [setAll] using h2
 | c :: cs,pre,[],h,hl=>by cases hl
theorem Blk.stored {w:World} {B:Nat} {old:List Value} (h:Blk w B old) (cs:List Value) (hl:cs.length=old.length):Blk (setAll w B 0 cs) B cs:=by
 simpa using Blk.all cs [] old (by simpa using h) hl
theorem Blk.range {w:World} {B:Nat} {cs:List Value} (h:Blk w B cs):w.rangeAt B 0 cs:=fun j v hv=>by rw [Nat.zero_add];exact h.cell j v hv
theorem Blk.there {w:World} {B:Nat} {cs:List Value} (h:Blk w B cs):w.there B 0 cs.length:=fun j hj=>by
 rw [Nat.zero_add,h.cell j cs[j] (by simp [hj])]
 exact ⟨rfl,h.fr j⟩
theorem setCells_all (w:World) (B:Nat):∀ (cs:List Value) (i:Nat),w.setCells B i cs=setAll w B i cs:=by
 intro cs
 induction cs generalizing w with
 | nil=>intro i;rfl
 | cons c cs ih=>intro i;rw [setAll,←ih];rfl
section
variable {ops:Array Oper} {rest:List Oper} {o:Oper} {a:Act} {Q:Exit→Act→World→Prop} {w:World}
theorem yI (ty:TypeId) (k:Nat) (hi:(Tryz.prog.info? ty).map (·.size)=some k) (x y:Operand) (hgd:o.guard=none) (ho:o.op=.store ty x y) (hd:o.dst=none)
  {B:Nat} {old:List Value} {cells:Array Value} (hx:a.eval x=.pointer (some ⟨B,0,none⟩)) (hy:a.eval y=.agg cells) (hB:Blk w B old) (hl:old.length=k) (hc:cells.size=k) (h1:cells.toList.all (·.oneCell')=true)
  (h:∀ w',Blk w' B cells.toList→w'.heap.size=w.heap.size→(∀ N a,N≤B→Below N a w→Below N a w')→(∀ b,b≠B→w'.heap[b]?=w.heap[b]?)→wpList Tryz.prog ops Q rest a w') :
  wpList Tryz.prog ops Q (o :: rest) a w:=by
 have hk:old.length=cells.size:=by omega
 refine wpList_store_mid hgd ty x y ho B 0 cells hx hy (by rw [←hk];exact hB.there) (by rw [hi,hc]) (by rw [←Array.all_toList];exact h1) ?_
 rw [hd,setCells_all]
 have hs:=setAll_heap w B cells.toList 0
 exact h _ (hB.stored _ (by simpa using hk.symm)) hs.1 (fun N a hN hb=>setAll_below hb B hN _ _) hs.2
theorem load_blk (ty:TypeId) (k:Nat) (hi:(Tryz.prog.info? ty).map (·.size)=some k) (d:TypeDesc) (hu:Tryz.prog.underlying ty=some d) (hr:d.isRow=true) (x:Operand) (hgd:o.guard=none) (ho:o.op=.load ty x)
  {B:Nat} {cs:List Value} (hx:a.eval x=.pointer (some ⟨B,0,none⟩)) (hB:Blk w B cs) (hl:cs.length=k)
  (h:wpList Tryz.prog ops Q rest (a.put o.dst (.agg cs.toArray)) w):wpList Tryz.prog ops Q (o :: rest) a w :=
 wpList_load_mid hgd ty x ho B 0 hx cs d hB.range hu hr (by rw [hi,hl]) h
end
theorem yH {fn:Func} {t s:Tmp} {ty k:Nat} (h:fn.results=#[.cell t ty,.tmp s]) (hi:(Tryz.prog.info? ty).map (·.size)=some k) (d:TypeDesc) (hu:Tryz.prog.underlying ty=some d) (hr:d.isRow=true)
  {tmps:Array Value} {w:World} {B:Nat} {cs:List Value} (hx:tmps.getD t undef=.pointer (some ⟨B,0,none⟩)) (hB:Blk w B cs) (hl:cs.length=k) :
  (results fn tmps).run Tryz.prog w=.ok (.tuple #[.agg cs.toArray,tmps.getD s undef]) w:=by
 have h1:=run_loadVar_mid (P:=Tryz.prog) w B 0 ty cs d hB.range hu hr (by rw [hi,hl])
 have h2:(asAddr (tmps.getD t undef)).run Tryz.prog w=.ok ⟨B,0,none⟩ w:=by rw [hx];rfl
 simp only [Array.getD_eq_getD_getElem?] at h2 ⊢
 simp [results,h,h1,h2]
theorem szDeed:(Tryz.prog.info? 84).map (·.size)=some 11:=by kernel_rfl
theorem szClau:(Tryz.prog.info? 82).map (·.size)=some 13:=by kernel_rfl
theorem szBeh:(Tryz.prog.info? 79).map (·.size)=some 2:=by kernel_rfl
theorem yN:(Tryz.prog.info? 25).map (·.size)=some 4:=by kernel_rfl
theorem Blk.c2 {w:World} {g:Nat} {cs:List Value} (h:Blk w g cs) (i0 i1:Nat) {v0 v1:Value} (h0:cs[i0]?=some v0:=by exact rfl) (h1:cs[i1]?=some v1:=by exact rfl):w.cell? ⟨g,i0,none⟩=some v0∧w.cell? ⟨g,i1,none⟩=some v1:=⟨h.cell i0 v0 h0,h.cell i1 v1 h1⟩
theorem Blk.c3 {w:World} {g:Nat} {cs:List Value} (h:Blk w g cs) (i0 i1 i2:Nat) {v0 v1 v2:Value} (h0:cs[i0]?=some v0:=by exact rfl) (h1:cs[i1]?=some v1:=by exact rfl) (h2:cs[i2]?=some v2:=by exact rfl):w.cell? ⟨g,i0,none⟩=some v0∧w.cell? ⟨g,i1,none⟩=some v1∧w.cell? ⟨g,i2,none⟩=some v2:=⟨h.cell i0 v0 h0,h.cell i1 v1 h1,h.cell i2 v2 h2⟩
theorem Blk.c4 {w:World} {g:Nat} {cs:List Value} (h:Blk w g cs) (i0 i1 i2 i3:Nat) {v0 v1 v2 v3:Value} (h0:cs[i0]?=some v0:=by exact rfl) (h1:cs[i1]?=some v1:=by exact rfl) (h2:cs[i2]?=some v2:=by exact rfl) (h3:cs[i3]?=some v3:=by exact rfl):w.cell? ⟨g,i0,none⟩=some v0∧w.cell? ⟨g,i1,none⟩=some v1∧w.cell? ⟨g,i2,none⟩=some v2∧w.cell? ⟨g,i3,none⟩=some v3:=⟨h.cell i0 v0 h0,h.cell i1 v1 h1,h.cell i2 v2 h2,h.cell i3 v3 h3⟩
theorem Blk.c5 {w:World} {g:Nat} {cs:List Value} (h:Blk w g cs) (i0 i1 i2 i3 i4:Nat) {v0 v1 v2 v3 v4:Value} (h0:cs[i0]?=some v0:=by exact rfl) (h1:cs[i1]?=some v1:=by exact rfl) (h2:cs[i2]?=some v2:=by exact rfl) (h3:cs[i3]?=some v3:=by exact rfl) (h4:cs[i4]?=some v4:=by exact rfl):w.cell? ⟨g,i0,none⟩=some v0∧w.cell? ⟨g,i1,none⟩=some v1∧w.cell? ⟨g,i2,none⟩=some v2∧w.cell? ⟨g,i3,none⟩=some v3∧w.cell? ⟨g,i4,none⟩=some v4:=⟨h.cell i0 v0 h0,h.cell i1 v1 h1,h.cell i2 v2 h2,h.cell i3 v3 h3,h.cell i4 v4 h4⟩
theorem Blk.c6 {w:World} {g:Nat} {cs:List Value} (h:Blk w g cs) (i0 i1 i2 i3 i4 i5:Nat) {v0 v1 v2 v3 v4 v5:Value} (h0:cs[i0]?=some v0:=by exact rfl) (h1:cs[i1]?=some v1:=by exact rfl) (h2:cs[i2]?=some v2:=by exact rfl) (h3:cs[i3]?=some v3:=by exact rfl) (h4:cs[i4]?=some v4:=by exact rfl) (h5:cs[i5]?=some v5:=by exact rfl):w.cell? ⟨g,i0,none⟩=some v0∧w.cell? ⟨g,i1,none⟩=some v1∧w.cell? ⟨g,i2,none⟩=some v2∧w.cell? ⟨g,i3,none⟩=some v3∧w.cell? ⟨g,i4,none⟩=some v4∧w.cell? ⟨g,i5,none⟩=some v5:=⟨h.cell i0 v0 h0,h.cell i1 v1 h1,h.cell i2 v2 h2,h.cell i3 v3 h3,h.cell i4 v4 h4,h.cell i5 v5 h5⟩
theorem Blk.c7 {w:World} {g:Nat} {cs:List Value} (h:Blk w g cs) (i0 i1 i2 i3 i4 i5 i6:Nat) {v0 v1 v2 v3 v4 v5 v6:Value} (h0:cs[i0]?=some v0:=by exact rfl) (h1:cs[i1]?=some v1:=by exact rfl) (h2:cs[i2]?=some v2:=by exact rfl) (h3:cs[i3]?=some v3:=by exact rfl) (h4:cs[i4]?=some v4:=by exact rfl) (h5:cs[i5]?=some v5:=by exact rfl) (h6:cs[i6]?=some v6:=by exact rfl):w.cell? ⟨g,i0,none⟩=some v0∧w.cell? ⟨g,i1,none⟩=some v1∧w.cell? ⟨g,i2,none⟩=some v2∧w.cell? ⟨g,i3,none⟩=some v3∧w.cell? ⟨g,i4,none⟩=some v4∧w.cell? ⟨g,i5,none⟩=some v5∧w.cell? ⟨g,i6,none⟩=some v6:=⟨h.cell i0 v0 h0,h.cell i1 v1 h1,h.cell i2 v2 h2,h.cell i3 v3 h3,h.cell i4 v4 h4,h.cell i5 v5 h5,h.cell i6 v6 h6⟩
theorem Blk.c8 {w:World} {g:Nat} {cs:List Value} (h:Blk w g cs) (i0 i1 i2 i3 i4 i5 i6 i7:Nat) {v0 v1 v2 v3 v4 v5 v6 v7:Value} (h0:cs[i0]?=some v0:=by exact rfl) (h1:cs[i1]?=some v1:=by exact rfl) (h2:cs[i2]?=some v2:=by exact rfl) (h3:cs[i3]?=some v3:=by exact rfl) (h4:cs[i4]?=some v4:=by exact rfl) (h5:cs[i5]?=some v5:=by exact rfl) (h6:cs[i6]?=some v6:=by exact rfl) (h7:cs[i7]?=some v7:=by exact rfl):w.cell? ⟨g,i0,none⟩=some v0∧w.cell? ⟨g,i1,none⟩=some v1∧w.cell? ⟨g,i2,none⟩=some v2∧w.cell? ⟨g,i3,none⟩=some v3∧w.cell? ⟨g,i4,none⟩=some v4∧w.cell? ⟨g,i5,none⟩=some v5∧w.cell? ⟨g,i6,none⟩=some v6∧w.cell? ⟨g,i7,none⟩=some v7:=⟨h.cell i0 v0 h0,h.cell i1 v1 h1,h.cell i2 v2 h2,h.cell i3 v3 h3,h.cell i4 v4 h4,h.cell i5 v5 h5,h.cell i6 v6 h6,h.cell i7 v7 h7⟩
theorem Blk.c9 {w:World} {g:Nat} {cs:List Value} (h:Blk w g cs) (i0 i1 i2 i3 i4 i5 i6 i7 i8:Nat) {v0 v1 v2 v3 v4 v5 v6 v7 v8:Value} (h0:cs[i0]?=some v0:=by exact rfl) (h1:cs[i1]?=some v1:=by exact rfl) (h2:cs[i2]?=some v2:=by exact rfl) (h3:cs[i3]?=some v3:=by exact rfl) (h4:cs[i4]?=some v4:=by exact rfl) (h5:cs[i5]?=some v5:=by exact rfl) (h6:cs[i6]?=some v6:=by exact rfl) (h7:cs[i7]?=some v7:=by exact rfl) (h8:cs[i8]?=some v8:=by exact rfl):w.cell? ⟨g,i0,none⟩=some v0∧w.cell? ⟨g,i1,none⟩=some v1∧w.cell? ⟨g,i2,none⟩=some v2∧w.cell? ⟨g,i3,none⟩=some v3∧w.cell? ⟨g,i4,none⟩=some v4∧w.cell? ⟨g,i5,none⟩=some v5∧w.cell? ⟨g,i6,none⟩=some v6∧w.cell? ⟨g,i7,none⟩=some v7∧w.cell? ⟨g,i8,none⟩=some v8:=⟨h.cell i0 v0 h0,h.cell i1 v1 h1,h.cell i2 v2 h2,h.cell i3 v3 h3,h.cell i4 v4 h4,h.cell i5 v5 h5,h.cell i6 v6 h6,h.cell i7 v7 h7,h.cell i8 v8 h8⟩
theorem Blk.c10 {w:World} {g:Nat} {cs:List Value} (h:Blk w g cs) (i0 i1 i2 i3 i4 i5 i6 i7 i8 i9:Nat) {v0 v1 v2 v3 v4 v5 v6 v7 v8 v9:Value} (h0:cs[i0]?=some v0:=by exact rfl) (h1:cs[i1]?=some v1:=by exact rfl) (h2:cs[i2]?=some v2:=by exact rfl) (h3:cs[i3]?=some v3:=by exact rfl) (h4:cs[i4]?=some v4:=by exact rfl) (h5:cs[i5]?=some v5:=by exact rfl) (h6:cs[i6]?=some v6:=by exact rfl) (h7:cs[i7]?=some v7:=by exact rfl) (h8:cs[i8]?=some v8:=by exact rfl) (h9:cs[i9]?=some v9:=by exact rfl):w.cell? ⟨g,i0,none⟩=some v0∧w.cell? ⟨g,i1,none⟩=some v1∧w.cell? ⟨g,i2,none⟩=some v2∧w.cell? ⟨g,i3,none⟩=some v3∧w.cell? ⟨g,i4,none⟩=some v4∧w.cell? ⟨g,i5,none⟩=some v5∧w.cell? ⟨g,i6,none⟩=some v6∧w.cell? ⟨g,i7,none⟩=some v7∧w.cell? ⟨g,i8,none⟩=some v8∧w.cell? ⟨g,i9,none⟩=some v9:=⟨h.cell i0 v0 h0,h.cell i1 v1 h1,h.cell i2 v2 h2,h.cell i3 v3 h3,h.cell i4 v4 h4,h.cell i5 v5 h5,h.cell i6 v6 h6,h.cell i7 v7 h7,h.cell i8 v8 h8,h.cell i9 v9 h9⟩
theorem Blk.c11 {w:World} {g:Nat} {cs:List Value} (h:Blk w g cs) (i0 i1 i2 i3 i4 i5 i6 i7 i8 i9 i10:Nat) {v0 v1 v2 v3 v4 v5 v6 v7 v8 v9 v10:Value} (h0:cs[i0]?=some v0:=by exact rfl) (h1:cs[i1]?=some v1:=by exact rfl) (h2:cs[i2]?=some v2:=by exact rfl) (h3:cs[i3]?=some v3:=by exact rfl) (h4:cs[i4]?=some v4:=by exact rfl) (h5:cs[i5]?=some v5:=by exact rfl) (h6:cs[i6]?=some v6:=by exact rfl) (h7:cs[i7]?=some v7:=by exact rfl) (h8:cs[i8]?=some v8:=by exact rfl) (h9:cs[i9]?=some v9:=by exact rfl) (h10:cs[i10]?=some v10:=by exact rfl):w.cell? ⟨g,i0,none⟩=some v0∧w.cell? ⟨g,i1,none⟩=some v1∧w.cell? ⟨g,i2,none⟩=some v2∧w.cell? ⟨g,i3,none⟩=some v3∧w.cell? ⟨g,i4,none⟩=some v4∧w.cell? ⟨g,i5,none⟩=some v5∧w.cell? ⟨g,i6,none⟩=some v6∧w.cell? ⟨g,i7,none⟩=some v7∧w.cell? ⟨g,i8,none⟩=some v8∧w.cell? ⟨g,i9,none⟩=some v9∧w.cell? ⟨g,i10,none⟩=some v10:=⟨h.cell i0 v0 h0,h.cell i1 v1 h1,h.cell i2 v2 h2,h.cell i3 v3 h3,h.cell i4 v4 h4,h.cell i5 v5 h5,h.cell i6 v6 h6,h.cell i7 v7 h7,h.cell i8 v8 h8,h.cell i9 v9 h9,h.cell i10 v10 h10⟩
theorem Blk.c12 {w:World} {g:Nat} {cs:List Value} (h:Blk w g cs) (i0 i1 i2 i3 i4 i5 i6 i7 i8 i9 i10 i11:Nat) {v0 v1 v2 v3 v4 v5 v6 v7 v8 v9 v10 v11:Value} (h0:cs[i0]?=some v0:=by exact rfl) (h1:cs[i1]?=some v1:=by exact rfl) (h2:cs[i2]?=some v2:=by exact rfl) (h3:cs[i3]?=some v3:=by exact rfl) (h4:cs[i4]?=some v4:=by exact rfl) (h5:cs[i5]?=some v5:=by exact rfl) (h6:cs[i6]?=some v6:=by exact rfl) (h7:cs[i7]?=some v7:=by exact rfl) (h8:cs[i8]?=some v8:=by exact rfl) (h9:cs[i9]?=some v9:=by exact rfl) (h10:cs[i10]?=some v10:=by exact rfl) (h11:cs[i11]?=some v11:=by exact rfl):w.cell? ⟨g,i0,none⟩=some v0∧w.cell? ⟨g,i1,none⟩=some v1∧w.cell? ⟨g,i2,none⟩=some v2∧w.cell? ⟨g,i3,none⟩=some v3∧w.cell? ⟨g,i4,none⟩=some v4∧w.cell? ⟨g,i5,none⟩=some v5∧w.cell? ⟨g,i6,none⟩=some v6∧w.cell? ⟨g,i7,none⟩=some v7∧w.cell? ⟨g,i8,none⟩=some v8∧w.cell? ⟨g,i9,none⟩=some v9∧w.cell? ⟨g,i10,none⟩=some v10∧w.cell? ⟨g,i11,none⟩=some v11:=⟨h.cell i0 v0 h0,h.cell i1 v1 h1,h.cell i2 v2 h2,h.cell i3 v3 h3,h.cell i4 v4 h4,h.cell i5 v5 h5,h.cell i6 v6 h6,h.cell i7 v7 h7,h.cell i8 v8 h8,h.cell i9 v9 h9,h.cell i10 v10 h10,h.cell i11 v11 h11⟩
theorem Blk.c13 {w:World} {g:Nat} {cs:List Value} (h:Blk w g cs) (i0 i1 i2 i3 i4 i5 i6 i7 i8 i9 i10 i11 i12:Nat) {v0 v1 v2 v3 v4 v5 v6 v7 v8 v9 v10 v11 v12:Value} (h0:cs[i0]?=some v0:=by exact rfl) (h1:cs[i1]?=some v1:=by exact rfl) (h2:cs[i2]?=some v2:=by exact rfl) (h3:cs[i3]?=some v3:=by exact rfl) (h4:cs[i4]?=some v4:=by exact rfl) (h5:cs[i5]?=some v5:=by exact rfl) (h6:cs[i6]?=some v6:=by exact rfl) (h7:cs[i7]?=some v7:=by exact rfl) (h8:cs[i8]?=some v8:=by exact rfl) (h9:cs[i9]?=some v9:=by exact rfl) (h10:cs[i10]?=some v10:=by exact rfl) (h11:cs[i11]?=some v11:=by exact rfl) (h12:cs[i12]?=some v12:=by exact rfl):w.cell? ⟨g,i0,none⟩=some v0∧w.cell? ⟨g,i1,none⟩=some v1∧w.cell? ⟨g,i2,none⟩=some v2∧w.cell? ⟨g,i3,none⟩=some v3∧w.cell? ⟨g,i4,none⟩=some v4∧w.cell? ⟨g,i5,none⟩=some v5∧w.cell? ⟨g,i6,none⟩=some v6∧w.cell? ⟨g,i7,none⟩=some v7∧w.cell? ⟨g,i8,none⟩=some v8∧w.cell? ⟨g,i9,none⟩=some v9∧w.cell? ⟨g,i10,none⟩=some v10∧w.cell? ⟨g,i11,none⟩=some v11∧w.cell? ⟨g,i12,none⟩=some v12:=⟨h.cell i0 v0 h0,h.cell i1 v1 h1,h.cell i2 v2 h2,h.cell i3 v3 h3,h.cell i4 v4 h4,h.cell i5 v5 h5,h.cell i6 v6 h6,h.cell i7 v7 h7,h.cell i8 v8 h8,h.cell i9 v9 h9,h.cell i10 v10 h10,h.cell i11 v11 h11,h.cell i12 v12 h12⟩
def fitH (p t:T) (b:List T) (r:Bool×List T):Bool×List T :=
 if p.kind=6 then (true,b)
 else if p.kind=5 then (if (b.getD p.n.toNat yJ).kind=6 then (true,b.set p.n.toNat t) else (sameT (b.getD p.n.toNat yJ) t,b))
 else if p.kind=4 then (if t.kind=4∧p.args.length=t.args.length then r else (false,b))
 else (sameT p t,b)
def fitL:List T→List T→List T→Bool×List T
 | ⟨k,n,s,l⟩ :: ps,t :: ts,b =>
  if (fitH ⟨k,n,s,l⟩ t b (fitL l t.args b)).1 then fitL ps ts (fitH ⟨k,n,s,l⟩ t b (fitL l t.args b)).2 else fitH ⟨k,n,s,l⟩ t b (fitL l t.args b)
 | [],_,b=>(true,b)
 | _,[],b=>(true,b)
def fitT (p t:T) (b:List T):Bool×List T:=fitH p t b (fitL p.args t.args b)
theorem fitL_cons (p t:T) (ps ts b:List T):fitL (p :: ps) (t :: ts) b=if (fitT p t b).1 then fitL ps ts (fitT p t b).2 else fitT p t b:=by
 obtain ⟨k,n,s,l⟩:=p;rw [fitL];rfl
theorem fitL_nil (ts b:List T):fitL [] ts b=(true,b):=by rw [fitL]
theorem fitL_one (p t:T) (b:List T):fitL [p] [t] b=fitT p t b:=by
 rw [fitL_cons,fitL_nil];split
 ·rename_i h;rw [←h]
 rfl
theorem fitL_yes {p t:T} {ps ts b:List T} (h:(fitT p t b).1=true):fitL (p :: ps) (t :: ts) b=fitL ps ts (fitT p t b).2:=by rw [fitL_cons,if_pos h]
theorem fitL_no {p t:T} {ps ts b:List T} (h:(fitT p t b).1=false):fitL (p :: ps) (t :: ts) b=fitT p t b:=by rw [fitL_cons,if_neg (by simp [h])]
theorem fitL_append {ps ts qs us:List T} (hl:ps.length=ts.length) (b:List T):fitL (ps ++ qs) (ts ++ us) b=if (fitL ps ts b).1 then fitL qs us (fitL ps ts b).2 else fitL ps ts b:=by
 induction ps generalizing ts b with
 | nil =>
  have:ts=[]:=List.eq_nil_of_length_eq_zero (by simpa using hl.symm)
  subst this;rw [fitL_nil];simp
 | cons p ps ih =>
  cases ts with
  | nil=>simp at hl
  | cons t ts =>
   simp only [List.cons_append,fitL_cons]
   cases h:(fitT p t b).1
   ·simp [h]
   ·simp only [if_true];exact ih (by simpa using hl) _
theorem fitL_snoc {ps ts b:List T} {k:Nat} (h:(fitL (ps.take k) (ts.take k) b).1=true) (h1:k < ps.length) (h2:k < ts.length):fitL (ps.take (k+1)) (ts.take (k+1)) b=fitT ps[k] ts[k] (fitL (ps.take k) (ts.take k) b).2:=by
 rw [take_snoc' ps k h1,take_snoc' ts k h2,fitL_append (by simp;omega),if_pos h,fitL_one]
theorem fitL_fail {ps ts b:List T} {k:Nat} (h:(fitL (ps.take k) (ts.take k) b).1=true) (h1:k < ps.length) (h2:k < ts.length) (hf:(fitT ps[k] ts[k] (fitL (ps.take k) (ts.take k) b).2).1=false) :
  fitL ps ts b=fitT ps[k] ts[k] (fitL (ps.take k) (ts.take k) b).2:=by
 have e1:ps=ps.take k ++ (ps[k] :: ps.drop (k+1)):=by simp
 have e2:ts=ts.take k ++ (ts[k] :: ts.drop (k+1)):=by simp
 have e3:fitL ps ts b=fitL (ps.take k ++ (ps[k] :: ps.drop (k+1))) (ts.take k ++ (ts[k] :: ts.drop (k+1))) b:=by rw [←e1,←e2]
 rw [e3,fitL_append (by simp;omega),if_pos h,fitL_no hf]
section
variable {p t:T} {b:List T}
theorem fitT_6 (h:p.kind=6):fitT p t b=(true,b):=by rw [fitT,fitH,if_pos h]
theorem fitT_5a {k:Nat} (h:p.kind=5) (hk:p.n=k) (hl:k < b.length) (h6:b[k].kind=6):fitT p t b=(true,b.set k t):=by
 rw [fitT,fitH,if_neg (by omega),if_pos h,hk];simp [hl,h6]
theorem fitT_5b {k:Nat} (h:p.kind=5) (hk:p.n=k) (hl:k < b.length) (h6:b[k].kind≠6):fitT p t b=(sameT b[k] t,b):=by
 rw [fitT,fitH,if_neg (by omega),if_pos h,hk];simp [hl,h6]
theorem fitT_4a (h:p.kind=4) (h1:t.kind=4) (h2:p.args.length=t.args.length):fitT p t b=fitL p.args t.args b:=by
 rw [fitT,fitH,if_neg (by omega),if_neg (by omega),if_pos h,if_pos ⟨h1,h2⟩]
theorem fitT_4b (h:p.kind=4) (h1:¬(t.kind=4∧p.args.length=t.args.length)):fitT p t b=(false,b):=by
 rw [fitT,fitH,if_neg (by omega),if_neg (by omega),if_pos h,if_neg h1]
theorem fitT_o (h4:p.kind≠4) (h5:p.kind≠5) (h6:p.kind≠6):fitT p t b=(sameT p t,b):=by
 rw [fitT,fitH,if_neg h6,if_neg h5,if_neg h4]
end
theorem fitT_length (p t:T) (b:List T):(fitT p t b).2.length=b.length:=by
 have key:∀ m (ps ts b:List T),yC ps≤m→(fitL ps ts b).2.length=b.length:=by
  intro m
  induction m with
  | zero =>
   intro ps ts b hm
   cases ps with
   | nil=>rw [fitL_nil]
   | cons p ps=>rw [yG] at hm;omega
  | succ m ih =>
   intro ps ts b hm
   cases ps with
   | nil=>rw [fitL_nil]
   | cons p ps =>
    cases ts with
    | nil=>rw [fitL];intro h;cases h
    | cons t ts =>
     rw [yG] at hm
     have h1:(fitT p t b).2.length=b.length:=by
      have:=ih p.args t.args b (by omega)
      unfold fitT fitH
      repeat' split
      all_goals first | rfl | simp | exact this
     rw [fitL_cons]
     split
     ·rw [ih ps ts _ (by omega),h1]
     ·exact h1
 have:=key _ [p] [t] b (Nat.le_refl _)
 rwa [fitL_one] at this
def fitO (p t:T) (b:List T):Option (List T):=if (fitT p t b).1 then some (fitT p t b).2 else none
def FPost (base g cap:Nat) (w:World) (r:Bool×List T) (e:Ending) (w':World):Prop:=e=.returned (.bool r.1)∧Keep (fun b=>b=g) w w'∧OwnG (fun b=>base≤b) base w' (.slice (some ⟨g,0,none⟩) 4 cap) r.2
section
variable {p t:T} {S:Nat→Prop} {base g cap:Nat} {w:World} {vp vt:Value} {bd:List T}
theorem fits_6 (hp:RT S w p vp) (ht:RT S w t vt) (ho:OwnG (fun b=>base≤b) base w (.slice (some ⟨g,0,none⟩) 4 cap) bd) (hbs:base≤w.heap.size) (hk:p.kind=6) :
  Calls Tryz.prog 81 #[vp,vt,.slice (some ⟨g,0,none⟩) 4 cap] w (FPost base g cap w (fitT p t bd)):=by
 obtain ⟨a,capp,rfl,hcap,hr⟩:=hp
 obtain ⟨a2,cap2,rfl,hcap2,hr2⟩:=ht
 clear hcap hr hcap2 hr2
 have HO:=J ho;clear ho
 rw [fitT_6 hk]
 go_enter Tryz.func81,Tryz.ntmps81
 go_wp2_with fail
 go_ret
 exact ⟨rfl,((Keep.refl _ _).alloc _).alloc _,(HO.out.alloc _).alloc _⟩
theorem fits_o (hp:RT S w p vp) (ht:RT S w t vt) (ho:OwnG (fun b=>base≤b) base w (.slice (some ⟨g,0,none⟩) 4 cap) bd) (hbs:base≤w.heap.size) (hbp:yC [p]≤1099511627776) (hbt:yC [t]≤1099511627776)
  (hk4:p.kind≠4) (hk5:p.kind≠5) (hk6:p.kind≠6) :
  Calls Tryz.prog 81 #[vp,vt,.slice (some ⟨g,0,none⟩) 4 cap] w (FPost base g cap w (fitT p t bd)):=by
 obtain ⟨a,capp,rfl,hcap,hr⟩:=hp
 obtain ⟨a2,cap2,rfl,hcap2,hr2⟩:=ht
 have HP:Hid (RT S w p _):=J ⟨a,capp,rfl,hcap,hr⟩
 have HT:Hid (RT S w t _):=J ⟨a2,cap2,rfl,hcap2,hr2⟩
 clear hcap hr hcap2 hr2
 have HO:=J ho;clear ho
 rw [fitT_o hk4 hk5 hk6]
 have h4:(p.kind == 4)=false:=by simpa using hk4
 have h5:(p.kind == 5)=false:=by simpa using hk5
 have h6:(p.kind == 6)=false:=by simpa using hk6
 have h1:w.heap.size < w.heap.size+1+1:=by omega
 clear hk4 hk5 hk6
 go_enter Tryz.func81,Tryz.ntmps81
 go_wp2_with fail
 refine (order_c p t S _ _ _ ((HP.out.alloc _).alloc _) ((HT.out.alloc _).alloc _) hbp hbt).mono ?_
 rintro e w1 ⟨rfl,hB1⟩
 go_wp2_with fail
 go_ret
 exact ⟨rfl,(((Keep.refl _ _).alloc _).alloc _).then hB1,((HO.out.alloc _).alloc _).below hB1⟩
theorem fits_5 (hp:RT S w p vp) (ht:RT S w t vt) (ho:OwnG (fun b=>base≤b) base w (.slice (some ⟨g,0,none⟩) 4 cap) bd) (hbs:base≤w.heap.size) (hS:∀ b,S b→b < base) (hl:bd.length=4) (hbt:yC [t]≤1099511627776)
  (hbb:∀ y∈bd,yC [y]≤1099511627776) (hk:p.kind=5) (hn:∃ k:Nat,p.n=k∧k < 4) :
  Calls Tryz.prog 81 #[vp,vt,.slice (some ⟨g,0,none⟩) 4 cap] w (FPost base g cap w (fitT p t bd)):=by
 obtain ⟨a,capp,rfl,hcap,hr⟩:=hp
 obtain ⟨a2,cap2,rfl,hcap2,hr2⟩:=ht
 obtain ⟨k,hn,hk4⟩:=hn
 have HT:Hid (RT S w t _):=J ⟨a2,cap2,rfl,hcap2,hr2⟩
 clear hcap hr hcap2 hr2
 have hg:=ho.block g rfl
 have HO:=J ho;clear ho
 have hkl:k < bd.length:=by omega
 obtain ⟨a',cap',_,d0,d1,d2,d3,hE⟩:=(OwnT.rsl2 HO.out).elem k hkl
 rw [Nat.zero_add] at d0 d1 d2 d3
 have HE:=J hE;clear hE
 have hbu:=hbb _ (List.getElem_mem hkl)
 have HL:=J hl
 have HF:=J (fun h6=>fitT_5a (t:=t) hk hn hkl h6)
 have HF2:=J (fun h6=>fitT_5b (t:=t) hk hn hkl h6)
 clear hl
 rw [hn,hk]
 have hkl:(k:Int) < 4:=by omega
 have hk0:(0:Int)≤k:=by omega
 have g1:g < w.heap.size+1:=by omega
 have g2:g < w.heap.size+1+1:=by omega
 have hg1:=hg.1
 have hg2:=hg.2
 clear hg
 generalize hu:bd[k]=u at *
 have HU:=J hu;clear hu
 go_enter Tryz.func81,Tryz.ntmps81
 go_wp2_with fail
 refine (free_c u _ _ _ ((HE.out.alloc _).alloc _)).mono ?_
 rintro e w1 ⟨rfl,hB1⟩
 have hs1:=hB1.size
 obtain ⟨hcc,hff⟩:=bcell hB1
 simp only [World.size_alloc] at hs1 hcc hff
 have HB1:Hid (Below w.heap.size w w1):=J (yB ((yA _ _).alloc (by simp) _) (by simp <;> omega) hB1)
 have q1:w.heap.size < w1.heap.size:=by omega
 have q2:w.heap.size+1 < w1.heap.size:=by omega
 have q3:g < w1.heap.size:=by omega
 have hsd:w1.drew.heap.size=w1.heap.size:=rfl
 have HO1:=J (HO.out.below HB1.out)
 have HT1:=J ((HT.out.below HB1.out).below (Below.drew (Below.refl w1.heap.size w1)))
 have HE1:=J ((HE.out.below HB1.out).below (Below.drew (Below.refl w1.heap.size w1)))
 have hx:w.heap.size+1 < w.heap.size+1+1:=by omega
 have hx0:w.heap.size < w.heap.size+1+1:=by omega
 have hq0:w1.cell? ⟨w.heap.size,1,none⟩=some (.int .i64 k)∧w1.cell? ⟨w.heap.size+1,0,none⟩=some (.int .i64 t.kind)∧w1.cell? ⟨w.heap.size+1,1,none⟩=some (.int .i64 t.n)∧w1.cell? ⟨w.heap.size+1,2,none⟩=some (.string t.name)∧w1.cell? ⟨w.heap.size+1,3,none⟩=some (.slice a2 t.args.length cap2) ∧
   w1.cell? ⟨g,k * 4,none⟩=some (.int .i64 u.kind)∧w1.cell? ⟨g,k * 4+1,none⟩=some (.int .i64 u.n)∧w1.cell? ⟨g,k * 4+2,none⟩=some (.string u.name)∧w1.cell? ⟨g,k * 4+3,none⟩=some (.slice a' u.args.length cap'):=by
  rw [hcc _ _ hx0,hcc _ _ hx,hcc _ _ hx,hcc _ _ hx,hcc _ _ hx,hcc _ _ g2,hcc _ _ g2,hcc _ _ g2,hcc _ _ g2];go_simp
 have hq:∀ w3:World,Below w1.drew.heap.size w1.drew w3→w3.cell? ⟨w.heap.size,1,none⟩=some (.int .i64 k)∧w3.cell? ⟨w.heap.size+1,0,none⟩=some (.int .i64 t.kind)∧w3.cell? ⟨w.heap.size+1,1,none⟩=some (.int .i64 t.n)∧w3.cell? ⟨w.heap.size+1,2,none⟩=some (.string t.name)∧w3.cell? ⟨w.heap.size+1,3,none⟩=some (.slice a2 t.args.length cap2) ∧
   w3.cell? ⟨g,k * 4,none⟩=some (.int .i64 u.kind)∧w3.cell? ⟨g,k * 4+1,none⟩=some (.int .i64 u.n)∧w3.cell? ⟨g,k * 4+2,none⟩=some (.string u.name)∧w3.cell? ⟨g,k * 4+3,none⟩=some (.slice a' u.args.length cap'):=fun w3 h=>by
  obtain ⟨q,-⟩:=bcell h
  rw [q _ _ q1,q _ _ q2,q _ _ q2,q _ _ q2,q _ _ q2,q _ _ q3,q _ _ q3,q _ _ q3,q _ _ q3];exact hq0
 have hf1:∀ w3:World,Below w1.drew.heap.size w1.drew w3→∀ o,w3.frozen? ⟨g,o,none⟩=false:=fun w3 h o=>by
  obtain ⟨-,r⟩:=bcell h
  rw [r _ _ q3];exact HO1.out.frozen o
 clear hcc hff hB1 d0 d1 d2 d3 HE
 cases h6:(u.kind == 6)
 ·have HF3:=J (HF2.out (by simpa using h6));clear h6
  go_wp2_with fail
  go_region_held3 (fun w'=>w'.cell? ⟨w.heap.size,1,none⟩=some (.int .i64 k)∧w'.cell? ⟨w.heap.size+1,0,none⟩=some (.int .i64 t.kind)∧w'.cell? ⟨w.heap.size+1,1,none⟩=some (.int .i64 t.n)∧w'.cell? ⟨w.heap.size+1,2,none⟩=some (.string t.name)∧w'.cell? ⟨w.heap.size+1,3,none⟩=some (.slice a2 t.args.length cap2) ∧
    w'.cell? ⟨g,k * 4,none⟩=some (.int .i64 u.kind)∧w'.cell? ⟨g,k * 4+1,none⟩=some (.int .i64 u.n)∧w'.cell? ⟨g,k * 4+2,none⟩=some (.string u.name)∧w'.cell? ⟨g,k * 4+3,none⟩=some (.slice a' u.args.length cap'))
   (first | exact hq0 | exact hq _ hBB | go_keep)
   (first | (go_at_call 96;refine (order_c u t (fun _=>True) _ _ _ (HE1.out.mono fun _ _=>trivial) (HT1.out.mono fun _ _=>trivial) hbu hbt).mono ?_;rintro e wc ⟨rfl,hBB⟩))
  go_wp2_with fail
  go_ret
  rw [HF3.out]
  exact ⟨rfl,(Keep.of HB1.out).drew.then hBB,(HO1.out.below (Below.drew (Below.refl w1.heap.size w1))).below hBB⟩
 have HF3:=J (HF.out (by simpa using h6));clear h6
 have hkeep:∀ (w4:World) (u0 u1 u2 u3:Value),w4.cell? ⟨w.heap.size,1,none⟩=some (.int .i64 k)∧w4.cell? ⟨w.heap.size+1,0,none⟩=some (.int .i64 t.kind)∧w4.cell? ⟨w.heap.size+1,1,none⟩=some (.int .i64 t.n)∧w4.cell? ⟨w.heap.size+1,2,none⟩=some (.string t.name)∧w4.cell? ⟨w.heap.size+1,3,none⟩=some (.slice a2 t.args.length cap2) →
   (fun w':World=>w'.cell? ⟨w.heap.size,1,none⟩=some (.int .i64 k)∧w'.cell? ⟨w.heap.size+1,0,none⟩=some (.int .i64 t.kind)∧w'.cell? ⟨w.heap.size+1,1,none⟩=some (.int .i64 t.n)∧w'.cell? ⟨w.heap.size+1,2,none⟩=some (.string t.name)∧w'.cell? ⟨w.heap.size+1,3,none⟩=some (.slice a2 t.args.length cap2)) ((((w4.setCell ⟨g,k * 4,none⟩ u0).setCell ⟨g,k * 4+1,none⟩ u1).setCell ⟨g,k * 4+2,none⟩ u2).setCell ⟨g,k * 4+3,none⟩ u3):=fun w4 u0 u1 u2 u3 h=>by
  have e:∀ b' o',b'≠g→((((w4.setCell ⟨g,k * 4,none⟩ u0).setCell ⟨g,k * 4+1,none⟩ u1).setCell ⟨g,k * 4+2,none⟩ u2).setCell ⟨g,k * 4+3,none⟩ u3).cell? ⟨b',o',none⟩=w4.cell? ⟨b',o',none⟩:=fun b' o' hne=>by
   refine World.cell?_of_block ?_
   simp only [yD _ _ _ _ _ hne]
  have n1:w.heap.size≠g:=by omega
  have n2:w.heap.size+1≠g:=by omega
  simp only [e _ _ n1,e _ _ n2]
  exact h
 simp only [] at hkeep
 have hr0:w1.cell? ⟨w.heap.size,1,none⟩=some (.int .i64 k)∧w1.cell? ⟨w.heap.size+1,0,none⟩=some (.int .i64 t.kind)∧w1.cell? ⟨w.heap.size+1,1,none⟩=some (.int .i64 t.n)∧w1.cell? ⟨w.heap.size+1,2,none⟩=some (.string t.name)∧w1.cell? ⟨w.heap.size+1,3,none⟩=some (.slice a2 t.args.length cap2):=⟨hq0.1,hq0.2.1,hq0.2.2.1,hq0.2.2.2.1,hq0.2.2.2.2.1⟩
 go_wp2_with fail
 go_region_held3 (fun w'=>w'.cell? ⟨w.heap.size,1,none⟩=some (.int .i64 k)∧w'.cell? ⟨w.heap.size+1,0,none⟩=some (.int .i64 t.kind)∧w'.cell? ⟨w.heap.size+1,1,none⟩=some (.int .i64 t.n)∧w'.cell? ⟨w.heap.size+1,2,none⟩=some (.string t.name)∧w'.cell? ⟨w.heap.size+1,3,none⟩=some (.slice a2 t.args.length cap2))
  (first | exact hr0 | exact ⟨y0,y1,y2,y3,y4⟩ | exact hkeep _ _ _ _ _ ⟨y0,y1,y2,y3,y4⟩ | go_keep)
  (first | (go_at_call 79;refine (copied_c t S _ _ HT1.out hbt).mono ?_;rintro e wc ⟨vc,rfl,hBB,ac,capc,rfl,hcp,hrc⟩;obtain ⟨y0,y1,y2,y3,y4,z0,z1,z2,z3⟩:=hq _ hBB;have zf:=hf1 _ hBB;have hsc:=hBB.size;simp only [World.size_drew] at hsc))
 go_wp2_with fail
 go_ret
 rw [HF3.out]
 refine ⟨rfl,?_,?_⟩
 ·repeat refine Keep.setCell ?_ _ (.inl rfl)
  exact (Keep.of HB1.out).drew.then hBB
 refine OwnG.store ((HO1.out.below (Below.drew (Below.refl w1.heap.size w1))).below hBB) (by have:=HL.out;omega) ⟨ac,capc,rfl,hcp,hrc⟩ fun b hb _=>⟨by simp at hb;omega,by simp at hb;omega⟩
end
section
variable {p t:T} {S:Nat→Prop} {base g cap:Nat} {w:World} {vp vt:Value} {bd:List T}
theorem fits_4 (hp:RT S w p vp) (ht:RT S w t vt) (ho:OwnG (fun b=>base≤b) base w (.slice (some ⟨g,0,none⟩) 4 cap) bd) (hbs:base≤w.heap.size) (hS:∀ b,S b→b < base) (hbp:yC [p]≤1099511627776) (hbt:yC [t]≤1099511627776) (hk:p.kind=4)
  (ih:∀ (j:Nat) (h1:j < p.args.length) (h2:j < t.args.length) (W:World) (vp vt:Value),RT S W p.args[j] vp→RT S W t.args[j] vt→OwnG (fun b=>base≤b) base W (.slice (some ⟨g,0,none⟩) 4 cap) (fitL (p.args.take j) (t.args.take j) bd).2→base≤W.heap.size →
   Calls Tryz.prog 81 #[vp,vt,.slice (some ⟨g,0,none⟩) 4 cap] W (FPost base g cap W (fitT p.args[j] t.args[j] (fitL (p.args.take j) (t.args.take j) bd).2))) :
  Calls Tryz.prog 81 #[vp,vt,.slice (some ⟨g,0,none⟩) 4 cap] w (FPost base g cap w (fitT p t bd)):=by
 obtain ⟨a,capp,rfl,hcap,hr⟩:=hp
 obtain ⟨a2,cap2,rfl,hcap2,hr2⟩:=ht
 have HP:Hid (RTs S w p.args a 0):=J hr
 have HT:Hid (RTs S w t.args a2 0):=J hr2
 clear hcap hr hcap2 hr2
 have hba:=yR p
 have hbb:=yR t
 have hla:=yM p.args
 have hlb:=yM t.args
 have IH:=J ih;clear ih
 have hg:=ho.block g rfl
 have hg1:=hg.1
 have hg2:=hg.2
 have HO:=J ho;clear ho hg
 have h4:(p.kind == 4)=true:=by simp [hk]
 have h5:(p.kind == 5)=false:=by simp [hk]
 have h6:(p.kind == 6)=false:=by simp [hk]
 have h1:w.heap.size < w.heap.size+1+1:=by omega
 have HKB:Hid (∀ o1 o2,Keep (fun b=>b=g) w ((w.alloc o1).alloc o2)):=J fun o1 o2=>((Keep.refl _ _).alloc _).alloc _
 by_cases hkt:t.kind=4
 ·have h7:(t.kind != 4)=false:=by simp [hkt]
  by_cases hl:p.args.length=t.args.length
  ·have HF:=J (fitT_4a (b:=bd) hk hkt hl)
   have HL:=J hl
   have hl1:p.args.length≤t.args.length:=by omega
   have hl2:t.args.length≤p.args.length:=by omega
   have hln:((p.args.length:Int) != t.args.length)=false:=by simp [hl]
   clear hk hkt hl
   go_enter Tryz.func81,Tryz.ntmps81
   go_wp2_with fail
   go_loopw [51] (fun i wr=>∃ k:Nat,k≤p.args.length∧i=.int .i64 k∧(fitL (p.args.take k) (t.args.take k) bd).1=true∧OwnG (fun b=>base≤b) base wr (.slice (some ⟨g,0,none⟩) 4 cap) (fitL (p.args.take k) (t.args.take k) bd).2∧Keep (fun b=>b=g) w wr∧w.heap.size+1 < wr.heap.size ∧
     wr.cell? ⟨w.heap.size,3,none⟩=some (.slice a p.args.length capp)∧wr.cell? ⟨w.heap.size+1,3,none⟩=some (.slice a2 t.args.length cap2)) (fun i _=>p.args.length - (intOf i).toNat)
   case atStart=>exact ⟨0,Nat.zero_le _,rfl,by rw [List.take_zero,fitL_nil],by rw [List.take_zero,fitL_nil];exact (HO.out.alloc _).alloc _,HKB.out _ _,by simp,by go_simp,by go_simp⟩
   obtain ⟨k,hkx,rfl,hok,hown,hK,hsw,x3,y3⟩:=hrel
   have HOK:=J hok;clear hok
   have HOW:=J hown;clear hown
   have HK:=J hK
   have hs0:w.heap.size < wr.heap.size:=by omega
   clear hK
   by_cases hlt:k < p.args.length
   ·obtain ⟨b,o,rfl⟩:=HP.out.addr (by omega)
    obtain ⟨b2,o2,rfl⟩:=HT.out.addr (by omega)
    have hlt2:k < t.args.length:=by omega
    have hSg:∀ b,S b→¬b=g:=fun b hb=>by have:=hS b hb;omega
    obtain ⟨a',cap',hSb,d0,d1,d2,d3,hE⟩:=(HP.out.keep HK.out hSg).elem k hlt
    obtain ⟨a2',cap2',hSb2,e0,e1,e2,e3,hE2⟩:=(HT.out.keep HK.out hSg).elem k hlt2
    have HSN:=J (fitL_snoc HOK.out hlt hlt2)
    have HFL:=J (fitL_fail HOK.out hlt hlt2)
    have hk0:(0:Int)≤(k:Int):=Int.natCast_nonneg _
    have hk1:(k:Int) < (p.args.length:Int):=by omega
    have hk2:(k:Int) < (t.args.length:Int):=by omega
    have HC:=J (fun W (hW:Below wr.heap.size wr W)=>IH.out k hlt hlt2 W _ _ (hE.below hW) (hE2.below hW) (HOW.out.below hW) (by have:=hW.size;omega))
    clear hE hE2
    have hb1:b < wr.heap.size:=World.block_lt_of_cell? wr _ d0
    have hb2:b2 < wr.heap.size:=World.block_lt_of_cell? wr _ e0
    generalize p.args[k]=xx at *
    generalize t.args[k]=yy at *
    have HQ:Hid (∀ w1,Keep (fun b=>b=g) wr.drew w1→w1.cell? ⟨w.heap.size,3,none⟩=some (.slice (some ⟨b,o,none⟩) p.args.length capp)∧w1.cell? ⟨w.heap.size+1,3,none⟩=some (.slice (some ⟨b2,o2,none⟩) t.args.length cap2) ∧
      w1.cell? ⟨b,o+k * 4,none⟩=some (.int .i64 xx.kind)∧w1.cell? ⟨b,o+k * 4+1,none⟩=some (.int .i64 xx.n)∧w1.cell? ⟨b,o+k * 4+2,none⟩=some (.string xx.name)∧w1.cell? ⟨b,o+k * 4+3,none⟩=some (.slice a' xx.args.length cap') ∧
      w1.cell? ⟨b2,o2+k * 4,none⟩=some (.int .i64 yy.kind)∧w1.cell? ⟨b2,o2+k * 4+1,none⟩=some (.int .i64 yy.n)∧w1.cell? ⟨b2,o2+k * 4+2,none⟩=some (.string yy.name)∧w1.cell? ⟨b2,o2+k * 4+3,none⟩=some (.slice a2' yy.args.length cap2')):=J fun w1 hK1=>by
     have hSg1:=hS b hSb
     have hSg2:=hS b2 hSb2
     have q:=fun b' o' (h:b' < wr.heap.size) (h':b'≠g)=>hK1.cell b' o' h h'
     rw [q _ _ hs0 (by omega),q _ _ hsw (by omega),q _ _ hb1 (by omega),q _ _ hb1 (by omega),q _ _ hb1 (by omega),q _ _ hb1 (by omega),q _ _ hb2 (by omega),q _ _ hb2 (by omega),q _ _ hb2 (by omega),q _ _ hb2 (by omega)]
     exact ⟨x3,y3,d0,d1,d2,d3,e0,e1,e2,e3⟩
    go_wp2_with fail
    go_region_held3 (fun w'=>w'.cell? ⟨w.heap.size,3,none⟩=some (.slice (some ⟨b,o,none⟩) p.args.length capp)∧w'.cell? ⟨w.heap.size+1,3,none⟩=some (.slice (some ⟨b2,o2,none⟩) t.args.length cap2) ∧
      w'.cell? ⟨b,o+k * 4,none⟩=some (.int .i64 xx.kind)∧w'.cell? ⟨b,o+k * 4+1,none⟩=some (.int .i64 xx.n)∧w'.cell? ⟨b,o+k * 4+2,none⟩=some (.string xx.name)∧w'.cell? ⟨b,o+k * 4+3,none⟩=some (.slice a' xx.args.length cap') ∧
      w'.cell? ⟨b2,o2+k * 4,none⟩=some (.int .i64 yy.kind)∧w'.cell? ⟨b2,o2+k * 4+1,none⟩=some (.int .i64 yy.n)∧w'.cell? ⟨b2,o2+k * 4+2,none⟩=some (.string yy.name)∧w'.cell? ⟨b2,o2+k * 4+3,none⟩=some (.slice a2' yy.args.length cap2'))
     (first | exact ⟨z0,z1,z2,z3,z4,z5,z6,z7,z8,z9⟩ | go_keep)
     (first | (go_at_call 81;refine (HC.out _ ?_).mono ?_;(repeat' (first | exact Below.refl _ _ | apply Below.drew | refine Below.alloc ?_ (by simp <;> omega) _));rintro e w1 ⟨rfl,hK1,ho1⟩;obtain ⟨z0,z1,z2,z3,z4,z5,z6,z7,z8,z9⟩:=HQ.out _ hK1))
    have hs1:wr.heap.size≤w1.heap.size:=hK1.size
    have HK1:=J (HK.out.drew.trans hK1)
    have HO1:=J ho1;clear ho1 hK1
    cases hz:(fitT xx yy (fitL (p.args.take k) (t.args.take k) bd).2).1
    ·have HZ:=J (HFL.out hz)
     go_wp2_with fail
     go_ret
     rw [HF.out,HZ.out]
     exact ⟨yL (by rw [hz]),HK1.out,HO1.out⟩
    have HZ:=J hz;clear hz
    go_wp2_with fail
    go_roundw
    case rel=>exact ⟨k+1,by omega,by go_num,by rw [HSN.out,HZ.out],by rw [HSN.out];exact HO1.out,HK1.out,by omega,z0,z1⟩
    case measure=>simp [intOf];omega
   have hkk:k=p.args.length:=by omega
   subst hkk
   go_wp2_with fail
   go_ret
   have h:=HOW.out
   have h':=HOK.out
   rw [List.take_length,HL.out,List.take_length] at h h'
   rw [HF.out]
   exact ⟨yL (by rw [h']),HK.out,h⟩
  have HF:=J (fitT_4b (t:=t) (b:=bd) hk (fun h=>hl h.2))
  have hln:((p.args.length:Int) != t.args.length)=true:=by simp;omega
  clear hk hkt hl
  go_enter Tryz.func81,Tryz.ntmps81
  go_wp2_with fail
  go_ret
  rw [HF.out]
  exact ⟨rfl,HKB.out _ _,(HO.out.alloc _).alloc _⟩
 have h7:(t.kind != 4)=true:=by simpa using hkt
 have HF:=J (fitT_4b (t:=t) (b:=bd) hk (fun h=>hkt h.1))
 clear hk hkt
 go_enter Tryz.func81,Tryz.ntmps81
 go_wp2_with fail
 go_ret
 rw [HF.out]
 exact ⟨rfl,HKB.out _ _,(HO.out.alloc _).alloc _⟩
end
theorem fitT_bulk (M:Nat) (p t:T) (b:List T) (ht:yC [t]≤M) (hb:∀ y∈b,yC [y]≤M):∀ y∈(fitT p t b).2,yC [y]≤M:=by
 have key:∀ m (ps ts b:List T),yC ps≤m→(∀ y∈ts,yC [y]≤M)→(∀ y∈b,yC [y]≤M)→∀ y∈(fitL ps ts b).2,yC [y]≤M:=by
  intro m
  induction m with
  | zero =>
   intro ps ts b hm _ hb
   cases ps with
   | nil=>rw [fitL_nil];exact hb
   | cons p ps=>rw [yG] at hm;omega
  | succ m ih =>
   intro ps ts b hm hts hb
   cases ps with
   | nil=>rw [fitL_nil];exact hb
   | cons p ps =>
    cases ts with
    | nil=>rw [fitL];exact hb;intro h;cases h
    | cons t ts =>
     rw [yG] at hm
     have h1:∀ y∈(fitT p t b).2,yC [y]≤M:=by
      have hta:∀ y∈t.args,yC [y]≤M:=fun y hy=>by have h0:=hts t (by simp);have h1:=bulk_mem hy;have h2:=yR t;omega
      have:=ih p.args t.args b (by omega) hta hb
      unfold fitT fitH
      repeat' split
      all_goals first | exact hb | exact this | (intro y hy;rcases List.mem_or_eq_of_mem_set hy with hy | rfl;exact hb y hy;exact hts _ (by simp))
     rw [fitL_cons]
     split
     ·exact ih ps ts _ (by omega) (fun y hy=>hts y (by simp [hy])) h1
     ·exact h1
 have:=key _ [p] [t] b (Nat.le_refl _) (fun y hy=>by simp at hy;subst hy;exact ht) hb
 rwa [fitL_one] at this
theorem fitL_bulk (M:Nat):∀ (ps ts b:List T),(∀ y∈ts,yC [y]≤M)→(∀ y∈b,yC [y]≤M)→∀ y∈(fitL ps ts b).2,yC [y]≤M
 | [],ts,b,_,hb=>by rw [fitL_nil];exact hb
 | p :: ps,[],b,_,hb=>by rw [fitL];exact hb;intro h;cases h
 | p :: ps,t :: ts,b,ht,hb=>by
  have h1:=fitT_bulk M p t b (ht t (by simp)) hb
  rw [fitL_cons];split
  ·exact fitL_bulk M ps ts _ (fun y hy=>ht y (by simp [hy])) h1
  ·exact h1
theorem fitL_length:∀ (ps ts b:List T),(fitL ps ts b).2.length=b.length
 | [],ts,b=>by rw [fitL_nil]
 | p :: ps,[],b=>by rw [fitL];intro h;cases h
 | p :: ps,t :: ts,b=>by
  rw [fitL_cons];split
  ·rw [fitL_length ps ts _,fitT_length]
  ·exact fitT_length p t b
theorem fits_c:∀ (p t:T) (S:Nat→Prop) (base g cap:Nat) (w:World) (vp vt:Value) (bd:List T),RT S w p vp→RT S w t vt→OwnG (fun b=>base≤b) base w (.slice (some ⟨g,0,none⟩) 4 cap) bd→base≤w.heap.size→(∀ b,S b→b < base)→bd.length=4 →
  yC [p]≤1099511627776→yC [t]≤1099511627776→(∀ y∈bd,yC [y]≤1099511627776)→formL [p]=true →
  Calls Tryz.prog 81 #[vp,vt,.slice (some ⟨g,0,none⟩) 4 cap] w (FPost base g cap w (fitT p t bd)):=by
 intro p
 induction p using T.ind with
 | h p ih =>
  intro t S base g cap w vp vt bd hp ht ho hbs hS hl hbp hbt hbb hf
  by_cases h6:p.kind=6
  ·exact fits_6 hp ht ho hbs h6
  by_cases h5:p.kind=5
  ·exact fits_5 hp ht ho hbs hS hl hbt hbb h5 (form_var hf h5)
  by_cases h4:p.kind=4
  ·refine fits_4 hp ht ho hbs hS hbp hbt h4 fun j h1 h2 W vp vt g1 g2 g3 g4=>ih _ (List.getElem_mem h1) _ S base g cap W vp vt _ g1 g2 g3 g4 hS (by rw [fitL_length];exact hl) ?_ ?_ ?_ (form_args hf (List.getElem_mem h1))
   ·have:=bulk_at h1;have:=yR p;omega
   ·have:=bulk_at h2;have:=yR t;omega
   ·exact fitL_bulk _ _ _ _ (fun y hy=>by have:=bulk_mem (List.mem_of_mem_take hy);have:=yR t;omega) hbb
  ·exact fits_o hp ht ho hbs hbp hbt h4 h5 h6
open Go.ChangeShapes Go.WideShapes Go.ChangeAt Go.RowKit
section
variable {H:Type} {enc:TypeId×Value→H} {W:World} {base:Nat} {sp:Nat→Bool} {held:Bool}
theorem add_at' (b off i j:Nat):((⟨b,off,none⟩:Addr).add i).add j=⟨b,off+i+j,none⟩:=by
 unfold Addr.add
 by_cases h1:i=0 <;> by_cases h2:j=0 <;> simp [h1,h2]
theorem flat_cells {X:Type} {k b off:Nat}:∀ (ps:List (X×List Value)) (i0:Nat),(∀ i (h:i < ps.length),W.cells? base ((⟨b,off,none⟩:Addr).add ((i0+i) * k)) k=some (ps[i].2)) →
  ∀ j u,((ps.map (·.2)).flatten)[j]?=some u→W.cell? ⟨b,off+i0 * k+j,none⟩=some u
 | [],_,_,j,u,h=>by simp at h
 | p :: ps,i0,hp,j,u,h=>by
  have h0:=World.cells?_some (hp 0 (by simp))
  simp only [List.getElem_cons_zero,Nat.add_zero] at h0
  obtain ⟨-,hl,hc⟩:=h0
  simp only [List.map_cons,List.flatten_cons] at h
  by_cases hj:j < k
  ·rw [List.getElem?_append_left (by omega)] at h
   have h1:=(hc j hj).trans h
   rw [add_at'] at h1
   exact h1
  ·rw [List.getElem?_append_right (by omega),hl] at h
   have h1:=flat_cells ps (i0+1) (fun i hi=>by
    have:=hp (i+1) (by simpa using hi)
    rw [show i0+1+i=i0+(i+1) by omega]
    simpa using this) (j - k) u h
   rw [show off+i0 * k+j=off+(i0+1) * k+(j - k) by rw [Nat.succ_mul];omega]
   exact h1
theorem sum_list {X:Type} {B:X→Nat} {Bs:List X→Nat} (hB0:Bs []=0) (hB1:∀ x l,Bs (x :: l)=B x+Bs l):∀ (ys:List X) (ds:List (DataW H)),ys.length=ds.length→(∀ i (h1:i < ys.length) (h2:i < ds.length),B ys[i]≤Rows.uptoBulk ds[i])→Bs ys≤Rows.uptoBulkAll ds
 | [],_,_,_=>by simp [hB0]
 | t :: ts,[],h,_=>by simp at h
 | t :: ts,d :: ds,h,hp=>by
  have h0:=hp 0 (by simp) (by simp)
  have:=sum_list hB0 hB1 ts ds (by simpa using h) fun i h1 h2=>hp (i+1) (by simpa using h1) (by simpa using h2)
  simp only [List.getElem_cons_zero] at h0
  rw [hB1,Rows.uptoBulkAll]
  omega
theorem cellsX_flat {X:Type} {E:El X} {S:Nat→Prop}:∀ (ps:List (X×List Value)),(∀ i (h:i < ps.length),E.C S W ps[i].1 ps[i].2)→CellsX E S W (ps.map (·.1)) (ps.map (·.2)).flatten
 | [],_=>rfl
 | p :: ps,h=>⟨p.2,_,rfl,h 0 (by simp),cellsX_flat ps fun i hi=>h (i+1) (by simpa using hi)⟩
theorem rows_of_trod {X:Type} {E:El X} (F:ElT E) (hc:Tryz.prog.cellsOf F.e=E.k) (B:X→Nat) (Bs:List X→Nat) (hB0:Bs []=0) (hB1:∀ x l,Bs (x :: l)=B x+Bs l)
  (key:∀ fuel cs x,DataW.trod enc Tryz.prog W base sp held fuel F.e cs=some x→∃ y,E.C (fun b=>b < W.heap.size) W y cs∧B y≤Rows.uptoBulk x.1)
  (fuel:Nat) (cs:List Value) (x:DataW H×List MemPlace) (g:DataW.trod enc Tryz.prog W base sp held fuel F.sl cs=some x) :
  ∃ (ys:List X) (a:Option Addr) (cap:Nat),cs=[.slice a ys.length cap]∧RX E (fun b=>b < W.heap.size) (fun b=>b < W.heap.size) W ys (.slice a ys.length cap)∧Bs ys≤Rows.uptoBulk x.1:=by
 rcases DataW.trod_slice F.hund g with ⟨rfl,rfl⟩ | ⟨a,len,cap,elems,rest,n',rfl,rfl,rfl,hb,hlc,hcm,hel,hget,-,-⟩
 ·exact ⟨[],none,0,rfl,RX.nil _ _ _,by rw [hB0];omega⟩
 have key2:∀ i,i < len→∃ p:X×List Value,W.cells? base (a.add (i * E.k)) E.k=some p.2∧E.C (fun b=>b < W.heap.size) W p.1 p.2∧∃ hi:i < elems.length,B p.1≤Rows.uptoBulk (elems[i]).1:=by
  intro i hi
  have h1:=hget i hi
  rw [hc,List.getElem?_eq_getElem (by omega)] at h1
  obtain ⟨cs',hcc,ht⟩:=Option.bind_eq_some_iff.1 h1
  obtain ⟨y,h2,h3⟩:=key n' cs' _ ht
  exact ⟨(y,cs'),hcc,h2,by omega,h3⟩
 obtain ⟨ps,hps,hp⟩:=choose_list len key2
 subst hps
 have hl:(ps.map (·.1)).length=ps.length:=by simp
 refine ⟨ps.map (·.1),some a,cap,by rw [hl],⟨some a,cap,(ps.map (·.2)).flatten,rfl,⟨by omega,by simp⟩,cellsX_flat ps fun i hi=>(hp i hi).2.1,fun j u hu=>?_⟩,?_⟩
 ·obtain ⟨b,off,spot⟩:=a
  have hspot:spot=none:=by
   have hne:0 < ps.length:=by
    cases ps with
    | nil=>simp at hu
    | cons _ _=>simp
   obtain ⟨_,hl0,hc0⟩:=World.cells?_some (hp 0 hne).1
   have hk:=F.hk
   have h0:=hc0 0 hk
   rw [List.getElem?_eq_getElem (by omega)] at h0
   simpa [Addr.add] using World.cell?_spot h0
  subst hspot
  have h1:=flat_cells ps 0 (fun i hi=>by rw [Nat.zero_add];exact (hp i hi).1) j u hu
  rw [Nat.zero_mul,Nat.add_zero] at h1
  exact ⟨b,off,rfl,World.block_lt_of_cell? W _ h1,h1⟩
 have h1:=sum_list (H:=H) hB0 hB1 (ps.map (·.1)) (elems.map (·.1)) (by simp [hel]) fun i h1 h2=>by
  obtain ⟨_,_,_,h4⟩:=hp i (by simpa using h1)
  simpa using h4
 simp only [Rows.uptoBulk]
 omega
theorem cellsDeed:Tryz.prog.cellsOf 84=11:=by kernel_rfl
theorem cellsClau:Tryz.prog.cellsOf 82=13:=by kernel_rfl
theorem cellsBeh:Tryz.prog.cellsOf 79=2:=by kernel_rfl
theorem cellsStr:Tryz.prog.cellsOf 9=1:=by kernel_rfl
theorem cellsDeeds:Tryz.prog.cellsOf 80=1:=by kernel_rfl
theorem cellsClaus:Tryz.prog.cellsOf 77=1:=by kernel_rfl
theorem under_deed:∃ f0 f1 f2 f3 f4:Field,Tryz.prog.underlying 84=some (.struct #[f0,f1,f2,f3,f4])∧f0.type=3∧f0.offset=0∧f1.type=25∧f1.offset=1∧f2.type=25∧f2.offset=5∧f3.type=9∧f3.offset=9∧f4.type=3∧f4.offset=10 :=
 ⟨_,_,_,_,_,by rw [Tryz.underlying84],rfl,rfl,rfl,rfl,rfl,rfl,rfl,rfl,rfl,rfl⟩
theorem under_clau:∃ f0 f1 f2 f3:Field,Tryz.prog.underlying 82=some (.struct #[f0,f1,f2,f3])∧f0.type=25∧f0.offset=0∧f1.type=25∧f1.offset=4∧f2.type=80∧f2.offset=8∧f3.type=25∧f3.offset=9 :=
 ⟨_,_,_,_,by rw [Tryz.underlying82],rfl,rfl,rfl,rfl,rfl,rfl,rfl,rfl⟩
theorem under_beh:∃ f0 f1:Field,Tryz.prog.underlying 79=some (.struct #[f0,f1])∧f0.type=9∧f0.offset=0∧f1.type=77∧f1.offset=1 :=
 ⟨_,_,by rw [Tryz.underlying79],rfl,rfl,rfl,rfl⟩
theorem deed_of_trod (fuel:Nat) (cs:List Value) (x:DataW H×List MemPlace) (h:DataW.trod enc Tryz.prog W base sp held fuel 84 cs=some x):∃ y,deedE.C (fun b=>b < W.heap.size) W y cs∧deedB y≤Rows.uptoBulk x.1:=by
 obtain ⟨f0,f1,f2,f3,f4,hs,t0,o0,t1,o1,t2,o2,t3,o3,t4,o4⟩:=under_deed
 obtain ⟨xs,n,rfl,rfl,hl,hlen,hf⟩:=DataW.trod_struct hs h
 rw [cellsDeed] at hl
 match xs,hlen,cs,hl with
 | [y0,y1,y2,y3,y4],_,[v0,v1,v2,v3,v4,v5,v6,v7,v8,v9,v10],_ =>
  have g0:=hf 0 f0 rfl
  have g1:=hf 1 f1 rfl
  have g2:=hf 2 f2 rfl
  have g3:=hf 3 f3 rfl
  have g4:=hf 4 f4 rfl
  simp [o0,o1,o2,o3,o4,t0,t1,t2,t3,t4,cellsInt,cellsStr,cellsTerm] at g0 g1 g2 g3 g4
  obtain ⟨k,hv0,rfl,wk⟩:=DataW.trod_int Tryz.underlying3 g0
  obtain ⟨ta,a1,c1,e1,hc1,hr1,hb1⟩:=term_of_trod _ _ _ g1
  obtain ⟨tb,a2,c2,e2,hc2,hr2,hb2⟩:=term_of_trod _ _ _ g2
  obtain ⟨s,hv3,rfl,ws⟩:=DataW.trod_string Tryz.underlying9 g3
  obtain ⟨m,hv4,rfl,wm⟩:=DataW.trod_int Tryz.underlying3 g4
  simp only [List.cons.injEq,and_true] at hv0 e1 e2 hv3 hv4
  obtain ⟨rfl,rfl,rfl,rfl⟩:=e1
  obtain ⟨rfl,rfl,rfl,rfl⟩:=e2
  subst hv0 hv3 hv4
  have hss:s.data.toList.length=s.size:=by rw [Array.length_toList];rfl
  refine ⟨⟨k,ta,tb,s,m⟩,⟨a1,c1,a2,c2,rfl,⟨_,_,rfl,hc1,hr1⟩,⟨_,_,rfl,hc2,hr2⟩⟩,?_⟩
  simp only [deedB,Rows.uptoBulk,Rows.uptoBulkAll,List.map_cons,List.map_nil]
  omega
theorem clau_of_trod (fuel:Nat) (cs:List Value) (x:DataW H×List MemPlace) (h:DataW.trod enc Tryz.prog W base sp held fuel 82 cs=some x):∃ y,clauE.C (fun b=>b < W.heap.size) W y cs∧clauB y≤Rows.uptoBulk x.1:=by
 obtain ⟨f0,f1,f2,f3,hs,t0,o0,t1,o1,t2,o2,t3,o3⟩:=under_clau
 obtain ⟨xs,n,rfl,rfl,hl,hlen,hf⟩:=DataW.trod_struct hs h
 rw [cellsClau] at hl
 match xs,hlen,cs,hl with
 | [y0,y1,y2,y3],_,[v0,v1,v2,v3,v4,v5,v6,v7,v8,v9,v10,v11,v12],_ =>
  have g0:=hf 0 f0 rfl
  have g1:=hf 1 f1 rfl
  have g2:=hf 2 f2 rfl
  have g3:=hf 3 f3 rfl
  simp [o0,o1,o2,o3,t0,t1,t2,t3,cellsDeeds,cellsTerm] at g0 g1 g2 g3
  obtain ⟨ta,a1,c1,e1,hc1,hr1,hb1⟩:=term_of_trod _ _ _ g0
  obtain ⟨tb,a2,c2,e2,hc2,hr2,hb2⟩:=term_of_trod _ _ _ g1
  obtain ⟨ys,a3,c3,e3,hr3,hb3⟩:=rows_of_trod deedF cellsDeed deedB deedsB rfl (fun _ _=>rfl) deed_of_trod _ _ _ g2
  obtain ⟨td,a4,c4,e4,hc4,hr4,hb4⟩:=term_of_trod _ _ _ g3
  simp only [List.cons.injEq,and_true] at e1 e2 e3 e4
  obtain ⟨rfl,rfl,rfl,rfl⟩:=e1
  obtain ⟨rfl,rfl,rfl,rfl⟩:=e2
  obtain ⟨rfl,rfl,rfl,rfl⟩:=e4
  subst e3
  refine ⟨⟨ta,tb,ys,td⟩,⟨a1,c1,a2,c2,a3,c3,a4,c4,rfl,⟨_,_,rfl,hc1,hr1⟩,⟨_,_,rfl,hc2,hr2⟩,hr3,⟨_,_,rfl,hc4,hr4⟩⟩,?_⟩
  simp only [clauB,Rows.uptoBulk,Rows.uptoBulkAll,List.map_cons,List.map_nil]
  omega
theorem beh_of_trod (fuel:Nat) (cs:List Value) (x:DataW H×List MemPlace) (h:DataW.trod enc Tryz.prog W base sp held fuel 79 cs=some x):∃ y,behvE.C (fun b=>b < W.heap.size) W y cs∧behvB y≤Rows.uptoBulk x.1:=by
 obtain ⟨f0,f1,hs,t0,o0,t1,o1⟩:=under_beh
 obtain ⟨xs,n,rfl,rfl,hl,hlen,hf⟩:=DataW.trod_struct hs h
 rw [cellsBeh] at hl
 match xs,hlen,cs,hl with
 | [y0,y1],_,[v0,v1],_ =>
  have g0:=hf 0 f0 rfl
  have g1:=hf 1 f1 rfl
  simp [o0,o1,t0,t1,cellsStr,cellsClaus] at g0 g1
  obtain ⟨s,hv0,rfl,ws⟩:=DataW.trod_string Tryz.underlying9 g0
  obtain ⟨ys,a3,c3,e3,hr3,hb3⟩:=rows_of_trod clauF cellsClau clauB clausB rfl (fun _ _=>rfl) clau_of_trod _ _ _ g1
  simp only [List.cons.injEq,and_true] at hv0 e3
  subst hv0 e3
  have hss:s.data.toList.length=s.size:=by rw [Array.length_toList];rfl
  refine ⟨⟨s,ys⟩,⟨a3,c3,rfl,hr3⟩,?_⟩
  simp only [behvB,Rows.uptoBulk,Rows.uptoBulkAll,List.map_cons,List.map_nil]
  omega
theorem open_behvs {v:Value} {d:DataW H} {p:List MemPlace} {r:Reach} (hok:Value.okWide Tryz.prog W r base 22 v) (h:DataW.Trod enc Tryz.prog W 0 sp held 22 v d p) :
  ∃ l,RX behvE (fun b=>b < W.heap.size) (fun b=>b < W.heap.size) W l v∧behvsB l≤Rows.uptoBulk d:=by
 obtain ⟨a,len,cap,rfl⟩:=okWide_slice Tryz.underlying22 hok
 obtain ⟨fuel,hf⟩:=h
 obtain ⟨l,a',cap',e,h1,h2⟩:=rows_of_trod behvF cellsBeh behvB behvsB rfl (fun _ _=>rfl) beh_of_trod fuel _ _ hf
 simp only [Value.cells,List.cons.injEq,and_true] at e
 exact ⟨l,by rw [e];exact h1,h2⟩
end
def sSend:ByteArray:=⟨#[115,101,110,100]⟩
def sSpawn:ByteArray:=⟨#[115,112,97,119,110]⟩
def sLink:ByteArray:=⟨#[108,105,110,107]⟩
def sStop:ByteArray:=⟨#[115,116,111,112]⟩
def sOn:ByteArray:=⟨#[111,110]⟩
def sBeh:ByteArray:=⟨#[98,101,104]⟩
def sCode:ByteArray:=⟨#[99,111,100,101]⟩
def deedO (t:T):Option Deed :=
 match restL sSend t with
 | some [a,b]=>some ⟨1,a,b,⟨#[]⟩,0⟩
 | _=>match restL sSpawn t with
  | some [a,b,c]=>if a.kind == 2 && c.kind == 5 then some ⟨2,yJ,b,a.name,c.n⟩ else none
  | _=>match restL sLink t with
   | some [a]=>some ⟨3,a,yJ,⟨#[]⟩,0⟩
   | _=>match restL sStop t with
    | some []=>some ⟨4,yJ,yJ,⟨#[]⟩,0⟩
    | _=>none
def mapO {X:Type} (f:T→Option X):List T→Option (List X)
 | []=>some []
 | t :: l=>match f t,mapO f l with
  | some x,some r=>some (x :: r)
  | _,_=>none
def clauO (t:T):Option Clau :=
 match restL sOn t with
 | some [a,b,c,d]=>if c.kind == 4 then (mapO deedO c.args).map fun l=>⟨a,b,l,d⟩ else none
 | _=>none
structure Wrd where
 kind:Int
 n:Int
deriving DecidableEq
structure HS where
 ws:List Wrd
 names:List ByteArray
def nameI (s:ByteArray) (l:List ByteArray):Int:=idxI (fun x=>s.toList == x.toList) l 0
def atomH (s:ByteArray) (l:List ByteArray):Int×List ByteArray:=if nameI s l < 0 then (l.length,l ++ [s]) else (nameI s l,l)
def putA (at_:Nat) (H:HS):List T→HS
 | []=>H
 | ⟨k,n,s,l⟩ :: ts =>
  let r:Wrd×HS :=
   if k=2 then (⟨2,(atomH s H.names).1⟩,⟨H.ws,(atomH s H.names).2⟩)
   else if k=4 then (⟨4,H.ws.length⟩,putA (H.ws.length+1) ⟨H.ws ++ (⟨0,l.length⟩ :: List.replicate l.length ⟨0,0⟩),H.names⟩ l)
   else (⟨k,n⟩,H)
  putA (at_+1) ⟨r.2.ws.set at_ r.1,r.2.names⟩ ts
def putW (H:HS) (t:T):Wrd×HS :=
 if t.kind=2 then (⟨2,(atomH t.name H.names).1⟩,⟨H.ws,(atomH t.name H.names).2⟩)
 else if t.kind=4 then (⟨4,H.ws.length⟩,putA (H.ws.length+1) ⟨H.ws ++ (⟨0,t.args.length⟩ :: List.replicate t.args.length ⟨0,0⟩),H.names⟩ t.args)
 else (⟨t.kind,t.n⟩,H)
theorem putA_nil (i:Nat) (H:HS):putA i H []=H:=by rw [putA]
theorem putA_cons (i:Nat) (H:HS) (t:T) (ts:List T):putA i H (t :: ts)=putA (i+1) ⟨(putW H t).2.ws.set i (putW H t).1,(putW H t).2.names⟩ ts:=by
 obtain ⟨k,n,s,l⟩:=t;rw [putA];rfl
theorem putA_append (i:Nat) (H:HS) (a b:List T):putA i H (a ++ b)=putA (i+a.length) (putA i H a) b:=by
 induction a generalizing i H with
 | nil=>simp [putA_nil]
 | cons t ts ih=>rw [List.cons_append,putA_cons,ih,putA_cons,List.length_cons];congr 1;omega
theorem putA_snoc (i:Nat) (H:HS) {l:List T} {k:Nat} (hk:k < l.length) :
  putA i H (l.take (k+1))=⟨(putW (putA i H (l.take k)) l[k]).2.ws.set (i+k) (putW (putA i H (l.take k)) l[k]).1,(putW (putA i H (l.take k)) l[k]).2.names⟩:=by
 rw [take_snoc' l k hk,putA_append,putA_cons,putA_nil]
 simp only [List.length_take,Nat.min_eq_left (Nat.le_of_lt hk)]
theorem putA_len:∀ m (ts:List T) (i:Nat) (H:HS),yC ts≤m→(putA i H ts).ws.length=H.ws.length+szL ts∧(putA i H ts).names.length≤H.names.length+yC ts:=by
 intro m
 induction m with
 | zero=>intro ts i H h;cases ts with
  | nil=>simp [putA_nil,szL]
  | cons t ts=>rw [yG] at h;omega
 | succ m ih =>
  intro ts i H h
  cases ts with
  | nil=>simp [putA_nil,szL]
  | cons t ts =>
   rw [yG] at h
   have h1:=ih t.args (H.ws.length+1) ⟨H.ws ++ (⟨0,t.args.length⟩ :: List.replicate t.args.length ⟨0,0⟩),H.names⟩ (by omega)
   have h2:=ih ts (i+1) ⟨(putW H t).2.ws.set i (putW H t).1,(putW H t).2.names⟩ (by omega)
   rw [putA_cons,szL_cons,yG]
   simp only [List.length_set,List.length_append,List.length_cons,List.length_replicate] at h1 h2
   have h3:(putW H t).2.ws.length=H.ws.length+(if t.kind=4 then 1+t.args.length+szL t.args else 0)∧(putW H t).2.names.length≤H.names.length+1+yC t.args:=by
    unfold putW
    split
    ·rename_i hk
     rw [if_neg (by omega)]
     refine ⟨rfl,?_⟩
     simp only [atomH]
     split <;> simp <;> omega
    ·split
     ·exact ⟨by rw [h1.1];omega,by simp only;omega⟩
     ·exact ⟨rfl,by simp only;omega⟩
   omega
theorem putW_len (H:HS) (t:T):(putW H t).2.ws.length=H.ws.length+szL [t]∧(putW H t).2.names.length≤H.names.length+yC [t]:=by
 have h:=putA_len _ [t] 0 H (Nat.le_refl _)
 rw [putA_cons,putA_nil] at h
 simpa using h
/-! ### How it lies -/
def wrdE:El Wrd where
 k:=2
 C:=fun _ _ x cs=>cs=[.int .i64 x.kind,.int .i64 x.n]
 len:=by rintro S w x cs rfl;rfl
 one:=by rintro S w x cs rfl;simp [Value.oneCell']
 «to»:=by rintro S S' w w' x cs rfl _ _;rfl
def nmE:El ByteArray where
 k:=1
 C:=fun _ _ x cs=>cs=[.string x]
 len:=by rintro S w x cs rfl;rfl
 one:=by rintro S w x cs rfl;simp [Value.oneCell']
 «to»:=by rintro S S' w w' x cs rfl _ _;rfl
def wrdF:ElT wrdE where
 e:=68
 sl:=71
 bytes:=16
 z:=.agg #[.int .i64 0,.int .i64 0]
 hund:=Tryz.underlying71
 info:=by kernel_rfl
 hzs:=rfl
 hk:=by decide
 hb:=by decide
def nmF:ElT nmE where
 e:=9
 sl:=115
 bytes:=16
 z:=.string ⟨#[]⟩
 hund:=Tryz.underlying115
 info:=by kernel_rfl
 hzs:=rfl
 hk:=by decide
 hb:=by decide
def fitsR (p t:T) (bd:List T):Int×Option (List T) :=
 if yE p≠0 then (yE p,none) else if yE t≠0 then (yE t,none) else if (yF [t] && boundB bd)=false then (5,none) else (0,fitO p t bd)
theorem fitsR_bad {p t:T} {bd:List T} {k:Nat} (hk:k < 2) (hp:k=1→yE p=0) (hu:yE ([p,t][k])≠0):fitsR p t bd=(yE ([p,t][k]),none):=by
 match k,hk,hp,hu with
 | 0,_,_,hu=>rw [fitsR,if_pos (show yE p≠0 from hu)];rfl
 | 1,_,hp,hu=>rw [fitsR,if_neg (by simp [hp rfl]),if_pos (show yE t≠0 from hu)];rfl
theorem fitsR_form {p t:T} {bd:List T} (hp:yE p=0) (ht:yE t=0) (h:(yF [t] && boundB bd)=false):fitsR p t bd=(5,none):=by rw [fitsR,if_neg (by simp [hp]),if_neg (by simp [ht]),if_pos h]
theorem fitsR_ok {p t:T} {bd:List T} (hp:yE p=0) (ht:yE t=0) (h:(yF [t] && boundB bd)=true):fitsR p t bd=(0,fitO p t bd):=by rw [fitsR,if_neg (by simp [hp]),if_neg (by simp [ht]),if_neg (by simp [h])]
theorem fitO_no {p t:T} {bd:List T} (h:(fitT p t bd).1=false):fitO p t bd=none:=by rw [fitO,if_neg (by simp [h])]
theorem fitO_yes {p t:T} {bd:List T} (h:(fitT p t bd).1=true):fitO p t bd=some (fitT p t bd).2:=by rw [fitO,if_pos h]
def FO (S:Nat→Prop) (w:World) (o:Int×Option (List T)) (e:Ending) (w':World):Prop :=
 ∃ v,e=.returned (.tuple #[v,.bool o.2.isSome,.int .i64 o.1])∧Below w.heap.size w w'∧RSl S w' (o.2.getD []) v
theorem RSl.nil (S:Nat→Prop) (w:World):RSl S w [] (.slice none 0 0):=⟨none,0,rfl,⟨Nat.le_refl _,fun _=>rfl⟩,by simp [RTs]⟩
theorem FO.none {S:Nat→Prop} {w w':World} {e:Ending} {o:Int×Option (List T)} {n:Int} (ho:o=(n,Option.none)) (he:e=.returned (.tuple #[.slice Option.none 0 0,.bool false,.int .i64 n])) (hB:Below w.heap.size w w'):FO S w o e w':=by
 subst ho;exact ⟨_,he,hB,RSl.nil _ _⟩
theorem FO.some {S:Nat→Prop} {w w':World} {e:Ending} {o:Int×Option (List T)} {l:List T} {v:Value} (ho:o=(0,Option.some l)) (he:e=.returned (.tuple #[v,.bool true,.int .i64 0])) (hB:Below w.heap.size w w') (hr:RSl S w' l v):FO S w o e w':=by
 subst ho;exact ⟨_,he,hB,hr⟩
theorem OwnG.full {P:Nat→Prop} {base:Nat} {w:World} {v:Value} {ts:List T} (h:OwnG P base w v ts) (hl:0 < ts.length):∃ g cap,v=.slice (some ⟨g,0,none⟩) ts.length cap:=by
 obtain ⟨cs,⟨h1,h2⟩,hC⟩:=h
 rcases h2 with ⟨_,h2⟩ | ⟨g',cap',cur,ev,_⟩
 ·omega
 exact ⟨g',cap',ev⟩
theorem check_form4 {t:T} (h:yE t=0):formL [t]=true:=by
 unfold yE at h
 split at h
 ·assumption
 omega
theorem boundB_len4 {bd:List T} (h:boundB bd=true):bd.length=4:=by simp only [boundB,Bool.and_eq_true,beq_iff_eq] at h;exact h.1
def FOo (S:Nat→Prop) (w:World) (o:Int×Option (List T)) (e:Ending) (w':World):Prop :=
 ∃ v,e=.returned (.tuple #[v,.bool o.2.isSome,.int .i64 o.1])∧Below w.heap.size w w'∧RSl S w' (o.2.getD []) v ∧
  (o.2.isSome=true→∃ base g cap,w.heap.size≤base∧v=.slice (some ⟨g,0,none⟩) 4 cap∧OwnG (fun b=>base≤b) base w' v (o.2.getD []))
theorem FOo.none {S:Nat→Prop} {w w':World} {e:Ending} {o:Int×Option (List T)} {n:Int} (ho:o=(n,Option.none)) (he:e=.returned (.tuple #[.slice Option.none 0 0,.bool false,.int .i64 n])) (hB:Below w.heap.size w w'):FOo S w o e w':=by
 subst ho;exact ⟨_,he,hB,RSl.nil _ _,fun h=>by cases h⟩
theorem FOo.some {S:Nat→Prop} {w w':World} {e:Ending} {o:Int×Option (List T)} {l:List T} {v:Value} (ho:o=(0,Option.some l)) (he:e=.returned (.tuple #[v,.bool true,.int .i64 0])) (hB:Below w.heap.size w w') (hr:RSl S w' l v) (hO:∃ base g cap,w.heap.size≤base∧v=.slice (Option.some ⟨g,0,Option.none⟩) 4 cap∧OwnG (fun b=>base≤b) base w' v l):FOo S w o e w':=by
 subst ho;exact ⟨_,he,hB,hr,fun _=>hO⟩
theorem mfitsO_c (p t:T) (bd:List T) (w:World) (vp vt vb:Value) (hp:RT (fun b=>b < w.heap.size) w p vp) (ht:RT (fun b=>b < w.heap.size) w t vt) (hb:RSl (fun b=>b < w.heap.size) w bd vb)
  (hbp:yC [p]≤1099511627776) (hbt:yC [t]≤1099511627776) (hbb:yC bd≤1099511627776) :
  Calls Tryz.prog 64 #[vp,vt,vb] w (FOo (fun b=>w.heap.size≤b) w (fitsR p t bd)):=by
 obtain ⟨a1,cap1,rfl,hc1,hr1⟩:=hp
 obtain ⟨a2,cap2,rfl,hc2,hr2⟩:=ht
 obtain ⟨ab,capb,rfl,hcb,hrb⟩:=hb
 have HP:Hid (RT (fun b=>b < w.heap.size) w p _):=J ⟨a1,cap1,rfl,hc1,hr1⟩
 have HT:Hid (RT (fun b=>b < w.heap.size) w t _):=J ⟨a2,cap2,rfl,hc2,hr2⟩
 have HB:Hid (RSl (fun b=>b < w.heap.size) w bd _):=J ⟨ab,capb,rfl,hcb,hrb⟩
 have HR:=J hrb
 have HC:Hid (CellsT (fun b=>b < w.heap.size) w [p,t] [.int .i64 p.kind,.int .i64 p.n,.string p.name,.slice a1 p.args.length cap1,.int .i64 t.kind,.int .i64 t.n,.string t.name,.slice a2 t.args.length cap2]) :=
  J ⟨a1,cap1,_,rfl,hc1,hr1,a2,cap2,_,rfl,hc2,hr2,rfl⟩
 have hlb:=yM bd
 clear hr1 hr2 hrb hc1 hc2 hcb
 go_enter Tryz.func64,Tryz.ntmps64
 go_wp2_with fail
 obtain ⟨W,hW⟩:∃ W:World,W=(((w.alloc (.cells #[.int .i64 p.kind,.int .i64 p.n,.string p.name,.slice a1 p.args.length cap1] 25)).alloc (.cells #[.int .i64 t.kind,.int .i64 t.n,.string t.name,.slice a2 t.args.length cap2] 25)).alloc
  (.cells #[.int .i64 p.kind,.int .i64 p.n,.string p.name,.slice a1 p.args.length cap1,.int .i64 t.kind,.int .i64 t.n,.string t.name,.slice a2 t.args.length cap2] 25)):=⟨_,rfl⟩
 rw [←hW]
 have hWs:W.heap.size=w.heap.size+1+1+1:=by rw [hW];simp
 have hWB:Below w.heap.size w W:=by rw [hW];exact ((yA _ _).alloc (by simp) _).alloc (by simp <;> omega) _
 have HL:Hid (RSl2 (fun b=>b=w.heap.size+1+1) (fun b=>b < w.heap.size) W [p,t] (.slice (some ⟨w.heap.size+1+1,0,none⟩) 2 2)):=J (by
  rw [hW]
  have hB0:Below w.heap.size w ((w.alloc (.cells #[.int .i64 p.kind,.int .i64 p.n,.string p.name,.slice a1 p.args.length cap1] 25)).alloc (.cells #[.int .i64 t.kind,.int .i64 t.n,.string t.name,.slice a2 t.args.length cap2] 25)):=(yA _ _).alloc (by simp) _
  have h:=RSl2.lit (HC.out.to (S':=fun b=>b < w.heap.size) (fun _ h _=>h) (fun b _ hb=>hB0.block b hb)) 25
  simp only [World.size_alloc] at h
  exact h)
 have HWx:Hid (W.cell? ⟨w.heap.size,0,none⟩=some (.int .i64 p.kind)∧W.cell? ⟨w.heap.size,1,none⟩=some (.int .i64 p.n)∧W.cell? ⟨w.heap.size,2,none⟩=some (.string p.name)∧W.cell? ⟨w.heap.size,3,none⟩=some (.slice a1 p.args.length cap1) ∧
   W.cell? ⟨w.heap.size+1,0,none⟩=some (.int .i64 t.kind)∧W.cell? ⟨w.heap.size+1,1,none⟩=some (.int .i64 t.n)∧W.cell? ⟨w.heap.size+1,2,none⟩=some (.string t.name)∧W.cell? ⟨w.heap.size+1,3,none⟩=some (.slice a2 t.args.length cap2)):=J (by rw [hW];go_simp)
 have HWB:=J hWB
 clear hW hWB
 go_loopw [19] (fun i wr=>∃ k:Nat,k≤2∧i=.int .i64 k∧(1≤k→yE p=0)∧(2≤k→yE t=0)∧Below W.heap.size W wr) (fun i _=>2 - (intOf i).toNat)
 case atStart=>exact ⟨0,by omega,rfl,by omega,by omega,Below.refl _ _⟩
 obtain ⟨k,hkl,rfl,hp0,ht0,hB⟩:=hrel
 have HP0:=J hp0
 have HT0:=J ht0
 have hsr:=hB.size
 have HBr:=J (yB HWB.out (by omega) hB)
 clear hp0 ht0
 by_cases hlt:k < 2
 ·obtain ⟨a',cap',_,d0,d1,d2,d3,hE⟩:=(HL.out.below hB).elem k hlt
  have HFB:=J (fun h=>fitsR_bad (p:=p) (t:=t) (bd:=bd) hlt (fun h1=>HP0.out (by omega)) h)
  have HN1:Hid (1≤k+1→yE [p,t][k]=0→yE p=0):=J (fun _ h=>by
   match k,hlt,h with
   | 0,_,h=>exact h
   | 1,_,_=>exact HP0.out (by omega))
  have HN2:Hid (2≤k+1→yE [p,t][k]=0→yE t=0):=J (fun h2 h=>by
   match k,hlt,h2,h with
   | 0,_,h2,_=>omega
   | 1,_,_,h=>exact h)
  have hbe:yC [[p,t][k]]≤1099511627776:=by
   match k,hlt with
   | 0,_=>exact hbp
   | 1,_=>exact hbt
  generalize [p,t][k]=u at *
  rw [Nat.zero_add] at d0 d1 d2 d3
  have hE:=J hE
  go_wp2_with fail
  refine (check_c u _ _ _ (hE.out.alloc _) (by omega)).mono ?_
  rintro e w7 ⟨rfl,hB7⟩
  by_cases hu:yE u=0
  ·have hub:(yE u != 0)=false:=by simp [hu]
   have HU:=J hu
   clear hu
   go_wp2_with fail
   go_roundw
   case rel=>exact ⟨k+1,by omega,by go_num,fun h=>HN1.out h HU.out,fun h=>HN2.out h HU.out,yB (hB.alloc (by omega) _) (by simp <;> omega) hB7⟩
   case measure=>simp [intOf];omega
  have hub:(yE u != 0)=true:=by simp [hu]
  have HU:=J (HFB.out hu)
  clear hu
  go_wp2_with fail
  go_ret3
  exact FOo.none HU.out rfl (yB (HBr.out.alloc (by omega) _) (by simp;omega) hB7)
 have hk2:k=2:=by omega
 subst hk2
 obtain ⟨wo,rfl⟩:∃ wo:World,wo=wr:=⟨_,rfl⟩
 have HPC:=J (HP0.out (by omega))
 have HTC:=J (HT0.out (by omega))
 obtain ⟨x0,x1,x2,x3,y0,y1,y2,y3⟩:=HWx.out
 have n1:w.heap.size < W.heap.size:=by omega
 have n2:w.heap.size+1 < W.heap.size:=by omega
 obtain ⟨hcc,-⟩:=bcell hB
 have HPr:=J (HP.out.below HBr.out)
 have HTr:=J (HT.out.below HBr.out)
 clear hB
 go_wp2_with fail
 refine (closed_c t _ _ _ HTr.out hbt).mono ?_
 rintro e w2 ⟨rfl,hB2⟩
 have h2:=hB2.size
 have HB2:=J (yB HBr.out (by omega) hB2)
 obtain ⟨hcc2,-⟩:=bcell hB2
 have n3:w.heap.size < wo.heap.size:=by omega
 have n4:w.heap.size+1 < wo.heap.size:=by omega
 clear hB2
 cases hcl:yF [t]
 ·have HF:=J (fitsR_form (bd:=bd) HPC.out HTC.out (by simp [hcl]))
  go_wp2_with fail
  go_ret3
  exact FOo.none HF.out rfl HB2.out
 have HCL:=J hcl;clear hcl
 go_wp2_with fail
 refine (bound_c bd _ _ _ (HB.out.below HB2.out) hbb).mono ?_
 rintro e w3 ⟨rfl,hB3⟩
 have h3:=hB3.size
 have HB3:=J (yB HB2.out (by omega) hB3)
 obtain ⟨hcc3,-⟩:=bcell hB3
 have n5:w.heap.size < w2.heap.size:=by omega
 have n6:w.heap.size+1 < w2.heap.size:=by omega
 clear hB3
 cases hbd:boundB bd
 ·have HF:=J (fitsR_form (bd:=bd) HPC.out HTC.out (by simp [hbd]))
  go_wp2_with fail
  go_ret3
  exact FOo.none HF.out rfl HB3.out
 have HBD:=J hbd;clear hbd
 have hlen:=J (boundB_len4 HBD.out)
 have HFR:=J (fitsR_ok (bd:=bd) HPC.out HTC.out (by rw [HCL.out,HBD.out];rfl))
 obtain ⟨X0,X1,X2,X3⟩:w3.cell? ⟨w.heap.size,0,none⟩=some (.int .i64 p.kind)∧w3.cell? ⟨w.heap.size,1,none⟩=some (.int .i64 p.n)∧w3.cell? ⟨w.heap.size,2,none⟩=some (.string p.name)∧w3.cell? ⟨w.heap.size,3,none⟩=some (.slice a1 p.args.length cap1):=by
  rw [hcc3 _ _ n5,hcc3 _ _ n5,hcc3 _ _ n5,hcc3 _ _ n5,hcc2 _ _ n3,hcc2 _ _ n3,hcc2 _ _ n3,hcc2 _ _ n3,hcc _ _ n1,hcc _ _ n1,hcc _ _ n1,hcc _ _ n1];exact ⟨x0,x1,x2,x3⟩
 obtain ⟨Y0,Y1,Y2,Y3⟩:w3.cell? ⟨w.heap.size+1,0,none⟩=some (.int .i64 t.kind)∧w3.cell? ⟨w.heap.size+1,1,none⟩=some (.int .i64 t.n)∧w3.cell? ⟨w.heap.size+1,2,none⟩=some (.string t.name)∧w3.cell? ⟨w.heap.size+1,3,none⟩=some (.slice a2 t.args.length cap2):=by
  rw [hcc3 _ _ n6,hcc3 _ _ n6,hcc3 _ _ n6,hcc3 _ _ n6,hcc2 _ _ n4,hcc2 _ _ n4,hcc2 _ _ n4,hcc2 _ _ n4,hcc _ _ n2,hcc _ _ n2,hcc _ _ n2,hcc _ _ n2];exact ⟨y0,y1,y2,y3⟩
 clear hcc hcc2 hcc3 x0 x1 x2 x3 y0 y1 y2 y3
 go_wp2_with fail
 have hw3:w.heap.size+1 < w3.heap.size:=by omega
 go_loopw [12,39] (fun out i wr=>∃ k:Nat,k≤bd.length∧i=.int .i64 k∧OwnG (fun b=>w3.heap.size≤b) w3.heap.size wr out (bd.take k)∧Below w3.heap.size w3 wr) (fun _ i _=>bd.length - (intOf i).toNat)
 case atStart=>exact ⟨0,Nat.zero_le _,rfl,OwnG.nil _ _ _,Below.refl _ _⟩
 obtain ⟨k,hkl,rfl,hT,hB⟩:=hrel
 have hsz:=hB.size
 have HT4:=J hT;clear hT
 have HB4:=J (yB HB3.out (by omega) hB)
 by_cases hlt:k < bd.length
 ·obtain ⟨b,o,rfl⟩:=HR.out.addr (by omega)
  obtain ⟨a',cap',hSb,d0,d1,d2,d3,hE⟩:=(HR.out.below HB4.out).elem k hlt
  have hbk:=bulk_at hlt
  have hE:=J hE
  go_wp2_with fail
  refine (copied_c _ _ _ _ (hE.out.alloc _) (by omega)).mono ?_
  rintro e w5 ⟨v1,rfl,hB5,hr1⟩
  have hs1:=hB5.size
  simp only [World.size_alloc] at hs1
  obtain ⟨a5,cap5,rfl,hcap5,hr5⟩:=hr1
  have HR1:Hid (RT (fun b=>wr.heap.size+1≤b) w5 (bd[k]) _):=J ⟨a5,cap5,rfl,hcap5,by simpa using hr5⟩
  have HT1:=J ((HT4.out.alloc (.cells #[.int .i64 bd[k].kind,.int .i64 bd[k].n,.string bd[k].name,.slice a' bd[k].args.length cap'] 25)).below hB5)
  have HT0:=J HT4.out.block
  clear d0 d1 d2 d3 hcap5 hr5
  have hnn:(bd.take k).length+1≤1099511627776:=by simp;omega
  go_wp2_with (at_builtin;refine append_grow _ _ rfl rfl rfl rfl HT1.out HR1.out (fun b hb hl=>⟨by omega,fun he=>by have:=HT0.out b he;omega⟩) hnn (by omega) ?_;intro v6 w6 hT6 hB6 hw6;have hs6:=hB6.size;have H6:=J hT6;clear hT6 hw6)
  go_roundw
  case rel=>exact ⟨k+1,by omega,by go_num,by rw [take_snoc' _ k hlt];exact H6.out,(yB (hB.alloc (by omega) _) (by simp <;> omega) hB5).trans hB6⟩
  case measure=>simp [intOf];omega
 have hkk:k=bd.length:=by omega
 subst hkk
 have hT:=HT4.out
 rw [List.take_length] at hT
 obtain ⟨g,capg,rfl⟩:=hT.full (by have:=hlen.out;omega)
 rw [hlen.out] at hT ⊢
 have HO:=J hT;clear hT
 obtain ⟨hcc,-⟩:=bcell hB
 have hg:=HO.out.block g rfl
 have m1:w.heap.size < w3.heap.size:=by omega
 go_wp2_with fail
 refine (fits_c p t (fun b=>b < w.heap.size) w3.heap.size g capg _ _ _ bd (HP.out.below HB4.out) (HT.out.below HB4.out) HO.out (by omega) (fun b hb=>by omega) hlen.out hbp hbt (fun y hy=>by have:=bulk_mem hy;omega) (check_form4 HPC.out)).mono ?_
 rintro e w7 ⟨rfl,hK7,hO7⟩
 have HB7:=J (HB4.out.trans (hK7.below (B:=w.heap.size) (by omega) (fun b hb=>by omega)))
 have HO7:=J hO7
 clear hK7 hO7
 cases hz:(fitT p t bd).1
 ·have HF:=J (show fitsR p t bd=(0,none) by rw [HFR.out,fitO_no hz])
  go_wp2_with fail
  go_ret3
  exact FOo.none HF.out rfl HB7.out
 have HF:=J (show fitsR p t bd=(0,some (fitT p t bd).2) by rw [HFR.out,fitO_yes hz])
 go_wp2_with fail
 go_ret3
 exact FOo.some HF.out rfl HB7.out ((HO7.out.rsl fun b hb=>hb).mono fun b hb=>by omega) ⟨w3.heap.size,g,capg,by omega,rfl,HO7.out⟩
def clFit (c:Clau) (st m:T):Option (List T):=(fitsR c.state st freeL).2.bind fun bd=>(fitsR c.message m bd).2
def clFirst (st m:T):List Clau→Option (Clau×List T)
 | []=>none
 | c :: cs=>match clFit c st m with
  | some bd=>some (c,bd)
  | none=>clFirst st m cs
def msFirst (cs:List Clau) (st:T):Nat→List T→Option (Nat×Clau×List T)
 | _,[]=>none
 | k,m :: ms=>match clFirst st m cs with
  | some (c,bd)=>some (k,c,bd)
  | none=>msFirst cs st (k+1) ms
theorem clFirst_none (st m:T) (cs:List Clau):(∀ c∈cs,clFit c st m=none)→clFirst st m cs=none:=by
 induction cs with
 | nil=>intro _;rfl
 | cons c cs ih =>
  intro h
  unfold clFirst
  rw [h c mS0]
  exact ih fun d hd=>h d (mT hd)
theorem clFirst_some (st m:T) (cs:List Clau) (k:Nat) (hk:k < cs.length) (hn:∀ j (h:j < cs.length),j < k→clFit cs[j] st m=none) {bd:List T} (h:clFit cs[k] st m=some bd):clFirst st m cs=some (cs[k],bd):=by
 induction cs generalizing k with
 | nil=>cases hk
 | cons c cs ih =>
  cases k with
  | zero =>
   have h:clFit c st m=some bd:=h
   unfold clFirst
   rw [h];rfl
  | succ k =>
   have h0:clFit c st m=none:=hn 0 (by simp) (by omega)
   unfold clFirst
   rw [h0]
   exact ih k (Nat.lt_of_succ_lt_succ hk) (fun j hj hjk=>hn (j+1) (Nat.succ_lt_succ hj) (by omega)) h
theorem msFirst_none (cs:List Clau) (st:T) (ms:List T):∀ k,(∀ j (h:j < ms.length),clFirst st ms[j] cs=none)→msFirst cs st k ms=none:=by
 induction ms with
 | nil=>intro _ _;rfl
 | cons m ms ih =>
  intro k h
  have h0:clFirst st m cs=none:=h 0 (by simp)
  unfold msFirst
  rw [h0]
  exact ih (k+1) fun j hj=>h (j+1) (Nat.succ_lt_succ hj)
theorem msFirst_some (cs:List Clau) (st:T) (ms:List T):∀ (k i:Nat) (hi:i < ms.length),(∀ j (h:j < ms.length),j < i→clFirst st ms[j] cs=none)→∀ {c:Clau} {bd:List T},clFirst st ms[i] cs=some (c,bd)→msFirst cs st k ms=some (k+i,c,bd):=by
 induction ms with
 | nil=>intro k i hi;cases hi
 | cons m ms ih =>
  intro k i hi hn c bd h
  cases i with
  | zero =>
   have h:clFirst st m cs=some (c,bd):=h
   unfold msFirst
   rw [h];rfl
  | succ i =>
   have h0:clFirst st m cs=none:=hn 0 (by simp) (by omega)
   unfold msFirst
   rw [h0]
   have:=ih (k+1) i (Nat.lt_of_succ_lt_succ hi) (fun j hj hjk=>hn (j+1) (Nat.succ_lt_succ hj) (by omega)) h
   rw [this,show k+1+i=k+(i+1) by omega]
theorem fitsR_len {p t:T} {bd l:List T} (h:(fitsR p t bd).2=some l):yE p=0∧yE t=0∧yF [t]=true∧boundB bd=true:=by
 unfold fitsR at h
 split at h
 ·cases h
 split at h
 ·cases h
 split at h
 ·cases h
 rename_i h1 h2 h3
 have h3:(yF [t] && boundB bd)=true:=by simpa using h3
 rw [Bool.and_eq_true] at h3
 exact ⟨by simpa using h1,by simpa using h2,h3.1,h3.2⟩
theorem fitsR_out {p t:T} {bd l:List T} (h:(fitsR p t bd).2=some l) (ht:yC [t]≤2000) (hb:∀ y∈bd,yC [y]≤2000):l.length=4∧∀ y∈l,yC [y]≤2000:=by
 obtain ⟨h1,h2,h3,h4⟩:=fitsR_len h
 rw [fitsR_ok h1 h2 (by rw [h3,h4];rfl)] at h
 have h:fitO p t bd=some l:=h
 unfold fitO at h
 split at h
 ·simp only [Option.some.injEq] at h
  subst h
  exact ⟨by rw [fitT_length,boundB_len4 h4],fitT_bulk 2000 p t bd ht hb⟩
 cases h
theorem freeL_small:∀ y∈freeL,yC [y]≤2000:=by
 intro y hy
 have h:=bulk_mem hy
 have:yC freeL≤2000:=by simp [freeL,anyT,yC,ByteArray.size]
 omega
theorem bulk_eachP (M:Nat):∀ l:List T,(∀ y∈l,yC [y]≤M)→yC l≤l.length * M
 | [],_=>by simp [yC]
 | t :: l,h=>by
  have e:yC (t :: l)=yC [t]+yC l:=bulkL_append [t] l
  have h1:=h t (by simp)
  have h2:=bulk_eachP M l fun y hy=>h y (by simp [hy])
  rw [e,List.length_cons,Nat.add_mul];omega
def fitQ (ps:List (T×T)) (b:List T):Bool×List T:=fitL (ps.map (·.1)) (ps.map (·.2)) b
def bulkQ (ps:List (T×T)):Nat:=yC (ps.map (·.1))
def fitQO (ps:List (T×T)) (b:List T):Option (List T):=if (fitQ ps b).1 then some (fitQ ps b).2 else none
def Small (q:T×T):Prop:=formL [q.1]=true∧yC [q.1]≤1099511627776∧yC [q.2]≤1099511627776
theorem fitQO_one (p t:T) (b:List T):fitQO [(p,t)] b=fitO p t b:=by simp only [fitQO,fitQ,List.map_cons,List.map_nil,fitL_one,fitO]
theorem fitQO_nil (b:List T):fitQO [] b=some b:=by simp only [fitQO,fitQ,List.map_nil,fitL_nil,if_true]
theorem fitQO_yes {p t:T} {ps:List (T×T)} {b:List T} (h:(fitT p t b).1=true):fitQO ((p,t) :: ps) b=fitQO ps (fitT p t b).2:=by simp only [fitQO,fitQ,List.map_cons,fitL_yes h];rfl
theorem fitQO_no {p t:T} {ps:List (T×T)} {b:List T} (h:(fitT p t b).1=false):fitQO ((p,t) :: ps) b=none:=by simp only [fitQO,fitQ,List.map_cons,fitL_no h,h];rfl
theorem fst_zip {xs ys:List T} (h:xs.length=ys.length):(xs.zip ys).map (·.1)=xs:=by
 induction xs generalizing ys with
 | nil=>rfl
 | cons x xs ih=>cases ys with
  | nil=>simp at h
  | cons y ys=>simp [ih (by simpa using h)]
theorem snd_zip {xs ys:List T} (h:xs.length=ys.length):(xs.zip ys).map (·.2)=ys:=by
 induction xs generalizing ys with
 | nil=>cases ys with
  | nil=>rfl
  | cons y ys=>simp at h
 | cons x xs ih=>cases ys with
  | nil=>simp at h
  | cons y ys=>simp [ih (by simpa using h)]
theorem fitQO_tup {p t:T} {ps:List (T×T)} {b:List T} (hk:p.kind=4) (ht:t.kind=4) (hl:p.args.length=t.args.length):fitQO ((p,t) :: ps) b=fitQO (p.args.zip t.args ++ ps) b:=by
 have e:fitL (p.args ++ ps.map (·.1)) (t.args ++ ps.map (·.2)) b=fitL (p :: ps.map (·.1)) (t :: ps.map (·.2)) b:=by
  rw [fitL_append hl,fitL_cons,fitT_4a hk ht hl]
 simp only [fitQO,fitQ,List.map_cons,List.map_append,fst_zip hl,snd_zip hl,e]
theorem lengthQ (ps:List (T×T)):ps.length≤bulkQ ps:=by have:=yM (ps.map (·.1));simpa [bulkQ] using this
theorem bulkQ_cons (p t:T) (ps:List (T×T)):bulkQ ((p,t) :: ps)=yC [p]+bulkQ ps:=bulkL_append [p] _
theorem bulkQ_tup {p t:T} {ps:List (T×T)} (hl:p.args.length=t.args.length):bulkQ (p.args.zip t.args ++ ps) < bulkQ ((p,t) :: ps):=by
 rw [bulkQ_cons,bulkQ,List.map_append,fst_zip hl,bulkL_append,yG p []];simp only [bulkQ,yC];omega
def TwoVars (wr wx:World) (x0 x1 x2 x3 y0 y1 y2 y3 sx sy:Value):Prop:=∃ X Y:Nat,sx=.pointer (some ⟨X,0,none⟩)∧sy=.pointer (some ⟨Y,0,none⟩)∧X < wx.heap.size∧Y < wx.heap.size∧wr.heap.size≤X∧wr.heap.size≤Y∧Below wr.heap.size wr wx ∧
 (wx.cell? ⟨X,0,none⟩=some x0∧wx.cell? ⟨X,1,none⟩=some x1∧wx.cell? ⟨X,2,none⟩=some x2∧wx.cell? ⟨X,3,none⟩=some x3)∧(wx.cell? ⟨Y,0,none⟩=some y0∧wx.cell? ⟨Y,1,none⟩=some y1∧wx.cell? ⟨Y,2,none⟩=some y2∧wx.cell? ⟨Y,3,none⟩=some y3)
theorem TwoVars.fst (wr:World) (x0 x1 x2 x3 y0 y1 y2 y3:Value) (e:TypeId) :
  TwoVars wr ((wr.alloc (.cells #[x0,x1,x2,x3] e)).alloc (.cells #[y0,y1,y2,y3] e)).drew x0 x1 x2 x3 y0 y1 y2 y3 (.pointer (some ⟨wr.heap.size,0,none⟩)) (.pointer (some ⟨wr.heap.size+1,0,none⟩)):=by
 refine ⟨_,_,rfl,rfl,by simp <;> omega,by simp <;> omega,by omega,by omega,((yA _ _).alloc (by simp) _).drew,?_,?_⟩
 ·go_simp
 go_simp
theorem TwoVars.snd (wr:World) (x0 x1 x2 x3 y0 y1 y2 y3:Value) (e:TypeId) :
  TwoVars wr ((wr.alloc (.cells #[y0,y1,y2,y3] e)).alloc (.cells #[x0,x1,x2,x3] e)).drew x0 x1 x2 x3 y0 y1 y2 y3 (.pointer (some ⟨wr.heap.size+1,0,none⟩)) (.pointer (some ⟨wr.heap.size,0,none⟩)):=by
 refine ⟨_,_,rfl,rfl,by simp <;> omega,by simp <;> omega,by omega,by omega,((yA _ _).alloc (by simp) _).drew,?_,?_⟩
 ·go_simp
 go_simp
def TailOf (wc wx:World) (b o n cap:Nat) (v:Value):Prop:=∃ b' o':Nat,v=.slice (some ⟨b',o',none⟩) n cap∧(n≠0→b'=b∧o'=o+8)∧wx=wc
def RFRelS (S:Nat→Prop) (B g capg:Nat) (W:World) (o:Option (List T)) (k:Nat) (v:Value) (wr:World):Prop :=
 ∃ (ps:List (T×T)) (bo:List T),bulkQ ps=k∧RSlP (fun b=>B≤b∧b≠g) S wr ps v∧OwnG S B wr (.slice (some ⟨g,0,none⟩) 4 capg) bo∧bo.length=4 ∧
  fitQO ps bo=o∧(∀ q∈ps,Small q)∧(∀ y∈bo,yC [y]≤1099511627776)∧Below W.heap.size W wr∧B≤wr.heap.size∧k≤1099511627776
theorem rfitsO_c (S:Nat→Prop) (p t:T) (bd:List T) (w:World) (vp vt vb:Value) (hp:RT S w p vp) (ht:RT S w t vt) (hb:RSl S w bd vb)
  (hbp:yC [p]≤1099511627776) (hbt:yC [t]≤1099511627776) (hbb:yC bd≤1099511627776) (hl:bd.length=4) (hf:formL [p]=true) (hS:∀ b,S b→b < w.heap.size) :
  Calls Tryz.prog 33 #[vp,vt,vb] w fun e w'=>∃ v,e=.returned (.tuple #[v,.bool (fitO p t bd).isSome])∧Below w.heap.size w w'∧((fitO p t bd).isSome=true→∃ g cap,v=.slice (some ⟨g,0,none⟩) 4 cap∧OwnG S (w.heap.size+2) w' v ((fitO p t bd).getD [])):=by
 obtain ⟨a1,cap1,rfl,hc1,hr1⟩:=hp
 obtain ⟨a2,cap2,rfl,hc2,hr2⟩:=ht
 obtain ⟨ab,capb,rfl,hcb,hrb⟩:=hb
 have HP:Hid (RT S w p _):=J ⟨a1,cap1,rfl,hc1,hr1⟩
 have HT:Hid (RT S w t _):=J ⟨a2,cap2,rfl,hc2,hr2⟩
 have HB:Hid (RSl S w bd _):=J ⟨ab,capb,rfl,hcb,hrb⟩
 have hlb:=yM bd
 have HL:=J hl;clear hl
 have HSS:=J hS;clear hS
 clear hr1 hr2 hrb hc1 hc2 hcb
 have HBB:Hid (∀ o1 o2,Below w.heap.size w ((w.alloc o1).alloc o2)):=J fun o1 o2=>(yA _ _).alloc (by simp) _
 go_enter Tryz.func33,Tryz.ntmps33
 have h1:w.heap.size < w.heap.size+1+1:=by omega
 have h2:w.heap.size+1 < w.heap.size+1+1:=by omega
 go_wp2_with (at_builtin;refine append_terms (base:=w.heap.size+1+1) (v:=.slice none 0 0) _ _ rfl rfl rfl rfl (OwnT.nil S _ _) (((HB.out.alloc _).alloc _).rsl2) (fun b hb=>by simp [Value.ownBlock]) ?_ ?_ ?_;(simp;omega);(simp);intro v0 w0 hT0 hG0 hw0;rw [List.nil_append] at hT0;have hs0:=hG0.size;simp only [World.size_alloc] at hs0;have hB0:=grown_below (B:=w.heap.size+1+1) (Below.refl _ _) hG0 (by simp) (fun b hb=>by simp [Value.ownBlock] at hb);have hcc0:=fun b o (h:b < w.heap.size+1+1)=>hB0.cell (p:=⟨b,o,none⟩) h;have HT0:=J hT0;clear hT0 hw0 hG0)
 have HB0:=J (yB (HBB.out _ _) (by simp <;> omega) (hB0.mono (by simp)))
 have HO0:Hid (OwnG S (w.heap.size+1+1) w0 v0 bd):=J (OwnT.to HT0.out (Nat.le_refl _) (fun b hb hl=>⟨hb,by have:=HSS.out b hb;omega,fun e=>by have:=HT0.out.block b e;have:=HSS.out b hb;omega⟩) fun _ _ _=>rfl)
 obtain ⟨g,capg,rfl⟩:=HO0.out.full (by have:=HL.out;omega)
 rw [HL.out] at HO0 ⊢
 have hg:=HO0.out.block g rfl
 have hg1:=hg.1
 have hg2:=hg.2
 have HPP:Hid (RSlP (fun b=>b=w0.heap.size) S (w0.alloc _) [(p,t)] _):=J (RSlP.one (HP.out.below HB0.out) (HT.out.below HB0.out) 121)
 have HBL:Hid (∀ y∈bd,yC [y]≤1099511627776):=J fun y hy=>by have:=bulk_mem hy;omega
 clear hcc0 hB0 hg HT0
 go_loopg [9] (yC [p]) (fun k v wr=>RFRelS S (w.heap.size+1+1) g capg w (fitO p t bd) k v wr)
 case atStart=>exact ⟨[(p,t)],bd,rfl,HPP.out.to (fun b hb _=>by subst hb;exact ⟨by omega,by omega⟩) (fun _ h _=>h) (fun _ _ _=>rfl),HO0.out.alloc _,HL.out,fitQO_one p t bd,(fun q hq=>by simp at hq;subst hq;exact ⟨hf,hbp,hbt⟩),HBL.out,HB0.out.alloc (by omega) _,by simp;omega,hbp⟩
 obtain ⟨ps,bo,hbk,hR,hO,hlen,hfo,hsm,hsb,hB,hsz,hpl⟩:=hrel
 subst hbk
 have HO:=J hO
 have HLN:=J hlen
 have HFO:=J hfo
 have HSM:=J hsm
 have HSB:=J hsb
 have HB:=J hB
 clear hO hlen hfo hsm hsb hB
 obtain ⟨av,cav,csv,rfl,hcv,-⟩:=id hR
 have HR:=J hR;clear hR hcv
 cases ps with
 | nil =>
  have HF:=J (show fitO p t bd=some bo by rw [←HFO.out,fitQO_nil])
  go_wp2_with fail
  go_ret2
  rw [HF.out]
  exact ⟨_,rfl,HB.out,fun _=>⟨g,capg,by first | rfl | rw [HLN.out],HO.out⟩⟩
 | cons q ps =>
  obtain ⟨x,y⟩:=q
  obtain ⟨b,o,rfl,-,hcap⟩:=HR.out.addr (by simp)
  obtain ⟨a1',c1',a2',c2',hRb,⟨d0,d1,d2,d3⟩,⟨e0,e1,e2,e3⟩,hX,hY⟩:=HR.out.head
  have hpos:0 < ((x,y) :: ps).length:=by simp
  have HX:=J hX
  have HY:=J hY
  clear hX hY
  have hb1:b < wr.heap.size:=World.block_lt_of_cell? wr _ d0
  go_upto_region 4 with (fail)
  go_cut [10,11] (fun sx sy wx=>TwoVars wr wx (.int .i64 x.kind) (.int .i64 x.n) (.string x.name) (.slice a1' x.args.length c1') (.int .i64 y.kind) (.int .i64 y.n) (.string y.name) (.slice a2' y.args.length c2') sx sy)
  case first =>
   go_region_held3 (fun w'=>w'.cell? ⟨b,o,none⟩=some (.int .i64 x.kind)∧w'.cell? ⟨b,o+1,none⟩=some (.int .i64 x.n)∧w'.cell? ⟨b,o+2,none⟩=some (.string x.name)∧w'.cell? ⟨b,o+3,none⟩=some (.slice a1' x.args.length c1') ∧
    w'.cell? ⟨b,o+4,none⟩=some (.int .i64 y.kind)∧w'.cell? ⟨b,o+5,none⟩=some (.int .i64 y.n)∧w'.cell? ⟨b,o+6,none⟩=some (.string y.name)∧w'.cell? ⟨b,o+7,none⟩=some (.slice a2' y.args.length c2'))
    (go_keep) (first | fail)
   all_goals (go_wp2_with fail;go_meet)
   ·exact TwoVars.fst _ _ _ _ _ _ _ _ _ _
   ·exact TwoVars.snd _ _ _ _ _ _ _ _ _ _
  case rest =>
   obtain ⟨X,Y,rfl,rfl,hXs,hYs,hX0,hY0,hBc,⟨X0,X1,X2,X3⟩,⟨Y0,Y1,Y2,Y3⟩⟩:=hcut
   obtain ⟨wd,rfl⟩:∃ wd:World,wd=wc:=⟨_,rfl⟩
   have hBW:=J hBc
   have hcs:=hBc.size
   clear hBc
   have hc1:1≤cav:=by simp at hcap;omega
   go_upto_region 5 with (fail)
   go_cut [9] (fun v wx=>TailOf wd wx b o ps.length (cav - 1) v)
   case first =>
    by_cases hca:cav=1
    ·have hp0:ps.length=0:=by simp at hcap;omega
     go_wp2_with fail
     go_meet
     exact ⟨b,o,by simp;omega,fun h=>absurd hp0 h,rfl⟩
    ·go_wp2_with fail
     go_meet
     exact ⟨b,o+8,by simp,fun h=>⟨rfl,rfl⟩,rfl⟩
   case rest =>
    obtain ⟨b',o',rfl,hbo,hwc⟩:=hcut
    subst hwc
    have hgb:=HO.out.block g rfl
    have hgw:=hgb.2
    clear hgb
    have HOc:=J (HO.out.below hBW.out)
    have HRt:=J ((HR.out.tail b' o' (fun h=>hbo (by simpa using h))).below hBW.out)
    have HBc:=J (yB HB.out (by omega) hBW.out)
    have HXc:=J (HX.out.below hBW.out)
    have HYc:=J (HY.out.below hBW.out)
    obtain ⟨hfx,hbx,hby⟩:=HSM.out (x,y) (by simp)
    simp only at hfx hbx hby
    have HFX:=J hfx
    have hBz:w.heap.size+1+1≤wc.heap.size:=by omega
    have HME:Hid (bulkQ ps < bulkQ ((x,y) :: ps)):=J (by rw [bulkQ_cons,yG x []];omega)
    have hplz:bulkQ ps≤1099511627776:=by have:=HME.out;omega
    have HPL:=J hpl
    have HSM':Hid (∀ q∈ps,Small q):=J (fun q hq=>HSM.out q (by simp [hq]))
    have hgX:g≠X:=by omega
    have hgY:g≠Y:=by omega
    clear hbo hfx hcap hpos d0 d1 d2 d3 e0 e1 e2 e3 HO HR HB hBW hc1 hpl
    by_cases h6:x.kind=6
    ·have hk6:(x.kind == 6)=true:=by simp [h6]
     have HF:=J (show fitQO ps bo=fitO p t bd by rw [←HFO.out,fitQO_yes (by rw [fitT_6 h6]),fitT_6 h6])
     clear h6
     go_wp2_with fail
     go_roundg (bulkQ ps)
     case measure=>exact HME.out
     case rel=>exact ⟨ps,bo,rfl,HRt.out,HOc.out,HLN.out,HF.out,HSM'.out,HSB.out,HBc.out,hBz,hplz⟩
    by_cases h5:x.kind=5
    ·obtain ⟨k,hk,hk4⟩:=form_var HFX.out h5
     have hkl:k < bo.length:=by rw [HLN.out];exact hk4
     obtain ⟨a',cap',_,d0,d1,d2,d3,hE⟩:=(OwnT.rsl2 HOc.out).elem k hkl
     rw [Nat.zero_add] at d0 d1 d2 d3
     have HE:=J hE;clear hE
     have hbu:=HSB.out _ (List.getElem_mem hkl)
     have HF1:=J (fun h6=>fitT_5a (t:=y) h5 hk hkl h6)
     have HF2:=J (fun h6=>fitT_5b (t:=y) h5 hk hkl h6)
     have hk6:(x.kind == 6)=false:=by simp [h5]
     have hk5:(x.kind == 5)=true:=by simp [h5]
     have hkk0:(0:Int)≤k:=by omega
     have hkk4:(k:Int) < 4:=by omega
     rw [hk] at X1
     have hfz:∀ o,wc.frozen? ⟨g,o,none⟩=false:=HOc.out.frozen
     have HOs:=fun c0 c1 c2 c3 h=>HOc.out.store (k:=k) (t:=y) (R:=S) (c0:=c0) (c1:=c1) (c2:=c2) (c3:=c3) hkl h (fun b hb _=>⟨hb,by have:=HSS.out b hb;omega⟩)
     generalize hu:bo[k]=u at *
     clear hu h5 h6
     cases hu6:(u.kind == 6)
     ·have HF3:=J (HF2.out (by simpa using hu6))
      have hgw':g < wc.heap.size:=by omega
      have HCS:=J (fun W (hW:Below wc.heap.size wc W)=>same_c u y (fun _=>True) W _ _ ((HE.out.below hW).mono fun _ _=>trivial) ((HYc.out.below hW).mono fun _ _=>trivial) hbu hby)
      go_wp2_with fail
      go_region_held3 (fun w'=>w'.cell? ⟨X,1,none⟩=some (.int .i64 k)∧w'.cell? ⟨g,k * 4,none⟩=some (.int .i64 u.kind)∧w'.cell? ⟨g,k * 4+1,none⟩=some (.int .i64 u.n)∧w'.cell? ⟨g,k * 4+2,none⟩=some (.string u.name)∧w'.cell? ⟨g,k * 4+3,none⟩=some (.slice a' u.args.length cap') ∧
        w'.cell? ⟨Y,0,none⟩=some (.int .i64 y.kind)∧w'.cell? ⟨Y,1,none⟩=some (.int .i64 y.n)∧w'.cell? ⟨Y,2,none⟩=some (.string y.name)∧w'.cell? ⟨Y,3,none⟩=some (.slice a2' y.args.length c2'))
       (go_keep)
       (first | (go_at_call 17;refine (HCS.out _ ?_).mono ?_;(repeat' (first | exact Below.refl _ _ | apply Below.drew | refine Below.alloc ?_ (by simp <;> omega) _));rintro e w1 ⟨rfl,hB1⟩;have hcc:∀ b o,b < wc.heap.size→w1.cell? ⟨b,o,none⟩=wc.cell? ⟨b,o,none⟩:=fun b o h=>hB1.cell (p:=⟨b,o,none⟩) h))
      have hs1:wc.heap.size≤w1.heap.size:=hB1.size
      have HB1:Hid (Below wc.heap.size wc w1):=J (Below.trans (B:=wc.heap.size) (Below.refl _ _).drew hB1)
      clear hcc hB1
      cases hsm:sameT u y
      ·have HF:Hid (fitO p t bd=none):=J (by rw [←HFO.out,fitQO_no (by rw [HF3.out];exact hsm)])
       go_wp2_with fail
       go_ret2
       rw [HF.out]
       exact ⟨_,rfl,yB HBc.out (by omega) HB1.out,fun h=>by cases h⟩
      ·have HF:=J (show fitQO ps bo=fitO p t bd by rw [←HFO.out,fitQO_yes (by rw [HF3.out];exact hsm),HF3.out])
       go_wp2_with fail
       go_roundg (bulkQ ps)
       case measure=>exact HME.out
       case rel=>exact ⟨ps,bo,rfl,HRt.out.below HB1.out,HOc.out.below HB1.out,HLN.out,HF.out,HSM'.out,HSB.out,yB HBc.out (by omega) HB1.out,by omega,hplz⟩
     ·have HF3:=J (HF1.out (by simpa using hu6))
      have HF:=J (show fitQO ps (bo.set k y)=fitO p t bd by rw [←HFO.out,fitQO_yes (by rw [HF3.out]),HF3.out])
      go_wp2_with fail
      go_roundg (bulkQ ps)
      case measure=>exact HME.out
      case rel =>
       refine ⟨ps,bo.set k y,rfl,?_,HOs _ _ _ _ HYc.out,by rw [List.length_set];exact HLN.out,HF.out,HSM'.out,?_,?_,by simpa using hBz,hplz⟩
       ·refine HRt.out.to (fun _ h _=>h) (fun _ h _=>h) fun b hb _=>?_
        have hne:b≠g:=by rcases hb with hb | hb;(first | exact hb.2 | (have:=HSS.out b hb;omega));(first | exact hb.2 | (have:=HSS.out b hb;omega))
        simp only [yD _ _ _ _ _ hne]
       ·intro z hz
        rcases List.mem_or_eq_of_mem_set hz with hz | rfl
        ·exact HSB.out z hz
        ·exact hby
       ·repeat refine Below.setCell ?_ (by simp <;> omega) _
        exact HBc.out
    have hk5:(x.kind == 5)=false:=by simpa using h5
    have hk6:(x.kind == 6)=false:=by simpa using h6
    by_cases h4:x.kind=4
    ·have hk4:(x.kind == 4)=true:=by simp [h4]
     by_cases hy4:y.kind=4∧x.args.length=y.args.length
     ·obtain ⟨hy4,hxy⟩:=hy4
      have hk7:(y.kind != 4)=false:=by simp [hy4]
      have hk8:((x.args.length:Int) != y.args.length)=false:=by simp [hxy]
      have HF:=J (show fitQO (x.args.zip y.args ++ ps) bo=fitO p t bd by rw [←HFO.out,fitQO_tup h4 hy4 hxy])
      have HME':=J (bulkQ_tup (p:=x) (t:=y) (ps:=ps) hxy)
      have HXY:=J hxy
      have hl1:x.args.length≤y.args.length:=by omega
      have hl2:y.args.length≤x.args.length:=by omega
      have hla:=yM x.args
      have hba:=yR x
      clear h4 h5 h6 hy4 hxy
      have HXR:Hid (RTs S wc x.args a1' 0):=J (by obtain ⟨_,_,e,_,h⟩:=HXc.out;simp only [Value.agg.injEq,Array.mk.injEq,List.cons.injEq,Value.slice.injEq,and_true,true_and] at e;obtain ⟨rfl,rfl⟩:=e;exact h)
      have HYR:Hid (RTs S wc y.args a2' 0):=J (by obtain ⟨_,_,e,_,h⟩:=HYc.out;simp only [Value.agg.injEq,Array.mk.injEq,List.cons.injEq,Value.slice.injEq,and_true,true_and] at e;obtain ⟨rfl,rfl⟩:=e;exact h)
      have hzl:(x.args.zip y.args).length=x.args.length:=by rw [List.length_zip];omega
      have HZL:=J hzl;clear hzl
      go_wp2_with fail
      go_loopw [12,13] (fun more i wr=>∃ j:Nat,j≤x.args.length∧i=.int .i64 j∧OwnP S wc.heap.size wr more ((x.args.zip y.args).take j)∧Below wc.heap.size wc wr) (fun _ i _=>x.args.length - (intOf i).toNat)
      case atStart=>exact ⟨0,Nat.zero_le _,rfl,OwnP.nil _ _ _,Below.refl _ _⟩
      case round =>
       obtain ⟨j,hjl,rfl,hM,hB⟩:=hrel
       have hsz:=hB.size
       have HM:=J hM;clear hM
       obtain ⟨hcc,-⟩:=bcell hB
       have HBr:=J (yB HBc.out (by omega) hB)
       by_cases hlt:j < x.args.length
       ·obtain ⟨b3,o3,rfl⟩:=HXR.out.addr (by omega)
        obtain ⟨b4,o4,rfl⟩:=HYR.out.addr (by omega)
        have hlt2:j < y.args.length:=by omega
        obtain ⟨a5,c5,hS5,d0,d1,d2,d3,hE⟩:=(HXR.out.below hB).elem j hlt
        obtain ⟨a6,c6,hS6,e0,e1,e2,e3,hE2⟩:=(HYR.out.below hB).elem j hlt2
        have hj0:(0:Int)≤(j:Int):=Int.natCast_nonneg _
        have hj1:(j:Int) < (x.args.length:Int):=by omega
        have hj2:(j:Int) < (y.args.length:Int):=by omega
        have HE:=J hE
        have HE2:=J hE2
        have HTK:=J (show (x.args.zip y.args).take (j+1)=(x.args.zip y.args).take j ++ [(x.args[j],y.args[j])] by rw [take_snoc' _ j (by rw [HZL.out];exact hlt)];simp)
        clear hE hE2
        generalize x.args[j]=xx at *
        generalize y.args[j]=yy at *
        obtain ⟨we,rfl⟩:∃ we:World,we=wr:=⟨_,rfl⟩
        obtain ⟨am,cm,hvm⟩:=HM.out.form
        obtain ⟨lm,hlm⟩:∃ lm:Nat,lm=((x.args.zip y.args).take j).length:=⟨_,rfl⟩
        rw [←hlm] at hvm
        subst hvm
        have HLM:=J hlm
        have hln:lm+1≤1099511627776:=by rw [hlm];simp;omega
        clear hlm
        have hmb:=HM.out.block
        have HQ:Hid (∀ (ob:Obj) (w1:World),World.grownBy ((we.alloc ob).drew) w1 (Value.slice am lm cm).ownBlock→w1.cell? ⟨X,3,none⟩=some (.slice (some ⟨b3,o3,none⟩) x.args.length c1')∧w1.cell? ⟨Y,3,none⟩=some (.slice (some ⟨b4,o4,none⟩) y.args.length c2') ∧
          w1.cell? ⟨b3,o3+j * 4,none⟩=some (.int .i64 xx.kind)∧w1.cell? ⟨b3,o3+j * 4+1,none⟩=some (.int .i64 xx.n)∧w1.cell? ⟨b3,o3+j * 4+2,none⟩=some (.string xx.name)∧w1.cell? ⟨b3,o3+j * 4+3,none⟩=some (.slice a5 xx.args.length c5) ∧
          w1.cell? ⟨b4,o4+j * 4,none⟩=some (.int .i64 yy.kind)∧w1.cell? ⟨b4,o4+j * 4+1,none⟩=some (.int .i64 yy.n)∧w1.cell? ⟨b4,o4+j * 4+2,none⟩=some (.string yy.name)∧w1.cell? ⟨b4,o4+j * 4+3,none⟩=some (.slice a6 yy.args.length c6)):=J fun ob w1 hG=>by
         have key:∀ b' o',b' < wc.heap.size→w1.cell? ⟨b',o',none⟩=we.cell? ⟨b',o',none⟩:=fun b' o' h=>by
          rw [hG.cell_far ⟨b',o',none⟩ (by simp;omega) (fun e=>by have:=(hmb b' e.symm).1;omega)]
          exact World.cell?_of_block (w:=we) (Below.heap_alloc _ _ _ (by show b' < _;omega))
         have n3:b3 < wc.heap.size:=by have:=HSS.out b3 hS5;omega
         have n4:b4 < wc.heap.size:=by have:=HSS.out b4 hS6;omega
         rw [key _ _ hXs,key _ _ hYs,key _ _ n3,key _ _ n3,key _ _ n3,key _ _ n3,key _ _ n4,key _ _ n4,key _ _ n4,key _ _ n4]
         exact ⟨(hcc _ _ hXs).trans X3,(hcc _ _ hYs).trans Y3,d0,d1,d2,d3,e0,e1,e2,e3⟩
        have HM1:=J (fun ob=>(HM.out.alloc ob).below (Below.drew (Below.refl _ _)))
        have HP1:Hid (RSlP (fun b=>b=we.heap.size) S _ [(xx,yy)] (.slice (some ⟨we.heap.size,0,none⟩) 1 1)):=J ((RSlP.one HE.out HE2.out 121).below (Below.drew (Below.refl _ _)))
        have HSB2:Hid (∀ b,S b→(Value.slice am lm cm).ownBlock≠some b):=J (fun b hb e=>by have:=(hmb b e).1;have:=HSS.out b hb;omega)
        go_wp2_with fail
        go_region_held3 (fun w'=>w'.cell? ⟨X,3,none⟩=some (.slice (some ⟨b3,o3,none⟩) x.args.length c1')∧w'.cell? ⟨Y,3,none⟩=some (.slice (some ⟨b4,o4,none⟩) y.args.length c2') ∧
          w'.cell? ⟨b3,o3+j * 4,none⟩=some (.int .i64 xx.kind)∧w'.cell? ⟨b3,o3+j * 4+1,none⟩=some (.int .i64 xx.n)∧w'.cell? ⟨b3,o3+j * 4+2,none⟩=some (.string xx.name)∧w'.cell? ⟨b3,o3+j * 4+3,none⟩=some (.slice a5 xx.args.length c5) ∧
          w'.cell? ⟨b4,o4+j * 4,none⟩=some (.int .i64 yy.kind)∧w'.cell? ⟨b4,o4+j * 4+1,none⟩=some (.int .i64 yy.n)∧w'.cell? ⟨b4,o4+j * 4+2,none⟩=some (.string yy.name)∧w'.cell? ⟨b4,o4+j * 4+3,none⟩=some (.slice a6 yy.args.length c6))
         (first | go_keep | exact HQ.out _ _ hgrow)
         ((refine step_append_pair (g0:=we.heap.size) (H:=we.heap.size+1) (base:=wc.heap.size) (v:=.slice am lm cm) _ _ (by rfl) (by rfl) (by rfl) (by rfl) (HM1.out _) HP1.out HSB2.out HLM.out.symm hln (by simp;omega) (by simp) ?_;intro gg cg w1 hown1 hgrow))
        have hgs:=hgrow.size
        have HBG:Hid (Below wc.heap.size wc w1):=J (Below.grown ((hB.alloc (by omega) _).drew) hgrow (by simp;omega) (fun b hb=>(hmb b hb).1))
        clear hgrow hcc hmb
        go_wp2_with fail
        go_roundw
        case rel=>exact ⟨j+1,by omega,by go_num,by rw [HTK.out];exact hown1,HBG.out⟩
        case measure=>simp [intOf];omega
       ·have hjj:j=x.args.length:=by omega
        subst hjj
        have hM:=HM.out
        rw [List.take_of_length_le (by rw [HZL.out];exact Nat.le_refl _)] at hM
        have HM2:=J hM;clear hM
        have hmb:=HM2.out.block
        have HR2:=J (HRt.out.below hB)
        have hln:(x.args.zip y.args).length+ps.length≤1099511627776:=by have h1:=lengthQ (x.args.zip y.args ++ ps);have h2:=HME'.out;have h3:=HPL.out;rw [List.length_append] at h1;omega
        go_wp2_with (at_builtin;refine append_pairs (base:=wc.heap.size) _ _ rfl rfl rfl rfl HM2.out HR2.out (fun b hb e=>by have:=(hmb b e).1;have:=HSS.out b hb;omega) hln (by omega) ?_;intro v9 w9 hM9 hG9 hw9;have H9:=J hM9;have G9:=J hG9;clear hM9 hG9 hw9)
        have hs9:=G9.out.size
        have hB9:=J (Below.grown hB G9.out (by omega) (fun b hb=>(hmb b hb).1))
        go_roundg (bulkQ (x.args.zip y.args ++ ps))
        case measure=>exact HME'.out
        case rel =>
         refine ⟨x.args.zip y.args ++ ps,bo,rfl,H9.out.rslp.to (fun b hb _=>?_) (fun _ h _=>h) (fun _ _ _=>rfl),HOc.out.below hB9.out,HLN.out,HF.out,?_,HSB.out,yB HBc.out (by omega) hB9.out,by omega,by have h2:=HME'.out;have h3:=HPL.out;omega⟩
         ·have:=(H9.out.block b hb).1
          exact ⟨by omega,by omega⟩
         ·intro q hq
          rcases List.mem_append.1 hq with hq | hq
          ·have h1:=(List.of_mem_zip hq).1
           have h2:=(List.of_mem_zip hq).2
           have h3:=bulk_mem h1
           have h4:=bulk_mem h2
           have h5:=yR y
           exact ⟨form_args HFX.out h1,by omega,by omega⟩
          ·exact HSM'.out q hq
     ·have HF:Hid (fitO p t bd=none):=J (by rw [←HFO.out,fitQO_no (by rw [fitT_4b h4 hy4])])
      by_cases hy5:y.kind=4
      ·have hk7:(y.kind != 4)=false:=by simp [hy5]
       have hk8:((x.args.length:Int) != y.args.length)=true:=by simp;intro h;exact hy4 ⟨hy5,by omega⟩
       clear h4 h5 h6 hy4 hy5
       go_wp2_with fail
       go_ret2
       rw [HF.out]
       exact ⟨_,rfl,HBc.out,fun h=>by cases h⟩
      ·have hk7:(y.kind != 4)=true:=by simpa using hy5
       clear h4 h5 h6 hy4 hy5
       go_wp2_with fail
       go_ret2
       rw [HF.out]
       exact ⟨_,rfl,HBc.out,fun h=>by cases h⟩
    ·have hk4:(x.kind == 4)=false:=by simpa using h4
     have HF3:=J (fitT_o (p:=x) (t:=y) (b:=bo) h4 h5 h6)
     clear h4 h5 h6
     go_wp2_with fail
     refine (same_c x y (fun _=>True) _ _ _ (HXc.out.mono fun _ _=>trivial) (HYc.out.mono fun _ _=>trivial) hbx hby).mono ?_
     rintro e w1 ⟨rfl,hB1⟩
     have hs1:wc.heap.size≤w1.heap.size:=hB1.size
     have HB1:Hid (Below wc.heap.size wc w1):=J hB1
     clear hB1
     cases hsm:sameT x y
     ·have HF:Hid (fitO p t bd=none):=J (by rw [←HFO.out,fitQO_no (by rw [HF3.out];exact hsm)])
      go_wp2_with fail
      go_ret2
      rw [HF.out]
      exact ⟨_,rfl,yB HBc.out (by omega) HB1.out,fun h=>by cases h⟩
     ·have HF:=J (show fitQO ps bo=fitO p t bd by rw [←HFO.out,fitQO_yes (by rw [HF3.out];exact hsm),HF3.out])
      go_wp2_with fail
      go_roundg (bulkQ ps)
      case measure=>exact HME.out
      case rel=>exact ⟨ps,bo,rfl,HRt.out.below HB1.out,HOc.out.below HB1.out,HLN.out,HF.out,HSM'.out,HSB.out,yB HBc.out (by omega) HB1.out,by omega,hplz⟩
section
variable {P:Program} {ops:Array Oper} {Q:Exit→Act→World→Prop} {S:World→Prop} {fuel:Nat} {listed:Array Bool} {a:Act} {w:World} {i:Nat} {oi:Oper} {tl:List Oper}
theorem rg_at {ops:Array Oper} {i:Nat} {oi:Oper} {tl:List Oper} (h:ops.toList.drop i=oi :: tl):ops[i]?=some oi:=by
 have h1:(ops.toList.drop i)[0]?=some oi:=by rw [h];rfl
 rw [List.getElem?_drop] at h1
 simpa using h1
theorem yK (S:World→Prop) {id:Nat} (hm:P.follows .mixedOrders=true) (hS:∀ Wd,Below w.heap.size w Wd→S Wd)
  (h:∀ Wd,Below w.heap.size w Wd→w.heap.size≤Wd.heap.size→Wd.heap.size≤w.heap.size→S Wd→wpAnyH P .any ops (NoPanic Q) S ops.size (Array.replicate ops.size false) a Wd):(Code.region id ops true).wp P Q a w :=
 wp_region_noPanic (wp_region_held hm (h w.drew (Below.refl _ _).drew (Nat.le_refl _) (Nat.le_refl _) (hS _ (Below.refl _ _).drew)))
theorem rg_take (v:Value) (hi:ops.toList.drop i=oi :: tl) (hs:Region.noSelect ops=true) (hf:Region.free .any ops listed i=true) (hr:(Region.ready .any ops listed).contains i=true)
  (hw:Region.wanted oi (yielded ops a.tmps)=true) (hy:∀ w,S w→(execOp a.eval oi).run P w=.ok (.value v) w) (hS:S w)
  (h:wpAnyH P .any ops (NoPanic Q) S fuel (listed.setIfInBounds i true) (a.put oi.dst v) w):wpAnyH P .any ops (NoPanic Q) S (fuel+1) listed a w :=
 wpAnyH_take (rg_at hi) hs hf hr (fun _ _ _ h=>h) (.inl ⟨hw,hy⟩) hS h
theorem rg_off (hi:ops.toList.drop i=oi :: tl) (hs:Region.noSelect ops=true) (hf:Region.free .any ops listed i=true) (hr:(Region.ready .any ops listed).contains i=true)
  (hw:Region.wanted oi (yielded ops a.tmps)=false) (hS:S w)
  (h:wpAnyH P .any ops (NoPanic Q) S fuel (listed.setIfInBounds i true) (a.put oi.dst undef) w):wpAnyH P .any ops (NoPanic Q) S (fuel+1) listed a w :=
 wpAnyH_take (rg_at hi) hs hf hr (fun _ _ _ h=>h) (.inr ⟨hw,rfl⟩) hS h
theorem rg_only (hi:ops.toList.drop i=oi :: tl) (hr:Region.ready .any ops listed=[i]) (hw:Region.wanted oi (yielded ops a.tmps)=true)
  (h:∀ K:Act→World→Prop,Hid (∀ a' w',S w'→(S w'→wpAnyH P .any ops (NoPanic Q) S fuel (listed.setIfInBounds i true) a' w')→K a' w')→Oper.wp P oi a w K (NoPanic Q)):wpAnyH P .any ops (NoPanic Q) S (fuel+1) listed a w:=by
 refine wpAnyH_all hr (by simp) fun j hj=>?_
 obtain rfl:j=i:=by simpa using hj
 unfold wpOp
 simp only [rg_at hi,hw,if_true]
 exact .inl (h _ (J fun a' w' h1 h2=>⟨h1,h2 h1⟩))
theorem rg_two {j:Nat} {oj:Oper} {tlj:List Oper} (hi:ops.toList.drop i=oi :: tl) (hj:ops.toList.drop j=oj :: tlj) (hr:Region.ready .any ops listed=[i,j]) (hw:Region.wanted oi (yielded ops a.tmps)=true) (hwj:Region.wanted oj (yielded ops a.tmps)=true)
  (h:∀ K:Act→World→Prop,Hid (∀ a' w',S w'→(S w'→wpAnyH P .any ops (NoPanic Q) S fuel (listed.setIfInBounds i true) a' w')→K a' w')→Oper.wp P oi a w K (NoPanic Q))
  (h':∀ K:Act→World→Prop,Hid (∀ a' w',S w'→(S w'→wpAnyH P .any ops (NoPanic Q) S fuel (listed.setIfInBounds j true) a' w')→K a' w')→Oper.wp P oj a w K (NoPanic Q)):wpAnyH P .any ops (NoPanic Q) S (fuel+1) listed a w:=by
 refine wpAnyH_all hr (by simp) fun m hm=>?_
 simp only [List.mem_cons,List.not_mem_nil,or_false] at hm
 rcases hm with rfl | rfl
 ·unfold wpOp
  simp only [rg_at hi,hw,if_true]
  exact .inl (h _ (J fun a' w' h1 h2=>⟨h1,h2 h1⟩))
 unfold wpOp
 simp only [rg_at hj,hwj,if_true]
 exact .inl (h' _ (J fun a' w' h1 h2=>⟨h1,h2 h1⟩))
theorem rg_done (hr:Region.ready .any ops listed=[]) (h:Q .normal a w):wpAnyH P .any ops (NoPanic Q) S fuel listed a w:=wpAnyH_done hr (NoPanic.normal h) fuel
theorem rgT (i:Nat) (v:Value) {oi:Oper} {tl:List Oper} {l':Array Bool} {a':Act} (hS:S w) (h:wpAnyH P .any ops (NoPanic Q) S fuel l' a' w)
  (hi:ops.toList.drop i=oi :: tl:=by exact rfl) (hc:(Region.noSelect ops && Region.free .any ops listed i && (Region.ready .any ops listed).contains i)=true:=by as_aux_lemma=>kernel_rfl)
  (hw:Region.wanted oi (yielded ops a.tmps)=true:=by rfl) (hy:∀ w,S w→(execOp a.eval oi).run P w=.ok (.value v) w:=by intro w hSw;(try dsimp only at hSw);go_simp;try (with_reducible rfl))
  (hl:listed.setIfInBounds i true=l':=by (try simp only [pA,pB,pC]) <;> exact rfl) (ha:a.put oi.dst v=a':=by (try simp only [Act.put,pA,pB,pC]) <;> exact rfl):wpAnyH P .any ops (NoPanic Q) S (fuel+1) listed a w:=by
 simp only [Bool.and_eq_true] at hc
 subst hl ha
 exact rg_take v hi hc.1.1 hc.1.2 hc.2 hw hy hS h
theorem rgN (i:Nat) {oi:Oper} {tl:List Oper} {l':Array Bool} {a':Act} (hS:S w) (h:wpAnyH P .any ops (NoPanic Q) S fuel l' a' w)
  (hi:ops.toList.drop i=oi :: tl:=by exact rfl) (hc:(Region.noSelect ops && Region.free .any ops listed i && (Region.ready .any ops listed).contains i)=true:=by as_aux_lemma=>kernel_rfl)
  (hw:Region.wanted oi (yielded ops a.tmps)=false:=by rfl) (hl:listed.setIfInBounds i true=l':=by (try simp only [pA,pB,pC]) <;> exact rfl) (ha:a.put oi.dst undef=a':=by (try simp only [Act.put,pA,pB,pC]) <;> exact rfl):wpAnyH P .any ops (NoPanic Q) S (fuel+1) listed a w:=by
 simp only [Bool.and_eq_true] at hc
 subst hl ha
 exact rg_off hi hc.1.1 hc.1.2 hc.2 hw hS h
theorem rgO (i:Nat) {oi:Oper} {tl:List Oper} {l':Array Bool} (h:∀ K:Act→World→Prop,Hid (∀ a' w',S w'→(S w'→wpAnyH P .any ops (NoPanic Q) S fuel l' a' w')→K a' w')→Oper.wp P oi a w K (NoPanic Q))
  (hi:ops.toList.drop i=oi :: tl:=by exact rfl) (hr:Region.ready .any ops listed=[i]:=by as_aux_lemma=>kernel_rfl) (hw:Region.wanted oi (yielded ops a.tmps)=true:=by rfl) (hl:listed.setIfInBounds i true=l':=by (try simp only [pA,pB,pC]) <;> exact rfl):wpAnyH P .any ops (NoPanic Q) S (fuel+1) listed a w:=by
 subst hl
 exact rg_only hi hr hw h
theorem rgW (i j:Nat) {oi oj:Oper} {tl tlj:List Oper} {l' m':Array Bool}
  (h:∀ K:Act→World→Prop,Hid (∀ a' w',S w'→(S w'→wpAnyH P .any ops (NoPanic Q) S fuel l' a' w')→K a' w')→Oper.wp P oi a w K (NoPanic Q))
  (h':∀ K:Act→World→Prop,Hid (∀ a' w',S w'→(S w'→wpAnyH P .any ops (NoPanic Q) S fuel m' a' w')→K a' w')→Oper.wp P oj a w K (NoPanic Q))
  (hi:ops.toList.drop i=oi :: tl:=by exact rfl) (hj:ops.toList.drop j=oj :: tlj:=by exact rfl) (hr:Region.ready .any ops listed=[i,j]:=by as_aux_lemma=>kernel_rfl) (hw:Region.wanted oi (yielded ops a.tmps)=true:=by rfl) (hwj:Region.wanted oj (yielded ops a.tmps)=true:=by rfl)
  (hl:listed.setIfInBounds i true=l':=by (try simp only [pA,pB,pC]) <;> exact rfl) (hm:listed.setIfInBounds j true=m':=by (try simp only [pA,pB,pC]) <;> exact rfl):wpAnyH P .any ops (NoPanic Q) S (fuel+1) listed a w:=by
 subst hl hm
 exact rg_two hi hj hr hw hwj h h'
theorem rgD (h:Q .normal a w) (hr:Region.ready .any ops listed=[]:=by as_aux_lemma=>kernel_rfl):wpAnyH P .any ops (NoPanic Q) S fuel listed a w:=rg_done hr h
end
section
variable {o:Oper} {a:Act} {Q:Exit→Act→World→Prop} {K:Act→World→Prop} {w:World}
theorem wp_store_blk (ty:TypeId) (k:Nat) (hi:(Tryz.prog.info? ty).map (·.size)=some k) (x y:Operand) (ho:o.op=.store ty x y) (hd:o.dst=none)
  {B:Nat} {old:List Value} {cells:Array Value} (hx:a.eval x=.pointer (some ⟨B,0,none⟩)) (hy:a.eval y=.agg cells) (hB:Blk w B old) (hl:old.length=k) (hc:cells.size=k) (h1:cells.toList.all (·.oneCell')=true)
  (h:∀ w',Blk w' B cells.toList→w'.heap.size=w.heap.size→(∀ N a,N≤B→Below N a w→Below N a w')→(∀ b,b≠B→w'.heap[b]?=w.heap[b]?)→K a w') :
  Oper.wp Tryz.prog o a w K Q:=by
 have hk:old.length=cells.size:=by omega
 refine wp_store_mid ty x y ho B 0 cells hx hy (by rw [←hk];exact hB.there) (by rw [hi,hc]) (by rw [←Array.all_toList];exact h1) ?_
 rw [hd,setCells_all]
 have hs:=setAll_heap w B cells.toList 0
 exact h _ (hB.stored _ (by simpa using hk.symm)) hs.1 (fun N a hN hb=>setAll_below hb B hN _ _) hs.2
theorem wp_growX {X:Type} {E:El X} (F:ElT E) (s x:Operand) (hgd:o.guard=none) (ho:o.op=.call { callee:=.builtin .append,args:=#[s,x],argTypes:=#[F.sl,F.sl] })
  {P R:Nat→Prop} {base:Nat} {w0:World} {v:Value} {xs:List X} {y:X} {c:Array Value} {g0 n:Nat} (hs:a.eval s=v) (hx:a.eval x=.slice (some ⟨g0,0,none⟩) 1 1) (hg0:g0=w0.heap.size) (hown:OwnXG E F.e P base w0 v xs)
  (ht:E.C R w0 y c.toList) (hR:∀ b,R b→b < w0.heap.size→P b∧v.ownBlock≠some b) (hnl:xs.length=n) (hn:n+1≤274877906944) (hbase:base≤w0.heap.size)
  (h:∀ g cap w',OwnXG E F.e P base w' (.slice (some ⟨g,0,none⟩) (n+1) cap) (xs ++ [y])→Below base w0 w'→(w0.alloc (.cells c F.e)).grownBy w' v.ownBlock→(v.ownBlock=some g∨w0.heap.size < g)→K (a.put o.dst (.slice (some ⟨g,0,none⟩) (n+1) cap)) w') :
  Oper.wp Tryz.prog o a (w0.alloc (.cells c F.e)) K Q:=by
 have h1:=step_growX (ops:=#[]) (Q:=Q) (W:=True) F s x hgd ho hs hx hg0 hown ht hR hnl hn hbase h
 rwa [if_pos (by simp [Region.wanted,hgd])] at h1
end
section
variable {o:Oper} {a:Act} {Q:Exit→Act→World→Prop} {K:Act→World→Prop} {w:World}
theorem build1 (x0:Operand) (ho:o.op=.buildSlice 23 1 #[(0,x0)]) {c00 c01 c02 c03:Value} (h0:a.eval x0=.agg #[c00,c01,c02,c03])
  (h:K (a.put o.dst (.slice (some ⟨w.heap.size,0,none⟩) 1 1)) (w.alloc (.cells #[c00,c01,c02,c03] 25))):Oper.wp Tryz.prog o a w K Q:=by
 obtain ⟨i,hi,hz,hs,hb⟩:=info_parts info25
 refine wp_buildSlice 23 25 1 _ ho #[c00,c01,c02,c03] i _ Tryz.underlying23 hi hz (by rw [hs];decide) (by rw [hs];decide) ?_ h
 rw [hs]
 have e:=Great.fill_whole (s:=4) (by decide) [.agg #[c00,c01,c02,c03]] ((Array.range (1 * 4)).map ((Value.agg #[.int .i64 0,.int .i64 0,.string ⟨#[]⟩,.slice none 0 0]).cells[· % (Value.agg #[.int .i64 0,.int .i64 0,.string ⟨#[]⟩,.slice none 0 0]).cells.size]!)) (by simp [Value.cells]) (by simp)
 simp only [Array.toList_map,List.map_cons,List.map_nil,h0]
 exact e
theorem build2 (x0 x1:Operand) (ho:o.op=.buildSlice 23 2 #[(0,x0),(1,x1)]) {c00 c01 c02 c03 c10 c11 c12 c13:Value} (h0:a.eval x0=.agg #[c00,c01,c02,c03]) (h1:a.eval x1=.agg #[c10,c11,c12,c13])
  (h:K (a.put o.dst (.slice (some ⟨w.heap.size,0,none⟩) 2 2)) (w.alloc (.cells #[c00,c01,c02,c03,c10,c11,c12,c13] 25))):Oper.wp Tryz.prog o a w K Q:=by
 obtain ⟨i,hi,hz,hs,hb⟩:=info_parts info25
 refine wp_buildSlice 23 25 2 _ ho #[c00,c01,c02,c03,c10,c11,c12,c13] i _ Tryz.underlying23 hi hz (by rw [hs];decide) (by rw [hs];decide) ?_ h
 rw [hs]
 have e:=Great.fill_whole (s:=4) (by decide) [.agg #[c00,c01,c02,c03],.agg #[c10,c11,c12,c13]] ((Array.range (2 * 4)).map ((Value.agg #[.int .i64 0,.int .i64 0,.string ⟨#[]⟩,.slice none 0 0]).cells[· % (Value.agg #[.int .i64 0,.int .i64 0,.string ⟨#[]⟩,.slice none 0 0]).cells.size]!)) (by simp [Value.cells]) (by simp)
 simp only [Array.toList_map,List.map_cons,List.map_nil,h0,h1]
 exact e
theorem build3 (x0 x1 x2:Operand) (ho:o.op=.buildSlice 23 3 #[(0,x0),(1,x1),(2,x2)]) {c00 c01 c02 c03 c10 c11 c12 c13 c20 c21 c22 c23:Value} (h0:a.eval x0=.agg #[c00,c01,c02,c03]) (h1:a.eval x1=.agg #[c10,c11,c12,c13]) (h2:a.eval x2=.agg #[c20,c21,c22,c23])
  (h:K (a.put o.dst (.slice (some ⟨w.heap.size,0,none⟩) 3 3)) (w.alloc (.cells #[c00,c01,c02,c03,c10,c11,c12,c13,c20,c21,c22,c23] 25))):Oper.wp Tryz.prog o a w K Q:=by
 obtain ⟨i,hi,hz,hs,hb⟩:=info_parts info25
 refine wp_buildSlice 23 25 3 _ ho #[c00,c01,c02,c03,c10,c11,c12,c13,c20,c21,c22,c23] i _ Tryz.underlying23 hi hz (by rw [hs];decide) (by rw [hs];decide) ?_ h
 rw [hs]
 have e:=Great.fill_whole (s:=4) (by decide) [.agg #[c00,c01,c02,c03],.agg #[c10,c11,c12,c13],.agg #[c20,c21,c22,c23]] ((Array.range (3 * 4)).map ((Value.agg #[.int .i64 0,.int .i64 0,.string ⟨#[]⟩,.slice none 0 0]).cells[· % (Value.agg #[.int .i64 0,.int .i64 0,.string ⟨#[]⟩,.slice none 0 0]).cells.size]!)) (by simp [Value.cells]) (by simp)
 simp only [Array.toList_map,List.map_cons,List.map_nil,h0,h1,h2]
 exact e
theorem build4 (x0 x1 x2 x3:Operand) (ho:o.op=.buildSlice 23 4 #[(0,x0),(1,x1),(2,x2),(3,x3)]) {c00 c01 c02 c03 c10 c11 c12 c13 c20 c21 c22 c23 c30 c31 c32 c33:Value} (h0:a.eval x0=.agg #[c00,c01,c02,c03]) (h1:a.eval x1=.agg #[c10,c11,c12,c13]) (h2:a.eval x2=.agg #[c20,c21,c22,c23]) (h3:a.eval x3=.agg #[c30,c31,c32,c33])
  (h:K (a.put o.dst (.slice (some ⟨w.heap.size,0,none⟩) 4 4)) (w.alloc (.cells #[c00,c01,c02,c03,c10,c11,c12,c13,c20,c21,c22,c23,c30,c31,c32,c33] 25))):Oper.wp Tryz.prog o a w K Q:=by
 obtain ⟨i,hi,hz,hs,hb⟩:=info_parts info25
 refine wp_buildSlice 23 25 4 _ ho #[c00,c01,c02,c03,c10,c11,c12,c13,c20,c21,c22,c23,c30,c31,c32,c33] i _ Tryz.underlying23 hi hz (by rw [hs];decide) (by rw [hs];decide) ?_ h
 rw [hs]
 have e:=Great.fill_whole (s:=4) (by decide) [.agg #[c00,c01,c02,c03],.agg #[c10,c11,c12,c13],.agg #[c20,c21,c22,c23],.agg #[c30,c31,c32,c33]] ((Array.range (4 * 4)).map ((Value.agg #[.int .i64 0,.int .i64 0,.string ⟨#[]⟩,.slice none 0 0]).cells[· % (Value.agg #[.int .i64 0,.int .i64 0,.string ⟨#[]⟩,.slice none 0 0]).cells.size]!)) (by simp [Value.cells]) (by simp)
 simp only [Array.toList_map,List.map_cons,List.map_nil,h0,h1,h2,h3]
 exact e
theorem build5 (x0 x1 x2 x3 x4:Operand) (ho:o.op=.buildSlice 23 5 #[(0,x0),(1,x1),(2,x2),(3,x3),(4,x4)]) {c00 c01 c02 c03 c10 c11 c12 c13 c20 c21 c22 c23 c30 c31 c32 c33 c40 c41 c42 c43:Value} (h0:a.eval x0=.agg #[c00,c01,c02,c03]) (h1:a.eval x1=.agg #[c10,c11,c12,c13]) (h2:a.eval x2=.agg #[c20,c21,c22,c23]) (h3:a.eval x3=.agg #[c30,c31,c32,c33]) (h4:a.eval x4=.agg #[c40,c41,c42,c43])
  (h:K (a.put o.dst (.slice (some ⟨w.heap.size,0,none⟩) 5 5)) (w.alloc (.cells #[c00,c01,c02,c03,c10,c11,c12,c13,c20,c21,c22,c23,c30,c31,c32,c33,c40,c41,c42,c43] 25))):Oper.wp Tryz.prog o a w K Q:=by
 obtain ⟨i,hi,hz,hs,hb⟩:=info_parts info25
 refine wp_buildSlice 23 25 5 _ ho #[c00,c01,c02,c03,c10,c11,c12,c13,c20,c21,c22,c23,c30,c31,c32,c33,c40,c41,c42,c43] i _ Tryz.underlying23 hi hz (by rw [hs];decide) (by rw [hs];decide) ?_ h
 rw [hs]
 have e:=Great.fill_whole (s:=4) (by decide) [.agg #[c00,c01,c02,c03],.agg #[c10,c11,c12,c13],.agg #[c20,c21,c22,c23],.agg #[c30,c31,c32,c33],.agg #[c40,c41,c42,c43]] ((Array.range (5 * 4)).map ((Value.agg #[.int .i64 0,.int .i64 0,.string ⟨#[]⟩,.slice none 0 0]).cells[· % (Value.agg #[.int .i64 0,.int .i64 0,.string ⟨#[]⟩,.slice none 0 0]).cells.size]!)) (by simp [Value.cells]) (by simp)
 simp only [Array.toList_map,List.map_cons,List.map_nil,h0,h1,h2,h3,h4]
 exact e
end
theorem named1_c (s nm:ByteArray) (a:Option Addr) (n cap:Nat) (g:Nat) (w:World) (h:w.cell? ⟨g,0,none⟩=some (.string s)) :
  Calls Tryz.prog 63 #[.agg #[.string nm,.slice a n cap],.pointer (some ⟨g,0,none⟩)] w fun e w'=>e=.returned (.bool (nm.toList == s.toList))∧Below w.heap.size w w':=by
 have hl:=World.block_lt_of_cell? w _ h
 go_enter Tryz.func63,Tryz.ntmps63
 go_wp2_with fail
 go_ret
 exact ⟨rfl,yA _ _⟩
def namedI (s:ByteArray):List Behv→Int
 | []=>-1
 | b :: l=>if b.name.toList == s.toList then 0 else (if namedI s l < 0 then -1 else namedI s l+1)
theorem namedI_none (s:ByteArray):∀ l:List Behv,(∀ j (h:j < l.length),(l[j].name.toList == s.toList)=false)→namedI s l = -1
 | [],_=>rfl
 | b :: l,h=>by
  have h0:(b.name.toList == s.toList)=false:=h 0 (by simp)
  have h1:=namedI_none s l fun j hj=>h (j+1) (Nat.succ_lt_succ hj)
  unfold namedI
  rw [h0,h1];rfl
theorem namedI_some (s:ByteArray):∀ (l:List Behv) (k:Nat) (hk:k < l.length),(∀ j (h:j < l.length),j < k→(l[j].name.toList == s.toList)=false)→(l[k].name.toList == s.toList)=true→namedI s l=k
 | b :: l,0,_,_,h=>by
  have h0:(b.name.toList == s.toList)=true:=h
  unfold namedI
  rw [h0];rfl
 | b :: l,k+1,hk,hn,h=>by
  have h0:(b.name.toList == s.toList)=false:=hn 0 (by simp) (by omega)
  have h1:=namedI_some s l k (by simpa using hk) (fun j hj hjk=>hn (j+1) (Nat.succ_lt_succ hj) (by omega)) h
  unfold namedI
  rw [h0,h1,if_neg (by simp),if_neg (by omega)];omega
theorem indexB_c (l:List Behv) (s:ByteArray) (S:Nat→Prop) (a:Option Addr) (cap:Nat) (g:Nat) (w:World) (hv:RX behvE S S w l (.slice a l.length cap)) (h:w.cell? ⟨g,0,none⟩=some (.string s)) (hl:l.length≤1099511627776) :
  Calls Tryz.prog 62 #[.slice a l.length cap,.func (.func 63) #[] #[.pointer (some ⟨g,0,none⟩)]] w fun e w'=>e=.returned (.int .i64 (namedI s l))∧Below w.heap.size w w':=by
 have HV:=J hv
 have HC:=J h
 clear hv h
 go_enter Tryz.func62,Tryz.ntmps62
 go_wp2_with fail
 go_loopw [8] (fun i wr=>∃ k:Nat,k≤l.length∧i=.int .i64 (k:Int)∧Below w.heap.size w wr∧∀ j (h:j < l.length),j < k→(l[j].name.toList == s.toList)=false) (fun i _=>l.length - (intOf i).toNat)
 case atStart=>exact ⟨0,Nat.zero_le _,rfl,Below.refl _ _,fun j _ h=>absurd h (Nat.not_lt_zero _)⟩
 obtain ⟨k,hk,rfl,hB,hN⟩:=hrel
 have HB:=J hB;have HN:=J hN
 clear hB hN
 by_cases hlt:k < l.length
 ·obtain ⟨b,o,rfl⟩:=HV.out.addr (by decide) (by omega)
  obtain ⟨c,⟨ac,pc,rfl,-⟩,hc2⟩:=HV.out.elem k hlt
  have x0:=(HB.out.cell (World.block_lt_of_cell? _ _ (hc2 0 _ rfl).2)).trans (hc2 0 _ rfl).2
  have x1:=(HB.out.cell (World.block_lt_of_cell? _ _ (hc2 1 _ rfl).2)).trans (hc2 1 _ rfl).2
  obtain ⟨bh,hbh⟩:∃ bh,bh=l[k]:=⟨_,rfl⟩
  rw [←hbh] at x0 x1
  have x0:wr.cell? ⟨b,o+k * 2,none⟩=some (.string bh.name):=x0
  have x1:wr.cell? ⟨b,o+k * 2+1,none⟩=some (.slice ac bh.clauses.length pc):=x1
  have HBH:=J hbh
  clear hc2 hbh
  go_wp2_with fail
  refine (named1_c s bh.name ac bh.clauses.length pc g wr ((HB.out.cell (World.block_lt_of_cell? _ _ HC.out)).trans HC.out)).mono ?_
  rintro e w1 ⟨rfl,hB1⟩
  have HB1:Hid (Below w.heap.size w w1):=J (yB HB.out HB.out.size hB1)
  clear hB1 x0 x1
  cases hq:(bh.name.toList == s.toList)
  ·have HQ:=J hq
   clear hq
   go_wp2_with fail
   go_roundw
   case rel=>exact ⟨k+1,by omega,by go_num,HB1.out,fun j hj hjk=>by
    rcases Nat.lt_or_ge j k with h | h
    ·exact HN.out j hj h
    ·obtain rfl:j=k:=by omega
     rw [←HBH.out];exact HQ.out⟩
   case measure=>simp [intOf];omega
  have HI:Hid (namedI s l=k):=J (namedI_some s l k hlt HN.out (by rw [←HBH.out];exact hq))
  clear hq
  go_wp2_with fail
  go_ret
  exact ⟨by rw [HI.out];rfl,HB1.out⟩
 have hk2:k=l.length:=by omega
 have HI:Hid (namedI s l = -1):=J (namedI_none s l fun j hj=>HN.out j hj (by omega))
 subst hk2
 go_wp2_with fail
 go_ret
 exact ⟨by rw [HI.out];rfl,HB.out⟩
theorem szBehN:(Tryz.prog.info? 79).map (·.size)=some 2:=by kernel_rfl
theorem namedI_cases (s:ByteArray):∀ l:List Behv,namedI s l = -1∨∃ k:Nat,namedI s l=k∧k < l.length
 | []=>.inl rfl
 | b :: l=>by
  unfold namedI
  by_cases h:(b.name.toList == s.toList)=true
  ·rw [if_pos h];exact .inr ⟨0,rfl,by simp⟩
  ·rw [if_neg h]
   rcases namedI_cases s l with h1 | ⟨k,h1,h2⟩
   ·rw [h1];exact .inl rfl
   ·rw [h1,if_neg (by omega)];exact .inr ⟨k+1,by omega,Nat.succ_lt_succ h2⟩
def NamedP (S:Nat→Prop) (w:World) (l:List Behv) (s:ByteArray) (e:Ending) (w':World):Prop :=
 Below w.heap.size w w'∧((namedI s l = -1∧e=.returned (.tuple #[.agg #[.string ⟨#[]⟩,.slice none 0 0],.bool false])) ∨
  ∃ (k:Nat) (hk:k < l.length) (a:Option Addr) (p:Nat),namedI s l=k∧e=.returned (.tuple #[.agg #[.string l[k].name,.slice a l[k].clauses.length p],.bool true])∧RX clauE S S w' l[k].clauses (.slice a l[k].clauses.length p))
theorem named_c (l:List Behv) (s:ByteArray) (S:Nat→Prop) (a:Option Addr) (cap:Nat) (w:World) (hv:RX behvE S S w l (.slice a l.length cap)) (hS:∀ b,S b→b < w.heap.size) (hl:l.length≤1099511627776) :
  Calls Tryz.prog 36 #[.slice a l.length cap,.string s] w (NamedP S w l s):=by
 obtain ⟨W0,hW0⟩:=I ((w.alloc (.cells #[.string s] 9)).alloc (.cells #[.string ⟨#[]⟩,.slice none 0 0] 79))
 obtain ⟨g3,hg3⟩:=I (w.heap.size)
 obtain ⟨g4,hg4⟩:=I (w.heap.size+1)
 have HB0:Hid (Below w.heap.size w W0):=J (by rw [hW0];exact (yA _ _).trans ((yA _ _).mono (by simp)))
 have HX3:Hid (Blk W0 g3 [.string s]):=J (by rw [hW0,hg3];exact (Blk.new _ _ _ _ rfl).alloc _)
 have HX4:Hid (Blk W0 g4 [.string ⟨#[]⟩,.slice none 0 0]):=J (by rw [hW0];exact Blk.new _ _ _ _ (by rw [hg4];simp))
 have hs0:W0.heap.size=w.heap.size+2:=by rw [hW0];simp
 have HV0:Hid (RX behvE S S W0 l (.slice a l.length cap)):=J (hv.to (fun _ h _=>h) (fun _ h _=>h) fun b hb hl=>HB0.out.block b hl)
 have HG:Hid (g3=w.heap.size∧g4=w.heap.size+1∧W0.heap.size=w.heap.size+2):=J ⟨hg3,hg4,hs0⟩
 have HSS:=J hS
 clear hv hS
 go_enter Tryz.func36,Tryz.ntmps36
 go_upto_region 1 with fail
 rw [←hW0,←hg4,←hg3]
 clear hW0 hg3 hg4
 go_wp2_with fail
 refine (indexB_c l s S a cap g3 W0 HV0.out (HX3.out.cell 0 _ rfl) hl).mono ?_
 rintro e w1 ⟨rfl,hB1⟩
 have HB1:=J hB1
 have HX41:Hid (Blk w1 g4 [.string ⟨#[]⟩,.slice none 0 0]):=J (HX4.out.step hB1)
 clear hB1
 rcases namedI_cases s l with hn | ⟨k,hk,hkl⟩
 ·have HN:=J hn
  rw [hn]
  clear hn
  go_wp2_with (first | (refine yI 79 2 szBehN _ _ rfl rfl rfl rfl rfl HX41.out rfl rfl rfl ?_;intro W3 hF3 hs3 hBW3 hoth3;have HF3:=J hF3;have HBW3:=J hBW3;have HO3:=J hoth3;clear hF3 hs3 hBW3 hoth3))
  refine bodyPost_ret (yH Tryz.results36 szBehN _ Tryz.underlying79 rfl rfl HF3.out rfl) rfl ⟨HBW3.out _ _ (by have:=HG.out;omega) (HB0.out.trans (HB1.out.mono (by omega))),.inl ⟨HN.out,rfl⟩⟩
 have HN:=J hk
 rw [hk]
 clear hk
 obtain ⟨b,o,rfl⟩:=HV0.out.addr (by decide) (by omega)
 obtain ⟨c,⟨ac,pc,rfl,hr⟩,hc2⟩:=HV0.out.elem k hkl
 have x0:w1.cell? ⟨b,o+k * 2,none⟩=some (.string l[k].name):=(HB1.out.cell (World.block_lt_of_cell? _ _ (hc2 0 _ rfl).2)).trans (hc2 0 _ rfl).2
 have x1:w1.cell? ⟨b,o+k * 2+1,none⟩=some (.slice ac l[k].clauses.length pc):=(HB1.out.cell (World.block_lt_of_cell? _ _ (hc2 1 _ rfl).2)).trans (hc2 1 _ rfl).2
 have HRR:=J hr
 obtain ⟨bh,hbh⟩:∃ bh,bh=l[k]:=⟨_,rfl⟩
 rw [←hbh] at x0 x1 HRR
 have HBH:=J hbh
 have qk:(k:Int) < (l.length:Int):=by omega
 have qk0:¬(k:Int) < 0:=by omega
 clear hc2 hr hbh
 go_wp2_with (first | (refine yI 79 2 szBehN _ _ rfl rfl rfl rfl rfl HX41.out rfl rfl rfl ?_;intro W3 hF3 hs3 hBW3 hoth3;have HF3:=J hF3;have HBW3:=J hBW3;have HO3:=J hoth3;clear hF3 hs3 hBW3 hoth3))
 refine bodyPost_ret (yH Tryz.results36 szBehN _ Tryz.underlying79 rfl rfl HF3.out rfl) rfl ⟨HBW3.out _ _ (by have:=HG.out;omega) (HB0.out.trans (HB1.out.mono (by omega))),.inr ⟨k,hkl,ac,pc,HN.out,by rw [←HBH.out];rfl,?_⟩⟩
 rw [←HBH.out]
 exact HRR.out.to (fun _ h _=>h) (fun _ h _=>h) fun b hb hl=>by
  have hb':=HSS.out b (hb.elim id id)
  have:=HG.out
  exact (HO3.out b (by omega)).trans (HB1.out.block b hl)
theorem rnamed_c (l:List Behv) (s:ByteArray) (S:Nat→Prop) (a:Option Addr) (cap:Nat) (w:World) (hv:RX behvE S S w l (.slice a l.length cap)) (hl:l.length≤1099511627776) :
  Calls Tryz.prog 32 #[.slice a l.length cap,.string s] w fun e w'=>e=.returned (.int .i64 (namedI s l))∧w'=w:=by
 have HV:=J hv
 clear hv
 go_enter Tryz.func32,Tryz.ntmps32
 go_wp2_with fail
 go_loopw [5] (fun i wr=>∃ k:Nat,k≤l.length∧i=.int .i64 (k:Int)∧wr=w∧∀ j (h:j < l.length),j < k→(l[j].name.toList == s.toList)=false) (fun i _=>l.length - (intOf i).toNat)
 case atStart=>exact ⟨0,Nat.zero_le _,rfl,rfl,fun j _ h=>absurd h (Nat.not_lt_zero _)⟩
 obtain ⟨k,hk,rfl,rfl,hN⟩:=hrel
 have HN:=J hN
 clear hN
 by_cases hlt:k < l.length
 ·obtain ⟨b,o,rfl⟩:=HV.out.addr (by decide) (by omega)
  obtain ⟨c,⟨ac,pc,rfl,-⟩,hc2⟩:=HV.out.elem k hlt
  have x0:=(hc2 0 _ rfl).2
  obtain ⟨bh,hbh⟩:∃ bh,bh=l[k]:=⟨_,rfl⟩
  rw [←hbh] at x0
  have x0:wr.cell? ⟨b,o+k * 2,none⟩=some (.string bh.name):=x0
  have HBH:=J hbh
  have qk:(k:Int) < (l.length:Int):=by omega
  clear hc2 hbh
  cases hq:(bh.name.toList == s.toList)
  ·have HQ:=J hq
   go_wp2_with fail
   go_roundw
   case rel=>refine ⟨k+1,by omega,by go_num,by first | trivial | rfl,fun j hj hjk=>by
    rcases Nat.lt_or_ge j k with h | h
    ·exact HN.out j hj h
    ·obtain rfl:j=k:=by omega
     rw [←HBH.out];exact HQ.out⟩
   case measure=>simp [intOf];omega
  have HI:Hid (namedI s l=k):=J (namedI_some s l k hlt HN.out (by rw [←HBH.out];exact hq))
  go_wp2_with fail
  go_ret
  exact ⟨by rw [HI.out];rfl,rfl⟩
 have hk2:k=l.length:=by omega
 have HI:Hid (namedI s l = -1):=J (namedI_none s l fun j hj=>HN.out j hj (by omega))
 subst hk2
 go_wp2_with fail
 go_ret
 exact ⟨by rw [HI.out];rfl,rfl⟩
def VPost (S:Nat→Prop) (w:World) (o:Option T) (e:Ending) (w':World):Prop :=
 ∃ t v b,e=.returned (.tuple #[v,.bool b])∧Below w.heap.size w w'∧RT (fun b=>S b∨w.heap.size≤b) w' t v∧o=if b then some t else none
theorem VPost.of {S:Nat→Prop} {w w':World} {o:Option T} {e:Ending} (t:T) (v:Value) (b:Bool) (he:e=.returned (.tuple #[v,.bool b])) (hB:Below w.heap.size w w')
  (hr:RT (fun b=>S b∨w.heap.size≤b) w' t v) (ho:o=if b then some t else none):VPost S w o e w':=⟨t,v,b,he,hB,hr,ho⟩
theorem RT.slot {S:Nat→Prop} {w:World} {t:T} {v:Value} (h:RT S w t v) (B o:Nat) (u:Value) (hP:∀ b,S b→b≠B):RT S (w.setCell ⟨B,o,none⟩ u) t v :=
 h.to (fun _ h _=>h) fun b hb _=>yD w B o u b (hP b hb)
section
variable {bd:List T} {self:Int} {x:T} {S:Nat→Prop} {w:World} {v vb:Value}
theorem rval_6 (hv:RT S w x v) (hS:∀ b,S b→b < w.heap.size) (hk:x.kind=6):Calls Tryz.prog 77 #[v,vb,.int .i64 self] w (VPost S w (valT bd self x)):=by
 obtain ⟨a,cap,rfl,hcap,hr⟩:=hv
 have HX:Hid (RT S w x _):=J ⟨a,cap,rfl,hcap,hr⟩
 clear hcap hr
 have HV:=J (valT_6 (bd:=bd) (self:=self) hk)
 have h1:w.heap.size < w.heap.size+1+1:=by omega
 go_enter Tryz.func77,Tryz.ntmps77
 go_wp2_with fail
 refine bodyPost_ret (v:=.tuple #[.agg #[.int .i64 x.kind,.int .i64 x.n,.string x.name,.slice a x.args.length cap],.bool false]) (by simp [results,Tryz.results77,go_sem,hk]) rfl (VPost.of x _ _ rfl ?_ ?_ HV.out)
 ·repeat refine Below.setCell ?_ (by simp <;> omega) _
  exact (yA _ _).alloc (by simp) _
 refine RT.mono (S:=S) ?_ fun b hb=>.inl hb
 repeat refine RT.slot ?_ _ _ _ (fun b hb=>by have:=hS b hb;simp <;> omega)
 exact (HX.out.alloc _).alloc _
theorem rval_o (hv:RT S w x v) (hS:∀ b,S b→b < w.heap.size) (hk4:x.kind≠4) (hk5:x.kind≠5) (hk6:x.kind≠6):Calls Tryz.prog 77 #[v,vb,.int .i64 self] w (VPost S w (valT bd self x)):=by
 obtain ⟨a,cap,rfl,hcap,hr⟩:=hv
 have HX:Hid (RT S w x _):=J ⟨a,cap,rfl,hcap,hr⟩
 clear hcap hr
 have HV:=J (valT_o (bd:=bd) (self:=self) hk4 hk5 hk6)
 have h4:(x.kind == 4)=false:=by simpa using hk4
 have h5:(x.kind == 5)=false:=by simpa using hk5
 have h6:(x.kind == 6)=false:=by simpa using hk6
 have h1:w.heap.size < w.heap.size+1+1:=by omega
 clear hk4 hk5 hk6
 go_enter Tryz.func77,Tryz.ntmps77
 go_wp2_with fail
 refine bodyPost_ret (v:=.tuple #[.agg #[.int .i64 x.kind,.int .i64 x.n,.string x.name,.slice a x.args.length cap],.bool true]) (by simp [results,Tryz.results77,go_sem]) rfl (VPost.of x _ _ rfl ?_ ?_ HV.out)
 ·repeat refine Below.setCell ?_ (by simp <;> omega) _
  exact (yA _ _).alloc (by simp) _
 refine RT.mono (S:=S) ?_ fun b hb=>.inl hb
 repeat refine RT.slot ?_ _ _ _ (fun b hb=>by have:=hS b hb;simp <;> omega)
 exact (HX.out.alloc _).alloc _
theorem rval_self (hv:RT S w x v) (hS:∀ b,S b→b < w.heap.size) (hb:yC [x]≤1099511627776) (hk:x.kind=4) (hs:isT x sSelf 0=true):Calls Tryz.prog 77 #[v,vb,.int .i64 self] w (VPost S w (valT bd self x)):=by
 obtain ⟨a,cap,rfl,hcap,hr⟩:=hv
 have HX:Hid (RT S w x _):=J ⟨a,cap,rfl,hcap,hr⟩
 clear hcap hr
 have HV:=J (valT_self (bd:=bd) (self:=self) hk hs)
 have h1:w.heap.size < w.heap.size+1+1:=by omega
 have h4:(x.kind == 4)=true:=by simpa using hk
 have h5:(x.kind == 5)=false:=by simp [hk]
 have h6:(x.kind == 6)=false:=by simp [hk]
 clear hk
 go_enter Tryz.func77,Tryz.ntmps77
 go_wp2_with fail
 refine (is_Is x sSelf 0 S _ _ ((HX.out.alloc _).alloc _) (by omega) (by omega) (by omega)).mono ?_
 rintro e w1 ⟨rfl,hB1⟩
 rw [hs]
 have hs1:=hB1.size
 obtain ⟨hcc,hff⟩:=bcell hB1
 simp only [World.size_alloc] at hs1 hcc hff
 have g1:w.heap.size < w1.heap.size:=by omega
 have g2:w.heap.size+1 < w1.heap.size:=by omega
 have hlt:=hS
 go_wp2_with fail
 refine bodyPost_ret (v:=.tuple #[.agg #[.int .i64 3,.int .i64 self,.string ⟨#[]⟩,.slice none 0 0],.bool true]) (by simp [results,Tryz.results77,go_sem,hcc,hff]) rfl (VPost.of (pidT self) _ _ rfl ?_ ?_ HV.out)
 ·repeat refine Below.setCell ?_ (by simp <;> omega) _
  exact yB ((yA _ _).alloc (by simp) _) (by simp <;> omega) hB1
 exact ⟨none,0,rfl,⟨Nat.le_refl _,fun _=>rfl⟩,by simp [pidT,RTs]⟩
theorem rval_put (hv:RT S w x v) (hS:∀ b,S b→b < w.heap.size) (hb:yC [x]≤1099511627776) (hk:x.kind=4) (hs:isT x sSelf 0=false) (hp:isT x sPut 1=true):Calls Tryz.prog 77 #[v,vb,.int .i64 self] w (VPost S w (valT bd self x)):=by
 obtain ⟨a,cap,rfl,hcap,hr⟩:=hv
 have HX:Hid (RT S w x _):=J ⟨a,cap,rfl,hcap,hr⟩
 have hln:=isT_length hp
 have hba:=yR x
 have hbe:=bulk_at (ts:=x.args) (i:=1) (by omega)
 obtain ⟨b,o,rfl⟩:=hr.addr (by omega)
 obtain ⟨a',cap',hSb,d0,d1,d2,d3,hE⟩:=hr.elem 1 (by omega)
 have hE:=J hE
 have hlb:b < w.heap.size:=hS b hSb
 have HV:=J (valT_put (bd:=bd) (self:=self) hk hs hp (by omega))
 have h1:w.heap.size < w.heap.size+1+1:=by omega
 have h4:(x.kind == 4)=true:=by simpa using hk
 have h5:(x.kind == 5)=false:=by simp [hk]
 have h6:(x.kind == 6)=false:=by simp [hk]
 clear hk hcap hr
 simp only [Nat.one_mul] at d0 d1 d2 d3
 generalize x.args[1]=u at *
 go_enter Tryz.func77,Tryz.ntmps77
 go_wp2_with fail
 refine (is_Is x sSelf 0 S _ _ ((HX.out.alloc _).alloc _) (by omega) (by omega) (by omega)).mono ?_
 rintro e w1 ⟨rfl,hB1⟩
 rw [hs]
 have hs1:=hB1.size
 obtain ⟨hcc,hff⟩:=bcell hB1
 simp only [World.size_alloc] at hs1 hcc hff
 have g1:w.heap.size < w1.heap.size:=by omega
 have g2:w.heap.size+1 < w1.heap.size:=by omega
 have g3:b < w1.heap.size:=by omega
 have g4:b < w.heap.size+1+1:=by omega
 have g5:b < w.heap.size+1:=by omega
 have HB1:=J (yB ((yA _ _).alloc (by simp) _) (by simp <;> omega) hB1)
 have hs0:w.heap.size≤w1.heap.size:=by omega
 go_wp2_with fail
 refine (is_Is x sPut 1 S _ _ (HX.out.below HB1.out) (by omega) (by omega) (by omega)).mono ?_
 rintro e w2 ⟨rfl,hB2⟩
 rw [hp]
 have hs2:=hB2.size
 obtain ⟨hcc2,hff2⟩:=bcell hB2
 have HB2:=J (yB HB1.out (by omega) hB2)
 go_wp2_with fail
 have HE2:=J ((hE.out.below HB2.out).mono (S':=S) fun _ h=>h)
 have g6:w.heap.size < w2.heap.size:=by omega
 have g7:b < w2.heap.size:=by omega
 have g8:w.heap.size+1 < w2.heap.size:=by omega
 have hlu:(1:Int) < x.args.length:=by omega
 have hc3:w2.cell? ⟨w.heap.size,3,none⟩=some (.slice (some ⟨b,o,none⟩) x.args.length cap):=by rw [hcc2 _ _ g1,hcc _ _ h1];go_simp
 obtain ⟨e0,e1,e2,e3⟩:w2.cell? ⟨b,o+4,none⟩=some (.int .i64 u.kind)∧w2.cell? ⟨b,o+4+1,none⟩=some (.int .i64 u.n)∧w2.cell? ⟨b,o+4+2,none⟩=some (.string u.name)∧w2.cell? ⟨b,o+4+3,none⟩=some (.slice a' u.args.length cap'):=by
  obtain ⟨q,-⟩:=bcell HB2.out
  rw [q _ _ hlb,q _ _ hlb,q _ _ hlb,q _ _ hlb];exact ⟨d0,d1,d2,d3⟩
 have hq:∀ w3:World,Below w2.drew.heap.size w2.drew w3→w3.cell? ⟨w.heap.size,3,none⟩=some (.slice (some ⟨b,o,none⟩) x.args.length cap)∧w3.cell? ⟨b,o+4,none⟩=some (.int .i64 u.kind)∧w3.cell? ⟨b,o+4+1,none⟩=some (.int .i64 u.n)∧w3.cell? ⟨b,o+4+2,none⟩=some (.string u.name)∧w3.cell? ⟨b,o+4+3,none⟩=some (.slice a' u.args.length cap'):=fun w3 h=>by
  obtain ⟨q,-⟩:=bcell h
  rw [q _ _ g6,q _ _ g7,q _ _ g7,q _ _ g7,q _ _ g7];exact ⟨hc3,e0,e1,e2,e3⟩
 have hz:∀ w3:World,Below w2.drew.heap.size w2.drew w3→(∀ o,w3.frozen? ⟨w.heap.size+1,o,none⟩=false)∧w3.cell? ⟨w.heap.size+1,0,none⟩=some (.int .i64 0)∧w3.cell? ⟨w.heap.size+1,1,none⟩=some (.int .i64 0)∧w3.cell? ⟨w.heap.size+1,2,none⟩=some (.string ⟨#[]⟩)∧w3.cell? ⟨w.heap.size+1,3,none⟩=some (.slice none 0 0):=fun w3 h=>by
  obtain ⟨q,r⟩:=bcell h
  have hx:w.heap.size+1 < w.heap.size+1+1:=by omega
  refine ⟨fun o=>?_,?_⟩
  ·rw [r _ _ g8];show w2.frozen? _=_;rw [hff2 _ _ g2,hff _ _ hx];go_simp
  ·rw [q _ _ g8,q _ _ g8,q _ _ g8,q _ _ g8];show w2.cell? _=_∧w2.cell? _=_∧w2.cell? _=_∧w2.cell? _=_;rw [hcc2 _ _ g2,hcc2 _ _ g2,hcc2 _ _ g2,hcc2 _ _ g2,hcc _ _ hx,hcc _ _ hx,hcc _ _ hx,hcc _ _ hx];go_simp
 have hbne:b≠w.heap.size+1:=by omega
 have hbne':w.heap.size+1≠b:=by omega
 have hbn2:w.heap.size≠w.heap.size+1:=by omega
 have hkeep:∀ (w4:World) (u0 u1 u2 u3:Value),Below w2.drew.heap.size w2.drew w4→(fun w':World=>w'.cell? ⟨w.heap.size,3,none⟩=some (.slice (some ⟨b,o,none⟩) x.args.length cap)∧w'.cell? ⟨b,o+4,none⟩=some (.int .i64 u.kind)∧w'.cell? ⟨b,o+4+1,none⟩=some (.int .i64 u.n)∧w'.cell? ⟨b,o+4+2,none⟩=some (.string u.name)∧w'.cell? ⟨b,o+4+3,none⟩=some (.slice a' u.args.length cap')) ((((w4.setCell ⟨w.heap.size+1,0,none⟩ u0).setCell ⟨w.heap.size+1,1,none⟩ u1).setCell ⟨w.heap.size+1,2,none⟩ u2).setCell ⟨w.heap.size+1,3,none⟩ u3):=fun w4 u0 u1 u2 u3 h=>by
  have e:∀ b' o',b'≠w.heap.size+1→((((w4.setCell ⟨w.heap.size+1,0,none⟩ u0).setCell ⟨w.heap.size+1,1,none⟩ u1).setCell ⟨w.heap.size+1,2,none⟩ u2).setCell ⟨w.heap.size+1,3,none⟩ u3).cell? ⟨b',o',none⟩=w4.cell? ⟨b',o',none⟩:=fun b' o' hne=>by
   refine World.cell?_of_block ?_
   simp only [yD _ _ _ _ _ hne]
  simp only [e _ _ hbne,e _ _ hbn2]
  exact hq _ h
 go_region_held3 (fun w'=>w'.cell? ⟨w.heap.size,3,none⟩=some (.slice (some ⟨b,o,none⟩) x.args.length cap)∧w'.cell? ⟨b,o+4,none⟩=some (.int .i64 u.kind)∧w'.cell? ⟨b,o+4+1,none⟩=some (.int .i64 u.n)∧w'.cell? ⟨b,o+4+2,none⟩=some (.string u.name)∧w'.cell? ⟨b,o+4+3,none⟩=some (.slice a' u.args.length cap'))
   (first | exact ⟨hc3,e0,e1,e2,e3⟩ | exact hq _ hB3 | exact hkeep _ _ _ _ _ hB3 | go_keep)
   (first
    | (go_at_call 55;refine (rclosed_c u S _ _ (HE2.out.below ?_) (fun b hb=>by have:=hS b hb;simp <;> omega) (by omega)).mono ?_;(repeat' (first | exact Below.refl _ _ | apply Below.drew | refine Below.alloc ?_ (by simp <;> omega) _));rintro e w3 ⟨rfl,hB3⟩;obtain ⟨z0,z1,z2,z3,z4⟩:=hz _ hB3;obtain ⟨y0,y1,y2,y3,y4⟩:=hq _ hB3;have hs3:=hB3.size;simp only [World.size_drew] at hs3))
 go_wp2_with fail
 refine bodyPost_ret (v:=.tuple #[.agg #[.int .i64 u.kind,.int .i64 u.n,.string u.name,.slice a' u.args.length cap'],.bool (yF [u])]) (by simp [results,Tryz.results77,go_sem,z1,z2,z3,z4]) rfl (VPost.of u _ _ rfl ?_ ?_ ?_)
 ·repeat refine Below.setCell ?_ (by simp <;> omega) _
  exact yB HB2.out.drew (by simp;omega) hB3
 ·refine RT.mono (S:=S) ?_ fun b hb=>.inl hb
  repeat refine RT.slot ?_ _ _ _ (fun b hb=>by have:=hS b hb;simp <;> omega)
  exact (HE2.out.below (Below.drew (Below.refl _ _))).below hB3
 rw [HV.out,putO]
end
theorem sumB_eq (x y:T):sumB x y=(x.kind == 1 && y.kind == 1 && inB (sumN x y) (-1099511627776) 1099511627776):=rfl
theorem sum_c (x y:T) (S S':Nat→Prop) (w:World) (p q:Value) (hp:RT S w x p) (hq:RT S' w y q) :
  Calls Tryz.prog 100 #[p,q] w fun e w'=>e=.returned (.tuple #[.agg #[.int .i64 1,.int .i64 (sumN x y),.string ⟨#[]⟩,.slice none 0 0],.bool (sumB x y)])∧Below w.heap.size w w':=by
 obtain ⟨a1,cap1,rfl,hc1,hr1⟩:=hp
 obtain ⟨a2,cap2,rfl,hc2,hr2⟩:=hq
 clear hc1 hr1 hc2 hr2
 have HB:=J (sumB_eq x y)
 have hN:=J (show sumN x y=wrap64 (x.n+y.n) from rfl)
 have h1:w.heap.size < w.heap.size+1+1:=by omega
 have h2:w.heap.size < w.heap.size+1+1+1:=by omega
 have h3:w.heap.size+1 < w.heap.size+1+1+1:=by omega
 have HBB:Hid (∀ o1 o2 o3,Below w.heap.size w (((w.alloc o1).alloc o2).alloc o3)):=J fun o1 o2 o3=>((yA _ _).alloc (by simp) _).alloc (by simp <;> omega) _
 cases hk1:(x.kind == 1)
 ·have HS2:=J (show sumB x y=false by rw [HB.out,hk1];rfl)
  go_enter Tryz.func100,Tryz.ntmps100
  go_wp2_with fail
  refine bodyPost_ret (v:=.tuple #[.agg #[.int .i64 1,.int .i64 (sumN x y),.string ⟨#[]⟩,.slice none 0 0],.bool (sumB x y)]) (by simp [results,Tryz.results100,go_sem,HS2.out,sumN]) rfl ⟨rfl,?_⟩
  repeat' (first | exact HBB.out _ _ _ | apply Below.drew | refine Below.setCell ?_ (by simp <;> omega) _)
 cases hk2:(y.kind == 1)
 ·have HS2:=J (show sumB x y=false by rw [HB.out,hk1,hk2];rfl)
  go_enter Tryz.func100,Tryz.ntmps100
  go_wp2_with fail
  refine bodyPost_ret (v:=.tuple #[.agg #[.int .i64 1,.int .i64 (sumN x y),.string ⟨#[]⟩,.slice none 0 0],.bool (sumB x y)]) (by simp [results,Tryz.results100,go_sem,HS2.out,sumN]) rfl ⟨rfl,?_⟩
  repeat' (first | exact HBB.out _ _ _ | apply Below.drew | refine Below.setCell ?_ (by simp <;> omega) _)
 have HS2:=J (show sumB x y=inB (wrap64 (x.n+y.n)) (-1099511627776) 1099511627776 by rw [HB.out,hk1,hk2];rfl)
 by_cases hl:-1099511627776≤wrap64 (x.n+y.n)
 ·by_cases hu:wrap64 (x.n+y.n)≤1099511627776
  ·have HS3:=J (show sumB x y=true by rw [HS2.out];simp [inB,hl,hu])
   go_enter Tryz.func100,Tryz.ntmps100
   go_wp2_with fail
   refine bodyPost_ret (v:=.tuple #[.agg #[.int .i64 1,.int .i64 (sumN x y),.string ⟨#[]⟩,.slice none 0 0],.bool (sumB x y)]) (by simp [results,Tryz.results100,go_sem,HS3.out,sumN,hl,hu]) rfl ⟨rfl,?_⟩
   repeat' (first | exact HBB.out _ _ _ | apply Below.drew | refine Below.setCell ?_ (by simp <;> omega) _)
  have HS3:=J (show sumB x y=false by rw [HS2.out];simp [inB];omega)
  go_enter Tryz.func100,Tryz.ntmps100
  go_wp2_with fail
  refine bodyPost_ret (v:=.tuple #[.agg #[.int .i64 1,.int .i64 (sumN x y),.string ⟨#[]⟩,.slice none 0 0],.bool (sumB x y)]) (by simp [results,Tryz.results100,go_sem,HS3.out,sumN,hl,hu];try omega) rfl ⟨rfl,?_⟩
  repeat' (first | exact HBB.out _ _ _ | apply Below.drew | refine Below.setCell ?_ (by simp <;> omega) _)
 have HS3:=J (show sumB x y=false by rw [HS2.out];simp [inB];omega)
 go_enter Tryz.func100,Tryz.ntmps100
 go_wp2_with fail
 refine bodyPost_ret (v:=.tuple #[.agg #[.int .i64 1,.int .i64 (sumN x y),.string ⟨#[]⟩,.slice none 0 0],.bool (sumB x y)]) (by simp [results,Tryz.results100,go_sem,HS3.out,sumN,hl];try omega) rfl ⟨rfl,?_⟩
 repeat' (first | exact HBB.out _ _ _ | apply Below.drew | refine Below.setCell ?_ (by simp <;> omega) _)
def vT (n:Int):T:=⟨5,n,⟨#[]⟩,[]⟩
def dbareB (d:Deed):Bool:=d.name.toList == [] && d.var == 0
def deedT (d:Deed):T :=
 if d.kind=1 then tupT [yP sSend,d.to,d.what] else if d.kind=2 then tupT [yP sSpawn,yP d.name,d.what,vT d.var] else if d.kind=3 then tupT [yP sLink,d.to] else if d.kind=4 then tupT [yP sStop] else yJ
def deedOk (d:Deed):Bool :=
 if d.kind=1 then dbareB d else if d.kind=2 then nameB d.name && (decide (0≤d.var) && decide (d.var≤3)) && emptyB d.to else if d.kind=3 then dbareB d && emptyB d.what else if d.kind=4 then dbareB d && emptyB d.to && emptyB d.what else false
def clauT (c:Clau):T:=tupT [yP sOn,c.state,c.message,tupT (c.acts.map deedT),c.next]
def clauOk (c:Clau):Bool:=decide (c.acts.length≤8) && c.acts.all deedOk
def behvT (b:Behv):T:=tupT (yP sBeh :: yP b.name :: b.clauses.map clauT)
def behvOk (b:Behv):Bool:=nameB b.name && (decide (1≤b.clauses.length) && decide (b.clauses.length≤6)) && b.clauses.all clauOk
def progT (l:List Behv):T:=tupT (yP sCode :: l.map behvT)
def progOk (l:List Behv):Bool:=decide (1≤l.length) && decide (l.length≤7) && l.all behvOk
def toA (l:List Behv):T×Int:=if progOk l then (if yE (progT l)=0 then (progT l,0) else (yJ,yE (progT l))) else (yJ,5)
theorem allB_snoc {X:Type} (f:X→Bool) {l:List X} {k:Nat} (hk:k < l.length):(l.take (k+1)).all f=((l.take k).all f && f l[k]):=by
 rw [take_snoc' l k hk,List.all_append];simp
theorem map_snoc {X Y:Type} (f:X→Y) {l:List X} {k:Nat} (hk:k < l.length):(l.take (k+1)).map f=(l.take k).map f ++ [f l[k]]:=by
 rw [take_snoc' l k hk,List.map_append];rfl
theorem bulk_wordT (s:ByteArray):yC [yP s]=1+s.size:=by simp [yP,yG,yC]
theorem bulk_tupT (l:List T):yC [tupT l]=1+yC l:=by simp [tupT,yG,yC,ByteArray.size]
theorem bulk_cons2 (t:T) (l:List T):yC (t :: l)=yC [t]+yC l:=bulkL_append [t] l
theorem deedT_bulk (d:Deed):yC [deedT d]≤16+2 * deedB d:=by
 have h1:sSend.size=4:=rfl
 have h2:sSpawn.size=5:=rfl
 have h3:sLink.size=4:=rfl
 have h4:sStop.size=4:=rfl
 have h5:yC [vT d.var]=1:=by simp [vT,yG,yC,ByteArray.size]
 have h6:yC [yJ]=1:=by simp [yJ,yG,yC,ByteArray.size]
 unfold deedT deedB
 split
 ·rw [bulk_tupT,bulk_cons2,bulk_cons2 d.to,bulk_wordT];omega
 split
 ·rw [bulk_tupT,bulk_cons2,bulk_cons2 (yP d.name),bulk_cons2 d.what,bulk_wordT,bulk_wordT];omega
 split
 ·rw [bulk_tupT,bulk_cons2,bulk_wordT];omega
 split
 ·rw [bulk_tupT,bulk_wordT];omega
 omega
theorem deedsT_bulk (l:List Deed):yC (l.map deedT)≤18 * deedsB l:=by
 induction l with
 | nil=>simp [yC,deedsB]
 | cons d l ih =>
  have:=deedT_bulk d
  have h1:1≤deedB d:=by unfold deedB;omega
  rw [List.map_cons,bulk_cons2];simp only [deedsB];omega
theorem clauT_bulk (c:Clau):yC [clauT c]≤24 * clauB c:=by
 have:=deedsT_bulk c.acts
 have h1:sOn.size=2:=rfl
 unfold clauT clauB
 rw [bulk_tupT,bulk_cons2,bulk_cons2 c.state,bulk_cons2 c.message,bulk_cons2 (tupT _),bulk_tupT,bulk_wordT]
 omega
theorem clausT_bulk (l:List Clau):yC (l.map clauT)≤24 * clausB l:=by
 induction l with
 | nil=>simp [yC,clausB]
 | cons d l ih =>
  have:=clauT_bulk d
  rw [List.map_cons,bulk_cons2];simp only [clausB];omega
theorem behvT_bulk (b:Behv):yC [behvT b]≤32 * behvB b:=by
 have:=clausT_bulk b.clauses
 unfold behvT behvB
 rw [bulk_tupT,bulk_cons2,bulk_cons2 (yP b.name),bulk_wordT,bulk_wordT]
 have h1:sBeh.size=3:=rfl
 omega
theorem behvsT_bulk (l:List Behv):yC (l.map behvT)≤32 * behvsB l:=by
 induction l with
 | nil=>simp [yC,behvsB]
 | cons d l ih =>
  have:=behvT_bulk d
  rw [List.map_cons,bulk_cons2];simp only [behvsB];omega
theorem progT_bulk (l:List Behv):yC [progT l]≤8+32 * behvsB l:=by
 have:=behvsT_bulk l
 unfold progT
 rw [bulk_tupT,bulk_cons2,bulk_wordT]
 have h1:sCode.size=4:=rfl
 omega
/-! ### From, then To -/
section
variable {bd:List T} {self:Int} {x:T} {S:Nat→Prop} {w:World} {v vb:Value}
end
section
variable {bd:List T} {self:Int} {x:T} {S:Nat→Prop} {w:World} {v vb:Value}
end
section
variable {bd:List T} {self:Int} {x:T} {S:Nat→Prop} {w:World} {v vb:Value}
theorem valN_6 (hv:RT S w x v) (hk:x.kind=6):Calls Tryz.prog 85 #[v,vb,.int .i64 self] w (VPost (fun _=>False) w (valT bd self x)):=by
 obtain ⟨a,cap,rfl,hcap,hr⟩:=hv
 clear hcap hr
 have HV:=J (valT_6 (bd:=bd) (self:=self) hk)
 have h1:w.heap.size < w.heap.size+1+1:=by omega
 go_enter Tryz.func85,Tryz.ntmps85
 go_wp2_with fail
 refine bodyPost_ret (v:=.tuple #[.agg #[.int .i64 0,.int .i64 0,.string ⟨#[]⟩,.slice none 0 0],.bool false]) (by simp [results,Tryz.results85,go_sem,hk]) rfl (VPost.of yJ _ _ rfl ?_ ⟨none,0,rfl,⟨Nat.le_refl _,fun _=>rfl⟩,by simp [yJ,RTs]⟩ HV.out)
 repeat refine Below.setCell ?_ (by simp <;> omega) _
 exact (yA _ _).alloc (by simp) _
theorem valN_o (hv:RT S w x v) (hS:∀ b,S b→b < w.heap.size) (hb:yC [x]≤1099511627776) (ha:x.args=[]) (hk4:x.kind≠4) (hk5:x.kind≠5) (hk6:x.kind≠6):Calls Tryz.prog 85 #[v,vb,.int .i64 self] w (VPost (fun _=>False) w (valT bd self x)):=by
 have HAA:=J ha
 clear ha
 obtain ⟨a,cap,rfl,hcap,hr⟩:=hv
 have HX:Hid (RT S w x _):=J ⟨a,cap,rfl,hcap,hr⟩
 clear hcap hr
 have HV:=J (valT_o (bd:=bd) (self:=self) hk4 hk5 hk6)
 have h4:(x.kind == 4)=false:=by simpa using hk4
 have h4':(x.kind != 4)=true:=by simpa using hk4
 have h5:(x.kind == 5)=false:=by simpa using hk5
 have h6:(x.kind == 6)=false:=by simpa using hk6
 have h1:w.heap.size < w.heap.size+1+1:=by omega
 clear hk4 hk5 hk6
 go_enter Tryz.func85,Tryz.ntmps85
 go_wp2_with fail
 refine (is_ris x sSelf 0 S _ _ ((HX.out.alloc _).alloc _) (by omega) (by omega) (by omega)).mono ?_
 rintro e w1 ⟨rfl,hB1⟩
 rw [isT_kind h4]
 have hs1:=hB1.size
 obtain ⟨hcc,hff⟩:=bcell hB1
 simp only [World.size_alloc] at hs1 hcc hff
 have g1:w.heap.size < w1.heap.size:=by omega
 have g2:w.heap.size+1 < w1.heap.size:=by omega
 have HB1:=J (yB ((yA _ _).alloc (by simp) _) (by simp <;> omega) hB1)
 have hs0:w.heap.size≤w1.heap.size:=by omega
 go_wp2_with fail
 refine (is_ris x sPut 1 S _ _ (HX.out.below HB1.out) (by omega) (by omega) (by omega)).mono ?_
 rintro e w2 ⟨rfl,hB2⟩
 rw [isT_kind h4]
 have hs2:=hB2.size
 obtain ⟨hcc2,hff2⟩:=bcell hB2
 have HB2:=J (yB HB1.out (by omega) hB2)
 go_wp2_with fail
 refine bodyPost_ret (v:=.tuple #[.agg #[.int .i64 x.kind,.int .i64 x.n,.string x.name,.slice a x.args.length cap],.bool true]) (by simp [results,Tryz.results85,go_sem,hcc,hcc2,hff,hff2,g1,g2]) rfl (VPost.of x _ _ rfl ?_ ?_ HV.out)
 ·repeat refine Below.setCell ?_ (by simp <;> omega) _
  exact HB2.out
 obtain ⟨a',cap',e,hcc,-⟩:=HX.out
 simp only [Value.agg.injEq] at e
 exact ⟨a',cap',by rw [e],hcc,by rw [HAA.out];simp [RTs]⟩
theorem valN_self (hv:RT S w x v) (hS:∀ b,S b→b < w.heap.size) (hb:yC [x]≤1099511627776) (hk:x.kind=4) (hs:isT x sSelf 0=true):Calls Tryz.prog 85 #[v,vb,.int .i64 self] w (VPost (fun _=>False) w (valT bd self x)):=by
 obtain ⟨a,cap,rfl,hcap,hr⟩:=hv
 have HX:Hid (RT S w x _):=J ⟨a,cap,rfl,hcap,hr⟩
 clear hcap hr
 have HV:=J (valT_self (bd:=bd) (self:=self) hk hs)
 have h1:w.heap.size < w.heap.size+1+1:=by omega
 have h4:(x.kind == 4)=true:=by simpa using hk
 have h5:(x.kind == 5)=false:=by simp [hk]
 have h6:(x.kind == 6)=false:=by simp [hk]
 clear hk
 go_enter Tryz.func85,Tryz.ntmps85
 go_wp2_with fail
 refine (is_ris x sSelf 0 S _ _ ((HX.out.alloc _).alloc _) (by omega) (by omega) (by omega)).mono ?_
 rintro e w1 ⟨rfl,hB1⟩
 rw [hs]
 have hs1:=hB1.size
 obtain ⟨hcc,hff⟩:=bcell hB1
 simp only [World.size_alloc] at hs1 hcc hff
 have g1:w.heap.size < w1.heap.size:=by omega
 have g2:w.heap.size+1 < w1.heap.size:=by omega
 go_wp2_with fail
 refine bodyPost_ret (v:=.tuple #[.agg #[.int .i64 3,.int .i64 self,.string ⟨#[]⟩,.slice none 0 0],.bool true]) (by simp [results,Tryz.results85,go_sem,hcc,hff]) rfl (VPost.of (pidT self) _ _ rfl ?_ ?_ HV.out)
 ·repeat refine Below.setCell ?_ (by simp <;> omega) _
  exact yB ((yA _ _).alloc (by simp) _) (by simp <;> omega) hB1
 exact ⟨none,0,rfl,⟨Nat.le_refl _,fun _=>rfl⟩,by simp [pidT,RTs]⟩
end
section
variable {bd:List T} {self:Int} {x:T} {S:Nat→Prop} {w:World} {v vb:Value}
theorem valN_5 (hv:RT S w x v) (hb:RSl S w bd vb) (hl:bd.length=4) (hS:∀ b,S b→b < w.heap.size) (hbb:yC bd≤1099511627776) (hk:x.kind=5) (hn:∃ k:Nat,x.n=k∧k < 4):Calls Tryz.prog 85 #[v,vb,.int .i64 self] w (VPost (fun _=>False) w (valT bd self x)):=by
 obtain ⟨a,cap,rfl,hcap,hr⟩:=hv
 obtain ⟨ab,capb,rfl,hcapb,hrb⟩:=hb
 obtain ⟨k,hn,hk4⟩:=hn
 obtain ⟨b,o,rfl⟩:=hrb.addr (by omega)
 obtain ⟨a',cap',hSb,d0,d1,d2,d3,hE⟩:=hrb.elem k (by omega)
 have hE:=J hE
 have hbu:=bulk_at (ts:=bd) (i:=k) (by omega)
 have HV:=J (valT_5 (bd:=bd) (self:=self) hk hn (by omega))
 have h1:w.heap.size < w.heap.size+1+1:=by omega
 have hlb:b < w.heap.size:=hS b hSb
 have hlb':b < w.heap.size+1:=by omega
 have hlb2:b < w.heap.size+1+1:=by omega
 clear hcap hr hcapb hrb
 rw [hn,hl,hk]
 have hkl:(k:Int) < 4:=by omega
 generalize bd[k]=u at *
 go_enter Tryz.func85,Tryz.ntmps85
 go_wp2_with fail
 obtain ⟨W,hW⟩:=I (((w.alloc (.cells #[.int .i64 5,.int .i64 k,.string x.name,.slice a x.args.length cap] 25)).alloc (.cells #[.int .i64 0,.int .i64 0,.string ⟨#[]⟩,.slice none 0 0] 25)).alloc (.cells #[.int .i64 u.kind,.int .i64 u.n,.string u.name,.slice a' u.args.length cap'] 25))
 rw [←hW]
 have hWs:W.heap.size=w.heap.size+1+1+1:=by rw [hW];simp
 have hWB:Below w.heap.size w W:=by rw [hW];exact ((yA _ _).alloc (by simp) _).alloc (by simp <;> omega) _
 have hWc:(fun w':World=>w'.cell? ⟨w.heap.size+1+1,0,none⟩=some (.int .i64 u.kind)∧w'.cell? ⟨w.heap.size+1+1,1,none⟩=some (.int .i64 u.n)∧w'.cell? ⟨w.heap.size+1+1,2,none⟩=some (.string u.name)∧w'.cell? ⟨w.heap.size+1+1,3,none⟩=some (.slice a' u.args.length cap')) W:=by rw [hW];go_simp
 have hWz:(fun w':World=>w'.cell? ⟨w.heap.size+1,0,none⟩=some (.int .i64 0)∧w'.cell? ⟨w.heap.size+1,1,none⟩=some (.int .i64 0)∧w'.cell? ⟨w.heap.size+1,2,none⟩=some (.string ⟨#[]⟩)∧w'.cell? ⟨w.heap.size+1,3,none⟩=some (.slice none 0 0)) W:=by rw [hW];go_simp
 have hWf:∀ o,W.frozen? ⟨w.heap.size+1,o,none⟩=false:=fun o=>by rw [hW];go_simp
 simp only [] at hWc hWz
 have HU:=J ((hE.out.below hWB).below (Below.drew (Below.refl W.heap.size W)))
 have HWB:=J hWB
 clear hW hWB d0 d1 d2 d3
 have hz1:w.heap.size+1 < W.heap.size:=by omega
 have hz2:w.heap.size+1+1 < W.heap.size:=by omega
 have hq:∀ w3:World,Below W.drew.heap.size W.drew w3→(fun w':World=>w'.cell? ⟨w.heap.size+1+1,0,none⟩=some (.int .i64 u.kind)∧w'.cell? ⟨w.heap.size+1+1,1,none⟩=some (.int .i64 u.n)∧w'.cell? ⟨w.heap.size+1+1,2,none⟩=some (.string u.name)∧w'.cell? ⟨w.heap.size+1+1,3,none⟩=some (.slice a' u.args.length cap')) w3:=fun w3 h=>by
  obtain ⟨q,-⟩:=bcell h
  show _∧_∧_∧_
  rw [q _ _ hz2,q _ _ hz2,q _ _ hz2,q _ _ hz2];exact hWc
 have hz:∀ w3:World,Below W.drew.heap.size W.drew w3→(fun w':World=>w'.cell? ⟨w.heap.size+1,0,none⟩=some (.int .i64 0)∧w'.cell? ⟨w.heap.size+1,1,none⟩=some (.int .i64 0)∧w'.cell? ⟨w.heap.size+1,2,none⟩=some (.string ⟨#[]⟩)∧w'.cell? ⟨w.heap.size+1,3,none⟩=some (.slice none 0 0)∧∀ o,w'.frozen? ⟨w.heap.size+1,o,none⟩=false) w3:=fun w3 h=>by
  obtain ⟨q,r⟩:=bcell h
  show _∧_∧_∧_∧_
  rw [q _ _ hz1,q _ _ hz1,q _ _ hz1,q _ _ hz1];exact ⟨hWz.1,hWz.2.1,hWz.2.2.1,hWz.2.2.2,fun o=>by rw [r _ _ hz1];exact hWf o⟩
 have hkeep:∀ (w4:World) (u0 u1 u2 u3:Value),Below W.drew.heap.size W.drew w4→(fun w':World=>w'.cell? ⟨w.heap.size+1+1,0,none⟩=some (.int .i64 u.kind)∧w'.cell? ⟨w.heap.size+1+1,1,none⟩=some (.int .i64 u.n)∧w'.cell? ⟨w.heap.size+1+1,2,none⟩=some (.string u.name)∧w'.cell? ⟨w.heap.size+1+1,3,none⟩=some (.slice a' u.args.length cap')) ((((w4.setCell ⟨w.heap.size+1,0,none⟩ u0).setCell ⟨w.heap.size+1,1,none⟩ u1).setCell ⟨w.heap.size+1,2,none⟩ u2).setCell ⟨w.heap.size+1,3,none⟩ u3):=fun w4 u0 u1 u2 u3 h=>by
  have hne:w.heap.size+1+1≠w.heap.size+1:=by omega
  have e:∀ o',((((w4.setCell ⟨w.heap.size+1,0,none⟩ u0).setCell ⟨w.heap.size+1,1,none⟩ u1).setCell ⟨w.heap.size+1,2,none⟩ u2).setCell ⟨w.heap.size+1,3,none⟩ u3).cell? ⟨w.heap.size+1+1,o',none⟩=w4.cell? ⟨w.heap.size+1+1,o',none⟩:=fun o'=>by
   refine World.cell?_of_block ?_
   simp only [yD _ _ _ _ _ hne]
  simp only [e]
  exact hq _ h
 simp only [] at hq hz hkeep
 have hsd:W.drew.heap.size=W.heap.size:=rfl
 go_region_held3 (fun w'=>w'.cell? ⟨w.heap.size+1+1,0,none⟩=some (.int .i64 u.kind)∧w'.cell? ⟨w.heap.size+1+1,1,none⟩=some (.int .i64 u.n)∧w'.cell? ⟨w.heap.size+1+1,2,none⟩=some (.string u.name)∧w'.cell? ⟨w.heap.size+1+1,3,none⟩=some (.slice a' u.args.length cap'))
   (first | exact hWc | exact hq _ hBB | exact hkeep _ _ _ _ _ hBB | go_keep)
   (first
    | (go_at_call 79;refine (copied_c u S _ _ (by first | exact HU.out | exact HU.out.below hBf) (by omega)).mono ?_;rintro e wc ⟨vc,rfl,hBc,ac,capc,rfl,hcc,hrc⟩;(first | (have hBB:=yB hBf hBf.size hBc) | (have hBB:=hBc));obtain ⟨z0,z1,z2,z3,z4⟩:=hz _ hBB;obtain ⟨y0,y1,y2,y3⟩:=hq _ hBB)
    | (go_at_call 68;refine (free_c u S _ _ (by first | exact HU.out | exact HU.out.below hBc)).mono ?_;rintro e wf ⟨rfl,hBf⟩;(first | (have hBB:=yB hBc hBc.size hBf) | (have hBB:=hBf));obtain ⟨z0,z1,z2,z3,z4⟩:=hz _ hBB;obtain ⟨y0,y1,y2,y3⟩:=hq _ hBB))
 go_wp2_with fail
 refine bodyPost_ret (v:=.tuple #[.agg #[.int .i64 u.kind,.int .i64 u.n,.string u.name,.slice ac u.args.length capc],.bool (!(u.kind == 6))]) (by simp [results,Tryz.results85,go_sem,z0,z1,z2,z3]) rfl (VPost.of u _ _ rfl ?_ ?_ ?_)
 ·repeat refine Below.setCell ?_ (by simp <;> omega) _
  exact yB (HWB.out.drew) (by omega) hBB
 ·have hsc:=hBc.size
  have hsf:=hBf.size
  refine RT.mono (S:=fun b=>W.heap.size≤b) ?_ fun b hb=>.inr (by omega)
  repeat refine RT.slot ?_ _ _ _ (fun b hb=>by omega)
  exact RT.below ⟨ac,capc,rfl,hcc,hrc⟩ hBf
 rw [HV.out,varO];by_cases h:u.kind=6 <;> simp [h]
end
section
variable {bd:List T} {self:Int} {x:T} {S:Nat→Prop} {w:World} {v vb:Value}
theorem valN_put (hv:RT S w x v) (hS:∀ b,S b→b < w.heap.size) (hb:yC [x]≤1099511627776) (hk:x.kind=4) (hs:isT x sSelf 0=false) (hp:isT x sPut 1=true):Calls Tryz.prog 85 #[v,vb,.int .i64 self] w (VPost (fun _=>False) w (valT bd self x)):=by
 obtain ⟨a,cap,rfl,hcap,hr⟩:=hv
 have HX:Hid (RT S w x _):=J ⟨a,cap,rfl,hcap,hr⟩
 have hln:=isT_length hp
 have hba:=yR x
 have hbe:=bulk_at (ts:=x.args) (i:=1) (by omega)
 obtain ⟨b,o,rfl⟩:=hr.addr (by omega)
 obtain ⟨a',cap',hSb,d0,d1,d2,d3,hE⟩:=hr.elem 1 (by omega)
 have hE:=J hE
 have hlb:b < w.heap.size:=hS b hSb
 have HV:=J (valT_put (bd:=bd) (self:=self) hk hs hp (by omega))
 have h1:w.heap.size < w.heap.size+1+1:=by omega
 have h4:(x.kind == 4)=true:=by simpa using hk
 have h5:(x.kind == 5)=false:=by simp [hk]
 have h6:(x.kind == 6)=false:=by simp [hk]
 clear hk hcap hr
 simp only [Nat.one_mul] at d0 d1 d2 d3
 generalize x.args[1]=u at *
 go_enter Tryz.func85,Tryz.ntmps85
 go_wp2_with fail
 refine (is_ris x sSelf 0 S _ _ ((HX.out.alloc _).alloc _) (by omega) (by omega) (by omega)).mono ?_
 rintro e w1 ⟨rfl,hB1⟩
 rw [hs]
 have hs1:=hB1.size
 obtain ⟨hcc,hff⟩:=bcell hB1
 simp only [World.size_alloc] at hs1 hcc hff
 have g1:w.heap.size < w1.heap.size:=by omega
 have g2:w.heap.size+1 < w1.heap.size:=by omega
 have g3:b < w1.heap.size:=by omega
 have g4:b < w.heap.size+1+1:=by omega
 have g5:b < w.heap.size+1:=by omega
 have HB1:=J (yB ((yA _ _).alloc (by simp) _) (by simp <;> omega) hB1)
 have hs0:w.heap.size≤w1.heap.size:=by omega
 go_wp2_with fail
 refine (is_ris x sPut 1 S _ _ (HX.out.below HB1.out) (by omega) (by omega) (by omega)).mono ?_
 rintro e w2 ⟨rfl,hB2⟩
 rw [hp]
 have hs2:=hB2.size
 obtain ⟨hcc2,hff2⟩:=bcell hB2
 have HB2:=J (yB HB1.out (by omega) hB2)
 go_wp2_with fail
 have HE2:=J ((hE.out.below HB2.out).mono (S':=S) fun _ h=>h)
 have HE3:=J (HE2.out.below (Below.drew (Below.refl w2.heap.size w2)))
 have g6:w.heap.size < w2.heap.size:=by omega
 have g7:b < w2.heap.size:=by omega
 have g8:w.heap.size+1 < w2.heap.size:=by omega
 have hlu:(1:Int) < x.args.length:=by omega
 have hc3:w2.cell? ⟨w.heap.size,3,none⟩=some (.slice (some ⟨b,o,none⟩) x.args.length cap):=by rw [hcc2 _ _ g1,hcc _ _ h1];go_simp
 obtain ⟨e0,e1,e2,e3⟩:w2.cell? ⟨b,o+4,none⟩=some (.int .i64 u.kind)∧w2.cell? ⟨b,o+4+1,none⟩=some (.int .i64 u.n)∧w2.cell? ⟨b,o+4+2,none⟩=some (.string u.name)∧w2.cell? ⟨b,o+4+3,none⟩=some (.slice a' u.args.length cap'):=by
  obtain ⟨q,-⟩:=bcell HB2.out
  rw [q _ _ hlb,q _ _ hlb,q _ _ hlb,q _ _ hlb];exact ⟨d0,d1,d2,d3⟩
 have hq:∀ w3:World,Below w2.drew.heap.size w2.drew w3→w3.cell? ⟨w.heap.size,3,none⟩=some (.slice (some ⟨b,o,none⟩) x.args.length cap)∧w3.cell? ⟨b,o+4,none⟩=some (.int .i64 u.kind)∧w3.cell? ⟨b,o+4+1,none⟩=some (.int .i64 u.n)∧w3.cell? ⟨b,o+4+2,none⟩=some (.string u.name)∧w3.cell? ⟨b,o+4+3,none⟩=some (.slice a' u.args.length cap'):=fun w3 h=>by
  obtain ⟨q,-⟩:=bcell h
  rw [q _ _ g6,q _ _ g7,q _ _ g7,q _ _ g7,q _ _ g7];exact ⟨hc3,e0,e1,e2,e3⟩
 have hz:∀ w3:World,Below w2.drew.heap.size w2.drew w3→(∀ o,w3.frozen? ⟨w.heap.size+1,o,none⟩=false)∧w3.cell? ⟨w.heap.size+1,0,none⟩=some (.int .i64 0)∧w3.cell? ⟨w.heap.size+1,1,none⟩=some (.int .i64 0)∧w3.cell? ⟨w.heap.size+1,2,none⟩=some (.string ⟨#[]⟩)∧w3.cell? ⟨w.heap.size+1,3,none⟩=some (.slice none 0 0):=fun w3 h=>by
  obtain ⟨q,r⟩:=bcell h
  have hx:w.heap.size+1 < w.heap.size+1+1:=by omega
  refine ⟨fun o=>?_,?_⟩
  ·rw [r _ _ g8];show w2.frozen? _=_;rw [hff2 _ _ g2,hff _ _ hx];go_simp
  ·rw [q _ _ g8,q _ _ g8,q _ _ g8,q _ _ g8];show w2.cell? _=_∧w2.cell? _=_∧w2.cell? _=_∧w2.cell? _=_;rw [hcc2 _ _ g2,hcc2 _ _ g2,hcc2 _ _ g2,hcc2 _ _ g2,hcc _ _ hx,hcc _ _ hx,hcc _ _ hx,hcc _ _ hx];go_simp
 have hbne:b≠w.heap.size+1:=by omega
 have hbne':w.heap.size+1≠b:=by omega
 have hbn2:w.heap.size≠w.heap.size+1:=by omega
 have hkeep:∀ (w4:World) (u0 u1 u2 u3:Value),Below w2.drew.heap.size w2.drew w4→(fun w':World=>w'.cell? ⟨w.heap.size,3,none⟩=some (.slice (some ⟨b,o,none⟩) x.args.length cap)∧w'.cell? ⟨b,o+4,none⟩=some (.int .i64 u.kind)∧w'.cell? ⟨b,o+4+1,none⟩=some (.int .i64 u.n)∧w'.cell? ⟨b,o+4+2,none⟩=some (.string u.name)∧w'.cell? ⟨b,o+4+3,none⟩=some (.slice a' u.args.length cap')) ((((w4.setCell ⟨w.heap.size+1,0,none⟩ u0).setCell ⟨w.heap.size+1,1,none⟩ u1).setCell ⟨w.heap.size+1,2,none⟩ u2).setCell ⟨w.heap.size+1,3,none⟩ u3):=fun w4 u0 u1 u2 u3 h=>by
  have e:∀ b' o',b'≠w.heap.size+1→((((w4.setCell ⟨w.heap.size+1,0,none⟩ u0).setCell ⟨w.heap.size+1,1,none⟩ u1).setCell ⟨w.heap.size+1,2,none⟩ u2).setCell ⟨w.heap.size+1,3,none⟩ u3).cell? ⟨b',o',none⟩=w4.cell? ⟨b',o',none⟩:=fun b' o' hne=>by
   refine World.cell?_of_block ?_
   simp only [yD _ _ _ _ _ hne]
  simp only [e _ _ hbne,e _ _ hbn2]
  exact hq _ h
 go_region_held3 (fun w'=>w'.cell? ⟨w.heap.size,3,none⟩=some (.slice (some ⟨b,o,none⟩) x.args.length cap)∧w'.cell? ⟨b,o+4,none⟩=some (.int .i64 u.kind)∧w'.cell? ⟨b,o+4+1,none⟩=some (.int .i64 u.n)∧w'.cell? ⟨b,o+4+2,none⟩=some (.string u.name)∧w'.cell? ⟨b,o+4+3,none⟩=some (.slice a' u.args.length cap'))
   (first | exact ⟨hc3,e0,e1,e2,e3⟩ | exact hq _ hBB | exact hkeep _ _ _ _ _ hBB | go_keep)
   (first
    | (go_at_call 79;refine (copied_c u S _ _ (by first | exact HE3.out | exact HE3.out.below hBf) (by omega)).mono ?_;rintro e wc ⟨vc,rfl,hBc,ac,capc,rfl,hccc,hrc⟩;(first | (have hBB:=yB hBf hBf.size hBc) | (have hBB:=hBc));obtain ⟨z0,z1,z2,z3,z4⟩:=hz _ hBB;obtain ⟨y0,y1,y2,y3,y4⟩:=hq _ hBB)
    | (go_at_call 52;refine (closed_c u S _ _ (by first | exact HE3.out | exact HE3.out.below hBc) (by omega)).mono ?_;rintro e wf ⟨rfl,hBf⟩;(first | (have hBB:=yB hBc hBc.size hBf) | (have hBB:=hBf));obtain ⟨z0,z1,z2,z3,z4⟩:=hz _ hBB;obtain ⟨y0,y1,y2,y3,y4⟩:=hq _ hBB))
 go_wp2_with fail
 refine bodyPost_ret (v:=.tuple #[.agg #[.int .i64 u.kind,.int .i64 u.n,.string u.name,.slice ac u.args.length capc],.bool (yF [u])]) (by simp [results,Tryz.results85,go_sem,z1,z2,z3,z4]) rfl (VPost.of u _ _ rfl ?_ ?_ ?_)
 ·repeat refine Below.setCell ?_ (by simp <;> omega) _
  exact yB HB2.out.drew (by simp;omega) hBB
 ·have hsc:=hBc.size
  have hsf:=hBf.size
  have hsd:w2.drew.heap.size=w2.heap.size:=rfl
  refine RT.mono (S:=fun b=>w2.heap.size≤b) ?_ fun b hb=>.inr (by omega)
  repeat refine RT.slot ?_ _ _ _ (fun b hb=>by omega)
  exact RT.below ⟨ac,capc,rfl,hccc,hrc⟩ hBf
 rw [HV.out,putO]
end
section
variable {bd:List T} {self:Int} {x:T} {S:Nat→Prop} {w:World} {v vb:Value}
theorem valN_tup (hv:RT S w x v) (hbd:RSl S w bd vb) (hS:∀ b,S b→b < w.heap.size) (hb:yC [x]≤1099511627776) (hk:x.kind=4) (hs:isT x sSelf 0=false) (hp:isT x sPut 1=false) 
  (ih:∀ y∈x.args,∀ (S:Nat→Prop) (W:World) (p q:Value),RT S W y p→RSl S W bd q→(∀ b,S b→b < W.heap.size)→Calls Tryz.prog 85 #[p,q,.int .i64 self] W (VPost (fun _=>False) W (valT bd self y))) :
  Calls Tryz.prog 85 #[v,vb,.int .i64 self] w (VPost (fun _=>False) w (valT bd self x)):=by
 obtain ⟨a,cap,rfl,hcap,hr⟩:=hv
 have HX:Hid (RT S w x _):=J ⟨a,cap,rfl,hcap,hr⟩
 have HR:=J hr
 have HBD:=J hbd
 have IH:=J ih;clear ih hbd
 have hba:=yR x
 have hla:=yM x.args
 have HV:=J (valT_tup (bd:=bd) (self:=self) hk hs hp)
 have h1:w.heap.size < w.heap.size+1+1:=by omega
 have h4:(x.kind == 4)=true:=by simpa using hk
 have h4':(x.kind != 4)=false:=by simp [hk]
 have h5:(x.kind == 5)=false:=by simp [hk]
 have h6:(x.kind == 6)=false:=by simp [hk]
 clear hk hcap hr
 go_enter Tryz.func85,Tryz.ntmps85
 go_wp2_with fail
 refine (is_ris x sSelf 0 S _ _ ((HX.out.alloc _).alloc _) (by omega) (by omega) (by omega)).mono ?_
 rintro e w1 ⟨rfl,hB1⟩
 rw [hs]
 have hs1:=hB1.size
 obtain ⟨hcc,hff⟩:=bcell hB1
 simp only [World.size_alloc] at hs1 hcc hff
 have g1:w.heap.size < w1.heap.size:=by omega
 have g2:w.heap.size+1 < w1.heap.size:=by omega
 have HB1:=J (yB ((yA _ _).alloc (by simp) _) (by simp <;> omega) hB1)
 have hs0:w.heap.size≤w1.heap.size:=by omega
 go_wp2_with fail
 refine (is_ris x sPut 1 S _ _ (HX.out.below HB1.out) (by omega) (by omega) (by omega)).mono ?_
 rintro e w2 ⟨rfl,hB2⟩
 rw [hp]
 have hs2:=hB2.size
 obtain ⟨hcc2,hff2⟩:=bcell hB2
 have HB2:=J (yB HB1.out (by omega) hB2)
 have g3:w.heap.size < w2.heap.size:=by omega
 have g4:w.heap.size+1 < w2.heap.size:=by omega
 have hx:w.heap.size+1 < w.heap.size+1+1:=by omega
 have hc3:w2.cell? ⟨w.heap.size,0,none⟩=some (.int .i64 x.kind)∧w2.cell? ⟨w.heap.size,1,none⟩=some (.int .i64 x.n)∧w2.cell? ⟨w.heap.size,2,none⟩=some (.string x.name)∧w2.cell? ⟨w.heap.size,3,none⟩=some (.slice a x.args.length cap):=by
  rw [hcc2 _ _ g1,hcc2 _ _ g1,hcc2 _ _ g1,hcc2 _ _ g1,hcc _ _ h1,hcc _ _ h1,hcc _ _ h1,hcc _ _ h1];go_simp
 have hz3:w2.cell? ⟨w.heap.size+1,0,none⟩=some (.int .i64 0)∧w2.cell? ⟨w.heap.size+1,1,none⟩=some (.int .i64 0)∧w2.cell? ⟨w.heap.size+1,2,none⟩=some (.string ⟨#[]⟩)∧w2.cell? ⟨w.heap.size+1,3,none⟩=some (.slice none 0 0):=by
  rw [hcc2 _ _ g2,hcc2 _ _ g2,hcc2 _ _ g2,hcc2 _ _ g2,hcc _ _ hx,hcc _ _ hx,hcc _ _ hx,hcc _ _ hx];go_simp
 have hfz:∀ o,w2.frozen? ⟨w.heap.size+1,o,none⟩=false:=fun o=>by rw [hff2 _ _ g2,hff _ _ hx];go_simp
 clear hcc hff hcc2 hff2 hB1 hB2
 go_wp2_with fail
 go_loopw [60] (fun i wr=>∃ (k:Nat) (vs:List T) (row:Value),k≤x.args.length∧i=.int .i64 k∧valL bd self (x.args.take k)=some vs∧OwnG (fun b=>w2.heap.size+1≤b) (w2.heap.size+1) wr row vs∧Below w2.heap.size w2 wr∧w2.heap.size+1≤wr.heap.size ∧
   (wr.cell? ⟨w2.heap.size,0,none⟩=some (.int .i64 4)∧wr.cell? ⟨w2.heap.size,1,none⟩=some (.int .i64 0)∧wr.cell? ⟨w2.heap.size,2,none⟩=some (.string ⟨#[]⟩)∧wr.cell? ⟨w2.heap.size,3,none⟩=some row)∧∀ o,wr.frozen? ⟨w2.heap.size,o,none⟩=false) (fun i _=>x.args.length - (intOf i).toNat)
 case atStart=>exact ⟨0,[],_,Nat.zero_le _,rfl,by rw [List.take_zero,valL_nil],OwnG.nil _ _ _,yA _ _,by simp,by go_simp,fun o=>by go_simp⟩
 obtain ⟨k,vs,row,hkl,rfl,hval,hT,hB,hsz,⟨f0,f1,f2,f3⟩,hf8⟩:=hrel
 have HT:=J hT;clear hT
 have HVL:=J hval;clear hval
 have hcB:=hB.cell (p:=⟨w.heap.size,3,none⟩) g3
 rw [hc3.2.2.2] at hcB
 have HBr:=J (yB HB2.out (by omega) hB)
 by_cases hlt:k < x.args.length
 ·obtain ⟨b,o,rfl⟩:=HR.out.addr (by omega)
  obtain ⟨a',cap',hSb,d0,d1,d2,d3,hE⟩:=(HR.out.below HBr.out).elem k hlt
  have hE:=J hE
  go_wp2_with fail
  refine (IH.out _ (List.getElem_mem hlt) S _ _ _ (hE.out.alloc _) ((HBD.out.below HBr.out).alloc _) (fun b hb=>by have:=hS b hb;simp;omega)).mono ?_
  rintro e w3 ⟨t1,v1,ok,rfl,hB3a,⟨a1,cap1,rfl,hcap1,hr1⟩,ho⟩
  have hB3:=yB (yA wr _) (by simp) hB3a
  have HR1:Hid (RT (fun b=>wr.heap.size≤b) w3 t1 _):=J (RT.mono (S:=fun b=>False∨(wr.alloc _).heap.size≤b) ⟨a1,cap1,rfl,hcap1,hr1⟩ fun b hb=>by rcases hb with hb | hb;exact hb.elim;(simp at hb;show wr.heap.size≤b;omega))
  have hs3:=hB3.size
  clear d0 d1 d2 d3 hr1 hcap1 hB3a
  have hcB3:=hB3.cell (p:=⟨w.heap.size,3,none⟩) (by show w.heap.size < _;omega)
  rw [hcB] at hcB3
  have f03:=hB3.cell (p:=⟨w2.heap.size,0,none⟩) (by show w2.heap.size < _;omega)
  have f13:=hB3.cell (p:=⟨w2.heap.size,1,none⟩) (by show w2.heap.size < _;omega)
  have f23:=hB3.cell (p:=⟨w2.heap.size,2,none⟩) (by show w2.heap.size < _;omega)
  have f33:=hB3.cell (p:=⟨w2.heap.size,3,none⟩) (by show w2.heap.size < _;omega)
  rw [f0] at f03
  rw [f1] at f13
  rw [f2] at f23
  rw [f3] at f33
  have ff3:∀ o,w3.frozen? ⟨w2.heap.size,o,none⟩=false:=fun o=>by rw [hB3.frozen (p:=⟨w2.heap.size,o,none⟩) (by show w2.heap.size < _;omega)];exact hf8 o
  cases ok
  ·have HV2:=J (show valT bd self x=none by rw [HV.out,valL_none hlt ho];rfl)
   have hz6:=fun o=>hB3.cell (p:=⟨w.heap.size+1,o,none⟩) (by show w.heap.size+1 < _;omega)
   have hz7:=fun o=>hB3.frozen (p:=⟨w.heap.size+1,o,none⟩) (by show w.heap.size+1 < _;omega)
   have hz8:=fun o=>hB.cell (p:=⟨w.heap.size+1,o,none⟩) g4
   have hz9:=fun o=>hB.frozen (p:=⟨w.heap.size+1,o,none⟩) g4
   have hy3:w3.cell? ⟨w.heap.size+1,0,none⟩=some (.int .i64 0)∧w3.cell? ⟨w.heap.size+1,1,none⟩=some (.int .i64 0)∧w3.cell? ⟨w.heap.size+1,2,none⟩=some (.string ⟨#[]⟩)∧w3.cell? ⟨w.heap.size+1,3,none⟩=some (.slice none 0 0):=by
    rw [hz6,hz6,hz6,hz6,hz8,hz8,hz8,hz8];exact hz3
   have hyf:∀ o,w3.frozen? ⟨w.heap.size+1,o,none⟩=false:=fun o=>by rw [hz7,hz9];exact hfz o
   have hx3:w3.cell? ⟨w.heap.size,0,none⟩=some (.int .i64 x.kind)∧w3.cell? ⟨w.heap.size,1,none⟩=some (.int .i64 x.n)∧w3.cell? ⟨w.heap.size,2,none⟩=some (.string x.name)∧w3.cell? ⟨w.heap.size,3,none⟩=some (.slice (some ⟨b,o,none⟩) x.args.length cap):=by
    have q:=fun o=>hB3.cell (p:=⟨w.heap.size,o,none⟩) (by show w.heap.size < _;omega)
    have r:=fun o=>hB.cell (p:=⟨w.heap.size,o,none⟩) g3
    rw [q,q,q,q,r,r,r,r];exact hc3
   obtain ⟨y0,y1,y2,y3⟩:=hy3
   obtain ⟨x0,x1,x2,x3⟩:=hx3
   clear hz6 hz7 hz8 hz9 hc3 hz3 hfz hcB hcB3 f0 f1 f2 f3 f03 f13 f23 f33 hf8 ff3
   have hn1:w.heap.size < w3.heap.size:=by omega
   have hn2:w.heap.size+1 < w3.heap.size:=by omega
   go_wp2_with fail
   refine bodyPost_ret (v:=.tuple #[.agg #[.int .i64 0,.int .i64 0,.string ⟨#[]⟩,.slice none 0 0],.bool false]) (by simp [results,Tryz.results85,go_sem,hn1,hn2,y0,y1,y2,y3]) rfl (VPost.of yJ _ _ rfl ?_ ⟨none,0,rfl,⟨Nat.le_refl _,fun _=>rfl⟩,by simp [yJ,RTs]⟩ HV2.out)
   refine Below.alloc ?_ (by simp <;> omega) _
   repeat refine Below.setCell ?_ (by simp <;> omega) _
   exact yB HBr.out (by omega) hB3
  have HO:=J (show valT bd self x.args[k]=some t1 from ho)
  clear ho
  have HT3:=J ((HT.out.below hB3).alloc (.cells #[.int .i64 t1.kind,.int .i64 t1.n,.string t1.name,.slice a1 t1.args.length cap1] 25))
  have HT0:=J HT.out.block
  have hlv:=valL_length HVL.out
  have hnn:vs.length+1≤1099511627776:=by rw [hlv];simp;omega
  have hw3:w2.heap.size < w3.heap.size:=by omega
  have HW4:Hid (∀ w4,Below (w2.heap.size+1) (w3.alloc (.cells #[.int .i64 t1.kind,.int .i64 t1.n,.string t1.name,.slice a1 t1.args.length cap1] 25)) w4→(w4.cell? ⟨w2.heap.size,0,none⟩=some (.int .i64 4)∧w4.cell? ⟨w2.heap.size,1,none⟩=some (.int .i64 0)∧w4.cell? ⟨w2.heap.size,2,none⟩=some (.string ⟨#[]⟩)∧w4.cell? ⟨w2.heap.size,3,none⟩=some row)∧∀ o,w4.frozen? ⟨w2.heap.size,o,none⟩=false):=J fun w4 h=>by
   have hlt:w2.heap.size < w2.heap.size+1:=by omega
   have q:=fun o=>h.cell (p:=⟨w2.heap.size,o,none⟩) hlt
   have r:=fun o=>h.frozen (p:=⟨w2.heap.size,o,none⟩) hlt
   refine ⟨⟨?_,?_,?_,?_⟩,fun o=>?_⟩
   ·rw [q];go_simp
   ·rw [q];go_simp
   ·rw [q];go_simp
   ·rw [q];go_simp
   ·rw [r];go_simp
  go_wp2_with (at_builtin;refine append_grow' _ _ rfl rfl rfl rfl (by simp) HT3.out (HR1.out.alloc _) (fun b hb hl=>⟨by (have hb':wr.heap.size≤b:=hb);show w2.heap.size+1≤b;omega,fun he=>by (have:=HT0.out b he);(have hb':wr.heap.size≤b:=hb);omega⟩) hnn (by simp <;> omega) ?_;intro v4 w4 hT4 hB4 hw4;have hs4:=hB4.size;have H4:=J hT4;clear hT4 hw4;simp only [World.size_alloc] at hs4;obtain ⟨a4,cap4,hv4⟩:=H4.out.form;subst hv4;obtain ⟨⟨q0,q1,q2,q3⟩,q4⟩:=HW4.out w4 hB4)
  go_roundw
  case rel =>
   refine ⟨k+1,vs ++ [t1],_,by omega,by go_num,valL_snoc hlt HVL.out HO.out,H4.out.setCell _ _ _ (by omega) (fun hP=>by (have hP':w2.heap.size+1≤w2.heap.size:=hP);omega),?_,by simp;omega,?_,fun o=>by go_simp⟩
   ·exact Below.setCell (((yB hB (by omega) hB3).alloc (by omega) _).trans (hB4.mono (by omega))) (Nat.le_refl _) _
   go_simp
  case measure=>simp [intOf];omega
 have hkk:k=x.args.length:=by omega
 subst hkk
 have hval:=HVL.out
 rw [List.take_of_length_le (Nat.le_refl _)] at hval
 have hlv:=valL_length hval
 have HV2:=J (show valT bd self x=(if isT x sAdd 2 then sumO (vs.getD 1 yJ) (vs.getD 2 yJ) else some (tupT vs)) by rw [HV.out,hval];rfl)
 have hcr:wr.cell? ⟨w.heap.size,0,none⟩=some (.int .i64 x.kind)∧wr.cell? ⟨w.heap.size,1,none⟩=some (.int .i64 x.n)∧wr.cell? ⟨w.heap.size,2,none⟩=some (.string x.name)∧wr.cell? ⟨w.heap.size,3,none⟩=some (.slice a x.args.length cap):=by
  have r:=fun o=>hB.cell (p:=⟨w.heap.size,o,none⟩) g3
  rw [r,r,r,r];exact hc3
 have hzr:wr.cell? ⟨w.heap.size+1,0,none⟩=some (.int .i64 0)∧wr.cell? ⟨w.heap.size+1,1,none⟩=some (.int .i64 0)∧wr.cell? ⟨w.heap.size+1,2,none⟩=some (.string ⟨#[]⟩)∧wr.cell? ⟨w.heap.size+1,3,none⟩=some (.slice none 0 0):=by
  have r:=fun o=>hB.cell (p:=⟨w.heap.size+1,o,none⟩) g4
  rw [r,r,r,r];exact hz3
 have hfr:∀ o,wr.frozen? ⟨w.heap.size+1,o,none⟩=false:=fun o=>by rw [hB.frozen (p:=⟨w.heap.size+1,o,none⟩) g4];exact hfz o
 obtain ⟨x0,x1,x2,x3⟩:=hcr
 obtain ⟨y0,y1,y2,y3⟩:=hzr
 clear hc3 hz3 hfz hcB
 have hn1:w.heap.size < wr.heap.size:=by omega
 have hn2:w.heap.size+1 < wr.heap.size:=by omega
 have hn3:w2.heap.size < wr.heap.size:=by omega
 go_wp2_with fail
 refine (is_ris x sAdd 2 S _ _ (HX.out.below HBr.out) (by omega) (by omega) (by omega)).mono ?_
 rintro e w5 ⟨rfl,hB5⟩
 have hs5:=hB5.size
 obtain ⟨hcc5,hff5⟩:=bcell hB5
 have HB5:=J (yB HBr.out (by omega) hB5)
 have HT5:=J (HT.out.below hB5)
 obtain ⟨a5,cap5,hrow,hcap5,hr5⟩:=HT5.out.rsl (fun b hb=>hb)
 subst hrow
 have HT6:=J hr5;clear hr5
 have hn4:w.heap.size+1 < w5.heap.size:=by omega
 cases hadd:isT x sAdd 2
 ·rw [hadd] at HV2
  go_wp2_with fail
  refine bodyPost_ret (v:=.tuple #[.agg #[.int .i64 4,.int .i64 0,.string ⟨#[]⟩,.slice a5 vs.length cap5],.bool true]) (by simp [results,Tryz.results85,go_sem,hcc5,hn2,y0,y1,y2,y3,hlv]) rfl (VPost.of (tupT vs) _ _ rfl ?_ ?_ HV2.out)
  ·repeat refine Below.setCell ?_ (by simp <;> omega) _
   exact HB5.out
  refine RT.mono (S:=fun b=>w2.heap.size+1≤b) ?_ fun b hb=>.inr (by (have hb':w2.heap.size+1≤b:=hb);omega)
  repeat refine RT.slot ?_ _ _ _ (fun b hb=>by (have hb':w2.heap.size+1≤b:=hb);simp <;> omega)
  exact ⟨a5,cap5,rfl,hcap5,HT6.out⟩
 rw [hadd] at HV2
 have hln:=isT_length hadd
 obtain ⟨b5,o5,rfl⟩:=HT6.out.addr (by omega)
 obtain ⟨a6,cap6,hS6,d0,d1,d2,d3,hE6⟩:=HT6.out.elem 1 (by omega)
 obtain ⟨a7,cap7,hS7,e0,e1,e2,e3,hE7⟩:=HT6.out.elem 2 (by omega)
 have hv1:vs.getD 1 yJ=vs[1]'(by omega):=by simp [List.getD,show 1 < vs.length by omega]
 have hv2:vs.getD 2 yJ=vs[2]'(by omega):=by simp [List.getD,show 2 < vs.length by omega]
 rw [hv1,hv2] at HV2
 clear hv1 hv2
 simp only [Nat.one_mul] at d0 d1 d2 d3
 generalize vs[1]=t1 at *
 generalize vs[2]=t2 at *
 have hn5:b5 < w5.heap.size:=World.block_lt_of_cell? w5 _ d0
 have hn6:w2.heap.size < w5.heap.size:=by omega
 have hn7:w2.heap.size < w5.heap.size+1:=by omega
 have hn8:b5 < w5.heap.size+1:=by omega
 have hl5:(1:Int) < vs.length:=by omega
 have hl6:(2:Int) < vs.length:=by omega
 have HSM:=J (show sumO t1 t2=if sumB t1 t2 then some (numT (sumN t1 t2)) else none from rfl)
 have q3:w5.cell? ⟨w2.heap.size,3,none⟩=some (.slice (some ⟨b5,o5,none⟩) vs.length cap5):=by rw [hcc5 _ _ hn3];exact f3
 have yy:w5.cell? ⟨w.heap.size+1,0,none⟩=some (.int .i64 0)∧w5.cell? ⟨w.heap.size+1,1,none⟩=some (.int .i64 0)∧w5.cell? ⟨w.heap.size+1,2,none⟩=some (.string ⟨#[]⟩)∧w5.cell? ⟨w.heap.size+1,3,none⟩=some (.slice none 0 0):=by
  rw [hcc5 _ _ hn2,hcc5 _ _ hn2,hcc5 _ _ hn2,hcc5 _ _ hn2];exact ⟨y0,y1,y2,y3⟩
 have yf:∀ o,w5.frozen? ⟨w.heap.size+1,o,none⟩=false:=fun o=>by rw [hff5 _ _ hn2];exact hfr o
 have hq0:w5.cell? ⟨w2.heap.size,3,none⟩=some (.slice (some ⟨b5,o5,none⟩) vs.length cap5)∧w5.cell? ⟨b5,o5+4,none⟩=some (.int .i64 t1.kind)∧w5.cell? ⟨b5,o5+4+1,none⟩=some (.int .i64 t1.n)∧w5.cell? ⟨b5,o5+4+2,none⟩=some (.string t1.name)∧w5.cell? ⟨b5,o5+4+3,none⟩=some (.slice a6 t1.args.length cap6)∧w5.cell? ⟨b5,o5+2 * 4,none⟩=some (.int .i64 t2.kind)∧w5.cell? ⟨b5,o5+2 * 4+1,none⟩=some (.int .i64 t2.n)∧w5.cell? ⟨b5,o5+2 * 4+2,none⟩=some (.string t2.name)∧w5.cell? ⟨b5,o5+2 * 4+3,none⟩=some (.slice a7 t2.args.length cap7):=⟨q3,d0,d1,d2,d3,e0,e1,e2,e3⟩
 have hq:∀ w3:World,Below w5.drew.heap.size w5.drew w3→w3.cell? ⟨w2.heap.size,3,none⟩=some (.slice (some ⟨b5,o5,none⟩) vs.length cap5)∧w3.cell? ⟨b5,o5+4,none⟩=some (.int .i64 t1.kind)∧w3.cell? ⟨b5,o5+4+1,none⟩=some (.int .i64 t1.n)∧w3.cell? ⟨b5,o5+4+2,none⟩=some (.string t1.name)∧w3.cell? ⟨b5,o5+4+3,none⟩=some (.slice a6 t1.args.length cap6)∧w3.cell? ⟨b5,o5+2 * 4,none⟩=some (.int .i64 t2.kind)∧w3.cell? ⟨b5,o5+2 * 4+1,none⟩=some (.int .i64 t2.n)∧w3.cell? ⟨b5,o5+2 * 4+2,none⟩=some (.string t2.name)∧w3.cell? ⟨b5,o5+2 * 4+3,none⟩=some (.slice a7 t2.args.length cap7):=fun w3 h=>by
  obtain ⟨q,-⟩:=bcell h
  rw [q _ _ hn6,q _ _ hn5,q _ _ hn5,q _ _ hn5,q _ _ hn5,q _ _ hn5,q _ _ hn5,q _ _ hn5,q _ _ hn5];exact hq0
 have hz:∀ w3:World,Below w5.drew.heap.size w5.drew w3→(∀ o,w3.frozen? ⟨w.heap.size+1,o,none⟩=false)∧w3.cell? ⟨w.heap.size+1,0,none⟩=some (.int .i64 0)∧w3.cell? ⟨w.heap.size+1,1,none⟩=some (.int .i64 0)∧w3.cell? ⟨w.heap.size+1,2,none⟩=some (.string ⟨#[]⟩)∧w3.cell? ⟨w.heap.size+1,3,none⟩=some (.slice none 0 0):=fun w3 h=>by
  obtain ⟨q,r⟩:=bcell h
  refine ⟨fun o=>by rw [r _ _ hn4];exact yf o,?_⟩
  rw [q _ _ hn4,q _ _ hn4,q _ _ hn4,q _ _ hn4];exact yy
 have hbn1:b5≠w.heap.size+1:=by (have hS6':w2.heap.size+1≤b5:=hS6);omega
 have hbn2:w2.heap.size≠w.heap.size+1:=by omega
 have hkeep:∀ (w4:World) (u0 u1 u2 u3:Value),Below w5.drew.heap.size w5.drew w4→(fun w':World=>w'.cell? ⟨w2.heap.size,3,none⟩=some (.slice (some ⟨b5,o5,none⟩) vs.length cap5)∧w'.cell? ⟨b5,o5+4,none⟩=some (.int .i64 t1.kind)∧w'.cell? ⟨b5,o5+4+1,none⟩=some (.int .i64 t1.n)∧w'.cell? ⟨b5,o5+4+2,none⟩=some (.string t1.name)∧w'.cell? ⟨b5,o5+4+3,none⟩=some (.slice a6 t1.args.length cap6)∧w'.cell? ⟨b5,o5+2 * 4,none⟩=some (.int .i64 t2.kind)∧w'.cell? ⟨b5,o5+2 * 4+1,none⟩=some (.int .i64 t2.n)∧w'.cell? ⟨b5,o5+2 * 4+2,none⟩=some (.string t2.name)∧w'.cell? ⟨b5,o5+2 * 4+3,none⟩=some (.slice a7 t2.args.length cap7)) ((((w4.setCell ⟨w.heap.size+1,0,none⟩ u0).setCell ⟨w.heap.size+1,1,none⟩ u1).setCell ⟨w.heap.size+1,2,none⟩ u2).setCell ⟨w.heap.size+1,3,none⟩ u3):=fun w4 u0 u1 u2 u3 h=>by
  have e:∀ b' o',b'≠w.heap.size+1→((((w4.setCell ⟨w.heap.size+1,0,none⟩ u0).setCell ⟨w.heap.size+1,1,none⟩ u1).setCell ⟨w.heap.size+1,2,none⟩ u2).setCell ⟨w.heap.size+1,3,none⟩ u3).cell? ⟨b',o',none⟩=w4.cell? ⟨b',o',none⟩:=fun b' o' hne=>by
   refine World.cell?_of_block ?_
   simp only [yD _ _ _ _ _ hne]
  simp only [e _ _ hbn1,e _ _ hbn2]
  exact hq _ h
 simp only [] at hkeep
 have HE6:=J (hE6.below (Below.drew (Below.refl w5.heap.size w5)))
 have HE7:=J (hE7.below (Below.drew (Below.refl w5.heap.size w5)))
 clear x0 x1 x2 x3 y0 y1 y2 y3 hcc5 hff5 hfr f0 f1 f2 f3 hf8 HX HR HBD IH hB hB5 HT HT5 HT6 HVL HB1 HB2 HBr HV hn1 hn2 hn3 hE6 hE7
 go_wp2_with fail
 go_region_held3 (fun w'=>w'.cell? ⟨w2.heap.size,3,none⟩=some (.slice (some ⟨b5,o5,none⟩) vs.length cap5)∧w'.cell? ⟨b5,o5+4,none⟩=some (.int .i64 t1.kind)∧w'.cell? ⟨b5,o5+4+1,none⟩=some (.int .i64 t1.n)∧w'.cell? ⟨b5,o5+4+2,none⟩=some (.string t1.name)∧w'.cell? ⟨b5,o5+4+3,none⟩=some (.slice a6 t1.args.length cap6)∧w'.cell? ⟨b5,o5+2 * 4,none⟩=some (.int .i64 t2.kind)∧w'.cell? ⟨b5,o5+2 * 4+1,none⟩=some (.int .i64 t2.n)∧w'.cell? ⟨b5,o5+2 * 4+2,none⟩=some (.string t2.name)∧w'.cell? ⟨b5,o5+2 * 4+3,none⟩=some (.slice a7 t2.args.length cap7))
  (first | exact hq0 | exact hq _ hBB | exact hkeep _ _ _ _ _ hBB | go_keep)
  (first
   | (go_at_call 100;refine (sum_c t1 t2 _ _ _ _ _ HE6.out HE7.out).mono ?_;rintro e wc ⟨rfl,hBB⟩;obtain ⟨z0,z1,z2,z3,z4⟩:=hz _ hBB;obtain ⟨y0,y1,y2,y3,y4,y5,y6,y7,y8⟩:=hq _ hBB))
 go_wp2_with fail
 refine bodyPost_ret (v:=.tuple #[.agg #[.int .i64 1,.int .i64 (sumN t1 t2),.string ⟨#[]⟩,.slice none 0 0],.bool (sumB t1 t2)]) (by simp [results,Tryz.results85,go_sem,z1,z2,z3,z4]) rfl (VPost.of (numT (sumN t1 t2)) _ _ rfl ?_ (numT_rt _ _ _) (by rw [HV2.out];simp [HSM.out]))
 repeat refine Below.setCell ?_ (by simp <;> omega) _
 exact yB HB5.out.drew (by simp;omega) hBB
end
section
variable {bd:List T} {self:Int} {x:T} {S:Nat→Prop} {w:World} {v vb:Value}
end
section
variable {bd:List T} {self:Int} {x:T} {S:Nat→Prop} {w:World} {v vb:Value}
end
end Go.Proofs.YtedfepnekjjmnabGreat
