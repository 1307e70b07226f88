/-
  What a word stands for in a heap: plain words.
-/
import Derived.Test.YtedfepnekjjmnabGreatJc
import Derived.Test.YtedfepnekjjmnabGreatHeap2
namespace Go.Proofs.YtedfepnekjjmnabGreat
open Go.RowKit
set_option linter.unusedSimpArgs false
set_option linter.unusedVariables false
set_option maxRecDepth 100000
set_option maxHeartbeats 400000
def RepL (H : HS) : List T → List Wrd → Prop
  | [], xs => xs = []
  | ⟨k, n, s, l⟩ :: ts, xs => ∃ x r, xs = x :: r ∧
      (if k = 4 then n = 0 ∧ s = ⟨#[]⟩ ∧ ∃ i : Nat, x = ⟨4, i⟩ ∧ H.ws[i]? = some ⟨0, l.length⟩ ∧ i + 1 + l.length ≤ H.ws.length ∧ RepL H l (partsL H i l.length)
       else if k = 2 then n = 0 ∧ l = [] ∧ ∃ i : Nat, x = ⟨2, i⟩ ∧ H.names[i]? = some s
       else (k = 1 ∨ k = 3) ∧ s = ⟨#[]⟩ ∧ l = [] ∧ x = ⟨k, n⟩) ∧ RepL H ts r
def Rep (H:HS) (t:T) (x:Wrd):Prop :=
 if t.kind=4 then t.n=0∧t.name=⟨#[]⟩∧∃ i:Nat,x=⟨4,i⟩∧H.ws[i]?=some ⟨0,t.args.length⟩∧i+1+t.args.length≤H.ws.length∧RepL H t.args (partsL H i t.args.length)
 else if t.kind=2 then t.n=0∧t.args=[]∧∃ i:Nat,x=⟨2,i⟩∧H.names[i]?=some t.name
 else (t.kind=1∨t.kind=3)∧t.name=⟨#[]⟩∧t.args=[]∧x=⟨t.kind,t.n⟩
theorem RepL_nil (H:HS) (xs:List Wrd):RepL H [] xs↔xs=[]:=by rw [RepL]
theorem RepL_cons (H:HS) (t:T) (ts:List T) (xs:List Wrd):RepL H (t :: ts) xs↔∃ x r,xs=x :: r∧Rep H t x∧RepL H ts r:=by
 obtain ⟨k,n,s,l⟩:=t;rw [RepL];rfl
theorem RepL.length {H:HS}:∀ {ts:List T} {xs:List Wrd},RepL H ts xs→xs.length=ts.length
 | [],xs,h=>by rw [RepL_nil] at h;rw [h];rfl
 | t :: ts,xs,h=>by
  obtain ⟨x,r,rfl,-,h2⟩:=(RepL_cons H t ts xs).1 h
  simp [h2.length]
theorem RepL.at {H:HS}:∀ {ts:List T} {xs:List Wrd},RepL H ts xs→∀ i (h1:i < ts.length) (h2:i < xs.length),Rep H ts[i] xs[i]
 | [],xs,h,i,h1,h2=>by cases h1
 | t :: ts,xs,h,i,h1,h2=>by
  obtain ⟨x,r,rfl,h3,h4⟩:=(RepL_cons H t ts xs).1 h
  cases i with
  | zero=>exact h3
  | succ i=>exact h4.at i (by simpa using h1) (by simpa using h2)
theorem RepL.of {H:HS}:∀ {ts:List T} {xs:List Wrd},xs.length=ts.length→(∀ i (h1:i < ts.length) (h2:i < xs.length),Rep H ts[i] xs[i])→RepL H ts xs
 | [],xs,hl,_=>by rw [RepL_nil];exact List.eq_nil_of_length_eq_zero hl
 | t :: ts,[],hl,_=>by simp at hl
 | t :: ts,x :: xs,hl,h=>(RepL_cons H t ts (x :: xs)).2 ⟨x,xs,rfl,h 0 (by simp) (by simp),RepL.of (by simpa using hl) fun i h1 h2=>h (i+1) (by simpa using h1) (by simpa using h2)⟩
theorem Rep.kinds {H:HS} {t:T} {x:Wrd} (h:Rep H t x):x.kind=t.kind:=by
 unfold Rep at h
 split at h
 ·rename_i hk;obtain ⟨-,-,i,rfl,-⟩:=h;exact hk.symm
 split at h
 ·rename_i hk;obtain ⟨-,-,i,rfl,-⟩:=h;exact hk.symm
 obtain ⟨-,-,-,rfl⟩:=h;rfl
theorem Rep.tup {H:HS} {t:T} {x:Wrd} (h:Rep H t x) (hk:t.kind=4):t.n=0∧t.name=⟨#[]⟩∧∃ i:Nat,x=⟨4,i⟩∧H.ws[i]?=some ⟨0,t.args.length⟩∧i+1+t.args.length≤H.ws.length∧RepL H t.args (partsL H i t.args.length):=by
 unfold Rep at h;rwa [if_pos hk] at h
theorem Rep.atom {H:HS} {t:T} {x:Wrd} (h:Rep H t x) (hk:t.kind=2):t.n=0∧t.args=[]∧∃ i:Nat,x=⟨2,i⟩∧H.names[i]?=some t.name:=by
 unfold Rep at h;rwa [if_neg (by omega),if_pos hk] at h
theorem Rep.leaf {H:HS} {t:T} {x:Wrd} (h:Rep H t x) (h4:t.kind≠4) (h2:t.kind≠2):(t.kind=1∨t.kind=3)∧t.name=⟨#[]⟩∧t.args=[]∧x=⟨t.kind,t.n⟩:=by
 unfold Rep at h;rwa [if_neg h4,if_neg h2] at h
end Go.Proofs.YtedfepnekjjmnabGreat
