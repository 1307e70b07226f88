/-
  Contracts and plain laws, joined: Base Row All Frame Gen Grow Copied Is Own Pair PtrM RowQ Size St. Conditions stand in each.
-/
import Derived.Test.YtedfepnekjjmnabGreatRows
import Derived.WalkKit
import Derived.WalkSpells
import Derived.WalkLawsBesides
import Derived.BigQuiet
import Derived.Lib.Hide
import Derived.Deep.AppendLies
import Derived.Laws.AppendOwnNone
import Derived.ProofKit
import Derived.OpenShut
import Derived.JoinedCond
import Derived.Carry
import Derived.Deep.Slices
import Derived.Laws.Rows
import Derived.LaidEql
import Derived.Maps.Own
namespace Go.Proofs.YtedfepnekjjmnabGreat
open Go.RowKit
set_option linter.unusedSimpArgs false
set_option linter.unusedVariables false
set_option maxRecDepth 100000
set_option maxHeartbeats 1000000
structure T where
 kind:Int
 n:Int
 name:ByteArray
 args:List T
def yC:List T→Nat
 | []=>0
 | ⟨_,_,s,l⟩ :: ts=>1+s.size+yC l+yC ts
theorem yG (t:T) (ts:List T):yC (t :: ts)=1+t.name.size+yC t.args+yC ts:=by
 obtain ⟨k,n,s,l⟩:=t;rw [yC]
theorem bulkL_append (a b:List T):yC (a ++ b)=yC a+yC b:=by
 induction a with
 | nil=>simp [yC]
 | cons t ts ih=>simp only [List.cons_append,yG,ih];omega
theorem yM (ts:List T):ts.length≤yC ts:=by
 induction ts with
 | nil=>simp [yC]
 | cons t ts ih=>simp only [List.length_cons,yG];omega
theorem bulk_mem {t:T} {ts:List T} (h:t∈ts):yC [t]≤yC ts:=by
 induction ts with
 | nil=>cases h
 | cons x ts ih =>
  rcases List.mem_cons.1 h with rfl | h
  ·simp only [yG,yC];omega
  ·have:=ih h;rw [yG x];omega
theorem yR (t:T):yC t.args < yC [t]:=by simp only [yG,yC];omega
theorem bulk_name (t:T):t.name.size < yC [t]:=by simp only [yG,yC];omega
theorem bulk_at {ts:List T} {i:Nat} (h:i < ts.length):yC [ts[i]]≤yC ts:=bulk_mem (List.getElem_mem h)
theorem T.ind {p:T→Prop} (h:∀ t:T,(∀ x∈t.args,p x)→p t) (t:T):p t:=by
 have key:∀ m (t:T),yC [t]≤m→p t:=by
  intro m
  induction m with
  | zero=>intro t ht;have:=yR t;omega
  | succ m ih=>exact fun t ht=>h t fun x hx=>ih x (by have:=yR t;have:=bulk_mem hx;omega)
 exact key _ t (Nat.le_refl _)
def CapOk (a:Option Addr) (n cap:Nat):Prop:=n≤cap∧(a=none→cap=0)
def RTs (S:Nat→Prop) (w:World):List T→Option Addr→Nat→Prop
 | [],_,_=>True
 | ⟨k,n,s,l⟩ :: ts,a,i =>
  (∃ b o a' cap,a=some ⟨b,o,none⟩∧S b∧w.cell? ⟨b,o+i * 4,none⟩=some (.int .i64 k)∧w.cell? ⟨b,o+i * 4+1,none⟩=some (.int .i64 n) ∧
   w.cell? ⟨b,o+i * 4+2,none⟩=some (.string s)∧w.cell? ⟨b,o+i * 4+3,none⟩=some (.slice a' l.length cap)∧CapOk a' l.length cap∧RTs S w l a' 0)∧RTs S w ts a (i+1)
def RT (S:Nat→Prop) (w:World) (t:T) (v:Value):Prop :=
 ∃ a cap,v=.agg #[.int .i64 t.kind,.int .i64 t.n,.string t.name,.slice a t.args.length cap]∧CapOk a t.args.length cap∧RTs S w t.args a 0
def RSl (S:Nat→Prop) (w:World) (ts:List T) (v:Value):Prop :=
 ∃ a cap,v=.slice a ts.length cap∧CapOk a ts.length cap∧RTs S w ts a 0
theorem RTs_cons (S:Nat→Prop) (w:World) (t:T) (ts:List T) (a:Option Addr) (i:Nat):RTs S w (t :: ts) a i ↔
  (∃ b o a' cap,a=some ⟨b,o,none⟩∧S b∧w.cell? ⟨b,o+i * 4,none⟩=some (.int .i64 t.kind)∧w.cell? ⟨b,o+i * 4+1,none⟩=some (.int .i64 t.n) ∧
   w.cell? ⟨b,o+i * 4+2,none⟩=some (.string t.name)∧w.cell? ⟨b,o+i * 4+3,none⟩=some (.slice a' t.args.length cap)∧CapOk a' t.args.length cap∧RTs S w t.args a' 0)∧RTs S w ts a (i+1):=by
 obtain ⟨k,n,s,l⟩:=t;rw [RTs]
theorem RTs_of (S:Nat→Prop) (w:World) (ts:List T) (a:Option Addr) (i:Nat)
  (h:∀ j (hj:j < ts.length),∃ b o a' cap,a=some ⟨b,o,none⟩∧S b∧w.cell? ⟨b,o+(i+j) * 4,none⟩=some (.int .i64 ts[j].kind)∧w.cell? ⟨b,o+(i+j) * 4+1,none⟩=some (.int .i64 ts[j].n) ∧
   w.cell? ⟨b,o+(i+j) * 4+2,none⟩=some (.string ts[j].name)∧w.cell? ⟨b,o+(i+j) * 4+3,none⟩=some (.slice a' ts[j].args.length cap)∧CapOk a' ts[j].args.length cap∧RTs S w ts[j].args a' 0):RTs S w ts a i:=by
 induction ts generalizing i with
 | nil=>simp [RTs]
 | cons t ts ih =>
  rw [RTs_cons]
  refine ⟨h 0 (by simp),ih (i+1) fun j hj=>?_⟩
  have:=h (j+1) (by simpa using hj)
  rw [show i+1+j=i+(j+1) by omega]
  exact this
theorem RTs.at {S:Nat→Prop} {w:World} {ts:List T} {a:Option Addr} {i:Nat} (h:RTs S w ts a i) :
  ∀ j (hj:j < ts.length),∃ b o a' cap,a=some ⟨b,o,none⟩∧S b∧w.cell? ⟨b,o+(i+j) * 4,none⟩=some (.int .i64 ts[j].kind)∧w.cell? ⟨b,o+(i+j) * 4+1,none⟩=some (.int .i64 ts[j].n) ∧
   w.cell? ⟨b,o+(i+j) * 4+2,none⟩=some (.string ts[j].name)∧w.cell? ⟨b,o+(i+j) * 4+3,none⟩=some (.slice a' ts[j].args.length cap)∧CapOk a' ts[j].args.length cap∧RTs S w ts[j].args a' 0:=by
 induction ts generalizing i with
 | nil=>intro j hj;cases hj
 | cons t ts ih =>
  rw [RTs_cons] at h
  intro j hj
  cases j with
  | zero=>exact h.1
  | succ j =>
   have:=ih h.2 j (by simpa using hj)
   rw [show i+1+j=i+(j+1) by omega] at this
   exact this
theorem RTs.addr {S:Nat→Prop} {w:World} {ts:List T} {a:Option Addr} {i:Nat} (h:RTs S w ts a i) (hl:0 < ts.length):∃ b o,a=some ⟨b,o,none⟩:=by
 obtain ⟨b,o,_,_,rfl,_⟩:=h.at 0 hl;exact ⟨b,o,rfl⟩
theorem RTs.elem {S:Nat→Prop} {w:World} {ts:List T} {b o:Nat} (h:RTs S w ts (some ⟨b,o,none⟩) 0) (j:Nat) (hj:j < ts.length) :
  ∃ a' cap,S b∧w.cell? ⟨b,o+j * 4,none⟩=some (.int .i64 ts[j].kind)∧w.cell? ⟨b,o+j * 4+1,none⟩=some (.int .i64 ts[j].n) ∧
   w.cell? ⟨b,o+j * 4+2,none⟩=some (.string ts[j].name)∧w.cell? ⟨b,o+j * 4+3,none⟩=some (.slice a' ts[j].args.length cap) ∧
   RT S w ts[j] (.agg #[.int .i64 ts[j].kind,.int .i64 ts[j].n,.string ts[j].name,.slice a' ts[j].args.length cap]):=by
 obtain ⟨b',o',a',cap,e,hS,h0,h1,h2,h3,h4,h5⟩:=h.at j hj
 simp only [Option.some.injEq,Addr.mk.injEq,and_true] at e
 obtain ⟨rfl,rfl⟩:=e
 rw [Nat.zero_add] at h0 h1 h2 h3
 exact ⟨a',cap,hS,h0,h1,h2,h3,a',cap,rfl,h4,h5⟩
theorem RTs.move {S S':Nat→Prop} {w w':World} (hs:∀ b,S b→b < w.heap.size→S' b) (hc:∀ b o v,S b→w.cell? ⟨b,o,none⟩=some v→w'.cell? ⟨b,o,none⟩=some v) :
  ∀ m (ts:List T) (a:Option Addr) (i:Nat),yC ts≤m→RTs S w ts a i→RTs S' w' ts a i:=by
 intro m
 induction m with
 | zero=>intro ts a i hm _;cases ts with
  | nil=>simp [RTs]
  | cons t ts=>rw [yG] at hm;omega
 | succ m ih =>
  intro ts a i hm h
  refine RTs_of _ _ _ _ _ fun j hj=>?_
  obtain ⟨b,o,a',cap,e,hS,h0,h1,h2,h3,h4,h5⟩:=h.at j hj
  have hb:=bulk_at hj
  have ha:=yR ts[j]
  exact ⟨b,o,a',cap,e,hs b hS (World.block_lt_of_cell? w _ h0),hc _ _ _ hS h0,hc _ _ _ hS h1,hc _ _ _ hS h2,hc _ _ _ hS h3,h4,ih _ _ _ (by omega) h5⟩
theorem RTs.to {S S':Nat→Prop} {w w':World} {ts:List T} {a:Option Addr} {i:Nat} (h:RTs S w ts a i) (hs:∀ b,S b→b < w.heap.size→S' b)
  (hc:∀ b,S b→b < w.heap.size→w'.heap[b]?=w.heap[b]?):RTs S' w' ts a i :=
 RTs.move hs (fun b o v hS hv=>by rw [World.cell?_of_block (w:=w) (hc b hS (World.block_lt_of_cell? w _ hv))];exact hv) _ ts a i (Nat.le_refl _) h
theorem RT.to {S S':Nat→Prop} {w w':World} {t:T} {v:Value} (h:RT S w t v) (hs:∀ b,S b→b < w.heap.size→S' b)
  (hc:∀ b,S b→b < w.heap.size→w'.heap[b]?=w.heap[b]?):RT S' w' t v:=by
 obtain ⟨a,cap,e,hl,hr⟩:=h;exact ⟨a,cap,e,hl,hr.to hs hc⟩
theorem RSl.to {S S':Nat→Prop} {w w':World} {ts:List T} {v:Value} (h:RSl S w ts v) (hs:∀ b,S b→b < w.heap.size→S' b)
  (hc:∀ b,S b→b < w.heap.size→w'.heap[b]?=w.heap[b]?):RSl S' w' ts v:=by
 obtain ⟨a,cap,e,hl,hr⟩:=h;exact ⟨a,cap,e,hl,hr.to hs hc⟩
theorem RT.below {S:Nat→Prop} {w w':World} {t:T} {v:Value} (h:RT S w t v) (hB:Below w.heap.size w w'):RT S w' t v:=h.to (fun _ h _=>h) fun b _ hb=>hB.block b hb
theorem RTs.below {S:Nat→Prop} {w w':World} {ts:List T} {a:Option Addr} {i:Nat} (h:RTs S w ts a i) (hB:Below w.heap.size w w'):RTs S w' ts a i:=h.to (fun _ h _=>h) fun b _ hb=>hB.block b hb
theorem RSl.below {S:Nat→Prop} {w w':World} {ts:List T} {v:Value} (h:RSl S w ts v) (hB:Below w.heap.size w w'):RSl S w' ts v:=h.to (fun _ h _=>h) fun b _ hb=>hB.block b hb
theorem RT.mono {S S':Nat→Prop} {w:World} {t:T} {v:Value} (h:RT S w t v) (hs:∀ b,S b→S' b):RT S' w t v:=h.to (fun b h _=>hs b h) fun _ _ _=>rfl
theorem RSl.mono {S S':Nat→Prop} {w:World} {ts:List T} {v:Value} (h:RSl S w ts v) (hs:∀ b,S b→S' b):RSl S' w ts v:=h.to (fun b h _=>hs b h) fun _ _ _=>rfl
theorem yA (w:World) (o:Obj):Below w.heap.size w (w.alloc o):=(Below.refl _ _).alloc (Nat.le_refl _) o
theorem RT.alloc {S:Nat→Prop} {w:World} {t:T} {v:Value} (h:RT S w t v) (o:Obj):RT S (w.alloc o) t v:=h.below (yA w o)
theorem RTs.alloc {S:Nat→Prop} {w:World} {ts:List T} {a:Option Addr} {i:Nat} (h:RTs S w ts a i) (o:Obj):RTs S (w.alloc o) ts a i:=h.below (yA w o)
theorem RSl.alloc {S:Nat→Prop} {w:World} {ts:List T} {v:Value} (h:RSl S w ts v) (o:Obj):RSl S (w.alloc o) ts v:=h.below (yA w o)
theorem bcell {W w1:World} (hb:Below W.heap.size W w1):(∀ b o,b < W.heap.size→w1.cell? ⟨b,o,none⟩=W.cell? ⟨b,o,none⟩)∧(∀ b o,b < W.heap.size→w1.frozen? ⟨b,o,none⟩=W.frozen? ⟨b,o,none⟩) :=
 ⟨fun b o h=>hb.cell (p:=⟨b,o,none⟩) h,fun b o h=>hb.frozen (p:=⟨b,o,none⟩) h⟩
theorem yB {B:Nat} {a w w':World} (h:Below B a w) (hB:B≤w.heap.size) (h':Below w.heap.size w w'):Below B a w':=h.trans (h'.mono hB)
theorem take_snoc' {α:Type} (l:List α) (k:Nat) (h:k < l.length):l.take (k+1)=l.take k ++ [l[k]]:=by
 rw [List.take_succ_eq_append_getElem h]
theorem bulk_take (l:List T) (k:Nat):yC (l.take k)≤yC l:=by
 have h:=bulkL_append (l.take k) (l.drop k)
 rw [List.take_append_drop] at h
 omega
theorem bulk_snoc {l:List T} {k:Nat} (h:k < l.length):yC (l.take k)+yC [l[k]]≤yC l:=by
 have h1:=bulk_take l (k+1)
 rw [take_snoc' l k h,bulkL_append] at h1
 exact h1
theorem yO {k:IntKind} {a b:Int} (h:a=b):Ending.returned (.int k a)=.returned (.int k b):=by rw [h]
theorem yL {a b:Bool} (h:a=b):Ending.returned (.bool a)=.returned (.bool b):=by rw [h]
theorem yD (w:World) (B o:Nat) (v:Value) (b:Nat) (h:b≠B):(w.setCell ⟨B,o,none⟩ v).heap[b]?=w.heap[b]?:=Below.heap_setCell w ⟨B,o,none⟩ v b h
theorem I {α:Sort _} (x:α):∃ y,y=x:=⟨_,rfl⟩
theorem J {p:Prop} (h:p):Hid p:=Lib.hid h
theorem pA {α:Type _} (l:List α) (i:Nat) (a:α):l.toArray.setIfInBounds i a=(l.set i a).toArray:=List.setIfInBounds_toArray ..
theorem pB {α:Type _} (x:α) (l:List α) (a:α):(x :: l).set 0 a=a :: l:=rfl
theorem pC {α:Type _} (x:α) (l:List α) (n:Nat) (a:α):(x :: l).set (n+1) a=x :: l.set n a:=rfl
theorem mT {α:Type _} {a b:α} {l:List α} (h:a∈l):a∈b :: l:=List.mem_cons_of_mem _ h
theorem mU {α:Type _} {b:α} {l:List α}:∀ {a:α},a∈l→a∈b :: l:=List.mem_cons_of_mem _
theorem mS0 {α:Type _} {a0:α} {l:List α}:a0∈a0 :: l:=by simp
theorem mS1 {α:Type _} {a0 a1:α} {l:List α}:a1∈a0 :: a1 :: l:=by simp
theorem mS2 {α:Type _} {a0 a1 a2:α} {l:List α}:a2∈a0 :: a1 :: a2 :: l:=by simp
theorem mS3 {α:Type _} {a0 a1 a2 a3:α} {l:List α}:a3∈a0 :: a1 :: a2 :: a3 :: l:=by simp
theorem mS4 {α:Type _} {a0 a1 a2 a3 a4:α} {l:List α}:a4∈a0 :: a1 :: a2 :: a3 :: a4 :: l:=by simp
theorem mS5 {α:Type _} {a0 a1 a2 a3 a4 a5:α} {l:List α}:a5∈a0 :: a1 :: a2 :: a3 :: a4 :: a5 :: l:=by simp
theorem mS6 {α:Type _} {a0 a1 a2 a3 a4 a5 a6:α} {l:List α}:a6∈a0 :: a1 :: a2 :: a3 :: a4 :: a5 :: a6 :: l:=by simp
theorem mS7 {α:Type _} {a0 a1 a2 a3 a4 a5 a6 a7:α} {l:List α}:a7∈a0 :: a1 :: a2 :: a3 :: a4 :: a5 :: a6 :: a7 :: l:=by simp
theorem mS8 {α:Type _} {a0 a1 a2 a3 a4 a5 a6 a7 a8:α} {l:List α}:a8∈a0 :: a1 :: a2 :: a3 :: a4 :: a5 :: a6 :: a7 :: a8 :: l:=by simp
theorem mS9 {α:Type _} {a0 a1 a2 a3 a4 a5 a6 a7 a8 a9:α} {l:List α}:a9∈a0 :: a1 :: a2 :: a3 :: a4 :: a5 :: a6 :: a7 :: a8 :: a9 :: l:=by simp
theorem mS10 {α:Type _} {a0 a1 a2 a3 a4 a5 a6 a7 a8 a9 a10:α} {l:List α}:a10∈a0 :: a1 :: a2 :: a3 :: a4 :: a5 :: a6 :: a7 :: a8 :: a9 :: a10 :: l:=by simp
theorem mS11 {α:Type _} {a0 a1 a2 a3 a4 a5 a6 a7 a8 a9 a10 a11:α} {l:List α}:a11∈a0 :: a1 :: a2 :: a3 :: a4 :: a5 :: a6 :: a7 :: a8 :: a9 :: a10 :: a11 :: l:=by simp
def CellsT (S:Nat→Prop) (w:World):List T→List Value→Prop
 | [],cs=>cs=[]
 | t :: ts,cs=>∃ a cap cs',cs=.int .i64 t.kind :: .int .i64 t.n :: .string t.name :: .slice a t.args.length cap :: cs'∧CapOk a t.args.length cap∧RTs S w t.args a 0∧CellsT S w ts cs'
theorem CellsT.length {S:Nat→Prop} {w:World} {ts:List T} {cs:List Value} (h:CellsT S w ts cs):cs.length=ts.length * 4:=by
 induction ts generalizing cs with
 | nil=>simp only [CellsT] at h;subst h;rfl
 | cons t ts ih=>obtain ⟨a,cap,cs',rfl,_,_,h'⟩:=h;simp only [List.length_cons,ih h'];omega
theorem CellsT.append {S:Nat→Prop} {w:World} {ts ls:List T} {cs ds:List Value} (h:CellsT S w ts cs) (h':CellsT S w ls ds):CellsT S w (ts ++ ls) (cs ++ ds):=by
 induction ts generalizing cs with
 | nil=>simp only [CellsT] at h;subst h;exact h'
 | cons t ts ih=>obtain ⟨a,cap,cs',rfl,h1,h2,h3⟩:=h;exact ⟨a,cap,cs' ++ ds,rfl,h1,h2,ih h3⟩
theorem CellsT.oneCell {S:Nat→Prop} {w:World} {ts:List T} {cs:List Value} (h:CellsT S w ts cs):∀ u∈cs,u.oneCell'=true:=by
 induction ts generalizing cs with
 | nil=>simp only [CellsT] at h;subst h;simp
 | cons t ts ih =>
  obtain ⟨a,cap,cs',rfl,h1,h2,h3⟩:=h
  intro u hu
  simp only [List.mem_cons] at hu
  rcases hu with rfl | rfl | rfl | rfl | hu
  ·rfl
  ·rfl
  ·rfl
  ·rfl
  ·exact ih h3 u hu
theorem CellsT.to {S S':Nat→Prop} {w w':World} {ts:List T} {cs:List Value} (h:CellsT S w ts cs) (hs:∀ b,S b→b < w.heap.size→S' b)
  (hc:∀ b,S b→b < w.heap.size→w'.heap[b]?=w.heap[b]?):CellsT S' w' ts cs:=by
 induction ts generalizing cs with
 | nil=>exact h
 | cons t ts ih=>obtain ⟨a,cap,cs',rfl,h1,h2,h3⟩:=h;exact ⟨a,cap,cs',rfl,h1,h2.to hs hc,ih h3⟩
theorem CellsT.at {S:Nat→Prop} {w:World} {ts:List T} {cs:List Value} (h:CellsT S w ts cs) (j:Nat) (hj:j < ts.length) :
  ∃ a cap,cs[j * 4]?=some (.int .i64 ts[j].kind)∧cs[j * 4+1]?=some (.int .i64 ts[j].n)∧cs[j * 4+2]?=some (.string ts[j].name)∧cs[j * 4+3]?=some (.slice a ts[j].args.length cap) ∧
   CapOk a ts[j].args.length cap∧RTs S w ts[j].args a 0:=by
 induction ts generalizing cs j with
 | nil=>cases hj
 | cons t ts ih =>
  obtain ⟨a,cap,cs',rfl,h1,h2,h3⟩:=h
  cases j with
  | zero=>exact ⟨a,cap,rfl,rfl,rfl,rfl,h1,h2⟩
  | succ j =>
   obtain ⟨a',cap',g0,g1,g2,g3,g4,g5⟩:=ih h3 j (by simpa using hj)
   refine ⟨a',cap',?_,?_,?_,?_,g4,g5⟩
   ·rw [show (j+1) * 4=j * 4+1+1+1+1 by omega];exact g0
   ·rw [show (j+1) * 4+1=j * 4+1+1+1+1+1 by omega];exact g1
   ·rw [show (j+1) * 4+2=j * 4+2+1+1+1+1 by omega];exact g2
   ·rw [show (j+1) * 4+3=j * 4+3+1+1+1+1 by omega];exact g3
def RSl2 (R S:Nat→Prop) (w:World) (ts:List T) (v:Value):Prop :=
 ∃ a cap cs,v=.slice a ts.length cap∧CapOk a ts.length cap∧CellsT S w ts cs∧∀ j u,cs[j]?=some u→∃ b o,a=some ⟨b,o,none⟩∧R b∧w.cell? ⟨b,o+j,none⟩=some u
theorem RSl2.to {R R' S S':Nat→Prop} {w w':World} {ts:List T} {v:Value} (h:RSl2 R S w ts v) (hr:∀ b,R b→b < w.heap.size→R' b) (hs:∀ b,S b→b < w.heap.size→S' b)
  (hc:∀ b,S b∨R b→b < w.heap.size→w'.heap[b]?=w.heap[b]?):RSl2 R' S' w' ts v:=by
 obtain ⟨a,cap,cs,rfl,hl,hC,hj⟩:=h
 refine ⟨a,cap,cs,rfl,hl,hC.to hs (fun b hb=>hc b (.inl hb)),fun j u hu=>?_⟩
 obtain ⟨b,o,rfl,hR,hcell⟩:=hj j u hu
 have hlt:=World.block_lt_of_cell? w _ hcell
 exact ⟨b,o,rfl,hr b hR hlt,by rw [World.cell?_of_block (w:=w) (hc b (.inr hR) hlt)];exact hcell⟩
theorem RSl2.below {R S:Nat→Prop} {w w':World} {ts:List T} {v:Value} (h:RSl2 R S w ts v) (hB:Below w.heap.size w w'):RSl2 R S w' ts v:=h.to (fun _ h _=>h) (fun _ h _=>h) fun b _ hb=>hB.block b hb
theorem RSl2.mono {R R' S S':Nat→Prop} {w:World} {ts:List T} {v:Value} (h:RSl2 R S w ts v) (hr:∀ b,R b→R' b) (hs:∀ b,S b→S' b):RSl2 R' S' w ts v:=h.to (fun b h _=>hr b h) (fun b h _=>hs b h) fun _ _ _=>rfl
theorem RSl2.form {R S:Nat→Prop} {w:World} {ts:List T} {v:Value} (h:RSl2 R S w ts v):∃ a cap,v=.slice a ts.length cap:=by
 obtain ⟨a,cap,_,rfl,_⟩:=h;exact ⟨a,cap,rfl⟩
theorem RSl2.addr {R S:Nat→Prop} {w:World} {ts:List T} {a:Option Addr} {n cap:Nat} (h:RSl2 R S w ts (.slice a n cap)) (hl:0 < ts.length):∃ b o,a=some ⟨b,o,none⟩:=by
 obtain ⟨a',cap',cs,e,hcl,hC,hj⟩:=h
 simp only [Value.slice.injEq] at e
 obtain ⟨rfl,_,_⟩:=e
 obtain ⟨_,_,h0,_⟩:=hC.at 0 hl
 obtain ⟨b,o,e,_⟩:=hj _ _ h0
 exact ⟨b,o,e⟩
theorem RSl2.elem {R S:Nat→Prop} {w:World} {ts:List T} {b o n cap:Nat} (h:RSl2 R S w ts (.slice (some ⟨b,o,none⟩) n cap)) (j:Nat) (hj:j < ts.length) :
  ∃ a' cap',R b∧w.cell? ⟨b,o+j * 4,none⟩=some (.int .i64 ts[j].kind)∧w.cell? ⟨b,o+j * 4+1,none⟩=some (.int .i64 ts[j].n) ∧
   w.cell? ⟨b,o+j * 4+2,none⟩=some (.string ts[j].name)∧w.cell? ⟨b,o+j * 4+3,none⟩=some (.slice a' ts[j].args.length cap') ∧
   RT S w ts[j] (.agg #[.int .i64 ts[j].kind,.int .i64 ts[j].n,.string ts[j].name,.slice a' ts[j].args.length cap']):=by
 obtain ⟨a',cap',cs,e,hcl,hC,hj'⟩:=h
 simp only [Value.slice.injEq] at e
 obtain ⟨rfl,_,_⟩:=e
 obtain ⟨a',cap',h0,h1,h2,h3,h4,h5⟩:=hC.at j hj
 have key:∀ i u,cs[i]?=some u→R b∧w.cell? ⟨b,o+i,none⟩=some u:=by
  intro i u hu
  obtain ⟨b',o',e,hR,hc⟩:=hj' i u hu
  simp only [Option.some.injEq,Addr.mk.injEq,and_true] at e
  obtain ⟨rfl,rfl⟩:=e
  exact ⟨hR,hc⟩
 exact ⟨a',cap',(key _ _ h0).1,(key _ _ h0).2,(key _ _ h1).2,(key _ _ h2).2,(key _ _ h3).2,a',cap',rfl,h4,h5⟩
theorem RSl2.rsl {R S:Nat→Prop} {w:World} {ts:List T} {v:Value} (h:RSl2 R S w ts v):RSl (fun b=>R b∨S b) w ts v:=by
 obtain ⟨a,cap,cs,rfl,hl,hC,hj⟩:=h
 refine ⟨a,cap,rfl,hl,RTs_of _ _ _ _ _ fun j hjl=>?_⟩
 obtain ⟨a',cap',h0,h1,h2,h3,h4,h5⟩:=hC.at j hjl
 obtain ⟨b,o,rfl,hR,hc0⟩:=hj _ _ h0
 have key:∀ i u,cs[i]?=some u→w.cell? ⟨b,o+i,none⟩=some u:=by
  intro i u hu
  obtain ⟨b',o',e,_,hc⟩:=hj i u hu
  simp only [Option.some.injEq,Addr.mk.injEq,and_true] at e
  obtain ⟨rfl,rfl⟩:=e
  exact hc
 rw [Nat.zero_add]
 exact ⟨b,o,a',cap',rfl,.inl hR,key _ _ h0,key _ _ h1,key _ _ h2,key _ _ h3,h4,h5.to (fun _ h _=>.inr h) fun _ _ _=>rfl⟩
theorem RTs.cells {S:Nat→Prop} {w:World}:∀ {ts:List T} {a:Option Addr} {i:Nat},RTs S w ts a i →
  ∃ cs,CellsT S w ts cs∧∀ j u,cs[j]?=some u→∃ b o,a=some ⟨b,o,none⟩∧S b∧w.cell? ⟨b,o+i * 4+j,none⟩=some u
 | [],_,_,_=>⟨[],rfl,fun j u h=>by simp at h⟩
 | t :: ts,a,i,h=>by
  rw [RTs_cons] at h
  obtain ⟨⟨b,o,a',cap,rfl,hS,h0,h1,h2,h3,h4,h5⟩,hr⟩:=h
  obtain ⟨cs,hC,hj⟩:=RTs.cells hr
  refine ⟨_,⟨a',cap,cs,rfl,h4,h5,hC⟩,fun j u hu=>?_⟩
  match j,hu with
  | 0,hu=>exact ⟨b,o,rfl,hS,by simp only [List.getElem?_cons_zero] at hu;rw [←hu];exact h0⟩
  | 1,hu=>exact ⟨b,o,rfl,hS,by simp only [List.getElem?_cons_succ,List.getElem?_cons_zero] at hu;rw [←hu];exact h1⟩
  | 2,hu=>exact ⟨b,o,rfl,hS,by simp only [List.getElem?_cons_succ,List.getElem?_cons_zero] at hu;rw [←hu];exact h2⟩
  | 3,hu=>exact ⟨b,o,rfl,hS,by simp only [List.getElem?_cons_succ,List.getElem?_cons_zero] at hu;rw [←hu];exact h3⟩
  | j+4,hu =>
   obtain ⟨b',o',e,hS',hc⟩:=hj j u (by simpa using hu)
   simp only [Option.some.injEq,Addr.mk.injEq,and_true] at e
   obtain ⟨rfl,rfl⟩:=e
   exact ⟨b,o,rfl,hS,by rw [show o+i * 4+(j+4)=o+(i+1) * 4+j by omega];exact hc⟩
theorem RSl.rsl2 {S:Nat→Prop} {w:World} {ts:List T} {v:Value} (h:RSl S w ts v):RSl2 S S w ts v:=by
 obtain ⟨a,cap,rfl,hl,hr⟩:=h
 obtain ⟨cs,hC,hj⟩:=hr.cells
 exact ⟨a,cap,cs,rfl,hl,hC,fun j u hu=>by simpa using hj j u hu⟩
theorem RT.one {S:Nat→Prop} {w:World} {t:T} {c0 c1 c2 c3:Value} (h:RT S w t (.agg #[c0,c1,c2,c3])) (e:TypeId) :
  RSl2 (fun b=>b=w.heap.size) S (w.alloc (.cells #[c0,c1,c2,c3] e)) [t] (.slice (some ⟨w.heap.size,0,none⟩) 1 1):=by
 obtain ⟨a,cap,ev,hl,hr⟩:=h
 simp only [Value.agg.injEq,Array.mk.injEq,List.cons.injEq,and_true] at ev
 obtain ⟨rfl,rfl,rfl,rfl⟩:=ev
 refine ⟨_,1,_,rfl,⟨Nat.le_refl _,by simp⟩,⟨a,cap,[],rfl,hl,hr.alloc _,rfl⟩,fun j u hu=>⟨w.heap.size,0,rfl,rfl,?_⟩⟩
 rw [Nat.zero_add,World.cell?_alloc_new]
 simpa using hu
def RI (S:Nat→Prop) (w:World) (xs:List Int) (v:Value):Prop :=
 ∃ a cap,v=.slice a xs.length cap∧CapOk a xs.length cap∧∀ j x,xs[j]?=some x→∃ b o,a=some ⟨b,o,none⟩∧S b∧w.cell? ⟨b,o+j,none⟩=some (.int .i64 x)
theorem RI.to {S S':Nat→Prop} {w w':World} {xs:List Int} {v:Value} (h:RI S w xs v) (hs:∀ b,S b→b < w.heap.size→S' b)
  (hc:∀ b,S b→b < w.heap.size→w'.heap[b]?=w.heap[b]?):RI S' w' xs v:=by
 obtain ⟨a,cap,rfl,hl,hj⟩:=h
 refine ⟨a,cap,rfl,hl,fun j x hx=>?_⟩
 obtain ⟨b,o,rfl,hS,hcell⟩:=hj j x hx
 have hlt:=World.block_lt_of_cell? w _ hcell
 exact ⟨b,o,rfl,hs b hS hlt,by rw [World.cell?_of_block (w:=w) (hc b hS hlt)];exact hcell⟩
theorem RI.below {S:Nat→Prop} {w w':World} {xs:List Int} {v:Value} (h:RI S w xs v) (hB:Below w.heap.size w w'):RI S w' xs v:=h.to (fun _ h _=>h) fun b _ hb=>hB.block b hb
theorem RI.mono {S S':Nat→Prop} {w:World} {xs:List Int} {v:Value} (h:RI S w xs v) (hs:∀ b,S b→S' b):RI S' w xs v:=h.to (fun b h _=>hs b h) fun _ _ _=>rfl
theorem RI.form {S:Nat→Prop} {w:World} {xs:List Int} {v:Value} (h:RI S w xs v):∃ a cap,v=.slice a xs.length cap:=by
 obtain ⟨a,cap,rfl,_⟩:=h;exact ⟨a,cap,rfl⟩
theorem RI.addr {S:Nat→Prop} {w:World} {xs:List Int} {a:Option Addr} {n cap:Nat} (h:RI S w xs (.slice a n cap)) (hl:0 < xs.length):∃ b o,a=some ⟨b,o,none⟩:=by
 obtain ⟨a',cap',e,_,hj⟩:=h
 simp only [Value.slice.injEq] at e
 obtain ⟨rfl,_,_⟩:=e
 obtain ⟨b,o,e,_⟩:=hj 0 xs[0] (by simp)
 exact ⟨b,o,e⟩
theorem RI.elem {S:Nat→Prop} {w:World} {xs:List Int} {b o n cap:Nat} (h:RI S w xs (.slice (some ⟨b,o,none⟩) n cap)) (j:Nat) (hj:j < xs.length):S b∧w.cell? ⟨b,o+j,none⟩=some (.int .i64 xs[j]):=by
 obtain ⟨a',cap',e,_,hj'⟩:=h
 simp only [Value.slice.injEq] at e
 obtain ⟨rfl,_,_⟩:=e
 obtain ⟨b',o',e,hS,hc⟩:=hj' j xs[j] (by simp [hj])
 simp only [Option.some.injEq,Addr.mk.injEq,and_true] at e
 obtain ⟨rfl,rfl⟩:=e
 exact ⟨hS,hc⟩
theorem RI.lit (w:World) (xs:List Int) (e:TypeId):RI (fun b=>b=w.heap.size) (w.alloc (.cells (xs.map (Value.int .i64)).toArray e)) xs (.slice (some ⟨w.heap.size,0,none⟩) xs.length xs.length) :=
 ⟨_,_,rfl,⟨Nat.le_refl _,by simp⟩,fun j x hx=>⟨w.heap.size,0,rfl,rfl,by rw [Nat.zero_add,World.cell?_alloc_new];simp [hx]⟩⟩
/-! ### Rows that the call appends to -/
def OwnT (S:Nat→Prop) (base:Nat) (w:World) (v:Value) (ts:List T):Prop:=∃ cs,w.ownsRow base 25 4 v ts.length cs∧CellsT S w ts cs
def OwnI (base:Nat) (w:World) (v:Value) (xs:List Int):Prop:=w.ownsRow base 3 1 v xs.length (xs.map (Value.int .i64))
theorem OwnT.nil (S:Nat→Prop) (base:Nat) (w:World):OwnT S base w (.slice none 0 0) []:=⟨[],World.ownsRow_nil _ _ _ _,rfl⟩
theorem OwnI.nil (base:Nat) (w:World):OwnI base w (.slice none 0 0) []:=World.ownsRow_nil _ _ _ _
theorem OwnT.to {S S':Nat→Prop} {base base':Nat} {w w':World} {v:Value} {ts:List T} (h:OwnT S base w v ts) (hb:base'≤base) (hs:∀ b,S b→b < w.heap.size→S' b)
  (hc:∀ b,(S b∨v.ownBlock=some b)→b < w.heap.size→w'.heap[b]?=w.heap[b]?):OwnT S' base' w' v ts:=by
 obtain ⟨cs,⟨h1,h2⟩,hC⟩:=h
 refine ⟨cs,⟨h1,?_⟩,hC.to hs (fun b hb=>hc b (.inl hb))⟩
 rcases h2 with h2 | ⟨g,cap,cur,rfl,hg,hh,r⟩
 ·exact .inl h2
 exact .inr ⟨g,cap,cur,rfl,by omega,by rw [hc g (.inr rfl) (Array.getElem?_eq_some_iff.1 hh).1];exact hh,r⟩
theorem OwnI.to {base base':Nat} {w w':World} {v:Value} {xs:List Int} (h:OwnI base w v xs) (hb:base'≤base)
  (hc:∀ b,v.ownBlock=some b→b < w.heap.size→w'.heap[b]?=w.heap[b]?):OwnI base' w' v xs:=by
 obtain ⟨h1,h2⟩:=h
 refine ⟨h1,?_⟩
 rcases h2 with h2 | ⟨g,cap,cur,rfl,hg,hh,r⟩
 ·exact .inl h2
 exact .inr ⟨g,cap,cur,rfl,by omega,by rw [hc g rfl (Array.getElem?_eq_some_iff.1 hh).1];exact hh,r⟩
theorem OwnT.below {S:Nat→Prop} {base:Nat} {w w':World} {v:Value} {ts:List T} (h:OwnT S base w v ts) (hB:Below w.heap.size w w'):OwnT S base w' v ts:=h.to (Nat.le_refl _) (fun _ h _=>h) fun b _ hb=>hB.block b hb
theorem OwnI.below {base:Nat} {w w':World} {v:Value} {xs:List Int} (h:OwnI base w v xs) (hB:Below w.heap.size w w'):OwnI base w' v xs:=h.to (Nat.le_refl _) fun b _ hb=>hB.block b hb
theorem OwnT.block {S:Nat→Prop} {base:Nat} {w:World} {v:Value} {ts:List T} (h:OwnT S base w v ts):∀ b,v.ownBlock=some b→base≤b∧b < w.heap.size:=by
 obtain ⟨cs,h,_⟩:=h;exact h.lt
theorem OwnI.block {base:Nat} {w:World} {v:Value} {xs:List Int} (h:OwnI base w v xs):∀ b,v.ownBlock=some b→base≤b∧b < w.heap.size:=h.lt
theorem OwnT.rsl2 {S:Nat→Prop} {base:Nat} {w:World} {v:Value} {ts:List T} (h:OwnT S base w v ts):RSl2 (fun b=>v.ownBlock=some b) S w ts v:=by
 obtain ⟨cs,ho,hC⟩:=h
 have hcell:=fun g hg=>ho.cells (g:=g) hg
 obtain ⟨h1,h2⟩:=ho
 rcases h2 with ⟨rfl,h0⟩ | ⟨g,cap,cur,rfl,hg,hh,hn,r⟩
 ·have:ts=[]:=List.eq_nil_of_length_eq_zero h0
  subst this
  simp only [CellsT] at hC
  subst hC
  exact ⟨none,0,[],rfl,⟨Nat.le_refl _,fun _=>rfl⟩,rfl,fun j u h=>by simp at h⟩
 refine ⟨some ⟨g,0,none⟩,cap,cs,rfl,⟨hn,by simp⟩,hC,fun j u hu=>⟨g,0,rfl,rfl,?_⟩⟩
 have:=hcell g rfl j u hu
 unfold Addr.add at this
 split at this
 ·rename_i h0;subst h0;exact this
 exact this
theorem OwnI.ri {base:Nat} {w:World} {v:Value} {xs:List Int} (h:OwnI base w v xs):RI (fun b=>v.ownBlock=some b) w xs v:=by
 have hcell:=fun g hg=>World.ownsRow.cells h (g:=g) hg
 obtain ⟨h1,h2⟩:=h
 rcases h2 with ⟨rfl,h0⟩ | ⟨g,cap,cur,rfl,hg,hh,hn,r⟩
 ·have:xs=[]:=List.eq_nil_of_length_eq_zero h0
  subst this
  exact ⟨none,0,rfl,⟨Nat.le_refl _,fun _=>rfl⟩,fun j u h=>by simp at h⟩
 refine ⟨some ⟨g,0,none⟩,cap,rfl,⟨hn,by simp⟩,fun j u hu=>⟨g,0,rfl,rfl,?_⟩⟩
 have:=hcell g rfl j (.int .i64 u) (by simp [hu])
 unfold Addr.add at this
 split at this
 ·rename_i h0;subst h0;exact this
 exact this
theorem OwnT.alloc {S:Nat→Prop} {base:Nat} {w:World} {v:Value} {ts:List T} (h:OwnT S base w v ts) (o:Obj):OwnT S base (w.alloc o) v ts:=h.below (yA w o)
theorem OwnI.alloc {base:Nat} {w:World} {v:Value} {xs:List Int} (h:OwnI base w v xs) (o:Obj):OwnI base (w.alloc o) v xs:=h.below (yA w o)
theorem OwnT.one {S:Nat→Prop} {base:Nat} {w:World} {t:T} {c0 c1 c2 c3:Value} (h:RT S w t (.agg #[c0,c1,c2,c3])) (hb:base≤w.heap.size) :
  OwnT S base (w.alloc (.cells #[c0,c1,c2,c3] 25)) (.slice (some ⟨w.heap.size,0,none⟩) 1 1) [t]:=by
 obtain ⟨a,cap,ev,hl,hr⟩:=h
 simp only [Value.agg.injEq,Array.mk.injEq,List.cons.injEq,and_true] at ev
 obtain ⟨rfl,rfl,rfl,rfl⟩:=ev
 exact ⟨_,World.ownsRow_lit w _ 1 hb (by decide) rfl,a,cap,[],rfl,hl,hr.alloc _,rfl⟩
theorem OwnI.one {base:Nat} {w:World} (x:Int) (hb:base≤w.heap.size):OwnI base (w.alloc (.cells #[.int .i64 x] 3)) (.slice (some ⟨w.heap.size,0,none⟩) 1 1) [x] :=
 World.ownsRow_lit w _ 1 hb (by decide) rfl
theorem grown_below {B:Nat} {a w w':World} {v:Value} (h:Below B a w) (hg:w.grownBy w' v.ownBlock) (hB:B≤w.heap.size) (hv:∀ b,v.ownBlock=some b→B≤b):Below B a w' :=
 h.grown hg hB hv
theorem info25:(Tryz.prog.info? 25).map (fun i=>(i.zero,i.size,i.bytes))=some (some (.agg #[.int .i64 0,.int .i64 0,.string ⟨#[]⟩,.slice none 0 0]),4,56):=by kernel_rfl
theorem info3:(Tryz.prog.info? 3).map (fun i=>(i.zero,i.size,i.bytes))=some (some (.int .i64 0),1,8):=by kernel_rfl
section
variable {w:World} {ops:Array Oper} {rest:List Oper} {o:Oper} {a:Act} {Q:Exit→Act→World→Prop}
theorem append_terms (s x:Operand) (hgd:o.guard=none) (ho:o.op=.call { callee:=.builtin .append,args:=#[s,x],argTypes:=#[23,23] })
  {S R:Nat→Prop} {base:Nat} {v u:Value} {ts ls:List T} (hs:a.eval s=v) (hx:a.eval x=u) (hown:OwnT S base w v ts) (hl:RSl2 R S w ls u)
  (hS:∀ b,S b→v.ownBlock≠some b) (hn:ts.length+ls.length≤1099511627776) (hbase:base≤w.heap.size)
  (h:∀ v' w',OwnT S base w' v' (ts ++ ls)→w.grownBy w' v.ownBlock→(∀ b,v'.ownBlock=some b→v.ownBlock=some b∨w.heap.size≤b)→wpList Tryz.prog ops Q rest (a.put o.dst v') w') :
  wpList Tryz.prog ops Q (o :: rest) a w:=by
 obtain ⟨i,hi,hz0,hz1,hz2⟩:=info_parts info25
 obtain ⟨cs,ho1,hC⟩:=hown
 obtain ⟨au,cap,ds,rfl,hcap,hD,hj⟩:=hl
 cases au with
 | none =>
  obtain rfl:cap=0:=hcap.2 rfl
  have h0:ls=[]:=List.eq_nil_of_length_eq_zero (by have:=hcap.1;omega)
  subst h0
  refine wpList_append_own_none hgd s x 23 ho base 25 i 4 Tryz.underlying23 hi v _ cs hs ho1 hx ?_
  exact h v w ⟨cs,by simpa using ho1,by simpa using hC⟩ ⟨rfl,rfl,rfl,Nat.le_refl _,fun _ _ _=>rfl⟩ fun b hb=>.inl hb
 | some ad =>
  refine wpList_append_own_at w hgd s x 23 ho base 25 i _ 4 56 Tryz.underlying23 hi hz0 hz1 hz2 rfl (by decide) v _ cs hs ho1 ad ls.length cap ds hx hD.length ?_ hD.oneCell ?_ ?_ hbase ?_
  ·intro j u' hu
   obtain ⟨b,o',e,_,hc⟩:=hj j u' hu
   simp only [Option.some.injEq] at e
   subst e
   unfold Addr.add
   split
   ·rename_i h0;subst h0;exact hc
   ·exact hc
  ·unfold maxLen;omega
  ·omega
  ·intro v' w' h1 h2 h3 h4
   refine h v' w' ⟨cs ++ ds,by simpa using h1,?_⟩ h2 ?_
   ·have hblk:∀ b,S b→b < w.heap.size→w'.heap[b]?=w.heap[b]?:=fun b hb hlt=>h2.block b hlt (fun e=>hS b hb e.symm)
    exact (hC.to (fun _ h _=>h) hblk).append (hD.to (fun _ h _=>h) hblk)
   ·intro b hb
    rcases h4 with h4 | h4
    ·exact .inl (by rw [←h4];exact hb)
    ·rw [h4] at hb;simp only [Option.some.injEq] at hb;exact .inr (by omega)
theorem append_ints (s x:Operand) (hgd:o.guard=none) (ho:o.op=.call { callee:=.builtin .append,args:=#[s,x],argTypes:=#[41,41] })
  {R:Nat→Prop} {base:Nat} {v u:Value} {xs ys:List Int} (hs:a.eval s=v) (hx:a.eval x=u) (hown:OwnI base w v xs) (hl:RI R w ys u)
  (hn:xs.length+ys.length≤1099511627776) (hbase:base≤w.heap.size)
  (h:∀ v' w',OwnI base w' v' (xs ++ ys)→w.grownBy w' v.ownBlock→(∀ b,v'.ownBlock=some b→v.ownBlock=some b∨w.heap.size≤b)→wpList Tryz.prog ops Q rest (a.put o.dst v') w') :
  wpList Tryz.prog ops Q (o :: rest) a w:=by
 obtain ⟨i,hi,hz0,hz1,hz2⟩:=info_parts info3
 have ho1:=hown
 obtain ⟨au,cap,rfl,hcap,hj⟩:=hl
 cases au with
 | none =>
  obtain rfl:cap=0:=hcap.2 rfl
  have h0:ys=[]:=List.eq_nil_of_length_eq_zero (by have:=hcap.1;omega)
  subst h0
  refine wpList_append_own_none hgd s x 41 ho base 3 i 1 Tryz.underlying41 hi v _ _ hs ho1 hx ?_
  exact h v w (by simpa using hown) ⟨rfl,rfl,rfl,Nat.le_refl _,fun _ _ _=>rfl⟩ fun b hb=>.inl hb
 | some ad =>
  refine wpList_append_own_at w hgd s x 41 ho base 3 i _ 1 8 Tryz.underlying41 hi hz0 hz1 hz2 rfl (by decide) v _ _ hs ho1 ad ys.length cap (ys.map (Value.int .i64)) hx (by simp) ?_ (by simp [Value.oneCell']) ?_ ?_ hbase ?_
  ·intro j u' hu
   obtain ⟨y,hy,rfl⟩:∃ y,ys[j]?=some y∧u'=.int .i64 y:=by
    rw [List.getElem?_map] at hu;cases hy:ys[j]? with
    | none=>simp [hy] at hu
    | some y=>simp [hy] at hu;exact ⟨y,rfl,hu.symm⟩
   obtain ⟨b,o',e,_,hc⟩:=hj j y hy
   simp only [Option.some.injEq] at e
   subst e
   unfold Addr.add
   split
   ·rename_i h0;subst h0;exact hc
   ·exact hc
  ·unfold maxLen;omega
  ·omega
  ·intro v' w' h1 h2 h3 h4
   refine h v' w' (by unfold OwnI;simpa using h1) h2 ?_
   intro b hb
   rcases h4 with h4 | h4
   ·exact .inl (by rw [←h4];exact hb)
   ·rw [h4] at hb;simp only [Option.some.injEq] at hb;exact .inr (by omega)
end
def allL:List T→List T
 | []=>[]
 | ⟨k,n,s,l⟩ :: ts=>⟨k,n,s,l⟩ :: (allL l ++ allL ts)
theorem allL_cons (t:T) (ts:List T):allL (t :: ts)=t :: (allL t.args ++ allL ts):=by obtain ⟨k,n,s,l⟩:=t;rw [allL]
theorem allL_append (a b:List T):allL (a ++ b)=allL a ++ allL b:=by
 induction a with
 | nil=>simp [allL]
 | cons t ts ih=>simp only [List.cons_append,allL_cons,ih,List.append_assoc]
def atL (d:Int):List T→List Int
 | []=>[]
 | ⟨_,_,_,l⟩ :: ts=>d :: (atL (d+1) l ++ atL d ts)
theorem atL_cons (d:Int) (t:T) (ts:List T):atL d (t :: ts)=d :: (atL (d+1) t.args ++ atL d ts):=by obtain ⟨k,n,s,l⟩:=t;rw [atL]
theorem atL_append (d:Int) (a b:List T):atL d (a ++ b)=atL d a ++ atL d b:=by
 induction a with
 | nil=>simp [atL]
 | cons t ts ih=>simp only [List.cons_append,atL_cons,ih,List.append_assoc]
theorem allL_le:∀ m (ts:List T),yC ts≤m→(allL ts).length≤yC ts:=by
 intro m
 induction m with
 | zero=>intro ts h;cases ts with
  | nil=>simp [allL]
  | cons t ts=>rw [yG] at h;omega
 | succ m ih =>
  intro ts h
  cases ts with
  | nil=>simp [allL]
  | cons t ts =>
   rw [yG] at h
   have h1:=ih t.args (by omega)
   have h2:=ih ts (by omega)
   rw [allL_cons,yG]
   simp only [List.length_cons,List.length_append]
   omega
theorem atL_length:∀ m (ts:List T),yC ts≤m→∀ d,(atL d ts).length=(allL ts).length:=by
 intro m
 induction m with
 | zero=>intro ts h d;cases ts with
  | nil=>simp [allL,atL]
  | cons t ts=>rw [yG] at h;omega
 | succ m ih =>
  intro ts h d
  cases ts with
  | nil=>simp [allL,atL]
  | cons t ts =>
   rw [yG] at h
   have h1:=ih t.args (by omega) (d+1)
   have h2:=ih ts (by omega) d
   rw [allL_cons,atL_cons]
   simp only [List.length_cons,List.length_append,h1,h2]
theorem all_c:∀ (t:T) (d:Int) (S:Nat→Prop) (w:World) (v:Value),RT S w t v→(∀ b,S b→b < w.heap.size)→0≤d→d+yC [t]≤1099511627776 →
  Calls Tryz.prog 56 #[v,.int .i64 d] w fun e w'=>∃ v1 v2,e=.returned (.tuple #[v1,v2])∧Below w.heap.size w w' ∧
   RSl2 (fun b=>w.heap.size≤b) S w' (allL [t]) v1∧RI (fun b=>w.heap.size≤b) w' (atL d [t]) v2:=by
 intro t
 induction t using T.ind with
 | h t ih =>
  intro d S w v hv hS h0d hb
  have hba:=yR t
  have hla:=yM t.args
  obtain ⟨a,cap,rfl,hcap,hr⟩:=hv
  have IH:=J ih;clear ih
  have HR:=J hr;clear hr
  have HS:=J hS;clear hS
  have HCAP:=J hcap;clear hcap
  go_enter Tryz.func56,Tryz.ntmps56
  go_wp2_with fail
  go_loopw [6,7,8] (fun out at_ i wr=>∃ k:Nat,k≤t.args.length∧i=.int .i64 k∧OwnT S (w.heap.size+1) wr out (t :: allL (t.args.take k))∧OwnI (w.heap.size+1) wr at_ (d :: atL (d+1) (t.args.take k)) ∧
    (∀ b,out.ownBlock=some b→at_.ownBlock≠some b)∧Below w.heap.size w wr∧w.heap.size+1≤wr.heap.size∧wr.cell? ⟨w.heap.size,3,none⟩=some (.slice a t.args.length cap)) (fun _ _ i _=>t.args.length - (intOf i).toNat)
  case atStart =>
   have h1:=(OwnT.one (base:=w.heap.size+1) (RT.alloc (⟨a,cap,rfl,HCAP.out,HR.out⟩:RT S w t _) (.cells #[.int .i64 t.kind,.int .i64 t.n,.string t.name,.slice a t.args.length cap] 25)) (by simp))
   have h2:=OwnI.one (base:=w.heap.size+1) (w:=(w.alloc (.cells #[.int .i64 t.kind,.int .i64 t.n,.string t.name,.slice a t.args.length cap] 25)).alloc (.cells #[.int .i64 t.kind,.int .i64 t.n,.string t.name,.slice a t.args.length cap] 25)) d (by simp)
   simp only [World.size_alloc] at h1 h2
   refine ⟨0,Nat.zero_le _,rfl,by simpa [allL] using h1.alloc _,by simpa [atL] using h2,by simp [Value.ownBlock],((yA _ _).alloc (by simp) _).alloc (by simp <;> omega) _,by simp <;> omega,by go_simp⟩
  case round =>
   obtain ⟨k,hkl,rfl,hT,hI,hne,hB,hsz,hbox⟩:=hrel
   have HT:=J hT;clear hT
   have HI:=J hI;clear hI
   have HNE:=J hne;clear hne
   have hbt:=bulk_take t.args k
   have hal:=allL_le _ (t.args.take k) (Nat.le_refl _)
   have hat:=atL_length _ (t.args.take k) (Nat.le_refl _) (d+1)
   have HAT:=J hat;clear hat
   by_cases hlt:k < t.args.length
   ·obtain ⟨b,o,rfl⟩:=HR.out.addr (by omega)
    obtain ⟨a',cap',hSb,d0,d1,d2,d3,hE⟩:=(HR.out.below hB).elem k hlt
    have hbk:=bulk_at hlt
    have hsk:=allL_le _ [t.args[k]] (Nat.le_refl _)
    go_wp2_with fail
    refine (IH.out _ (List.getElem_mem hlt) _ S _ _ hE (fun b hb=>by have:=HS.out b hb;omega) (by omega) (by omega)).mono ?_
    rintro e w1 ⟨v1,v2,rfl,hB1,hr1,hr2⟩
    have hs1:=hB1.size
    have HR1:=J hr1;clear hr1
    have HR2:=J hr2;clear hr2
    have HT1:=J (HT.out.below hB1)
    have HI1:=J (HI.out.below hB1)
    have hbox1:w1.cell? ⟨w.heap.size,3,none⟩=some (.slice (some ⟨b,o,none⟩) t.args.length cap):=by rw [hB1.cell (p:=⟨w.heap.size,3,none⟩) (show w.heap.size < wr.heap.size by omega)];exact hbox
    have HT0:=J HT.out.block
    have HI0:=J HI.out.block
    clear d0 d1 d2 d3
    have hbs:=bulk_snoc hlt
    have hnn:(t :: allL (t.args.take k)).length+(allL [t.args[k]]).length≤1099511627776:=by simp only [List.length_cons];omega
    have HA:=J (atL_length _ [t.args[k]] (Nat.le_refl _) (d+1))
    have hni:(d :: atL (d+1) (t.args.take k)).length+(atL (d+1) [t.args[k]]).length≤1099511627776:=by rw [HA.out];simp only [List.length_cons,HAT.out];omega
    have hside:∀ b,S b→u6.ownBlock≠some b:=fun b hb he=>by have:=HS.out b hb;have:=HT0.out b he;omega
    have HSD:=J hside;clear hside
    have HT2:Hid (∀ w2,w1.grownBy w2 u6.ownBlock→OwnI (w.heap.size+1) w2 u7 (d :: atL (d+1) (t.args.take k))∧RI (fun b=>wr.heap.size≤b) w2 (atL (d+1) [t.args[k]]) v2):=J fun w2 hg =>
     ⟨HI1.out.to (Nat.le_refl _) fun b hb hl=>hg.block b hl fun e=>HNE.out b e.symm hb,HR2.out.to (fun _ h _=>h) fun b hb hl=>hg.block b hl fun e=>by have:=HT0.out b e.symm;omega⟩
    go_wp2_with (first | (at_builtin;refine append_terms _ _ rfl rfl rfl rfl HT1.out HR1.out HSD.out hnn (by omega) ?_;intro v3 w2 hT3 hg2 hw2;have hs2:=hg2.size;have H3:=J hT3;have H4:=J hw2;clear hT3 hw2) | (at_builtin;refine append_ints _ _ rfl rfl rfl rfl (HT2.out _ hg2).1 (HT2.out _ hg2).2 hni (by omega) ?_;intro v4 w3 hI4 hg3 hw3;have hs3:=hg3.size;have H5:=J hI4;have H6:=J hw3;clear hI4 hw3))
    go_roundw
    case rel =>
     refine ⟨k+1,by omega,by go_num,?_,?_,?_,?_,?_,?_⟩
     ·rw [take_snoc' _ k hlt,allL_append,←List.cons_append]
      exact H3.out.to (Nat.le_refl _) (fun _ h _=>h) fun b hb hl=>hg3.block b hl fun e=>by
       have h1:=HI0.out b e.symm
       rcases hb with hb | hb
       ·have:=HS.out b hb;omega
       ·rcases H4.out b hb with h2 | h2
        ·exact HNE.out b h2 e.symm
        ·omega
     ·rw [take_snoc' _ k hlt,atL_append,←List.cons_append]
      exact H5.out
     ·intro b h1 h2
      rcases H4.out b h1 with h3 | h3
      ·rcases H6.out b h2 with h4 | h4
       ·exact HNE.out b h3 h4
       ·have:=HT0.out b h3;omega
      ·rcases H6.out b h2 with h4 | h4
       ·have:=HI0.out b h4;omega
       ·have:=H3.out.block b h1;omega
     ·exact grown_below (grown_below (yB hB (by omega) hB1) hg2 (by omega) fun b hb=>by have:=HT0.out b hb;omega) hg3 (by omega) fun b hb=>by have:=HI0.out b hb;omega
     ·omega
     ·rw [World.cell?_of_block (w:=w2) (hg3.block w.heap.size (by omega) fun e=>by have:=HI0.out _ e.symm;omega),World.cell?_of_block (w:=w1) (hg2.block w.heap.size (by omega) fun e=>by have:=HT0.out _ e.symm;omega)]
      exact hbox1
    case measure=>simp [intOf];omega
   ·have hkk:k=t.args.length:=by omega
    subst hkk
    go_wp2_with fail
    go_ret2
    have ht:=HT.out
    have hi:=HI.out
    rw [List.take_of_length_le (Nat.le_refl _)] at ht hi
    have e1:allL [t]=t :: allL t.args:=by rw [allL_cons];simp [allL]
    have e2:atL d [t]=d :: atL (d+1) t.args:=by rw [atL_cons];simp [atL]
    rw [e1,e2]
    refine ⟨_,_,rfl,hB,ht.rsl2.mono (fun b hb=>by have:=ht.block b hb;omega) fun _ h=>h,hi.ri.mono fun b hb=>by have:=hi.block b hb;omega⟩
open Go.ChangeShapes Go.WideShapes Go.ChangeAt Go.RowKit
theorem own:ownKnob Tryz.prog.godebug=none:=by kernel_rfl
theorem laidOut:laidOutB Tryz.prog=true:=by kernel_rfl
theorem cellsTerm:Tryz.prog.cellsOf 25=4:=by kernel_rfl
theorem cellsInt:Tryz.prog.cellsOf 3=1:=by kernel_rfl
theorem small_bound {H:Type} {l:List (DataW H)} (hk:Rows.uptoSmall H l=true):Rows.uptoBulkAll l≤1048576:=of_decide_eq_true hk
section
variable {H:Type} {enc:TypeId×Value→H} {W:World} {base:Nat} {sp:Nat→Bool} {held:Bool}
theorem add_at (b off i j:Nat):((⟨b,off,none⟩:Addr).add (i * 4)).add j=⟨b,off+i * 4+j,none⟩:=by
 unfold Addr.add
 by_cases h1:i * 4=0 <;> by_cases h2:j=0 <;> simp [h1,h2]
theorem under_term:∃ f0 f1 f2 f3:Field,Tryz.prog.underlying 25=some (.struct #[f0,f1,f2,f3])∧f0.type=3∧f0.offset=0∧f1.type=3∧f1.offset=1∧f2.type=9∧f2.offset=2∧f3.type=23∧f3.offset=3 :=
 ⟨_,_,_,_,by rw [Tryz.underlying25],rfl,rfl,rfl,rfl,rfl,rfl,rfl,rfl⟩
theorem choose_list {α:Type} {p:Nat→α→Prop} (n:Nat) (h:∀ i,i < n→∃ x,p i x):∃ l:List α,l.length=n∧∀ i (hi:i < l.length),p i l[i]:=by
 induction n with
 | zero=>exact ⟨[],rfl,fun i hi=>by cases hi⟩
 | succ n ih =>
  obtain ⟨l,hl,hp⟩:=ih fun i hi=>h i (by omega)
  obtain ⟨x,hx⟩:=h n (by omega)
  refine ⟨l ++ [x],by simp [hl],fun i hi=>?_⟩
  by_cases hlt:i < l.length
  ·rw [List.getElem_append_left hlt];exact hp i hlt
  ·have:i=l.length:=by simp at hi;omega
   subst this
   rw [List.getElem_append_right (Nat.le_refl _)]
   simpa [hl] using hx
theorem bulk_list {H:Type}:∀ (ts:List T) (ds:List (DataW H)),ts.length=ds.length→(∀ i (h1:i < ts.length) (h2:i < ds.length),yC [ts[i]]≤Rows.uptoBulk ds[i])→yC ts≤Rows.uptoBulkAll ds
 | [],_,_,_=>by simp [yC]
 | t :: ts,[],h,_=>by simp at h
 | t :: ts,d :: ds,h,hp=>by
  have h0:=hp 0 (by simp) (by simp)
  have:=bulk_list ts ds (by simpa using h) fun i h1 h2=>hp (i+1) (by simpa using h1) (by simpa using h2)
  simp only [List.getElem_cons_zero] at h0
  have e:yC (t :: ts)=yC [t]+yC ts:=bulkL_append [t] ts
  rw [e,Rows.uptoBulkAll]
  omega
theorem term_of_trod:∀ (fuel:Nat) (cs:List Value) (x:DataW H×List MemPlace),DataW.trod enc Tryz.prog W base sp held fuel 25 cs=some x →
  ∃ (t:T) (a:Option Addr) (cap:Nat),cs=[.int .i64 t.kind,.int .i64 t.n,.string t.name,.slice a t.args.length cap]∧CapOk a t.args.length cap∧RTs (fun b=>b < W.heap.size) W t.args a 0∧yC [t]≤Rows.uptoBulk x.1:=by
 intro fuel
 induction fuel using Nat.strongRecOn with
 | _ fuel ih =>
  intro cs x h
  obtain ⟨f0,f1,f2,f3,hs,t0,o0,t1,o1,t2,o2,t3,o3⟩:=under_term
  obtain ⟨xs,n,rfl,rfl,hl,hlen,hf⟩:=DataW.trod_struct hs h
  rw [cellsTerm] at hl
  match xs,hlen,cs,hl with
  | [y0,y1,y2,y3],_,[v0,v1,v2,v3],_ =>
   have g0:=hf 0 f0 rfl
   have g1:=hf 1 f1 rfl
   have g2:=hf 2 f2 rfl
   have g3:=hf 3 f3 rfl
   have c9:Tryz.prog.cellsOf 9=1:=by kernel_rfl
   have c27:Tryz.prog.cellsOf 23=1:=by kernel_rfl
   simp [o0,o1,o2,o3,t0,t1,t2,t3,cellsInt,c9,c27] at g0 g1 g2 g3
   obtain ⟨k,hv0,rfl,wk⟩:=DataW.trod_int Tryz.underlying3 g0
   obtain ⟨m,hv1,rfl,wm⟩:=DataW.trod_int Tryz.underlying3 g1
   obtain ⟨s,hv2,rfl,ws⟩:=DataW.trod_string Tryz.underlying9 g2
   simp only [List.cons.injEq,and_true] at hv0 hv1 hv2
   subst hv0 hv1 hv2
   have hss:s.data.toList.length=s.size:=by rw [Array.length_toList];rfl
   rcases DataW.trod_slice Tryz.underlying23 g3 with ⟨hv3,rfl⟩ | ⟨a,len,cap,elems,rest,n',rfl,hv3,rfl,hb,hlc,hcm,hel,hget,-,-⟩
   ·simp only [List.cons.injEq,and_true] at hv3
    subst hv3
    refine ⟨⟨k,m,s,[]⟩,none,0,rfl,⟨Nat.le_refl _,fun _=>rfl⟩,by simp [RTs],?_⟩
    simp only [yC,Rows.uptoBulk,Rows.uptoBulkAll,List.map_cons,List.map_nil]
    omega
   ·simp only [List.cons.injEq,and_true] at hv3
    subst hv3
    have key:∀ i,i < len→∃ t:T,∃ (a':Option Addr) (cap':Nat) (cs':List Value) (hi:i < elems.length),W.cells? base (a.add (i * 4)) 4=some cs'∧cs'=[.int .i64 t.kind,.int .i64 t.n,.string t.name,.slice a' t.args.length cap'] ∧
      CapOk a' t.args.length cap'∧RTs (fun b=>b < W.heap.size) W t.args a' 0∧yC [t]≤Rows.uptoBulk (elems[i]).1:=by
     intro i hi
     have h1:=hget i hi
     rw [cellsTerm,List.getElem?_eq_getElem (by omega)] at h1
     obtain ⟨cs',hc,ht⟩:=Option.bind_eq_some_iff.1 h1
     obtain ⟨t,a',cap',e,h2,h3,h4⟩:=ih n' (by omega) cs' _ ht
     exact ⟨t,a',cap',cs',by omega,hc,e,h2,h3,h4⟩
    obtain ⟨ts,hts,hp⟩:=choose_list len key
    subst hts
    refine ⟨⟨k,m,s,ts⟩,some a,cap,rfl,⟨hlc,by simp⟩,RTs_of _ _ _ _ _ fun j hj=>?_,?_⟩
    ·obtain ⟨a',cap',cs',_,hc,rfl,h2,h3,_⟩:=hp j hj
     obtain ⟨b,off,spot⟩:=a
     have hspot:spot=none:=by
      obtain ⟨_,_,cs0,_,hc0,rfl,_⟩:=hp 0 (by omega)
      have h0:=(World.cells?_some hc0).2.2 0 (by omega)
      simpa [Addr.add] using World.cell?_spot h0
     subst hspot
     obtain ⟨_,_,hcell⟩:=World.cells?_some hc
     have q0:=hcell 0 (by omega)
     have q1:=hcell 1 (by omega)
     have q2:=hcell 2 (by omega)
     have q3:=hcell 3 (by omega)
     rw [add_at] at q0 q1 q2 q3
     rw [Nat.zero_add]
     exact ⟨b,off,a',cap',rfl,World.block_lt_of_cell? W _ q0,q0,q1,q2,q3,h2,h3⟩
    ·have hbl:=bulk_list ts (elems.map (·.1)) (by simp [hel]) fun i h1 h2=>by
      obtain ⟨_,_,_,_,_,_,_,_,h4⟩:=hp i h1
      simpa using h4
     simp only [yC,Rows.uptoBulk,Rows.uptoBulkAll,List.map_cons,List.map_nil]
     omega
theorem open_term {v:Value} {d:DataW H} {p:List MemPlace} {r:Reach} (hok:Value.okWide Tryz.prog W r base 25 v) (h:DataW.Trod enc Tryz.prog W 0 sp held 25 v d p) :
  ∃ t,RT (fun b=>b < W.heap.size) W t v∧yC [t]≤Rows.uptoBulk d:=by
 obtain ⟨fuel,hf⟩:=h
 obtain ⟨t,a,cap,e,h1,h2,h3⟩:=term_of_trod fuel _ _ hf
 obtain ⟨f0,f1,f2,f3,hs,-⟩:=under_term
 have:∃ cs,v=.agg cs:=by
  simp only [Value.okWide,hs] at hok
  obtain ⟨cs,rfl,_⟩:=hok
  exact ⟨cs,rfl⟩
 obtain ⟨cs,rfl⟩:=this
 refine ⟨t,⟨a,cap,?_,h1,h2⟩,h3⟩
 simp only [Value.cells] at e
 rw [←e]
theorem trodAll_below {W':World} (hB:Below W.heap.size W W'):∀ (ts:List TypeId) (vs:List Value) (ds:List (DataW H)) (ps:List MemPlace),(∀ t∈ts,Tryz.prog.readableRec t=true∧t < Tryz.prog.types.size) →
  DataW.TrodAll enc Tryz.prog W 0 (fun _=>true) true ts vs ds ps→(∀ x∈ps,x.block < W.heap.size)→DataW.TrodAll enc Tryz.prog W' 0 (fun b=>decide (b < W.heap.size)) true ts vs ds ps
 | [],[],[],ps,_,h,_=>h
 | t :: ts,v :: vs,d :: ds,ps,hr,h,hp=>by
  obtain ⟨p,q,h1,h2,rfl⟩:=h
  exact ⟨p,q,Below.trod laidOut (hr t (by simp)).1 (hr t (by simp)).2 h1 hB fun x hx=>hp x (List.mem_append_left _ hx),
   trodAll_below hB ts vs ds q (fun t ht=>hr t (by simp [ht])) h2 fun x hx=>hp x (List.mem_append_right _ hx),rfl⟩
 | [],_ :: _,_,_,_,h,_=>h.elim
 | [],[],_ :: _,_,_,h,_=>h.elim
 | _ :: _,[],_,_,_,h,_=>h.elim
 | _ :: _,_ :: _,[],_,_,h,_=>h.elim
theorem post_true {f:Func} {s:ChangeSpec} {W':World} {args:Array Value} {ds gs:List (DataW H)} {before:List MemPlace}
  (hW:DataW.Whole enc Tryz.prog f.params.toList s.vars false W args.toList ds gs before) (hv:s.vars=[]) (hrt:f.resultTypes=#[4])
  (hs:(s.fn H (ds ++ gs)).results=[.lit (.bool true)]∧(s.fn H (ds ++ gs)).args=ds∧(s.fn H (ds ++ gs)).vars=[])
  (hr:∀ t∈f.params.toList,Tryz.prog.readableRec t=true∧t < Tryz.prog.types.size) (hB:Below W.heap.size W W') :
  s.post enc Tryz.prog f false true false false W args (.bool true) W':=by
 have hW':=hW
 have hlt:∀ p∈before,p.block < W.heap.size:=fun p hp=>hW.lt p hp
 obtain ⟨p,q,hA,hV,rfl,hfz,hnd⟩:=hW
 rw [hv] at hV
 refine ⟨ds,gs,p ++ q,[],p,[],hW',?_,?_,?_,hB.frame _,fun h=>by cases h⟩
 ·rw [hs.1,hrt]
  exact trodAll_cons_mk (shut_bool Tryz.underlying4 _) trodAll_mk0
 ·rw [hs.2.1]
  exact trodAll_below hB _ _ _ _ hr hA fun x hx=>hlt x (List.mem_append_left _ hx)
 rw [hs.2.2,hv]
 rfl
end
structure El (X:Type) where
 k:Nat
 C:(Nat→Prop)→World→X→List Value→Prop
 len:∀ {S w x cs},C S w x cs→cs.length=k
 one:∀ {S w x cs},C S w x cs→∀ u∈cs,u.oneCell'=true
 «to»:∀ {S S' w w' x cs},C S w x cs→(∀ b,S b→b < w.heap.size→S' b)→(∀ b,S b→b < w.heap.size→w'.heap[b]?=w.heap[b]?)→C S' w' x cs
structure ElT {X:Type} (E:El X) where
 e:TypeId
 sl:TypeId
 bytes:Nat
 z:Value
 hund:Tryz.prog.underlying sl=some (.slice e)
 info:(Tryz.prog.info? e).map (fun i=>(i.zero,i.size,i.bytes))=some (some z,E.k,bytes)
 hzs:z.cells.size=E.k
 hk:0 < E.k
 hb:bytes≤512
section
variable {X:Type} {E:El X}
def CellsX (E:El X) (S:Nat→Prop) (w:World):List X→List Value→Prop
 | [],cs=>cs=[]
 | x :: xs,cs=>∃ c cs',cs=c ++ cs'∧E.C S w x c∧CellsX E S w xs cs'
theorem CellsX.length {S:Nat→Prop} {w:World} {xs:List X} {cs:List Value} (h:CellsX E S w xs cs):cs.length=xs.length * E.k:=by
 induction xs generalizing cs with
 | nil=>simp only [CellsX] at h;subst h;simp
 | cons x xs ih=>obtain ⟨c,cs',rfl,h1,h2⟩:=h;simp only [List.length_append,E.len h1,ih h2,List.length_cons,Nat.succ_mul];omega
theorem CellsX.append {S:Nat→Prop} {w:World} {xs ys:List X} {cs ds:List Value} (h:CellsX E S w xs cs) (h':CellsX E S w ys ds):CellsX E S w (xs ++ ys) (cs ++ ds):=by
 induction xs generalizing cs with
 | nil=>simp only [CellsX] at h;subst h;exact h'
 | cons x xs ih=>obtain ⟨c,cs',rfl,h1,h2⟩:=h;exact ⟨c,cs' ++ ds,by simp,h1,ih h2⟩
theorem CellsX.oneCell {S:Nat→Prop} {w:World} {xs:List X} {cs:List Value} (h:CellsX E S w xs cs):∀ u∈cs,u.oneCell'=true:=by
 induction xs generalizing cs with
 | nil=>simp only [CellsX] at h;subst h;simp
 | cons x xs ih =>
  obtain ⟨c,cs',rfl,h1,h2⟩:=h
  intro u hu
  rcases List.mem_append.1 hu with hu | hu
  ·exact E.one h1 u hu
  ·exact ih h2 u hu
theorem CellsX.to {S S':Nat→Prop} {w w':World} {xs:List X} {cs:List Value} (h:CellsX E S w xs cs) (hs:∀ b,S b→b < w.heap.size→S' b)
  (hc:∀ b,S b→b < w.heap.size→w'.heap[b]?=w.heap[b]?):CellsX E S' w' xs cs:=by
 induction xs generalizing cs with
 | nil=>exact h
 | cons x xs ih=>obtain ⟨c,cs',rfl,h1,h2⟩:=h;exact ⟨c,cs',rfl,E.to h1 hs hc,ih h2⟩
theorem CellsX.at {S:Nat→Prop} {w:World} {xs:List X} {cs:List Value} (h:CellsX E S w xs cs) (j:Nat) (hj:j < xs.length) :
  ∃ c,E.C S w xs[j] c∧∀ i u,c[i]?=some u→cs[j * E.k+i]?=some u:=by
 induction xs generalizing cs j with
 | nil=>cases hj
 | cons x xs ih =>
  obtain ⟨c,cs',rfl,h1,h2⟩:=h
  have hl:=E.len h1
  cases j with
  | zero =>
   refine ⟨c,h1,fun i u hu=>?_⟩
   rw [Nat.zero_mul,Nat.zero_add,List.getElem?_append_left (List.getElem?_eq_some_iff.1 hu).1];exact hu
  | succ j =>
   obtain ⟨c',g1,g2⟩:=ih h2 j (by simpa using hj)
   refine ⟨c',g1,fun i u hu=>?_⟩
   rw [List.getElem?_append_right (by rw [hl,Nat.succ_mul];omega),hl,show (j+1) * E.k+i - E.k=j * E.k+i by rw [Nat.succ_mul];omega]
   exact g2 i u hu
def RX (E:El X) (R S:Nat→Prop) (w:World) (xs:List X) (v:Value):Prop :=
 ∃ a cap cs,v=.slice a xs.length cap∧CapOk a xs.length cap∧CellsX E S w xs cs∧∀ j u,cs[j]?=some u→∃ b o,a=some ⟨b,o,none⟩∧R b∧w.cell? ⟨b,o+j,none⟩=some u
theorem RX.to {R R' S S':Nat→Prop} {w w':World} {xs:List X} {v:Value} (h:RX E R S w xs v) (hr:∀ b,R b→b < w.heap.size→R' b) (hs:∀ b,S b→b < w.heap.size→S' b)
  (hc:∀ b,S b∨R b→b < w.heap.size→w'.heap[b]?=w.heap[b]?):RX E R' S' w' xs v:=by
 obtain ⟨a,cap,cs,rfl,hl,hC,hj⟩:=h
 refine ⟨a,cap,cs,rfl,hl,hC.to hs (fun b hb=>hc b (.inl hb)),fun j u hu=>?_⟩
 obtain ⟨b,o,rfl,hR,hcell⟩:=hj j u hu
 have hlt:=World.block_lt_of_cell? w _ hcell
 exact ⟨b,o,rfl,hr b hR hlt,by rw [World.cell?_of_block (w:=w) (hc b (.inr hR) hlt)];exact hcell⟩
theorem RX.below {R S:Nat→Prop} {w w':World} {xs:List X} {v:Value} (h:RX E R S w xs v) (hB:Below w.heap.size w w'):RX E R S w' xs v:=h.to (fun _ h _=>h) (fun _ h _=>h) fun b _ hb=>hB.block b hb
theorem RX.mono {R R' S S':Nat→Prop} {w:World} {xs:List X} {v:Value} (h:RX E R S w xs v) (hr:∀ b,R b→R' b) (hs:∀ b,S b→S' b):RX E R' S' w xs v:=h.to (fun b h _=>hr b h) (fun b h _=>hs b h) fun _ _ _=>rfl
theorem RX.low {R S:Nat→Prop} {w:World} {xs:List X} {v:Value} (h:RX E R S w xs v):RX E (fun b=>b < w.heap.size) (fun b=>b < w.heap.size) w xs v:=h.to (fun _ _ h=>h) (fun _ _ h=>h) fun _ _ _=>rfl
theorem RX.form {R S:Nat→Prop} {w:World} {xs:List X} {v:Value} (h:RX E R S w xs v):∃ a cap,v=.slice a xs.length cap∧CapOk a xs.length cap:=by
 obtain ⟨a,cap,_,rfl,h,_⟩:=h;exact ⟨a,cap,rfl,h⟩
theorem RX.nil (R S:Nat→Prop) (w:World):RX E R S w [] (.slice none 0 0):=⟨none,0,[],rfl,⟨Nat.le_refl _,fun _=>rfl⟩,rfl,fun j u h=>by simp at h⟩
theorem RX.addr {R S:Nat→Prop} {w:World} {xs:List X} {a:Option Addr} {n cap:Nat} (h:RX E R S w xs (.slice a n cap)) (hk:0 < E.k) (hl:0 < xs.length):∃ b o,a=some ⟨b,o,none⟩:=by
 obtain ⟨a',cap',cs,e,hcl,hC,hj⟩:=h
 simp only [Value.slice.injEq] at e
 obtain ⟨rfl,_,_⟩:=e
 have hcs:0 < cs.length:=by rw [hC.length];exact Nat.mul_pos hl hk
 obtain ⟨b,o,e,_⟩:=hj 0 cs[0] (by simp)
 exact ⟨b,o,e⟩
theorem RX.elem {R S:Nat→Prop} {w:World} {xs:List X} {b o n cap:Nat} (h:RX E R S w xs (.slice (some ⟨b,o,none⟩) n cap)) (j:Nat) (hj:j < xs.length) :
  ∃ c,E.C S w xs[j] c∧∀ i u,c[i]?=some u→R b∧w.cell? ⟨b,o+j * E.k+i,none⟩=some u:=by
 obtain ⟨a',cap',cs,e,hcl,hC,hj'⟩:=h
 simp only [Value.slice.injEq] at e
 obtain ⟨rfl,_,_⟩:=e
 obtain ⟨c,h1,h2⟩:=hC.at j hj
 refine ⟨c,h1,fun i u hu=>?_⟩
 obtain ⟨b',o',e,hR,hc⟩:=hj' _ u (h2 i u hu)
 simp only [Option.some.injEq,Addr.mk.injEq,and_true] at e
 obtain ⟨rfl,rfl⟩:=e
 exact ⟨hR,by rw [Nat.add_assoc];exact hc⟩
/-! ### Rows of one's own -/
def OwnX (E:El X) (e:TypeId) (S:Nat→Prop) (base:Nat) (w:World) (v:Value) (xs:List X):Prop:=∃ cs,w.ownsRow base e E.k v xs.length cs∧CellsX E S w xs cs
theorem OwnX.nil (e:TypeId) (S:Nat→Prop) (base:Nat) (w:World):OwnX E e S base w (.slice none 0 0) []:=⟨[],World.ownsRow_nil _ _ _ _,rfl⟩
theorem OwnX.to {e:TypeId} {S S':Nat→Prop} {base base':Nat} {w w':World} {v:Value} {xs:List X} (h:OwnX E e S base w v xs) (hb:base'≤base) (hs:∀ b,S b→b < w.heap.size→S' b)
  (hc:∀ b,(S b∨v.ownBlock=some b)→b < w.heap.size→w'.heap[b]?=w.heap[b]?):OwnX E e S' base' w' v xs:=by
 obtain ⟨cs,⟨h1,h2⟩,hC⟩:=h
 refine ⟨cs,⟨h1,?_⟩,hC.to hs (fun b hb=>hc b (.inl hb))⟩
 rcases h2 with h2 | ⟨g,cap,cur,rfl,hg,hh,r⟩
 ·exact .inl h2
 exact .inr ⟨g,cap,cur,rfl,by omega,by rw [hc g (.inr rfl) (Array.getElem?_eq_some_iff.1 hh).1];exact hh,r⟩
theorem OwnX.below {e:TypeId} {S:Nat→Prop} {base:Nat} {w w':World} {v:Value} {xs:List X} (h:OwnX E e S base w v xs) (hB:Below w.heap.size w w'):OwnX E e S base w' v xs:=h.to (Nat.le_refl _) (fun _ h _=>h) fun b _ hb=>hB.block b hb
theorem OwnX.block {e:TypeId} {S:Nat→Prop} {base:Nat} {w:World} {v:Value} {xs:List X} (h:OwnX E e S base w v xs):∀ b,v.ownBlock=some b→base≤b∧b < w.heap.size:=by
 obtain ⟨cs,h,_⟩:=h;exact h.lt
theorem OwnX.rx {e:TypeId} {S:Nat→Prop} {base:Nat} {w:World} {v:Value} {xs:List X} (h:OwnX E e S base w v xs):RX E (fun b=>v.ownBlock=some b) S w xs v:=by
 obtain ⟨cs,ho,hC⟩:=h
 have hcell:=fun g hg=>ho.cells (g:=g) hg
 obtain ⟨h1,h2⟩:=ho
 rcases h2 with ⟨rfl,h0⟩ | ⟨g,cap,cur,rfl,hg,hh,hn,r⟩
 ·have:xs=[]:=List.eq_nil_of_length_eq_zero h0
  subst this
  exact RX.nil _ _ _
 refine ⟨some ⟨g,0,none⟩,cap,cs,rfl,⟨hn,by simp⟩,hC,fun j u hu=>⟨g,0,rfl,rfl,?_⟩⟩
 have:=hcell g rfl j u hu
 unfold Addr.add at this
 split at this
 ·rename_i h0;subst h0;exact this
 exact this
theorem OwnX.frozen {e:TypeId} {S:Nat→Prop} {base:Nat} {w:World} {g n cap:Nat} {xs:List X} (h:OwnX E e S base w (.slice (some ⟨g,0,none⟩) n cap) xs) (o:Nat):w.frozen? ⟨g,o,none⟩=false:=by
 obtain ⟨_,⟨_,h2⟩,_⟩:=h
 rcases h2 with ⟨h2,-⟩ | ⟨g',cap',cur,ev,hg,hh,-⟩
 ·cases h2
 simp only [Value.slice.injEq,Option.some.injEq,Addr.mk.injEq,and_true] at ev
 obtain ⟨rfl,-,-⟩:=ev
 exact frozen_of_row w g o cur e hh
def OwnXG (E:El X) (e:TypeId) (P:Nat→Prop) (base:Nat) (w:World) (v:Value) (xs:List X):Prop:=OwnX E e (fun b=>P b∧b < w.heap.size∧v.ownBlock≠some b) base w v xs
theorem OwnXG.nil (e:TypeId) (P:Nat→Prop) (base:Nat) (w:World):OwnXG E e P base w (.slice none 0 0) []:=OwnX.nil _ _ _ _
theorem OwnXG.to {e:TypeId} {P:Nat→Prop} {base:Nat} {w w':World} {v:Value} {xs:List X} (h:OwnXG E e P base w v xs) (hl:w.heap.size≤w'.heap.size)
  (hc:∀ b,(P b∨v.ownBlock=some b)→b < w.heap.size→w'.heap[b]?=w.heap[b]?):OwnXG E e P base w' v xs :=
 OwnX.to h (Nat.le_refl _) (fun b hb _=>⟨hb.1,by have:=hb.2.1;omega,hb.2.2⟩) fun b hb=>hc b (hb.imp (·.1) id)
theorem OwnXG.below {e:TypeId} {P:Nat→Prop} {base:Nat} {w w':World} {v:Value} {xs:List X} (h:OwnXG E e P base w v xs) (hB:Below w.heap.size w w'):OwnXG E e P base w' v xs:=h.to hB.size fun b _ hb=>hB.block b hb
theorem OwnXG.block {e:TypeId} {P:Nat→Prop} {base:Nat} {w:World} {v:Value} {xs:List X} (h:OwnXG E e P base w v xs):∀ b,v.ownBlock=some b→base≤b∧b < w.heap.size:=OwnX.block h
theorem OwnXG.setCell {e:TypeId} {P:Nat→Prop} {base:Nat} {w:World} {v:Value} {xs:List X} (h:OwnXG E e P base w v xs) (B o:Nat) (u:Value) (hB:B < base) (hP:¬P B):OwnXG E e P base (w.setCell ⟨B,o,none⟩ u) v xs :=
 h.to (by simp) fun b hb _=>yD w B o u b fun e=>by
  subst e
  rcases hb with hb | hb
  ·exact hP hb
  ·have:=h.block _ hb;omega
theorem OwnXG.rx {e:TypeId} {P:Nat→Prop} {base:Nat} {w:World} {v:Value} {xs:List X} (h:OwnXG E e P base w v xs) (hP:∀ b,base≤b→P b):RX E P P w xs v :=
 (OwnX.rx h).mono (fun b hb=>hP b (h.block b hb).1) fun b hb=>hb.1
theorem OwnXG.form {e:TypeId} {P:Nat→Prop} {base:Nat} {w:World} {v:Value} {xs:List X} (h:OwnXG E e P base w v xs):∃ a cap,v=.slice a xs.length cap∧CapOk a xs.length cap:=(OwnX.rx h).form
variable {ops:Array Oper} {rest:List Oper} {o:Oper} {a:Act} {Q:Exit→Act→World→Prop}
theorem CellsX.single {S:Nat→Prop} {w:World} {x:X} {cs:List Value} (h:E.C S w x cs):CellsX E S w [x] cs:=⟨cs,[],by simp,h,rfl⟩
theorem ownXG_after {F:ElT E} {P:Nat→Prop} {base:Nat} {w0 w':World} {v:Value} {xs:List X} {x:X} {c:Array Value} {g cap:Nat} {cs:List Value} {O:Obj}
  (hC:CellsX E (fun b=>P b∧b < w0.heap.size∧v.ownBlock≠some b) (w0.alloc O) xs cs) (hx:E.C (fun b=>P b∧b < w0.heap.size∧v.ownBlock≠some b) (w0.alloc O) x c.toList)
  (h1:w'.ownsRow base F.e E.k (.slice (some ⟨g,0,none⟩) (xs.length+1) cap) (xs.length+1) (cs ++ c.toList)) (h2:(w0.alloc O).grownBy w' v.ownBlock) (h3:v.ownBlock=some g∨g=w0.heap.size+1) :
  OwnXG E F.e P base w' (.slice (some ⟨g,0,none⟩) (xs.length+1) cap) (xs ++ [x]):=by
 have h2s:=h2.size
 simp only [World.size_alloc] at h2s
 have hblk:∀ b,(P b∧b < w0.heap.size∧v.ownBlock≠some b)→b < (w0.alloc O).heap.size→w'.heap[b]?=(w0.alloc O).heap[b]?:=fun b hb hlt=>h2.block b hlt (fun e=>hb.2.2 e.symm)
 have hO:OwnX E F.e (fun b=>P b∧b < w0.heap.size∧v.ownBlock≠some b) base w' (.slice (some ⟨g,0,none⟩) (xs.length+1) cap) (xs ++ [x]) :=
  ⟨cs ++ c.toList,by simpa using h1,(hC.to (fun _ h _=>h) hblk).append (CellsX.single (E.to hx (fun _ h _=>h) hblk))⟩
 refine hO.to (Nat.le_refl _) (fun b hb _=>⟨hb.1,by have:=hb.2.1;omega,fun e=>?_⟩) fun _ _ _=>rfl
 simp only [Value.ownBlock,Option.some.injEq] at e
 subst e
 rcases h3 with h5 | h5
 ·exact hb.2.2 h5
 have:=hb.2.1;omega
theorem append_growX (F:ElT E) (s x:Operand) (hgd:o.guard=none) (ho:o.op=.call { callee:=.builtin .append,args:=#[s,x],argTypes:=#[F.sl,F.sl] })
  {P R:Nat→Prop} {base:Nat} {w0:World} {v:Value} {xs:List X} {y:X} {c:Array Value} {g0 n:Nat} (hs:a.eval s=v) (hx:a.eval x=.slice (some ⟨g0,0,none⟩) 1 1) (hg0:g0=w0.heap.size) (hown:OwnXG E F.e P base w0 v xs)
  (ht:E.C R w0 y c.toList) (hR:∀ b,R b→b < w0.heap.size→P b∧v.ownBlock≠some b) (hnl:xs.length=n) (hn:n+1≤274877906944) (hbase:base≤w0.heap.size)
  (h:∀ g cap w',OwnXG E F.e P base w' (.slice (some ⟨g,0,none⟩) (n+1) cap) (xs ++ [y])→Below base w0 w'→(w0.alloc (.cells c F.e)).grownBy w' v.ownBlock→(v.ownBlock=some g∨w0.heap.size < g)→wpList Tryz.prog ops Q rest (a.put o.dst (.slice (some ⟨g,0,none⟩) (n+1) cap)) w') :
  wpList Tryz.prog ops Q (o :: rest) a (w0.alloc (.cells c F.e)):=by
 subst hg0 hnl
 obtain ⟨i,hi,hiz,his,hib⟩:=info_parts F.info
 have hlt:=hown.block
 have hb:=F.hb
 have hown1:OwnX E F.e (fun b=>P b∧b < w0.heap.size∧v.ownBlock≠some b) base (w0.alloc (.cells c F.e)) v xs:=OwnX.to hown (Nat.le_refl _) (fun _ h _=>h) fun b _ hb=>Below.heap_alloc _ _ _ hb
 have hx1:E.C (fun b=>P b∧b < w0.heap.size∧v.ownBlock≠some b) (w0.alloc (.cells c F.e)) y c.toList:=E.to ht (fun b hb hl=>⟨(hR b hb hl).1,hl,(hR b hb hl).2⟩) fun b _ hb=>Below.heap_alloc _ _ _ hb
 obtain ⟨cs,ho1,hC⟩:=hown1
 refine wpList_append_lies _ hgd s x F.sl ho base F.e i F.z E.k F.bytes F.hund hi hiz his hib F.hzs F.hk v _ cs hs ho1 ⟨w0.heap.size,0,none⟩ 1 1 c.toList hx (by rw [E.len ht];simp) ?_ (E.one ht) (by decide) (by unfold maxLen;omega) ?_ (by simp;omega) _ rfl ?_
 ·exact World.news_of_block (fr:=(0,0)) (heap_alloc_new _ _)
 ·exact Nat.le_trans (Nat.mul_le_mul hn hb) (by decide)
 intro g cap w' h1 h2 h3 h4
 simp only [World.size_alloc] at h3
 refine h g cap w' (ownXG_after hC hx1 h1 h2 h3) (grown_below ((Below.refl _ _).alloc hbase _) h2 (by simp;omega) fun b hb=>(hlt b hb).1) h2 ?_
 rcases h3 with h5 | h5
 ·exact .inl h5
 exact .inr (by omega)
theorem step_growX (F:ElT E) {K:Act→World→Prop} {W:Prop} (s x:Operand) (hgd:o.guard=none) (ho:o.op=.call { callee:=.builtin .append,args:=#[s,x],argTypes:=#[F.sl,F.sl] })
  {P R:Nat→Prop} {base:Nat} {w0:World} {v:Value} {xs:List X} {y:X} {c:Array Value} {g0 n:Nat} (hs:a.eval s=v) (hx:a.eval x=.slice (some ⟨g0,0,none⟩) 1 1) (hg0:g0=w0.heap.size) (hown:OwnXG E F.e P base w0 v xs)
  (ht:E.C R w0 y c.toList) (hR:∀ b,R b→b < w0.heap.size→P b∧v.ownBlock≠some b) (hnl:xs.length=n) (hn:n+1≤274877906944) (hbase:base≤w0.heap.size)
  (h:∀ g cap w',OwnXG E F.e P base w' (.slice (some ⟨g,0,none⟩) (n+1) cap) (xs ++ [y])→Below base w0 w'→(w0.alloc (.cells c F.e)).grownBy w' v.ownBlock→(v.ownBlock=some g∨w0.heap.size < g)→K (a.put o.dst (.slice (some ⟨g,0,none⟩) (n+1) cap)) w') :
  if Region.wanted o (yielded ops a.tmps)=true then Oper.wp Tryz.prog o a (w0.alloc (.cells c F.e)) K Q else W:=by
 subst hg0 hnl
 obtain ⟨i,hi,hiz,his,hib⟩:=info_parts F.info
 have hlt:=hown.block
 have hb:=F.hb
 have hown1:OwnX E F.e (fun b=>P b∧b < w0.heap.size∧v.ownBlock≠some b) base (w0.alloc (.cells c F.e)) v xs:=OwnX.to hown (Nat.le_refl _) (fun _ h _=>h) fun b _ hb=>Below.heap_alloc _ _ _ hb
 have hx1:E.C (fun b=>P b∧b < w0.heap.size∧v.ownBlock≠some b) (w0.alloc (.cells c F.e)) y c.toList:=E.to ht (fun b hb hl=>⟨(hR b hb hl).1,hl,(hR b hb hl).2⟩) fun b _ hb=>Below.heap_alloc _ _ _ hb
 obtain ⟨cs,ho1,hC⟩:=hown1
 refine step_append_lies _ hgd s x F.sl ho base F.e i F.z E.k F.bytes F.hund hi hiz his hib F.hzs F.hk v _ cs hs ho1 ⟨w0.heap.size,0,none⟩ 1 1 c.toList hx (by rw [E.len ht];simp) ?_ (E.one ht) (by decide) (by unfold maxLen;omega) ?_ (by simp;omega) _ rfl ?_
 ·exact World.news_of_block (fr:=(0,0)) (heap_alloc_new _ _)
 ·exact Nat.le_trans (Nat.mul_le_mul hn hb) (by decide)
 intro g cap w' h1 h2 h3 h4
 simp only [World.size_alloc] at h3
 refine h g cap w' (ownXG_after hC hx1 h1 h2 h3) (grown_below ((Below.refl _ _).alloc hbase _) h2 (by simp;omega) fun b hb=>(hlt b hb).1) h2 ?_
 rcases h3 with h5 | h5
 ·exact .inl h5
 exact .inr (by omega)
end
def OwnG (P:Nat→Prop) (base:Nat) (w:World) (v:Value) (ts:List T):Prop :=
 OwnT (fun b=>P b∧b < w.heap.size∧v.ownBlock≠some b) base w v ts
theorem OwnG.nil (P:Nat→Prop) (base:Nat) (w:World):OwnG P base w (.slice none 0 0) []:=OwnT.nil _ _ _
theorem OwnG.to {P:Nat→Prop} {base:Nat} {w w':World} {v:Value} {ts:List T} (h:OwnG P base w v ts) (hl:w.heap.size≤w'.heap.size)
  (hc:∀ b,(P b∨v.ownBlock=some b)→b < w.heap.size→w'.heap[b]?=w.heap[b]?):OwnG P base w' v ts :=
 OwnT.to h (Nat.le_refl _) (fun b hb _=>⟨hb.1,by have:=hb.2.1;omega,hb.2.2⟩) fun b hb=>hc b (hb.imp (·.1) id)
theorem OwnG.below {P:Nat→Prop} {base:Nat} {w w':World} {v:Value} {ts:List T} (h:OwnG P base w v ts) (hB:Below w.heap.size w w'):OwnG P base w' v ts :=
 h.to hB.size fun b _ hb=>hB.block b hb
theorem OwnG.alloc {P:Nat→Prop} {base:Nat} {w:World} {v:Value} {ts:List T} (h:OwnG P base w v ts) (o:Obj):OwnG P base (w.alloc o) v ts:=h.below (yA w o)
theorem OwnG.block {P:Nat→Prop} {base:Nat} {w:World} {v:Value} {ts:List T} (h:OwnG P base w v ts):∀ b,v.ownBlock=some b→base≤b∧b < w.heap.size:=OwnT.block h
theorem OwnG.setCell {P:Nat→Prop} {base:Nat} {w:World} {v:Value} {ts:List T} (h:OwnG P base w v ts) (B o:Nat) (u:Value) (hB:B < base) (hP:¬P B):OwnG P base (w.setCell ⟨B,o,none⟩ u) v ts :=
 h.to (by simp) fun b hb _=>yD w B o u b fun e=>by
  subst e
  rcases hb with hb | hb
  ·exact hP hb
  ·have:=h.block _ hb;omega
theorem OwnG.rsl {P:Nat→Prop} {base:Nat} {w:World} {v:Value} {ts:List T} (h:OwnG P base w v ts) (hP:∀ b,base≤b→P b):RSl P w ts v :=
 (OwnT.rsl2 h).rsl.mono fun b hb=>by
  rcases hb with hb | hb
  ·exact hP b (h.block b hb).1
  ·exact hb.1
theorem OwnG.form {P:Nat→Prop} {base:Nat} {w:World} {v:Value} {ts:List T} (h:OwnG P base w v ts):∃ a cap,v=.slice a ts.length cap:=(OwnT.rsl2 h).form
section
variable {ops:Array Oper} {rest:List Oper} {o:Oper} {a:Act} {Q:Exit→Act→World→Prop}
theorem append_grow (s x:Operand) (hgd:o.guard=none) (ho:o.op=.call { callee:=.builtin .append,args:=#[s,x],argTypes:=#[23,23] })
  {P R:Nat→Prop} {base:Nat} {w0:World} {v:Value} {ts:List T} {t:T} {c0 c1 c2 c3:Value} (hs:a.eval s=v) (hx:a.eval x=.slice (some ⟨w0.heap.size,0,none⟩) 1 1) (hown:OwnG P base w0 v ts)
  (ht:RT R w0 t (.agg #[c0,c1,c2,c3])) (hR:∀ b,R b→b < w0.heap.size→P b∧v.ownBlock≠some b) (hn:ts.length+1≤1099511627776) (hbase:base≤w0.heap.size)
  (h:∀ v' w',OwnG P base w' v' (ts ++ [t])→Below base w0 w'→(∀ b,v'.ownBlock=some b→v.ownBlock=some b∨w0.heap.size≤b)→wpList Tryz.prog ops Q rest (a.put o.dst v') w') :
  wpList Tryz.prog ops Q (o :: rest) a (w0.alloc (.cells #[c0,c1,c2,c3] 25)):=by
 have hlt:=hown.block
 refine append_terms (base:=base) (S:=fun b=>P b∧b < w0.heap.size∧v.ownBlock≠some b) s x hgd ho hs hx (OwnT.to hown (Nat.le_refl _) (fun _ h _=>h) fun b _ hb=>Below.heap_alloc _ _ _ hb)
  ((ht.to (S':=fun b=>P b∧b < w0.heap.size∧v.ownBlock≠some b) (fun b hb hl=>⟨(hR b hb hl).1,hl,(hR b hb hl).2⟩) fun _ _ _=>rfl).one 25) (fun b hb=>hb.2.2) hn (by simp;omega) ?_
 intro v' w' h1 h2 h3
 have h2s:=h2.size
 simp only [World.size_alloc] at h2s h3
 refine h v' w' (h1.to (Nat.le_refl _) (fun b hb _=>⟨hb.1,by have:=hb.2.1;omega,fun e=>?_⟩) fun _ _ _=>rfl) ?_ ?_
 ·rcases h3 b e with h4 | h4
  ·exact hb.2.2 h4
  have:=hb.2.1;omega
 ·exact grown_below ((Below.refl _ _).alloc hbase _) h2 (by simp;omega) fun b hb=>(hlt b hb).1
 intro b hb
 rcases h3 b hb with h4 | h4
 ·exact .inl h4
 exact .inr (by omega)
theorem append_grow' (s x:Operand) (hgd:o.guard=none) (ho:o.op=.call { callee:=.builtin .append,args:=#[s,x],argTypes:=#[23,23] })
  {P R:Nat→Prop} {base:Nat} {w0:World} {v:Value} {ts:List T} {t:T} {c0 c1 c2 c3:Value} {g:Nat} (hs:a.eval s=v) (hx:a.eval x=.slice (some ⟨g,0,none⟩) 1 1) (hg:g=w0.heap.size) (hown:OwnG P base w0 v ts)
  (ht:RT R w0 t (.agg #[c0,c1,c2,c3])) (hR:∀ b,R b→b < w0.heap.size→P b∧v.ownBlock≠some b) (hn:ts.length+1≤1099511627776) (hbase:base≤w0.heap.size)
  (h:∀ v' w',OwnG P base w' v' (ts ++ [t])→Below base w0 w'→(∀ b,v'.ownBlock=some b→v.ownBlock=some b∨w0.heap.size≤b)→wpList Tryz.prog ops Q rest (a.put o.dst v') w') :
  wpList Tryz.prog ops Q (o :: rest) a (w0.alloc (.cells #[c0,c1,c2,c3] 25)):=by
 subst hg
 exact append_grow s x hgd ho hs hx hown ht hR hn hbase h
end
theorem copied_c:∀ (t:T) (S:Nat→Prop) (w:World) (v:Value),RT S w t v→yC [t]≤1099511627776 →
  Calls Tryz.prog 79 #[v] w fun e w'=>∃ v',e=.returned v'∧Below w.heap.size w w'∧RT (fun b=>w.heap.size≤b) w' t v':=by
 intro t
 induction t using T.ind with
 | h t ih =>
  intro S w v hv hb
  have hba:=yR t
  have hla:=yM t.args
  obtain ⟨a,cap,rfl,hcap,hr⟩:=hv
  have IH:=J ih;clear ih
  have HR:=J hr;clear hr
  clear hcap
  go_enter Tryz.func79,Tryz.ntmps79
  go_wp2_with fail
  go_loopw [3,9] (fun out i wr=>∃ k:Nat,k≤t.args.length∧i=.int .i64 k∧OwnG (fun b=>w.heap.size+2≤b) (w.heap.size+2) wr out (t.args.take k) ∧
    Below (w.heap.size+2) ((w.alloc (.cells #[.int .i64 t.kind,.int .i64 t.n,.string t.name,.slice a t.args.length cap] 25)).alloc (.cells #[.int .i64 0,.int .i64 0,.string ⟨#[]⟩,.slice none 0 0] 25)) wr) (fun _ i _=>t.args.length - (intOf i).toNat)
  case atStart=>exact ⟨0,Nat.zero_le _,rfl,OwnG.nil _ _ _,Below.refl _ _⟩
  case round =>
   obtain ⟨k,hkl,rfl,hT,hB⟩:=hrel
   have hsz:=hB.size
   simp only [World.size_alloc] at hsz
   have HT:=J hT;clear hT
   have HB:Hid (Below w.heap.size w wr):=J (yB ((yA _ _).alloc (by simp) _) (by simp <;> omega) (hB.mono (by simp <;> omega)))
   by_cases hlt:k < t.args.length
   ·obtain ⟨b,o,rfl⟩:=HR.out.addr (by omega)
    obtain ⟨a',cap',hSb,d0,d1,d2,d3,hE⟩:=(HR.out.below HB.out).elem k hlt
    have hbk:=bulk_at hlt
    have hE:=J hE
    go_wp2_with fail
    refine (IH.out _ (List.getElem_mem hlt) S _ _ (hE.out.alloc _) (by omega)).mono ?_
    rintro e w1 ⟨v1,rfl,hB1,hr1⟩
    have hs1:=hB1.size
    simp only [World.size_alloc] at hs1
    obtain ⟨a1,cap1,rfl,hcap1,hr1⟩:=hr1
    have HR1:Hid (RT (fun b=>wr.heap.size+1≤b) w1 (t.args[k]) _):=J ⟨a1,cap1,rfl,hcap1,by simpa using hr1⟩
    have HT1:=J ((HT.out.alloc (.cells #[.int .i64 t.args[k].kind,.int .i64 t.args[k].n,.string t.args[k].name,.slice a' t.args[k].args.length cap'] 25)).below hB1)
    have HT0:=J HT.out.block
    clear d0 d1 d2 d3 hcap1 hr1
    have hnn:(t.args.take k).length+1≤1099511627776:=by simp;omega
    go_wp2_with (at_builtin;refine append_grow _ _ rfl rfl rfl rfl HT1.out HR1.out (fun b hb hl=>⟨by omega,fun he=>by have:=HT0.out b he;omega⟩) hnn (by omega) ?_;intro v3 w2 hT3 hB3 hw3;have hs2:=hB3.size;have H3:=J hT3;clear hT3 hw3)
    go_roundw
    case rel=>exact ⟨k+1,by omega,by go_num,by rw [take_snoc' _ k hlt];exact H3.out,(yB (hB.alloc (by omega) _) (by simp <;> omega) hB1).trans hB3⟩
    case measure=>simp [intOf];omega
   ·have hkk:k=t.args.length:=by omega
    subst hkk
    have hB':=hB.mono (show ((w.alloc (.cells #[.int .i64 t.kind,.int .i64 t.n,.string t.name,.slice a t.args.length cap] 25)).alloc (.cells #[.int .i64 0,.int .i64 0,.string ⟨#[]⟩,.slice none 0 0] 25)).heap.size≤w.heap.size+2 by simp)
    obtain ⟨hcc,hff⟩:=bcell hB'
    simp only [World.size_alloc] at hcc hff
    obtain ⟨ar,capr,hrow,hcr,hrr⟩:=HT.out.rsl (fun b hb=>hb)
    rw [List.take_of_length_le (Nat.le_refl _)] at hrow hcr hrr
    subst hrow
    have hrr:=J hrr
    have h1:w.heap.size < w.heap.size+1+1:=by omega
    have h2:w.heap.size < wr.heap.size:=by omega
    have h3:w.heap.size+1 < wr.heap.size:=by omega
    clear hB hB'
    go_wp2_with fail
    refine bodyPost_ret (v:=.agg #[.int .i64 t.kind,.int .i64 t.n,.string t.name,.slice ar t.args.length capr]) (by simp [results,Tryz.results79,go_sem,hcc,hff]) rfl ⟨_,rfl,?_,ar,capr,rfl,hcr,?_⟩
    ·repeat refine Below.setCell ?_ (by simp <;> omega) _
     exact HB.out
    ·refine hrr.out.to (fun b hb _=>by omega) fun b hb _=>?_
     have hn1:b≠w.heap.size:=by omega
     have hn2:b≠w.heap.size+1:=by omega
     simp only [yD _ _ _ _ _ hn1,yD _ _ _ _ _ hn2]
def headIs (s:ByteArray):List T→Bool
 | []=>false
 | y :: _=>y.kind == 2 && y.name.toList == s.toList
def isT (x:T) (s:ByteArray) (n:Int):Bool:=x.kind == 4 && decide ((x.args.length:Int)=n+1) && headIs s x.args
theorem isT_kind {x:T} {s:ByteArray} {n:Int} (h:(x.kind == 4)=false):isT x s n=false:=by simp [isT,h]
theorem isT_len {x:T} {s:ByteArray} {n:Int} (h:(x.args.length:Int)≠n+1):isT x s n=false:=by simp [isT,h]
theorem headIs_at (s:ByteArray) (l:List T) (h:0 < l.length):headIs s l=(l[0].kind == 2 && l[0].name.toList == s.toList):=by
 cases l with
 | nil=>cases h
 | cons y l=>rfl
theorem is_Is (x:T) (s:ByteArray) (n:Int) (S:Nat→Prop) (w:World) (v:Value) (hv:RT S w x v) (h0:0≤n) (hn:n≤1099511627776) (hb:yC [x]≤1099511627776) :
  Calls Tryz.prog 93 #[v,.string s,.int .i64 n] w fun e w'=>e=.returned (.bool (isT x s n))∧Below w.heap.size w w':=by
 obtain ⟨a,cap,rfl,hc,hr⟩:=hv
 have hba:=yR x
 have hla:=yM x.args
 have HR:=J hr;clear hr hc
 cases h1:(x.kind == 4)
 ·have H1:=J (isT_kind (s:=s) (n:=n) h1)
  go_enter Tryz.func93,Tryz.ntmps93
  go_wp2_with fail
  go_ret
  exact ⟨yL H1.out.symm,yA _ _⟩
 by_cases h2:(x.args.length:Int)=n+1
 ·have hpos:0 < x.args.length:=by omega
  obtain ⟨b,o,rfl⟩:=HR.out.addr hpos
  obtain ⟨a',cap',hSb,d0,d1,d2,d3,hE⟩:=(HR.out.alloc (.cells #[.int .i64 x.kind,.int .i64 x.n,.string x.name,.slice (some ⟨b,o,none⟩) x.args.length cap] 25)).elem 0 hpos
  clear hE
  have h2':((x.args.length:Int) == n+1)=true:=by simpa using h2
  have h2'':((x.args.length:Int) == 1+n)=true:=by simp;omega
  have H1:=J (show isT x s n=(x.args[0].kind == 2 && x.args[0].name.toList == s.toList) by rw [isT,h1,headIs_at s _ hpos];simp [h2])
  clear h2
  simp only [Nat.zero_mul,Nat.add_zero] at d0 d1 d2 d3
  generalize x.args[0]=y at d0 d1 d2 d3 H1
  cases h3:(y.kind == 2)
  ·have H2:=J h3
   go_enter Tryz.func93,Tryz.ntmps93
   go_wp2_with fail
   go_ret
   exact ⟨yL (by rw [H1.out,H2.out];rfl),yA _ _⟩
  have H2:=J h3
  go_enter Tryz.func93,Tryz.ntmps93
  go_wp2_with fail
  go_ret
  exact ⟨yL (by rw [H1.out,H2.out];rfl),yA _ _⟩
 have H1:=J (isT_len (x:=x) (s:=s) (n:=n) h2)
 have h2':((x.args.length:Int) == n+1)=false:=by simpa using h2
 have h2'':((x.args.length:Int) == 1+n)=false:=by simp;omega
 clear h2
 go_enter Tryz.func93,Tryz.ntmps93
 go_wp2_with fail
 go_ret
 exact ⟨yL H1.out.symm,yA _ _⟩
theorem is_ris (x:T) (s:ByteArray) (n:Int) (S:Nat→Prop) (w:World) (v:Value) (hv:RT S w x v) (h0:0≤n) (hn:n≤1099511627776) (hb:yC [x]≤1099511627776) :
  Calls Tryz.prog 99 #[v,.string s,.int .i64 n] w fun e w'=>e=.returned (.bool (isT x s n))∧Below w.heap.size w w':=by
 obtain ⟨a,cap,rfl,hc,hr⟩:=hv
 have hba:=yR x
 have hla:=yM x.args
 have HR:=J hr;clear hr hc
 cases h1:(x.kind == 4)
 ·have H1:=J (isT_kind (s:=s) (n:=n) h1)
  go_enter Tryz.func99,Tryz.ntmps99
  go_wp2_with fail
  go_ret
  exact ⟨yL H1.out.symm,yA _ _⟩
 by_cases h2:(x.args.length:Int)=n+1
 ·have hpos:0 < x.args.length:=by omega
  obtain ⟨b,o,rfl⟩:=HR.out.addr hpos
  obtain ⟨a',cap',hSb,d0,d1,d2,d3,hE⟩:=(HR.out.alloc (.cells #[.int .i64 x.kind,.int .i64 x.n,.string x.name,.slice (some ⟨b,o,none⟩) x.args.length cap] 25)).elem 0 hpos
  clear hE
  have h2':((x.args.length:Int) == n+1)=true:=by simpa using h2
  have h2'':((x.args.length:Int) == 1+n)=true:=by simp;omega
  have H1:=J (show isT x s n=(x.args[0].kind == 2 && x.args[0].name.toList == s.toList) by rw [isT,h1,headIs_at s _ hpos];simp [h2])
  clear h2
  simp only [Nat.zero_mul,Nat.add_zero] at d0 d1 d2 d3
  generalize x.args[0]=y at d0 d1 d2 d3 H1
  cases h3:(y.kind == 2)
  ·have H2:=J h3
   go_enter Tryz.func99,Tryz.ntmps99
   go_wp2_with fail
   go_ret
   exact ⟨yL (by rw [H1.out,H2.out];rfl),yA _ _⟩
  have H2:=J h3
  go_enter Tryz.func99,Tryz.ntmps99
  go_wp2_with fail
  go_ret
  exact ⟨yL (by rw [H1.out,H2.out];rfl),yA _ _⟩
 have H1:=J (isT_len (x:=x) (s:=s) (n:=n) h2)
 have h2':((x.args.length:Int) == n+1)=false:=by simpa using h2
 have h2'':((x.args.length:Int) == 1+n)=false:=by simp;omega
 clear h2
 go_enter Tryz.func99,Tryz.ntmps99
 go_wp2_with fail
 go_ret
 exact ⟨yL H1.out.symm,yA _ _⟩
structure Keep (R:Nat→Prop) (w w':World):Prop where
 os:w'.os=w.os
 tape:w'.tape=w.tape
 output:w'.output=w.output
 size:w.heap.size≤w'.heap.size
 block:∀ k,k < w.heap.size→¬R k→w'.heap[k]?=w.heap[k]?
theorem Keep.refl (R:Nat→Prop) (w:World):Keep R w w:=⟨rfl,rfl,rfl,Nat.le_refl _,fun _ _ _=>rfl⟩
theorem Keep.trans {R:Nat→Prop} {a b c:World} (h:Keep R a b) (k:Keep R b c):Keep R a c :=
 ⟨k.os.trans h.os,k.tape.trans h.tape,k.output.trans h.output,Nat.le_trans h.size k.size,fun i hi hr=>(k.block i (Nat.lt_of_lt_of_le hi h.size) hr).trans (h.block i hi hr)⟩
theorem Keep.of {R:Nat→Prop} {w w':World} (h:Below w.heap.size w w'):Keep R w w':=⟨h.os,h.tape,h.output,h.size,fun k hk _=>h.block k hk⟩
theorem Keep.then {R:Nat→Prop} {a b c:World} (h:Keep R a b) (k:Below b.heap.size b c):Keep R a c:=h.trans (Keep.of k)
theorem Keep.mono {R R':Nat→Prop} {w w':World} (h:Keep R w w') (hr:∀ b,b < w.heap.size→R b→R' b):Keep R' w w':=⟨h.os,h.tape,h.output,h.size,fun k hk hn=>h.block k hk fun e=>hn (hr k hk e)⟩
theorem Keep.below {R:Nat→Prop} {w w':World} (h:Keep R w w') {B:Nat} (hB:B≤w.heap.size) (hr:∀ b,R b→B≤b):Below B w w':=⟨h.os,h.tape,h.output,h.size,fun k hk=>h.block k (by omega) fun e=>by have:=hr k e;omega⟩
theorem Keep.drew {R:Nat→Prop} {a w:World} (h:Keep R a w):Keep R a w.drew:=⟨h.os,h.tape,h.output,h.size,h.block⟩
theorem Keep.alloc {R:Nat→Prop} {a w:World} (h:Keep R a w) (o:Obj):Keep R a (w.alloc o):=h.then (yA w o)
theorem Keep.setCell {R:Nat→Prop} {a w:World} (h:Keep R a w) {b o:Nat} (u:Value) (hb:R b∨a.heap.size≤b):Keep R a (w.setCell ⟨b,o,none⟩ u) :=
 ⟨h.os,h.tape,h.output,by simpa using h.size,fun k hk hn=>by rw [yD w b o u k (fun e=>by subst e;rcases hb with hb | hb;exact hn hb;omega)];exact h.block k hk hn⟩
theorem Keep.cell {R:Nat→Prop} {w w':World} (h:Keep R w w') (b o:Nat) (hb:b < w.heap.size) (hr:¬R b):w'.cell? ⟨b,o,none⟩=w.cell? ⟨b,o,none⟩:=World.cell?_of_block (w:=w) (h.block b hb hr)
theorem Keep.frozen {R:Nat→Prop} {w w':World} (h:Keep R w w') (b o:Nat) (hb:b < w.heap.size) (hr:¬R b):w'.frozen? ⟨b,o,none⟩=w.frozen? ⟨b,o,none⟩:=World.frozen?_of_block (w:=w) (h.block b hb hr)
theorem RT.keep {R S:Nat→Prop} {w w':World} {t:T} {v:Value} (h:RT S w t v) (hK:Keep R w w') (hs:∀ b,S b→¬R b):RT S w' t v:=h.to (fun _ h _=>h) fun b hb hl=>hK.block b hl (hs b hb)
theorem RTs.keep {R S:Nat→Prop} {w w':World} {ts:List T} {a:Option Addr} {i:Nat} (h:RTs S w ts a i) (hK:Keep R w w') (hs:∀ b,S b→¬R b):RTs S w' ts a i:=h.to (fun _ h _=>h) fun b hb hl=>hK.block b hl (hs b hb)
theorem RSl.keep {R S:Nat→Prop} {w w':World} {ts:List T} {v:Value} (h:RSl S w ts v) (hK:Keep R w w') (hs:∀ b,S b→¬R b):RSl S w' ts v:=h.to (fun _ h _=>h) fun b hb hl=>hK.block b hl (hs b hb)
theorem CellsT.set {S:Nat→Prop} {w:World} {t:T} {a:Option Addr} {cap:Nat} (hc:CapOk a t.args.length cap) (hr:RTs S w t.args a 0):∀ {ts:List T} {cs:List Value} {k:Nat},CellsT S w ts cs→k < ts.length →
  CellsT S w (ts.set k t) ((((cs.set (k * 4) (.int .i64 t.kind)).set (k * 4+1) (.int .i64 t.n)).set (k * 4+2) (.string t.name)).set (k * 4+3) (.slice a t.args.length cap))
 | [],_,_,_,hk=>by cases hk
 | x :: ts,cs,0,h,_=>by
  obtain ⟨a',cap',cs',rfl,h1,h2,h3⟩:=h
  exact ⟨a,cap,cs',rfl,hc,hr,h3⟩
 | x :: ts,cs,k+1,h,hk=>by
  obtain ⟨a',cap',cs',rfl,h1,h2,h3⟩:=h
  have:=CellsT.set hc hr h3 (k:=k) (by simpa using hk)
  refine ⟨a',cap',_,?_,h1,h2,this⟩
  rw [show (k+1) * 4=k * 4+1+1+1+1 by omega]
  simp only [List.set_cons_succ]
theorem OwnG.store {P R:Nat→Prop} {base g n cap k:Nat} {w:World} {ts:List T} {t:T} {c0 c1 c2 c3:Value} (h:OwnG P base w (.slice (some ⟨g,0,none⟩) n cap) ts) (hk:k < ts.length) (hr:RT R w t (.agg #[c0,c1,c2,c3]))
  (hR:∀ b,R b→b < w.heap.size→P b∧b≠g) :
  OwnG P base ((((w.setCell ⟨g,k * 4,none⟩ c0).setCell ⟨g,k * 4+1,none⟩ c1).setCell ⟨g,k * 4+2,none⟩ c2).setCell ⟨g,k * 4+3,none⟩ c3) (.slice (some ⟨g,0,none⟩) n cap) (ts.set k t):=by
 obtain ⟨cs,⟨h1,h2⟩,hC⟩:=h
 obtain ⟨a,capt,ev,hct,hrt⟩:=hr
 simp only [Value.agg.injEq,Array.mk.injEq,List.cons.injEq,and_true] at ev
 obtain ⟨rfl,rfl,rfl,rfl⟩:=ev
 rcases h2 with ⟨h2,-⟩ | ⟨g',cap',cur,ev,hg,hh,hn,hm,hcs,htk⟩
 ·cases h2
 simp only [Value.slice.injEq,Option.some.injEq,Addr.mk.injEq,and_true] at ev
 obtain ⟨rfl,rfl,rfl⟩:=ev
 have e1:=heap_setCell_same w g (k * 4) cur 25 (.int .i64 t.kind) hh
 have e2:=heap_setCell_same _ g (k * 4+1) _ 25 (.int .i64 t.n) e1
 have e3:=heap_setCell_same _ g (k * 4+2) _ 25 (.string t.name) e2
 have e4:=heap_setCell_same _ g (k * 4+3) _ 25 (.slice a t.args.length capt) e3
 refine ⟨_,⟨?_,.inr ⟨g,cap,_,by simp,hg,e4,?_,hm,by simp [hcs],rfl⟩⟩,?_⟩
 ·simp only [Array.toList_setIfInBounds,List.take_set,htk,List.length_set,h1]
 ·simpa using hn
 simp only [Array.toList_setIfInBounds]
 have hl:(ts.set k t).length=ts.length:=by simp
 rw [hl,List.take_set,List.take_set,List.take_set,List.take_set,htk]
 have key:∀ b,b≠g→((((w.setCell ⟨g,k * 4,none⟩ (.int .i64 t.kind)).setCell ⟨g,k * 4+1,none⟩ (.int .i64 t.n)).setCell ⟨g,k * 4+2,none⟩ (.string t.name)).setCell ⟨g,k * 4+3,none⟩ (.slice a t.args.length capt)).heap[b]?=w.heap[b]?:=fun b hb=>by
  simp only [yD _ _ _ _ _ hb]
 have hne:∀ b,(Value.slice (some ⟨g,0,none⟩) ts.length cap).ownBlock≠some b→b≠g:=fun b hb e=>hb (by subst e;rfl)
 refine CellsT.set hct (hrt.to (fun b hb hl=>⟨(hR b hb hl).1,by simpa using hl,fun e=>(hR b hb hl).2 (by simpa [Value.ownBlock] using e.symm)⟩) fun b hb hl=>key b (hR b hb hl).2) ?_ hk
 exact hC.to (fun b hb _=>⟨hb.1,by simpa using hb.2.1,hb.2.2⟩) fun b hb _=>key b (hne b hb.2.2)
theorem OwnG.frozen {P:Nat→Prop} {base g n cap:Nat} {w:World} {ts:List T} (h:OwnG P base w (.slice (some ⟨g,0,none⟩) n cap) ts) (o:Nat):w.frozen? ⟨g,o,none⟩=false:=by
 obtain ⟨cs,⟨h1,h2⟩,hC⟩:=h
 rcases h2 with ⟨h2,-⟩ | ⟨g',cap',cur,ev,hg,hh,-⟩
 ·cases h2
 simp only [Value.slice.injEq,Option.some.injEq,Addr.mk.injEq,and_true] at ev
 obtain ⟨rfl,-,-⟩:=ev
 exact frozen_of_row w g o cur 25 hh
def flatP:List (T×T)→List T
 | []=>[]
 | p :: r=>p.1 :: p.2 :: flatP r
theorem flatP_append (a b:List (T×T)):flatP (a ++ b)=flatP a ++ flatP b:=by
 induction a with
 | nil=>rfl
 | cons p a ih=>simp [flatP,ih]
theorem flatP_length (a:List (T×T)):(flatP a).length=2 * a.length:=by
 induction a with
 | nil=>rfl
 | cons p a ih=>simp [flatP,ih];omega
def RSlP (R S:Nat→Prop) (w:World) (ps:List (T×T)) (v:Value):Prop :=
 ∃ a cap cs,v=.slice a ps.length cap∧CapOk a ps.length cap∧CellsT S w (flatP ps) cs∧∀ j u,cs[j]?=some u→∃ b o,a=some ⟨b,o,none⟩∧R b∧w.cell? ⟨b,o+j,none⟩=some u
theorem RSlP.to {R R' S S':Nat→Prop} {w w':World} {ps:List (T×T)} {v:Value} (h:RSlP R S w ps v) (hr:∀ b,R b→b < w.heap.size→R' b) (hs:∀ b,S b→b < w.heap.size→S' b)
  (hc:∀ b,S b∨R b→b < w.heap.size→w'.heap[b]?=w.heap[b]?):RSlP R' S' w' ps v:=by
 obtain ⟨a,cap,cs,rfl,hl,hC,hj⟩:=h
 refine ⟨a,cap,cs,rfl,hl,hC.to hs (fun b hb=>hc b (.inl hb)),fun j u hu=>?_⟩
 obtain ⟨b,o,rfl,hR,hcell⟩:=hj j u hu
 have hlt:=World.block_lt_of_cell? w _ hcell
 exact ⟨b,o,rfl,hr b hR hlt,by rw [World.cell?_of_block (w:=w) (hc b (.inr hR) hlt)];exact hcell⟩
theorem RSlP.below {R S:Nat→Prop} {w w':World} {ps:List (T×T)} {v:Value} (h:RSlP R S w ps v) (hB:Below w.heap.size w w'):RSlP R S w' ps v:=h.to (fun _ h _=>h) (fun _ h _=>h) fun b _ hb=>hB.block b hb
theorem RSlP.keep {R S K:Nat→Prop} {w w':World} {ps:List (T×T)} {v:Value} (h:RSlP R S w ps v) (hK:Keep K w w') (hn:∀ b,S b∨R b→¬K b):RSlP R S w' ps v:=h.to (fun _ h _=>h) (fun _ h _=>h) fun b hb hl=>hK.block b hl (hn b hb)
theorem RSlP.addr {R S:Nat→Prop} {w:World} {ps:List (T×T)} {a:Option Addr} {n cap:Nat} (h:RSlP R S w ps (.slice a n cap)) (hl:0 < ps.length):∃ b o,a=some ⟨b,o,none⟩∧n=ps.length∧ps.length≤cap:=by
 obtain ⟨a',cap',cs,e,hcl,hC,hj⟩:=h
 simp only [Value.slice.injEq] at e
 obtain ⟨rfl,rfl,rfl⟩:=e
 obtain ⟨_,_,h0,_⟩:=hC.at 0 (by rw [flatP_length];omega)
 obtain ⟨b,o,e,_⟩:=hj _ _ h0
 exact ⟨b,o,e,rfl,hcl.1⟩
theorem RSlP.head {R S:Nat→Prop} {w:World} {p:T×T} {ps:List (T×T)} {b o n cap:Nat} (h:RSlP R S w (p :: ps) (.slice (some ⟨b,o,none⟩) n cap)) :
  ∃ a1 c1 a2 c2,R b∧(w.cell? ⟨b,o,none⟩=some (.int .i64 p.1.kind)∧w.cell? ⟨b,o+1,none⟩=some (.int .i64 p.1.n)∧w.cell? ⟨b,o+2,none⟩=some (.string p.1.name)∧w.cell? ⟨b,o+3,none⟩=some (.slice a1 p.1.args.length c1)) ∧
   (w.cell? ⟨b,o+4,none⟩=some (.int .i64 p.2.kind)∧w.cell? ⟨b,o+5,none⟩=some (.int .i64 p.2.n)∧w.cell? ⟨b,o+6,none⟩=some (.string p.2.name)∧w.cell? ⟨b,o+7,none⟩=some (.slice a2 p.2.args.length c2)) ∧
   RT S w p.1 (.agg #[.int .i64 p.1.kind,.int .i64 p.1.n,.string p.1.name,.slice a1 p.1.args.length c1])∧RT S w p.2 (.agg #[.int .i64 p.2.kind,.int .i64 p.2.n,.string p.2.name,.slice a2 p.2.args.length c2]):=by
 obtain ⟨a',cap',cs,e,hcl,hC,hj'⟩:=h
 simp only [Value.slice.injEq] at e
 obtain ⟨rfl,_,_⟩:=e
 obtain ⟨a1,c1,cs',rfl,h1,h2,a2,c2,cs'',rfl,h3,h4,h5⟩:=hC
 have key:∀ i u,(Value.int IntKind.i64 p.1.kind :: .int .i64 p.1.n :: .string p.1.name :: .slice a1 p.1.args.length c1 :: .int .i64 p.2.kind :: .int .i64 p.2.n :: .string p.2.name :: .slice a2 p.2.args.length c2 :: cs'')[i]?=some u→R b∧w.cell? ⟨b,o+i,none⟩=some u:=by
  intro i u hu
  obtain ⟨b',o',e,hR,hc⟩:=hj' i u hu
  simp only [Option.some.injEq,Addr.mk.injEq,and_true] at e
  obtain ⟨rfl,rfl⟩:=e
  exact ⟨hR,hc⟩
 exact ⟨a1,c1,a2,c2,(key 0 _ rfl).1,⟨(key 0 _ rfl).2,(key 1 _ rfl).2,(key 2 _ rfl).2,(key 3 _ rfl).2⟩,⟨(key 4 _ rfl).2,(key 5 _ rfl).2,(key 6 _ rfl).2,(key 7 _ rfl).2⟩,⟨a1,c1,rfl,h1,h2⟩,⟨a2,c2,rfl,h3,h4⟩⟩
theorem RSlP.tail {R S:Nat→Prop} {w:World} {p:T×T} {ps:List (T×T)} {b o n cap:Nat} (h:RSlP R S w (p :: ps) (.slice (some ⟨b,o,none⟩) n cap)) (b' o':Nat) (hbo:ps≠[]→b'=b∧o'=o+8) :
  RSlP R S w ps (.slice (some ⟨b',o',none⟩) ps.length (cap - 1)):=by
 obtain ⟨a',cap',cs,e,hcl,hC,hj'⟩:=h
 simp only [Value.slice.injEq] at e
 obtain ⟨rfl,_,rfl⟩:=e
 obtain ⟨a1,c1,cs',rfl,h1,h2,a2,c2,cs'',rfl,h3,h4,h5⟩:=hC
 refine ⟨_,_,cs'',rfl,⟨by have:=hcl.1;simp at this;omega,by simp⟩,h5,fun j u hu=>?_⟩
 have hne:ps≠[]:=by
  intro e
  subst e
  simp only [flatP,CellsT] at h5
  subst h5
  simp at hu
 obtain ⟨rfl,rfl⟩:=hbo hne
 obtain ⟨b',o',e,hR,hc⟩:=hj' (j+8) u (by simpa using hu)
 simp only [Option.some.injEq,Addr.mk.injEq,and_true] at e
 obtain ⟨rfl,rfl⟩:=e
 exact ⟨_,_,rfl,hR,by rw [show o+8+j=o+(j+8) by omega];exact hc⟩
def OwnP (S:Nat→Prop) (base:Nat) (w:World) (v:Value) (ps:List (T×T)):Prop:=∃ cs,w.ownsRow base 121 8 v ps.length cs∧CellsT S w (flatP ps) cs
theorem OwnP.nil (S:Nat→Prop) (base:Nat) (w:World):OwnP S base w (.slice none 0 0) []:=⟨[],World.ownsRow_nil _ _ _ _,rfl⟩
theorem OwnP.to {S S':Nat→Prop} {base base':Nat} {w w':World} {v:Value} {ps:List (T×T)} (h:OwnP S base w v ps) (hb:base'≤base) (hs:∀ b,S b→b < w.heap.size→S' b)
  (hc:∀ b,(S b∨v.ownBlock=some b)→b < w.heap.size→w'.heap[b]?=w.heap[b]?):OwnP S' base' w' v ps:=by
 obtain ⟨cs,⟨h1,h2⟩,hC⟩:=h
 refine ⟨cs,⟨h1,?_⟩,hC.to hs (fun b hb=>hc b (.inl hb))⟩
 rcases h2 with h2 | ⟨g,cap,cur,rfl,hg,hh,r⟩
 ·exact .inl h2
 exact .inr ⟨g,cap,cur,rfl,by omega,by rw [hc g (.inr rfl) (Array.getElem?_eq_some_iff.1 hh).1];exact hh,r⟩
theorem OwnP.below {S:Nat→Prop} {base:Nat} {w w':World} {v:Value} {ps:List (T×T)} (h:OwnP S base w v ps) (hB:Below w.heap.size w w'):OwnP S base w' v ps:=h.to (Nat.le_refl _) (fun _ h _=>h) fun b _ hb=>hB.block b hb
theorem OwnP.alloc {S:Nat→Prop} {base:Nat} {w:World} {v:Value} {ps:List (T×T)} (h:OwnP S base w v ps) (o:Obj):OwnP S base (w.alloc o) v ps:=h.below (yA w o)
theorem OwnP.block {S:Nat→Prop} {base:Nat} {w:World} {v:Value} {ps:List (T×T)} (h:OwnP S base w v ps):∀ b,v.ownBlock=some b→base≤b∧b < w.heap.size:=by
 obtain ⟨cs,h,_⟩:=h;exact h.lt
theorem OwnP.form {S:Nat→Prop} {base:Nat} {w:World} {v:Value} {ps:List (T×T)} (h:OwnP S base w v ps):∃ a cap,v=.slice a ps.length cap:=by
 obtain ⟨cs,⟨h1,h2⟩,hC⟩:=h
 rcases h2 with ⟨rfl,h0⟩ | ⟨g,cap,cur,rfl,_⟩
 ·exact ⟨none,0,by rw [h0]⟩
 exact ⟨_,_,rfl⟩
theorem OwnP.rslp {S:Nat→Prop} {base:Nat} {w:World} {v:Value} {ps:List (T×T)} (h:OwnP S base w v ps):RSlP (fun b=>v.ownBlock=some b) S w ps v:=by
 obtain ⟨cs,ho,hC⟩:=h
 have hcell:=fun g hg=>ho.cells (g:=g) hg
 obtain ⟨h1,h2⟩:=ho
 rcases h2 with ⟨rfl,h0⟩ | ⟨g,cap,cur,rfl,hg,hh,hn,r⟩
 ·have:ps=[]:=List.eq_nil_of_length_eq_zero h0
  subst this
  simp only [flatP,CellsT] at hC
  subst hC
  exact ⟨none,0,[],rfl,⟨Nat.le_refl _,fun _=>rfl⟩,rfl,fun j u h=>by simp at h⟩
 refine ⟨some ⟨g,0,none⟩,cap,cs,rfl,⟨hn,by simp⟩,hC,fun j u hu=>⟨g,0,rfl,rfl,?_⟩⟩
 have:=hcell g rfl j u hu
 unfold Addr.add at this
 split at this
 ·rename_i h0;subst h0;exact this
 exact this
theorem RSlP.one {S:Nat→Prop} {w:World} {x y:T} {c0 c1 c2 c3 d0 d1 d2 d3:Value} (hx:RT S w x (.agg #[c0,c1,c2,c3])) (hy:RT S w y (.agg #[d0,d1,d2,d3])) (e:TypeId) :
  RSlP (fun b=>b=w.heap.size) S (w.alloc (.cells #[c0,c1,c2,c3,d0,d1,d2,d3] e)) [(x,y)] (.slice (some ⟨w.heap.size,0,none⟩) 1 1):=by
 obtain ⟨a,cap,ev,hl,hr⟩:=hx
 obtain ⟨a',cap',ev',hl',hr'⟩:=hy
 simp only [Value.agg.injEq,Array.mk.injEq,List.cons.injEq,and_true] at ev ev'
 obtain ⟨rfl,rfl,rfl,rfl⟩:=ev
 obtain ⟨rfl,rfl,rfl,rfl⟩:=ev'
 refine ⟨_,1,_,rfl,⟨Nat.le_refl _,by simp⟩,⟨a,cap,_,rfl,hl,hr.alloc _,a',cap',[],rfl,hl',hr'.alloc _,rfl⟩,fun j u hu=>⟨w.heap.size,0,rfl,rfl,?_⟩⟩
 rw [Nat.zero_add,World.cell?_alloc_new]
 simpa using hu
theorem infoPair:(Tryz.prog.info? 121).map (fun i=>(i.zero.map (fun z=>z.cells.size),i.size,i.bytes))=some (some 8,8,112):=by kernel_rfl
section
variable {w:World} {ops:Array Oper} {rest:List Oper} {o:Oper} {a:Act} {Q:Exit→Act→World→Prop}
theorem append_pairs (s x:Operand) (hgd:o.guard=none) (ho:o.op=.call { callee:=.builtin .append,args:=#[s,x],argTypes:=#[122,122] })
  {S R:Nat→Prop} {base:Nat} {v u:Value} {ps ls:List (T×T)} (hs:a.eval s=v) (hx:a.eval x=u) (hown:OwnP S base w v ps) (hl:RSlP R S w ls u)
  (hS:∀ b,S b→v.ownBlock≠some b) (hn:ps.length+ls.length≤1099511627776) (hbase:base≤w.heap.size)
  (h:∀ v' w',OwnP S base w' v' (ps ++ ls)→w.grownBy w' v.ownBlock→(∀ b,v'.ownBlock=some b→v.ownBlock=some b∨w.heap.size≤b)→wpList Tryz.prog ops Q rest (a.put o.dst v') w') :
  wpList Tryz.prog ops Q (o :: rest) a w:=by
 obtain ⟨i,hi,hz0⟩:∃ i,Tryz.prog.info? 121=some i∧(i.zero.map (fun z=>z.cells.size),i.size,i.bytes)=(some 8,8,112):=by
  have h:=infoPair
  cases hq:Tryz.prog.info? 121 with
  | none=>rw [hq] at h;cases h
  | some i=>rw [hq] at h;simp only [Option.map_some,Option.some.injEq] at h;exact ⟨i,rfl,h⟩
 simp only [Prod.mk.injEq] at hz0
 obtain ⟨hz,hz1,hz2⟩:=hz0
 obtain ⟨z,hz0,hzc⟩:=Option.map_eq_some_iff.1 hz
 obtain ⟨cs,ho1,hC⟩:=hown
 obtain ⟨au,cap,ds,rfl,hcap,hD,hj⟩:=hl
 have hDl:ds.length=ls.length * 8:=by rw [hD.length,flatP_length];omega
 cases au with
 | none =>
  obtain rfl:cap=0:=hcap.2 rfl
  have h0:ls=[]:=List.eq_nil_of_length_eq_zero (by have:=hcap.1;omega)
  subst h0
  refine wpList_append_own_none hgd s x 122 ho base 121 i 8 Tryz.underlying122 hi v _ cs hs ho1 hx ?_
  exact h v w ⟨cs,by simpa using ho1,by simpa using hC⟩ ⟨rfl,rfl,rfl,Nat.le_refl _,fun _ _ _=>rfl⟩ fun b hb=>.inl hb
 | some ad =>
  refine wpList_append_own_at w hgd s x 122 ho base 121 i z 8 112 Tryz.underlying122 hi hz0 hz1 hz2 hzc (by decide) v _ cs hs ho1 ad ls.length cap ds hx hDl ?_ hD.oneCell ?_ ?_ hbase ?_
  ·intro j u' hu
   obtain ⟨b,o',e,_,hc⟩:=hj j u' hu
   simp only [Option.some.injEq] at e
   subst e
   unfold Addr.add
   split
   ·rename_i h0;subst h0;exact hc
   ·exact hc
  ·unfold maxLen;omega
  ·omega
  ·intro v' w' h1 h2 h3 h4
   refine h v' w' ⟨cs ++ ds,by simpa using h1,?_⟩ h2 ?_
   ·rw [flatP_append]
    have hblk:∀ b,S b→b < w.heap.size→w'.heap[b]?=w.heap[b]?:=fun b hb hlt=>h2.block b hlt (fun e=>hS b hb e.symm)
    exact (hC.to (fun _ h _=>h) hblk).append (hD.to (fun _ h _=>h) hblk)
   ·intro b hb
    rcases h4 with h4 | h4
    ·exact .inl (by rw [←h4];exact hb)
    ·rw [h4] at hb;simp only [Option.some.injEq] at hb;exact .inr (by omega)
theorem step_append_pair {K:Act→World→Prop} {E:Prop} {g0 H n:Nat} (s x:Operand) (hgd:o.guard=none) (ho:o.op=.call { callee:=.builtin .append,args:=#[s,x],argTypes:=#[122,122] })
  {S R:Nat→Prop} {base:Nat} {v:Value} {ps:List (T×T)} {q:T×T} (hs:a.eval s=v) (hx:a.eval x=.slice (some ⟨g0,0,none⟩) 1 1) (hown:OwnP S base w v ps) (hl:RSlP R S w [q] (.slice (some ⟨g0,0,none⟩) 1 1))
  (hS:∀ b,S b→v.ownBlock≠some b) (hnl:ps.length=n) (hn:n+1≤1099511627776) (hbase:base≤w.heap.size) (hH:w.heap.size=H)
  (h:∀ g cap w',OwnP S base w' (.slice (some ⟨g,0,none⟩) (n+1) cap) (ps ++ [q])→w.grownBy w' v.ownBlock→K (a.put o.dst (.slice (some ⟨g,0,none⟩) (n+1) cap)) w') :
  if Region.wanted o (yielded ops a.tmps)=true then Oper.wp Tryz.prog o a w K Q else E:=by
 subst hnl
 obtain ⟨i,hi,hz0⟩:∃ i,Tryz.prog.info? 121=some i∧(i.zero.map (fun z=>z.cells.size),i.size,i.bytes)=(some 8,8,112):=by
  have h:=infoPair
  cases hq:Tryz.prog.info? 121 with
  | none=>rw [hq] at h;cases h
  | some i=>rw [hq] at h;simp only [Option.map_some,Option.some.injEq] at h;exact ⟨i,rfl,h⟩
 simp only [Prod.mk.injEq] at hz0
 obtain ⟨hz,hz1,hz2⟩:=hz0
 obtain ⟨z,hz0,hzc⟩:=Option.map_eq_some_iff.1 hz
 obtain ⟨cs,ho1,hC⟩:=hown
 obtain ⟨au,cap,ds,e,hcap,hD,hj⟩:=hl
 simp only [Value.slice.injEq] at e
 obtain ⟨rfl,-,rfl⟩:=e
 have hDl:ds.length=1 * 8:=by rw [hD.length,flatP_length];rfl
 refine step_append_lies w hgd s x 122 ho base 121 i z 8 112 Tryz.underlying122 hi hz0 hz1 hz2 hzc (by decide) v _ cs hs ho1 ⟨g0,0,none⟩ 1 1 ds hx hDl ?_ hD.oneCell (by decide) ?_ ?_ hbase H hH ?_
 ·intro j u' hu
  obtain ⟨b,o',e,_,hc⟩:=hj j u' hu
  simp only [Option.some.injEq] at e
  rw [e]
  unfold Addr.add
  split
  ·rename_i h0;subst h0;exact hc
  exact hc
 ·unfold maxLen;omega
 ·omega
 intro g cap w' h1 h2 _ _
 refine h g cap w' ⟨cs ++ ds,by simpa using h1,?_⟩ h2
 rw [flatP_append]
 have hblk:∀ b,S b→b < w.heap.size→w'.heap[b]?=w.heap[b]?:=fun b hb hlt=>h2.block b hlt (fun e=>hS b hb e.symm)
 exact (hC.to (fun _ h _=>h) hblk).append (hD.to (fun _ h _=>h) hblk)
end
def ptr (b:Nat):Value:=.pointer (some ⟨b,0,none⟩)
def IsC (w:World) (b:Nat):Prop:=∃ cs e,w.heap[b]?=some (.cells cs e (0,0))
theorem IsC.to {w w':World} {b:Nat} (h:IsC w b) (he:w'.heap[b]?=w.heap[b]?):IsC w' b:=by
 obtain ⟨cs,e,h⟩:=h;exact ⟨cs,e,he.trans h⟩
def EntP:List Nat→List MapEntry→Prop
 | [],es=>es=[]
 | s :: S,es=>∃ e es',es=e :: es'∧e.key=ptr s∧e.val=.bool true∧EntP S es'
theorem EntP.snoc {s:Nat} {x:MapEntry} (h1:x.key=ptr s) (h2:x.val=.bool true):∀ {S:List Nat} {es:List MapEntry},EntP S es→EntP (S ++ [s]) (es ++ [x])
 | [],es,h=>by
  obtain rfl:es=[]:=h
  exact ⟨x,[],rfl,h1,h2,rfl⟩
 | t :: S,es,h=>by
  obtain ⟨e,es',rfl,h3,h4,h5⟩:=h
  exact ⟨e,es' ++ [x],rfl,h3,h4,h5.snoc h1 h2⟩
theorem EntP.len:∀ {S:List Nat} {es:List MapEntry},EntP S es→es.length=S.length
 | [],es,h=>by obtain rfl:es=[]:=h;rfl
 | t :: S,es,h=>by obtain ⟨e,es',rfl,-,-,h5⟩:=h;simp [h5.len]
def PMap (w:World) (r:Nat) (S:List Nat):Prop:=∃ es clock,w.heap[r]?=some (.map es clock)∧EntP S es.toList
theorem PMap.to {w w':World} {r:Nat} {S:List Nat} (h:PMap w r S) (he:w'.heap[r]?=w.heap[r]?):PMap w' r S:=by
 obtain ⟨es,c,h1,h2⟩:=h;exact ⟨es,c,he.trans h1,h2⟩
theorem PMap.new (w:World):PMap (w.alloc (.map #[] 0)) w.heap.size []:=⟨#[],0,heap_alloc_new w _,rfl⟩
section
variable {P:Program} {w:World} {base:Nat} {e:TypeId} {size:Nat} {v:Value} {n:Nat} {xs:List Value}
def ownsQ (w:World) (base:Nat) (e:TypeId) (size:Nat) (v:Value) (n:Nat) (xs:List Value):Prop :=
 xs.length=n * size∧((v=.slice none 0 0∧n=0) ∨
  ∃ g o cap cur,v=.slice (some ⟨g,o * size,none⟩) n cap∧base≤g∧w.heap[g]?=some (.cells cur e (0,0))∧n≤cap∧cap≤maxLen∧(0 < cap→cur.size=(o+cap) * size)∧(cur.toList.drop (o * size)).take (n * size)=xs)
theorem ownsQ_of (h:w.ownsRow base e size v n xs):ownsQ w base e size v n xs:=by
 refine ⟨h.1,h.2.imp id ?_⟩
 rintro ⟨g,cap,cur,rfl,r1,r2,r3,r4,r5,r6⟩
 exact ⟨g,0,cap,cur,by rw [Nat.zero_mul],r1,r2,r3,r4,fun _=>by rw [r5,Nat.zero_add],by rw [Nat.zero_mul,List.drop_zero];exact r6⟩
theorem ownsQ.lt (h:ownsQ w base e size v n xs):∀ k,v.ownBlock=some k→base≤k∧k < w.heap.size:=by
 intro k hk
 rcases h.2 with ⟨rfl,_⟩ | ⟨g,o,cap,cur,rfl,hb,hg,_⟩
 ·simp [Value.ownBlock] at hk
 simp [Value.ownBlock] at hk
 subst hk
 exact ⟨hb,(Array.getElem?_eq_some_iff.1 hg).1⟩
theorem ownsQ.to {w':World} (h:ownsQ w base e size v n xs) (he:∀ b,v.ownBlock=some b→w'.heap[b]?=w.heap[b]?):ownsQ w' base e size v n xs:=by
 refine ⟨h.1,h.2.imp id ?_⟩
 rintro ⟨g,o,cap,cur,rfl,r1,r2,r⟩
 exact ⟨g,o,cap,cur,rfl,r1,by rw [he g rfl];exact r2,r⟩
theorem ownsQ.cells (h:ownsQ w base e size v n xs) {g o cap:Nat} (hv:v=.slice (some ⟨g,o,none⟩) n cap):∀ j u,xs[j]?=some u→w.cell? ((⟨g,o,none⟩:Addr).add j)=some u:=by
 intro j u hu
 rcases h.2 with ⟨e1,_⟩ | ⟨g',o',cap',cur,e1,_,hgg,_,_,_,htake⟩
 ·rw [e1] at hv;cases hv
 rw [e1] at hv
 simp only [Value.slice.injEq,Option.some.injEq,Addr.mk.injEq,and_true,true_and] at hv
 obtain ⟨⟨rfl,rfl⟩,rfl⟩:=hv
 rw [Addr.add_lit]
 have hj:=(List.getElem?_eq_some_iff.1 hu).1
 rw [h.1] at hj
 rw [←htake,List.getElem?_take_of_lt hj,List.getElem?_drop] at hu
 simp only [World.cell?,hgg]
 rw [←Array.getElem?_toList]
 exact hu
theorem run_append_roomQ (w:World) (t ty e:TypeId) (i:TypeInfo) (ht:P.underlying t=some (.slice e)) (hi:P.info? e=some i)
  (g o sLen sCap:Nat) (cur:Array Value) (hg:w.heap[g]?=some (.cells cur e (0,0)))
  (a:Addr) (m c:Nat) (news:List Value) (hl:news.length=m * i.size) (hnews:∀ j u,news[j]?=some u→w.cell? (a.add j)=some u) (h1:∀ u∈news,u.oneCell'=true)
  (hroom:sLen+m≤sCap) (hfit:o+sLen * i.size+news.length≤cur.size) :
  (Builtin.append_ #[t,t] ty #[.slice (some ⟨g,o,none⟩) sLen sCap,.slice (some a) m c]).run P w =
   .ok (.slice (some ⟨g,o,none⟩) (sLen+m) sCap) (w.setRow g (cur.toList.take (o+sLen * i.size) ++ news ++ cur.toList.drop (o+sLen * i.size+news.length)).toArray):=by
 have hf:=run_firstCells_some (P:=P) w i.size m a m c news hl hnews
 have hst:=run_storeCells_at P g (o+sLen * i.size) e news 0 cur w hg (by simpa using hfit) h1
 simp only [Nat.add_zero] at hst
 simp [Builtin.append_,run_underlying ht,sizeOf,typeInfo,hi,Builtin.lenOf,hroom,hf,Addr.add_lit,hst]
theorem run_append_q (w:World) (t ty:TypeId) (base:Nat) (e:TypeId) (i:TypeInfo) (z:Value) (size bytes:Nat) (ht:P.underlying t=some (.slice e)) (hi:P.info? e=some i) (hz:i.zero=some z)
  (hsize:i.size=size) (hby:i.bytes=bytes) (hzs:z.cells.size=size) (hsz:0 < size)
  (v:Value) (n:Nat) (xs:List Value) (hown:ownsQ w base e size v n xs)
  (ad:Addr) (m c:Nat) (news:List Value) (hl:news.length=m * size) (hnews:∀ j u,news[j]?=some u→w.cell? (ad.add j)=some u) (h1:∀ u∈news,u.oneCell'=true)
  (hm:0 < m) (h63:n+m≤maxLen) (hbytes:(n+m) * bytes≤140737488355328) (hbase:base≤w.heap.size) :
  ∃ g o cap w',(Builtin.append_ #[t,t] ty #[v,.slice (some ad) m c]).run P w=.ok (.slice (some ⟨g,o,none⟩) (n+m) cap) w' ∧
   ownsQ w' base e size (.slice (some ⟨g,o,none⟩) (n+m) cap) (n+m) (xs ++ news)∧w.grownBy w' v.ownBlock∧(v.ownBlock=some g∨g=w.heap.size):=by
 rcases hown.2 with ⟨rfl,rfl⟩ | ⟨g,o,cap,cur,rfl,hbg,hg,hnc,hcm,hcs,htake⟩
 ·obtain rfl:xs=[]:=List.eq_nil_of_length_eq_zero (by simpa using hown.1)
  obtain ⟨g,cap,w',hr,h2,h3,h4,h5⟩:=run_append_lies (P:=P) w t ty base e i z size bytes ht hi hz hsize hby hzs hsz (.slice none 0 0) 0 [] (World.ownsRow_nil w base e size) ad m c news hl hnews h1 hm h63 hbytes hbase w.heap.size rfl
  exact ⟨g,0,cap,w',hr,ownsQ_of h2,h3,h4⟩
 subst hsize
 subst hby
 have hlen:(xs ++ news).length=(n+m) * i.size:=by rw [List.length_append,hown.1,hl,Nat.add_mul]
 by_cases hroom:n+m≤cap
 ·have hcs:=hcs (by omega)
  have hle:o * i.size+(n+m) * i.size≤cur.size:=by rw [hcs,←Nat.add_mul];exact Nat.mul_le_mul_right _ (by omega)
  have hfit:o * i.size+n * i.size+news.length≤cur.size:=by rw [hl];rw [Nat.add_mul] at hle;omega
  have hr:=run_append_roomQ (P:=P) w t ty e i ht hi g (o * i.size) n cap cur hg ad m c news hl hnews h1 hroom hfit
  refine ⟨g,o * i.size,cap,_,hr,⟨hlen,.inr ⟨g,o,cap,_,rfl,hbg,setRow_heap w g cur _ e _ hg,hroom,hcm,?_,?_⟩⟩,⟨rfl,rfl,rfl,by simp,fun k _ hk=>setRow_other w g k _ (fun e=>hk (by simp [Value.ownBlock,e]))⟩,.inl rfl⟩
  ·intro _
   rw [←hcs]
   simp only [List.size_toArray,List.length_append,List.length_take,List.length_drop,Array.length_toList]
   omega
  have ht1:cur.toList.take (o * i.size+n * i.size)=cur.toList.take (o * i.size) ++ xs:=by rw [List.take_add,htake]
  have hl1:(cur.toList.take (o * i.size)).length=o * i.size:=by rw [List.length_take,Array.length_toList];omega
  rw [List.toList_toArray,ht1,List.append_assoc,List.append_assoc,List.drop_left' hl1,←List.append_assoc,←hlen]
  exact List.take_left
 have hr:=run_append_grow (P:=P) w t ty e i z ht hi hz ⟨g,o * i.size,none⟩ n cap xs hown.1 (hown.cells rfl) ad m c news hl hnews (by omega) (by simp only [maxLen] at h63;omega) (growslice_fits (by omega) hbytes)
 have hge:=grownCap_ge w (n+m) cap e
 have hcm2:grownCap w (n+m) cap e≤maxLen:=grownCap_le_maxLen w (n+m) cap e h63
 refine ⟨w.heap.size,0,_,_,hr,ownsQ_of ⟨hlen,.inr ⟨w.heap.size,_,_,rfl,hbase,heap_alloc_new w.drew _,hge,hcm2,?_,?_⟩⟩,⟨rfl,rfl,rfl,by simp,fun k hk _=>heap_alloc_old w.drew _ hk⟩,.inr rfl⟩
 ·simp only [Array.size_append,List.size_toArray,size_zeroCells,hzs,hown.1,hl,←Nat.add_mul]
  congr 1
  omega
 simp only [Array.toList_append,List.append_assoc]
 rw [←List.append_assoc,←hlen]
 exact List.take_left
theorem ownsQ.tail {g o cap m:Nat} {c cs:List Value} (h:ownsQ w base e size (.slice (some ⟨g,o,none⟩) (m+1) cap) (m+1) (c ++ cs)) (hc:c.length=size):ownsQ w base e size (.slice (some ⟨g,o+size,none⟩) m (cap - 1)) m cs:=by
 obtain ⟨hl,h2⟩:=h
 rcases h2 with ⟨e1,_⟩ | ⟨g',o',cap',cur,e1,hb,hg,hn,hm,hs,ht⟩
 ·cases e1
 simp only [Value.slice.injEq,Option.some.injEq,Addr.mk.injEq,and_true,true_and] at e1
 obtain ⟨⟨rfl,rfl⟩,rfl⟩:=e1
 refine ⟨?_,.inr ⟨g,o'+1,cap - 1,cur,by rw [Nat.succ_mul],hb,hg,by omega,by omega,?_,?_⟩⟩
 ·rw [List.length_append,hc,Nat.succ_mul] at hl;omega
 ·intro hpos;rw [hs (by omega)];congr 1;omega
 have h3:(cur.toList.drop ((o'+1) * size)).take (m * size)=((cur.toList.drop (o' * size)).take ((m+1) * size)).drop size:=by
  rw [List.drop_take,List.drop_drop,Nat.succ_mul,Nat.succ_mul,Nat.add_sub_cancel]
 rw [h3,ht,←hc,List.drop_left]
theorem ownsQ.zero {g o cap m:Nat} {cs:List Value} (h:ownsQ w base e size (.slice (some ⟨g,o,none⟩) (m+1) cap) (m+1) cs):ownsQ w base e size (.slice (some ⟨g,o,none⟩) 0 0) 0 []:=by
 obtain ⟨hl,h2⟩:=h
 rcases h2 with ⟨e1,_⟩ | ⟨g',o',cap',cur,e1,hb,hg,hn,hm,hs,ht⟩
 ·cases e1
 simp only [Value.slice.injEq,Option.some.injEq,Addr.mk.injEq,and_true,true_and] at e1
 obtain ⟨⟨rfl,rfl⟩,rfl⟩:=e1
 exact ⟨by simp,.inr ⟨g,o',0,cur,rfl,hb,hg,Nat.le_refl _,Nat.zero_le _,fun h=>absurd h (by omega),by simp⟩⟩
end
def szL:List T→Nat
 | []=>0
 | ⟨k,_,_,l⟩ :: ts=>(if k=4 then 1+l.length+szL l else 0)+szL ts
theorem szL_cons (t:T) (ts:List T):szL (t :: ts)=(if t.kind=4 then 1+t.args.length+szL t.args else 0)+szL ts:=by
 obtain ⟨k,n,s,l⟩:=t;rw [szL]
theorem szL_append (a b:List T):szL (a ++ b)=szL a+szL b:=by
 induction a with
 | nil=>simp [szL]
 | cons t ts ih=>simp only [List.cons_append,szL_cons,ih];omega
theorem szL_le:∀ m (ts:List T),yC ts≤m→szL ts+ts.length≤2 * yC ts:=by
 intro m
 induction m with
 | zero=>intro ts h;cases ts with
  | nil=>simp [szL]
  | cons t ts=>rw [yG] at h;omega
 | succ m ih =>
  intro ts h
  cases ts with
  | nil=>simp [szL]
  | cons t ts =>
   rw [yG] at h
   have h1:=ih t.args (by omega)
   have h2:=ih ts (by omega)
   rw [szL_cons,yG,List.length_cons]
   split <;> omega
theorem szL_snoc {l:List T} {k:Nat} (h:k < l.length):szL (l.take (k+1))=szL (l.take k)+szL [l[k]]:=by
 rw [take_snoc' l k h,szL_append]
theorem size_c:∀ (t:T) (S:Nat→Prop) (w:World) (v:Value),RT S w t v→yC [t]≤1099511627776 →
  Calls Tryz.prog 53 #[v] w fun e w'=>e=.returned (.int .i64 (szL [t]))∧Below w.heap.size w w':=by
 intro t
 induction t using T.ind with
 | h t ih =>
  intro S w v hv hb
  obtain ⟨a,cap,rfl,hcap,hr⟩:=hv
  have hba:=yR t
  have hla:=yM t.args
  have hsz:=szL_le _ t.args (Nat.le_refl _)
  have hx:szL [t]=if t.kind=4 then 1+t.args.length+szL t.args else 0:=by rw [szL_cons];simp [szL]
  have HX:=J hx;clear hx
  have IH:=J ih;clear ih
  have HR:=J hr;clear hr
  by_cases hk:(t.kind == 4)=true
  ·have hk':(t.kind != 4)=false:=by simpa using hk
   go_enter Tryz.func53,Tryz.ntmps53
   go_wp2_with fail
   go_loopw [3,16] (fun nn i wr=>∃ k:Nat,k≤t.args.length∧i=.int .i64 k∧nn=.int .i64 ((1+t.args.length+szL (t.args.take k):Nat):Int)∧Below w.heap.size w wr) (fun _ i _=>t.args.length - (intOf i).toNat)
   case atStart=>exact ⟨0,Nat.zero_le _,rfl,by simp [szL],yA _ _⟩
   case round =>
    obtain ⟨k,hkl,rfl,rfl,hB⟩:=hrel
    have hbt:=bulk_take t.args k
    have hst:=szL_le _ (t.args.take k) (Nat.le_refl _)
    by_cases hlt:k < t.args.length
    ·obtain ⟨b,o,rfl⟩:=HR.out.addr (by omega)
     obtain ⟨a',cap',_,c0,c1,c2,c3,hE⟩:=HR.out.elem k hlt
     have hbl:=World.block_lt_of_cell? w _ c0
     have hE:=hE.below hB
     have d0:=(hB.cell hbl).trans c0
     have d1:=(hB.cell (p:=⟨b,o+k * 4+1,none⟩) hbl).trans c1
     have d2:=(hB.cell (p:=⟨b,o+k * 4+2,none⟩) hbl).trans c2
     have d3:=(hB.cell (p:=⟨b,o+k * 4+3,none⟩) hbl).trans c3
     have hbk:=bulk_at hlt
     have hsk:=szL_le _ [t.args[k]] (Nat.le_refl _)
     have HS:=J (szL_snoc hlt)
     have hsz':=hB.size
     clear c0 c1 c2 c3
     go_wp2_with fail
     refine (IH.out _ (List.getElem_mem hlt) S _ _ (hE.alloc _) (by omega)).mono ?_
     rintro e w1 ⟨rfl,hB1⟩
     go_wp2_with fail
     go_roundw
     case rel=>exact ⟨k+1,by omega,by go_num,by rw [HS.out];go_num,yB (hB.alloc (by omega) _) (by simp;omega) hB1⟩
     case measure=>simp [intOf];omega
    ·have hkk:k=t.args.length:=by omega
     subst hkk
     go_wp2_with fail
     go_ret
     refine ⟨yO ?_,hB⟩
     rw [HX.out,if_pos (by simpa using hk),List.take_length]
  ·have hk':(t.kind != 4)=true:=by simpa using hk
   go_enter Tryz.func53,Tryz.ntmps53
   go_wp2_with fail
   go_ret
   refine ⟨yO ?_,yA _ _⟩
   rw [HX.out,if_neg (by simpa using hk)];rfl
def st4 (w:World) (B o:Nat) (c0 c1 c2 c3:Value):World:=(((w.setCell ⟨B,o,none⟩ c0).setCell ⟨B,o+1,none⟩ c1).setCell ⟨B,o+2,none⟩ c2).setCell ⟨B,o+3,none⟩ c3
theorem st4_0 (w:World) (B:Nat) (c0 c1 c2 c3:Value):(((w.setCell ⟨B,0,none⟩ c0).setCell ⟨B,1,none⟩ c1).setCell ⟨B,2,none⟩ c2).setCell ⟨B,3,none⟩ c3=st4 w B 0 c0 c1 c2 c3:=rfl
theorem st4_size (w:World) (B o:Nat) (c0 c1 c2 c3:Value):(st4 w B o c0 c1 c2 c3).heap.size=w.heap.size:=by simp [st4]
theorem st4_below {B0 B o:Nat} {a w:World} {c0 c1 c2 c3:Value} (h:Below B0 a w) (hB:B0≤B):Below B0 a (st4 w B o c0 c1 c2 c3) :=
 (((h.setCell (p:=⟨B,o,none⟩) hB c0).setCell (p:=⟨B,o+1,none⟩) hB c1).setCell (p:=⟨B,o+2,none⟩) hB c2).setCell (p:=⟨B,o+3,none⟩) hB c3
theorem st4_other (w:World) (B o:Nat) (c0 c1 c2 c3:Value) (b:Nat) (h:b≠B):(st4 w B o c0 c1 c2 c3).heap[b]?=w.heap[b]?:=by
 simp only [st4,yD _ _ _ _ _ h]
theorem st4_cells {w:World} {B o:Nat} {c0 c1 c2 c3 d0 d1 d2 d3:Value} (h0:w.cell? ⟨B,o,none⟩=some d0) (h1:w.cell? ⟨B,o+1,none⟩=some d1) (h2:w.cell? ⟨B,o+2,none⟩=some d2) (h3:w.cell? ⟨B,o+3,none⟩=some d3) :
  (st4 w B o c0 c1 c2 c3).cell? ⟨B,o,none⟩=some c0∧(st4 w B o c0 c1 c2 c3).cell? ⟨B,o+1,none⟩=some c1∧(st4 w B o c0 c1 c2 c3).cell? ⟨B,o+2,none⟩=some c2∧(st4 w B o c0 c1 c2 c3).cell? ⟨B,o+3,none⟩=some c3:=by
 have ne:∀ i j,i≠j→(⟨B,o+i,none⟩:Addr)≠⟨B,o+j,none⟩:=fun i j h e=>h (by have:=congrArg Addr.off e;simp only at this;omega)
 have key:∀ (w:World) (i j:Nat) (u:Value),i≠j→(w.setCell ⟨B,o+i,none⟩ u).cell? ⟨B,o+j,none⟩=w.cell? ⟨B,o+j,none⟩:=fun w i j u h=>World.cell?_setCell_other _ _ _ _ (ne i j h)
 have k0:∀ (w:World) (j:Nat) (u:Value),0≠j→(w.setCell ⟨B,o,none⟩ u).cell? ⟨B,o+j,none⟩=w.cell? ⟨B,o+j,none⟩:=fun w j u h=>key w 0 j u h
 have k1:∀ (w:World) (i:Nat) (u:Value),i≠0→(w.setCell ⟨B,o+i,none⟩ u).cell? ⟨B,o,none⟩=w.cell? ⟨B,o,none⟩:=fun w i u h=>key w i 0 u h
 unfold st4
 refine ⟨?_,?_,?_,?_⟩
 ·rw [k1 _ 3 _ (by omega),k1 _ 2 _ (by omega),k1 _ 1 _ (by omega)];exact World.cell?_setCell_same _ _ _ h0
 ·rw [key _ 3 1 _ (by omega),key _ 2 1 _ (by omega)];exact World.cell?_setCell_same _ _ _ (by rw [k0 _ 1 _ (by omega)];exact h1)
 ·rw [key _ 3 2 _ (by omega)];exact World.cell?_setCell_same _ _ _ (by rw [key _ 1 2 _ (by omega),k0 _ 2 _ (by omega)];exact h2)
 exact World.cell?_setCell_same _ _ _ (by rw [key _ 2 3 _ (by omega),key _ 1 3 _ (by omega),k0 _ 3 _ (by omega)];exact h3)
theorem RT.st4 {S:Nat→Prop} {w:World} {t:T} {v:Value} (h:RT S w t v) (B o:Nat) (c0 c1 c2 c3:Value) (hP:∀ b,S b→b≠B):RT S (st4 w B o c0 c1 c2 c3) t v :=
 h.to (fun _ h _=>h) fun b hb _=>st4_other w B o c0 c1 c2 c3 b (hP b hb)
end Go.Proofs.YtedfepnekjjmnabGreat
