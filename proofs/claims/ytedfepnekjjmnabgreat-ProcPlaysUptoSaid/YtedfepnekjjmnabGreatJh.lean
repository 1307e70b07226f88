/-
  Contracts and plain laws, joined: CopP ChenP ChenQ ChenR Heap4 TreeP PutP PutQ. Conditions stand in each.
-/
import Derived.Maps.Own
import Derived.Maps.OwnSet
import Derived.Maps.Views
import Derived.Test.YtedfepnekjjmnabGreatHeap3
import Derived.Test.YtedfepnekjjmnabGreatJg
import Derived.Test.YtedfepnekjjmnabGreatJb
import Derived.Test.YtedfepnekjjmnabGreatJf
namespace Go.Proofs.YtedfepnekjjmnabGreat
open Go.RowKit
set_option linter.unusedSimpArgs false
set_option linter.unusedVariables false
set_option maxRecDepth 100000
set_option maxHeartbeats 8000000
structure CS where
 tw:List Wrd
 wt:List (Int×Int)
def wtF (wt:List (Int×Int)) (n:Int):Option Int:=(wt.find? (fun p=>p.1 == n)).map (·.2)
theorem wtF_same (wt:List (Int×Int)) (n p:Int):wtF ((n,p) :: wt) n=some p:=by simp [wtF]
theorem wtF_other (wt:List (Int×Int)) {n m:Int} (p:Int) (h:m≠n):wtF ((n,p) :: wt) m=wtF wt m:=by
 unfold wtF;rw [List.find?_cons_of_neg (by simpa using fun e=>h e.symm)]
def wordC (H:HS) (st:CS) (x:Wrd):Wrd×CS :=
 if x.kind=4 then (match wtF st.wt x.n with
  | some p=>(⟨4,p⟩,st)
  | none=>(⟨4,st.tw.length⟩,⟨st.tw ++ (⟨0,(headN H x.n).getD 0⟩ :: partsL H x.n.toNat ((headN H x.n).getD 0).toNat),(x.n,(st.tw.length:Int)) :: st.wt⟩))
 else (x,st)
theorem wordC_no {H:HS} {st:CS} {x:Wrd} (h:x.kind≠4):wordC H st x=(x,st):=by unfold wordC;rw [if_neg h]
theorem wordC_old {H:HS} {st:CS} {x:Wrd} {p:Int} (h:x.kind=4) (hp:wtF st.wt x.n=some p):wordC H st x=(⟨4,p⟩,st):=by unfold wordC;rw [if_pos h,hp]
theorem wordC_new {H:HS} {st:CS} {x:Wrd} {i k:Nat} (h:x.kind=4) (hp:wtF st.wt x.n=none) (hi:x.n=i) (hk:headN H x.n=some (k:Int)):wordC H st x=(⟨4,st.tw.length⟩,⟨st.tw ++ (⟨0,k⟩ :: partsL H i k),(x.n,(st.tw.length:Int)) :: st.wt⟩):=by
 unfold wordC;rw [if_pos h,hp];simp only [hk,Option.getD_some,Int.toNat_natCast];rw [hi,Int.toNat_natCast]
def WentR (D:DataW Unit) (wt:List (Int×Int)):Prop:=∀ n:Int,(Lit.int .i64 n).wf=true→Maps.has D (.int .i64 n)=(wtF wt n).isSome∧∀ p,wtF wt n=some p→D.atKey (.int .i64 n) (.lit (.int .i64 0))=.lit (.int .i64 p)
theorem WentR.nil:WentR (.map []) []:=fun n _=>⟨rfl,fun p h=>by cases h⟩
theorem isKey_int (n:Int):WideAt.IsKeyLit (.int .i64 n):=by simp [WideAt.IsKeyLit]
theorem WentR.put {D:DataW Unit} {wt:List (Int×Int)} (h:WentR D wt) (hD:Maps.IsMap D) (n p:Int):WentR (D.put (.int .i64 n) (.lit (.int .i64 p))) ((n,p) :: wt):=fun m hm=>by
 by_cases e:m=n
 ·subst e
  rw [wtF_same]
  refine ⟨by rw [Maps.has_put_same hD (isKey_int _)];rfl,fun q hq=>?_⟩
  rw [Maps.atKey_put_same hD (isKey_int _)]
  simp only [Option.some.injEq] at hq;rw [hq]
 ·have hne:(Lit.int .i64 m)≠.int .i64 n:=fun e'=>e (by injection e')
  rw [wtF_other wt p e,Maps.has_put_other hne,Maps.atKey_put_other hne]
  exact h m hm
structure CopV (F:Nat→Prop) (w:World) (C B:Nat) (st:CS) (vto:Value) (bm nm:Nat) (D:DataW Unit):Prop where
 blk:Blk w C [.pointer (some ⟨B,0,none⟩),vto,.map (some bm)]
 row:OwnW w vto st.tw
 mp:w.ownsMap Tryz.prog 3 (plainElem Tryz.prog 3) bm nm D
 wt:WentR D st.wt
 nt:vto.ownBlock≠some C
 nm1:bm≠C
 ne:vto.ownBlock≠some bm
 fc:F C
 ft:∀ b,vto.ownBlock=some b→F b
 fm:F bm
def CopR (F:Nat→Prop) (w:World) (C B:Nat) (st:CS) (nm:Nat):Prop:=∃ vto bm D,CopV F w C B st vto bm nm D
theorem ownsMap_block {w w':World} {b n:Nat} {D:DataW Unit} (h:w.ownsMap Tryz.prog 3 (plainElem Tryz.prog 3) b n D) (he:w'.heap[b]?=w.heap[b]?):w'.ownsMap Tryz.prog 3 (plainElem Tryz.prog 3) b n D:=by
 obtain ⟨es,clock,hb,r⟩:=h
 exact ⟨es,clock,he.trans hb,r⟩
theorem CopV.to' {F F':Nat→Prop} {w w':World} {C B:Nat} {st:CS} {vto:Value} {bm nm:Nat} {D:DataW Unit} (h:CopV F w C B st vto bm nm D) (hl:w.heap.size≤w'.heap.size) (hF:∀ b,F b→F' b)
  (hc:∀ b,F b→b < w.heap.size→w'.heap[b]?=w.heap[b]?):CopV F' w' C B st vto bm nm D where
 blk:=by
  have he:=hc C h.fc h.blk.lt
  exact ⟨by have:=h.blk.lt;omega,fun j u hu=>(World.cell?_of_block (w:=w) (a:=⟨C,j,none⟩) he).trans (h.blk.cell j u hu),fun o=>(World.frozen?_of_block (w:=w) (a:=⟨C,o,none⟩) he).trans (h.blk.fr o)⟩
 row:=h.row.to hl fun b hb=>hc b (h.ft b hb) (h.row.block b hb).2
 mp:=ownsMap_block h.mp (hc bm h.fm h.mp.lt)
 wt:=h.wt
 nt:=h.nt
 nm1:=h.nm1
 ne:=h.ne
 fc:=hF _ h.fc
 ft:=fun b hb=>hF _ (h.ft b hb)
 fm:=hF _ h.fm
theorem CopR.to' {F F':Nat→Prop} {w w':World} {C B nm:Nat} {st:CS} (h:CopR F w C B st nm) (hl:w.heap.size≤w'.heap.size) (hF:∀ b,F b→F' b)
  (hc:∀ b,F b→b < w.heap.size→w'.heap[b]?=w.heap[b]?):CopR F' w' C B st nm:=by
 obtain ⟨vto,bm,D,h⟩:=h;exact ⟨vto,bm,D,h.to' hl hF hc⟩
theorem CopR.below {F:Nat→Prop} {w w':World} {C B nm:Nat} {st:CS} (h:CopR F w C B st nm) (hB:Below w.heap.size w w'):CopR F w' C B st nm:=h.to' hB.size (fun _ h=>h) fun b _ hb=>hB.block b hb
theorem CopR.mono {F F':Nat→Prop} {w:World} {C B nm:Nat} {st:CS} (h:CopR F w C B st nm) (hF:∀ b,F b→F' b):CopR F' w C B st nm:=h.to' (Nat.le_refl _) hF fun _ _ _=>rfl
theorem CopR.low {F:Nat→Prop} {w:World} {C B nm:Nat} {st:CS} (h:CopR F w C B st nm):CopR (fun b=>F b∧b < w.heap.size) w C B st nm:=by
 obtain ⟨vto,bm,D,h⟩:=h
 exact ⟨vto,bm,D,⟨h.blk,h.row,h.mp,h.wt,h.nt,h.nm1,h.ne,⟨h.fc,h.blk.lt⟩,fun b hb=>⟨h.ft b hb,(h.row.block b hb).2⟩,⟨h.fm,h.mp.lt⟩⟩⟩
section
variable {ops:Array Oper} {rest:List Oper} {o:Oper} {a:Act} {Q:Exit→Act→World→Prop} {w:World}
theorem wpList_growWs (s x:Operand) (hgd:o.guard=none) (ho:o.op=.call { callee:=.builtin .append,args:=#[s,x],argTypes:=#[71,71] })
  {R S:Nat→Prop} {v u:Value} {l m:List Wrd} (hs:a.eval s=v) (hx:a.eval x=u) (hown:OwnW w v l) (hl:RX wrdE R S w m u) (hn:l.length+m.length≤137438953472)
  (h:∀ v' w',OwnW w' v' (l ++ m)→w.grownBy w' v.ownBlock→(∀ b,v'.ownBlock=some b→v.ownBlock=some b∨w.heap.size≤b)→wpList Tryz.prog ops Q rest (a.put o.dst v') w') :
  wpList Tryz.prog ops Q (o :: rest) a w:=by
 obtain ⟨i,hi,hz0,hz1,hz2⟩:=info_parts infoWord
 have hown0:=hown
 obtain ⟨cs,ho1,hC⟩:=hown
 obtain ⟨au,cap,ds,rfl,hcap,hD,hj⟩:=hl
 cases au with
 | none =>
  obtain rfl:cap=0:=hcap.2 rfl
  have h0:m=[]:=List.eq_nil_of_length_eq_zero (by have:=hcap.1;omega)
  subst h0
  refine wpList_append_own_none hgd s x 71 ho 0 68 i 2 Tryz.underlying71 hi v _ cs hs ho1 hx ?_
  exact h v w (by simpa using hown0) ⟨rfl,rfl,rfl,Nat.le_refl _,fun _ _ _=>rfl⟩ fun b hb=>.inl hb
 | some ad =>
  refine wpList_append_own_at w hgd s x 71 ho 0 68 i _ 2 16 Tryz.underlying71 hi hz0 hz1 hz2 rfl (by decide) v _ cs hs ho1 ad m.length cap ds hx hD.length ?_ hD.oneCell ?_ ?_ (Nat.zero_le _) ?_
  ·intro j u' hu
   obtain ⟨b,o',e,_,hc⟩:=hj j u' hu
   simp only [Option.some.injEq] at e
   subst e
   unfold Addr.add
   split
   ·rename_i h0;subst h0;exact hc
   ·exact hc
  ·unfold maxLen;omega
  ·omega
  ·intro v' w' h1 h2 h3 h4
   refine h v' w' (owns_app (fun _=>True) (by simpa using h1) ((cellsW hC).append (cellsW hD))) h2 ?_
   intro b hb
   rcases h4 with h4 | h4
   ·exact .inl (by rw [←h4];exact hb)
   ·rw [h4] at hb;simp only [Option.some.injEq] at hb;exact .inr (by omega)
end
theorem pigeon:∀ (n:Nat) (l:List Nat),l.Nodup→(∀ x∈l,x < n)→l.length≤n
 | 0,l,_,h=>by
  cases l with
  | nil=>simp
  | cons x l=>have:=h x (by simp);omega
 | n+1,l,hn,h=>by
  by_cases hm:n∈l
  ·have h1:=pigeon n (l.erase n) (hn.erase n) fun x hx=>by
    have h2:=(hn.mem_erase_iff).1 hx
    have:=h x h2.2
    have:=h2.1
    omega
   rw [List.length_erase_of_mem hm] at h1
   omega
  ·have:=pigeon n l hn fun x hx=>by
    have h1:=h x hx
    have h2:x≠n:=fun e=>hm (e ▸ hx)
    omega
   omega
def Hd (H:HS) (i k:Nat):Prop:=H.ws[i]?=some ⟨0,(k:Int)⟩∧i+1+k≤H.ws.length
def kN (H:HS) (i:Nat):Nat:=((H.ws[i]?).getD ⟨0,0⟩).n.toNat
theorem Hd.kN {H:HS} {i k:Nat} (h:Hd H i k):kN H i=k:=by unfold Go.Proofs.YtedfepnekjjmnabGreat.kN;rw [h.1];simp
theorem Hd.lt {H:HS} {i k:Nat} (h:Hd H i k):i < H.ws.length:=by have:=h.2;omega
theorem Hd.headN {H:HS} {i k:Nat} (h:Hd H i k):headN H (i:Int)=some (k:Int):=by
 have hl:=h.lt
 have h1:=h.1
 rw [List.getElem?_eq_getElem hl] at h1
 have h2:=Option.some.inj h1
 rw [headN_of hl (by rw [h2]),h2]
theorem Hd.parts {H:HS} {i k:Nat} (h:Hd H i k):(partsL H i k).length=k:=by
 unfold partsL;rw [List.length_take,List.length_drop];have:=h.2;omega
def blkL (H:HS) (i:Nat):List Wrd:=⟨0,(kN H i:Int)⟩ :: partsL H i (kN H i)
def raw (H:HS) (ks:List Nat):List Wrd:=ks.flatMap (blkL H)
def posn (H:HS):List Nat→Nat→Nat
 | [],_=>0
 | j :: ks,i=>if j=i then 0 else (blkL H j).length+posn H ks i
theorem raw_app (H:HS) (a b:List Nat):raw H (a ++ b)=raw H a ++ raw H b:=by simp [raw]
theorem posn_app (H:HS) {i:Nat}:∀ (ks l:List Nat),i∈ks→posn H (ks ++ l) i=posn H ks i
 | j :: ks,l,h=>by
  simp only [List.cons_append,posn]
  by_cases e:j=i
  ·rw [if_pos e,if_pos e]
  ·rw [if_neg e,if_neg e,posn_app H ks l (by
    rcases List.mem_cons.1 h with h | h
    ·exact absurd h.symm e
    ·exact h)]
theorem posn_new (H:HS) {i:Nat}:∀ (ks:List Nat),i ∉ ks→posn H (ks ++ [i]) i=(raw H ks).length
 | [],_=>by simp [posn,raw]
 | j :: ks,h=>by
  have e:j≠i:=fun e=>h (by simp [e])
  simp only [List.cons_append,posn,if_neg e]
  rw [posn_new H ks fun hm=>h (mT hm)]
  simp [raw]
theorem raw_at (H:HS) {i:Nat}:∀ (ks:List Nat),i∈ks→∃ a b,raw H ks=a ++ (blkL H i ++ b)∧a.length=posn H ks i
 | j :: ks,h=>by
  by_cases e:j=i
  ·subst e;exact ⟨[],raw H ks,by simp [raw],by simp [posn]⟩
  ·obtain ⟨a,b,h1,h2⟩:=raw_at H ks (by
    rcases List.mem_cons.1 h with h | h
    ·exact absurd h.symm e
    ·exact h)
   refine ⟨blkL H j ++ a,b,?_,?_⟩
   ·rw [show raw H (j :: ks)=blkL H j ++ raw H ks by simp [raw],h1,List.append_assoc]
   ·simp only [posn,if_neg e,List.length_append,h2]
def fwd (H:HS) (ks:List Nat) (x:Wrd):Wrd:=if x.kind=4 then ⟨4,(posn H ks x.n.toNat:Int)⟩ else x
def Kn (ks:List Nat) (x:Wrd):Prop:=x.kind=4→∃ i∈ks,x.n=(i:Nat)
theorem Kn.app {ks:List Nat} {x:Wrd} (h:Kn ks x) (l:List Nat):Kn (ks ++ l) x:=fun e=>by
 obtain ⟨i,h1,h2⟩:=h e;exact ⟨i,by simp [h1],h2⟩
theorem fwd_app {H:HS} {ks:List Nat} {x:Wrd} (h:Kn ks x) (l:List Nat):fwd H (ks ++ l) x=fwd H ks x:=by
 unfold fwd
 by_cases e:x.kind=4
 ·obtain ⟨i,h1,h2⟩:=h e
  rw [if_pos e,if_pos e,h2,Int.toNat_natCast,posn_app H ks l h1]
 rw [if_neg e,if_neg e]
structure ChInv (H:HS) (ks:List Nat) (s:Nat) (st:CS):Prop where
 nd:ks.Nodup
 hd:∀ i∈ks,Hd H i (kN H i)
 yes:∀ i:Nat,i∈ks→wtF st.wt (i:Int)=some (posn H ks i:Int)
 no:∀ n:Int,(∀ i:Nat,i∈ks→n≠(i:Int))→wtF st.wt n=none
 tw:st.tw=((raw H ks).take s).map (fwd H ks) ++ (raw H ks).drop s
 low:∀ x∈(raw H ks).take s,Kn ks x
 sle:s≤(raw H ks).length
theorem ChInv.len {H:HS} {ks:List Nat} {s:Nat} {st:CS} (h:ChInv H ks s st):st.tw.length=(raw H ks).length:=by
 have:=h.sle
 rw [h.tw];simp;omega
theorem ChInv.nil (H:HS):ChInv H [] 0 ⟨[],[]⟩:=⟨by simp,by simp,by simp,fun _ _=>rfl,by simp [raw],by simp,by simp⟩
theorem ChInv.put {H:HS} {ks:List Nat} {s:Nat} {st:CS} (h:ChInv H ks s st) {i k:Nat} (hi:Hd H i k) (hn:i ∉ ks) :
  ChInv H (ks ++ [i]) s ⟨st.tw ++ (⟨0,(k:Int)⟩ :: partsL H i k),((i:Int),(st.tw.length:Int)) :: st.wt⟩:=by
 have hlen:=h.len
 have hk:=hi.kN
 have hr:raw H (ks ++ [i])=raw H ks ++ (⟨0,(k:Int)⟩ :: partsL H i k):=by rw [raw_app];simp [raw,blkL,hk]
 refine ⟨?_,?_,?_,?_,?_,?_,?_⟩
 ·rw [List.nodup_append]
  exact ⟨h.nd,by simp,fun a ha b hb=>by rw [List.mem_singleton.1 hb];exact fun e=>hn (e ▸ ha)⟩
 ·intro j hj
  rcases List.mem_append.1 hj with hj | hj
  ·exact h.hd j hj
  rw [List.mem_singleton.1 hj,hk];exact hi
 ·intro j hj
  rcases List.mem_append.1 hj with hj | hj
  ·rw [wtF_other _ _ (fun e=>hn (by have:j=i:=Int.ofNat.inj e;exact this ▸ hj)),h.yes j hj,posn_app H ks _ hj]
  rw [List.mem_singleton.1 hj,wtF_same,posn_new H ks hn,hlen]
 ·intro n hm
  rw [wtF_other _ _ (hm i (by simp))]
  exact h.no n fun j hj=>hm j (by simp [hj])
 ·have hmap:((raw H ks).take s).map (fwd H ks)=((raw H ks).take s).map (fwd H (ks ++ [i])):=List.map_congr_left fun x hx=>(fwd_app (h.low x hx) _).symm
  rw [hr,List.take_append_of_le_length h.sle,List.drop_append_of_le_length h.sle,←List.append_assoc,←hmap,←h.tw]
 ·intro x hx
  rw [hr,List.take_append_of_le_length h.sle] at hx
  exact (h.low x hx).app _
 rw [hr];have:=h.sle;simp;omega
theorem ChInv.word {H:HS} {ks:List Nat} {s:Nat} {st:CS} {x:Wrd} (h:ChInv H ks s st) (hx:x.kind=4→∃ i k:Nat,x.n=i∧Hd H i k) :
  ∃ l,ChInv H (ks ++ l) s (wordC H st x).2∧(wordC H st x).1=fwd H (ks ++ l) x∧Kn (ks ++ l) x∧∀ i∈l,x=⟨4,(i:Nat)⟩:=by
 by_cases e:x.kind=4
 ·obtain ⟨i,k,hxi,hi⟩:=hx e
  by_cases hm:i∈ks
  ·refine ⟨[],?_⟩
   have hp:=h.yes i hm
   rw [←hxi] at hp
   rw [wordC_old e hp,List.append_nil]
   refine ⟨h,?_,fun _=>⟨i,hm,hxi⟩,by simp⟩
   unfold fwd;rw [if_pos e,hxi,Int.toNat_natCast]
  refine ⟨[i],?_⟩
  have hp:wtF st.wt x.n=none:=h.no _ fun j hj e'=>hm (by
   have:i=j:=Int.ofNat.inj (hxi.symm.trans e')
   exact this ▸ hj)
  rw [wordC_new e hp hxi (by rw [hxi];exact hi.headN)]
  have h2:=h.put hi hm
  rw [←hxi] at h2
  refine ⟨h2,?_,fun _=>⟨i,by simp,hxi⟩,fun j hj=>?_⟩
  ·unfold fwd;rw [if_pos e,hxi,Int.toNat_natCast,posn_new H ks hm,h.len]
  rw [List.mem_singleton.1 hj,←hxi,←e]
 refine ⟨[],?_⟩
 rw [wordC_no e,List.append_nil]
 exact ⟨h,by unfold fwd;rw [if_neg e],fun e'=>absurd e' e,by simp⟩
def mapC (H:HS):CS→List Wrd→List Wrd×CS
 | st,[]=>([],st)
 | st,x :: xs=>((wordC H st x).1 :: (mapC H (wordC H st x).2 xs).1,(mapC H (wordC H st x).2 xs).2)
def GoodW (H:HS) (x:Wrd):Prop:=x.kind=4→∃ i k:Nat,x.n=i∧Hd H i k
theorem ChInv.map {H:HS}:∀ (xs:List Wrd) {ks:List Nat} {s:Nat} {st:CS},ChInv H ks s st→(∀ x∈xs,GoodW H x) →
  ∃ l,ChInv H (ks ++ l) s (mapC H st xs).2∧(mapC H st xs).1=xs.map (fwd H (ks ++ l))∧(∀ x∈xs,Kn (ks ++ l) x)∧∀ i∈l,(⟨4,(i:Nat)⟩:Wrd)∈xs
 | [],ks,s,st,h,_=>⟨[],by rw [List.append_nil];exact h,rfl,by simp,by simp⟩
 | x :: xs,ks,s,st,h,hx=>by
  obtain ⟨l,h1,h2,h3,h4⟩:=h.word (hx x (by simp))
  obtain ⟨m,g1,g2,g3,g4⟩:=ChInv.map xs h1 fun y hy=>hx y (by simp [hy])
  rw [List.append_assoc] at g1 g2 g3
  refine ⟨l ++ m,g1,?_,?_,?_⟩
  ·show (wordC H st x).1 :: (mapC H (wordC H st x).2 xs).1=_
   rw [g2,h2,List.map_cons,←List.append_assoc,fwd_app h3 m]
  ·intro y hy
   rcases List.mem_cons.1 hy with hy | hy
   ·rw [hy,←List.append_assoc];exact h3.app m
   ·exact g3 y hy
  ·intro i hi
   rcases List.mem_append.1 hi with hi | hi
   ·rw [←h4 i hi];simp
   ·exact mT (g4 i hi)
def stepC (H:HS) (st:CS) (s:Nat):CS:=⟨(wordC H st (st.tw.getD s ⟨0,0⟩)).2.tw.set s (wordC H st (st.tw.getD s ⟨0,0⟩)).1,(wordC H st (st.tw.getD s ⟨0,0⟩)).2.wt⟩
theorem ChInv.at {H:HS} {ks:List Nat} {s:Nat} {st:CS} (h:ChInv H ks s st) (hs:s < (raw H ks).length):st.tw.getD s ⟨0,0⟩=(raw H ks)[s]:=by
 have h1:(((raw H ks).take s).map (fwd H ks)).length=s:=by simp;omega
 rw [h.tw,List.getD_eq_getElem?_getD,List.getElem?_append_right (by omega),h1,Nat.sub_self,List.getElem?_drop,Nat.add_zero,List.getElem?_eq_getElem hs];rfl
theorem ChInv.step {H:HS} {ks:List Nat} {s:Nat} {st:CS} (h:ChInv H ks s st) (hs:s < (raw H ks).length) (hx:GoodW H ((raw H ks)[s])) :
  ∃ l,ChInv H (ks ++ l) (s+1) (stepC H st s)∧∀ i∈l,(raw H ks)[s]=⟨4,(i:Nat)⟩:=by
 obtain ⟨l,h1,h2,h3,h4⟩:=h.word hx
 refine ⟨l,?_,h4⟩
 have hs':s < (raw H (ks ++ l)).length:=by rw [raw_app];simp;omega
 have he:(raw H (ks ++ l))[s]=(raw H ks)[s]:=by simp only [raw_app];rw [List.getElem_append_left hs]
 unfold stepC
 rw [h.at hs]
 refine ⟨h1.nd,h1.hd,h1.yes,h1.no,?_,?_,hs'⟩
 ·show (wordC H st ((raw H ks)[s])).2.tw.set s _=_
  have hl:(((raw H (ks ++ l)).take s).map (fwd H (ks ++ l))).length=s:=by simp;omega
  rw [h1.tw,h2,List.set_append_right _ _ (by omega),hl,Nat.sub_self,List.drop_eq_getElem_cons hs',List.set_cons_zero,List.take_succ_eq_append_getElem hs',List.map_append,List.map_cons,List.map_nil,he,List.append_assoc]
  rfl
 intro x hx
 rw [List.take_succ_eq_append_getElem hs'] at hx
 rcases List.mem_append.1 hx with hx | hx
 ·exact h1.low x hx
 rw [List.mem_singleton.1 hx,he];exact h3
inductive Reach (H:HS) (rs:List Wrd):Nat→Prop where
 | root (i:Nat) (h:(⟨4,(i:Nat)⟩:Wrd)∈rs):Reach H rs i
 | part (j i:Nat) (hj:Reach H rs j) (h:(⟨4,(i:Nat)⟩:Wrd)∈partsL H j (kN H j)):Reach H rs i
structure Col (H:HS) (rs:List Wrd) (ks:List Nat) (tw out:List Wrd):Prop where
 nd:ks.Nodup
 hd:∀ i∈ks,Hd H i (kN H i)
 tw:tw=(raw H ks).map (fwd H ks)
 kn:∀ x∈raw H ks,Kn ks x
 out:out=rs.map (fwd H ks)
 rk:∀ x∈rs,Kn ks x
 rc:∀ i∈ks,Reach H rs i
theorem ChInv.col {H:HS} {ks:List Nat} {st:CS} {rs out:List Wrd} {s:Nat} (h:ChInv H ks s st) (hs:st.tw.length≤s) (ho:out=rs.map (fwd H ks)) (hk:∀ x∈rs,Kn ks x) (hr:∀ i∈ks,Reach H rs i):Col H rs ks st.tw out:=by
 have h1:=h.len
 have h2:=h.sle
 obtain rfl:s=(raw H ks).length:=by omega
 refine ⟨h.nd,h.hd,?_,fun x hx=>h.low x (by rw [List.take_length];exact hx),ho,hk,hr⟩
 have:=h.tw
 rw [List.take_length,List.drop_length,List.append_nil] at this
 exact this
theorem mem_raw {H:HS} {ks:List Nat} {x:Wrd} {i:Nat} (hi:i∈ks) (hx:x∈partsL H i (kN H i)):x∈raw H ks:=by
 unfold raw;rw [List.mem_flatMap];exact ⟨i,hi,by unfold blkL;simp [hx]⟩
theorem fwd_head (H:HS) (ks:List Nat) (n:Int):fwd H ks ⟨0,n⟩=⟨0,n⟩:=by unfold fwd;rw [if_neg (show ¬((0:Int)=4) by decide)]
theorem fwd_kind (H:HS) (ks:List Nat) (x:Wrd):(fwd H ks x).kind=x.kind:=by
 unfold fwd;by_cases e:x.kind=4
 ·rw [if_pos e,e]
 rw [if_neg e]
theorem Col.block {H:HS} {rs tw out:List Wrd} {ks:List Nat} (h:Col H rs ks tw out) {i:Nat} (hi:i∈ks) (nm:List ByteArray) :
  Hd ⟨tw,nm⟩ (posn H ks i) (kN H i)∧partsL ⟨tw,nm⟩ (posn H ks i) (kN H i)=(partsL H i (kN H i)).map (fwd H ks):=by
 obtain ⟨a,b,h1,h2⟩:=raw_at H ks hi
 have h3:tw=a.map (fwd H ks) ++ ((⟨0,(kN H i:Int)⟩ :: (partsL H i (kN H i)).map (fwd H ks)) ++ b.map (fwd H ks)):=by
  rw [h.tw,h1];simp [blkL,fwd_head]
 have h4:=(h.hd i hi).parts
 have h5:(a.map (fwd H ks)).length=posn H ks i:=by simp [h2]
 have h6:((partsL H i (kN H i)).map (fwd H ks)).length=kN H i:=by simp [h4]
 refine ⟨⟨?_,?_⟩,?_⟩
 ·show tw[posn H ks i]?=_
  rw [h3,List.getElem?_append_right (by omega),h5,Nat.sub_self];rfl
 ·show posn H ks i+1+kN H i≤tw.length
  rw [h3];simp only [List.length_append,List.length_cons,h5,h6];omega
 show (tw.drop (posn H ks i+1)).take (kN H i)=_
 rw [h3,List.drop_append,h5,List.drop_eq_nil_of_le (by omega:(a.map (fwd H ks)).length≤posn H ks i+1),List.nil_append,show posn H ks i+1 - posn H ks i=1 by omega,List.cons_append,List.drop_succ_cons,List.drop_zero,List.take_append_of_le_length (by omega),List.take_of_length_le (by omega)]
theorem Col.all {H:HS} {rs tw out:List Wrd} {ks:List Nat} (h:Col H rs ks tw out) {i:Nat} (hr:Reach H rs i):i∈ks:=by
 induction hr with
 | root i hm =>
  obtain ⟨j,h1,h2⟩:=h.rk _ hm rfl
  have:i=j:=Int.ofNat.inj h2
  exact this ▸ h1
 | part j i hj hm ih =>
  obtain ⟨m,h1,h2⟩:=h.kn _ (mem_raw ih hm) rfl
  have:i=m:=Int.ofNat.inj h2
  exact this ▸ h1
theorem Col.rep {H:HS} {rs tw out:List Wrd} {ks:List Nat} (h:Col H rs ks tw out):∀ (t:T) (x:Wrd),Rep H t x→Kn ks x→Rep ⟨tw,H.names⟩ t (fwd H ks x):=by
 intro t
 induction t using T.ind with
 | h t ih =>
  intro x hr hk
  unfold Rep at hr ⊢
  by_cases e4:t.kind=4
  ·rw [if_pos e4] at hr ⊢
   obtain ⟨hn,hs,i,rfl,hw,hl,hp⟩:=hr
   obtain ⟨j,hj,he⟩:=hk rfl
   obtain rfl:i=j:=Int.ofNat.inj he
   have hki:kN H i=t.args.length:=(show Hd H i t.args.length from ⟨hw,hl⟩).kN
   obtain ⟨hb,hq⟩:=h.block hj H.names
   rw [hki] at hb hq
   refine ⟨hn,hs,posn H ks i,?_,hb.1,hb.2,?_⟩
   ·unfold fwd;rw [if_pos rfl,Int.toNat_natCast]
   ·rw [hq]
    have hall:∀ y∈partsL H i t.args.length,Kn ks y:=fun y hy=>h.kn y (mem_raw hj (by rw [hki];exact hy))
    revert hp hall
    generalize partsL H i t.args.length=ys
    have key:∀ (ts:List T) (ys:List Wrd),(∀ u∈ts,∀ (x:Wrd),Rep H u x→Kn ks x→Rep ⟨tw,H.names⟩ u (fwd H ks x))→RepL H ts ys→(∀ y∈ys,Kn ks y)→RepL ⟨tw,H.names⟩ ts (ys.map (fwd H ks)):=by
     intro ts
     induction ts with
     | nil=>intro ys _ hy _;rw [RepL_nil] at hy ⊢;rw [hy];rfl
     | cons u us ihu =>
      intro ys hu hy hk
      obtain ⟨y,r,rfl,h1,h2⟩:=(RepL_cons H u us ys).1 hy
      exact (RepL_cons _ u us _).2 ⟨fwd H ks y,r.map (fwd H ks),rfl,hu u (by simp) y h1 (hk y (by simp)),ihu r (fun v hv=>hu v (by simp [hv])) h2 fun z hz=>hk z (by simp [hz])⟩
    exact key t.args ys ih
  ·rw [if_neg e4] at hr ⊢
   by_cases e2:t.kind=2
   ·rw [if_pos e2] at hr ⊢
    obtain ⟨h1,h2,i,rfl,h3⟩:=hr
    exact ⟨h1,h2,i,by unfold fwd;rw [if_neg (show ¬((2:Int)=4) by decide)],h3⟩
   ·rw [if_neg e2] at hr ⊢
    obtain ⟨h1,h2,h3,rfl⟩:=hr
    exact ⟨h1,h2,h3,by unfold fwd;rw [if_neg e4]⟩
structure WF (H:HS):Prop where
 heads:HeadsOk H
 apart:∀ i k,Hd H i k→∀ x∈partsL H i k,x.kind≠0
 good:∀ x∈H.ws,GoodW H x
theorem WF.parts {H:HS} (h:WF H) {i k:Nat} {x:Wrd} (hx:x∈partsL H i k):GoodW H x:=h.good x (List.mem_of_mem_drop (List.mem_of_mem_take hx))
theorem WF.new (nm:List ByteArray):WF ⟨[],nm⟩:=⟨fun i h=>by simp at h,fun i k h=>by have:=h.lt;simp at this,by simp⟩
theorem WF.names {H:HS} (h:WF H) (nm:List ByteArray):WF ⟨H.ws,nm⟩:=⟨h.heads,h.apart,h.good⟩
theorem WF.hd {H:HS} (h:WF H) {i:Nat} (hi:i < H.ws.length) (hk:H.ws[i].kind=0):Hd H i (kN H i):=by
 have h1:=h.heads i hi hk
 have h2:kN H i=H.ws[i].n.toNat:=by unfold kN;rw [List.getElem?_eq_getElem hi];rfl
 have h3:(kN H i:Int)=H.ws[i].n:=by rw [h2];exact Int.toNat_of_nonneg h1.1
 refine ⟨?_,by omega⟩
 rw [List.getElem?_eq_getElem hi,h3]
 congr 1
 rw [←hk]
theorem raw_head {H:HS}:∀ (ks:List Nat),(∀ i∈ks,Hd H i (kN H i))→ks.Nodup→(∀ i∈ks,∀ x∈partsL H i (kN H i),x.kind≠0)→∀ (p:Nat) (y:Wrd),(raw H ks)[p]?=some y→y.kind=0→∃ i∈ks,p=posn H ks i∧y=⟨0,(kN H i:Int)⟩
 | [],_,_,_,p,y,h,_=>by simp [raw] at h
 | j :: ks,hd,nd,hp,p,y,h,hy=>by
  have hl:(blkL H j).length=1+kN H j:=by unfold blkL;rw [List.length_cons,(hd j (by simp)).parts];omega
  rw [show raw H (j :: ks)=blkL H j ++ raw H ks by simp [raw]] at h
  by_cases h1:p < (blkL H j).length
  ·rw [List.getElem?_append_left h1] at h
   cases p with
   | zero =>
    refine ⟨j,by simp,by simp [posn],?_⟩
    have:(blkL H j)[0]?=some ⟨0,(kN H j:Int)⟩:=rfl
    rw [this] at h;exact (Option.some.inj h).symm
   | succ p =>
    have h2:(partsL H j (kN H j))[p]?=some y:=h
    exact absurd hy (hp j (by simp) y (List.mem_of_getElem? h2))
  ·rw [List.getElem?_append_right (by omega)] at h
   have nd':=List.nodup_cons.1 nd
   obtain ⟨i,h2,h3,h4⟩:=raw_head ks (fun i hi=>hd i (by simp [hi])) nd'.2 (fun i hi=>hp i (by simp [hi])) _ y h hy
   have e:j≠i:=fun e=>nd'.1 (e ▸ h2)
   exact ⟨i,by simp [h2],by simp only [posn,if_neg e];omega,h4⟩
theorem Col.head {H:HS} {rs tw out:List Wrd} {ks:List Nat} (h:Col H rs ks tw out) (hW:WF H) {nm:List ByteArray} {p:Nat} {y:Wrd} (hp:tw[p]?=some y) (hy:y.kind=0):∃ i∈ks,p=posn H ks i∧y=⟨0,(kN H i:Int)⟩:=by
 rw [h.tw,List.getElem?_map] at hp
 obtain ⟨z,hz,rfl⟩:=Option.map_eq_some_iff.1 hp
 rw [fwd_kind] at hy
 obtain ⟨i,h1,h2,rfl⟩:=raw_head ks h.hd h.nd (fun i hi=>hW.apart i _ (h.hd i hi)) p z hz hy
 exact ⟨i,h1,h2,fwd_head _ _ _⟩
theorem Col.good {H:HS} {rs tw out:List Wrd} {ks:List Nat} (h:Col H rs ks tw out) (nm:List ByteArray) {x:Wrd} (hx:Kn ks x):GoodW ⟨tw,nm⟩ (fwd H ks x):=fun e=>by
 rw [fwd_kind] at e
 obtain ⟨i,hi,hn⟩:=hx e
 exact ⟨posn H ks i,kN H i,by unfold fwd;rw [if_pos e,hn,Int.toNat_natCast],(h.block hi nm).1⟩
theorem Col.wf {H:HS} {rs tw out:List Wrd} {ks:List Nat} (h:Col H rs ks tw out) (hW:WF H) (nm:List ByteArray):WF ⟨tw,nm⟩:=by
 refine ⟨fun p hp hk=>?_,fun p k hpk x hx=>?_,fun x hx=>?_⟩
 ·obtain ⟨i,h1,h2,h3⟩:=h.head (nm:=nm) hW (List.getElem?_eq_getElem hp) hk
  have hb:=(h.block h1 nm).1
  have h4:(HS.mk tw nm).ws[p].n=(kN H i:Int):=by show tw[p].n=_;rw [h3]
  have h5:=hb.2
  rw [h4]
  exact ⟨by omega,by rw [h2];exact_mod_cast h5⟩
 ·obtain ⟨i,h1,h2,h3⟩:=h.head (nm:=nm) hW hpk.1 rfl
  obtain rfl:k=kN H i:=by have:=congrArg Wrd.n h3;exact Int.ofNat.inj this
  rw [h2,(h.block h1 nm).2] at hx
  obtain ⟨y,hy,rfl⟩:=List.mem_map.1 hx
  rw [fwd_kind]
  exact hW.apart i _ (h.hd i h1) y hy
 have hx':x∈tw:=hx
 rw [h.tw] at hx'
 obtain ⟨y,hy,rfl⟩:=List.mem_map.1 hx'
 exact h.good nm (h.kn y hy)
theorem sum_le (f:Nat→Nat):∀ (l m:List Nat),l.Nodup→(∀ x∈l,x∈m)→(l.map f).sum≤(m.map f).sum
 | [],m,_,_=>by simp
 | x :: l,m,hn,hs=>by
  have hn':=List.nodup_cons.1 hn
  have hx:=hs x (by simp)
  have h1:=sum_le f l (m.erase x) hn'.2 fun y hy=>by
   have e:y≠x:=fun e=>hn'.1 (e ▸ hy)
   exact (List.mem_erase_of_ne e).2 (hs y (by simp [hy]))
  have h2:((m.erase x).map f).sum+f x=(m.map f).sum:=by
   have h3:=((List.perm_cons_erase hx).map f).sum_nat
   rw [h3];simp;omega
  simp only [List.map_cons,List.sum_cons];omega
theorem raw_len {H:HS}:∀ (ks:List Nat),(∀ i∈ks,Hd H i (kN H i))→(raw H ks).length=(ks.map fun i=>1+kN H i).sum
 | [],_=>rfl
 | j :: ks,hd=>by
  have hl:(blkL H j).length=1+kN H j:=by unfold blkL;rw [List.length_cons,(hd j (by simp)).parts];omega
  rw [show raw H (j :: ks)=blkL H j ++ raw H ks by simp [raw],List.length_append,hl,raw_len ks fun i hi=>hd i (by simp [hi])];simp
theorem posn_inj {H:HS} {i j:Nat}:∀ (ks:List Nat),i∈ks→j∈ks→posn H ks i=posn H ks j→i=j
 | m :: ks,hi,hj,h=>by
  have hb:0 < (blkL H m).length:=by simp [blkL]
  simp only [posn] at h
  by_cases e1:m=i
  ·by_cases e2:m=j
   ·exact e1.symm.trans e2
   ·rw [if_pos e1,if_neg e2] at h;omega
  ·by_cases e2:m=j
   ·rw [if_neg e1,if_pos e2] at h;omega
   ·rw [if_neg e1,if_neg e2] at h
    refine posn_inj (H:=H) ks ?_ ?_ (by omega)
    ·rcases List.mem_cons.1 hi with hi | hi
     ·exact absurd hi.symm e1
     ·exact hi
    ·rcases List.mem_cons.1 hj with hj | hj
     ·exact absurd hj.symm e2
     ·exact hj
theorem Reach.none {H:HS} {i:Nat} (h:Reach H [] i):False:=by
 induction h with
 | root i hm=>simp at hm
 | part j i _ _ ih=>exact ih
theorem Col.none {H:HS} {tw out:List Wrd} {ks:List Nat} (h:Col H [] ks tw out):tw=[]∧out=[]:=by
 have hk:ks=[]:=by
  cases ks with
  | nil=>rfl
  | cons i l=>exact (h.rc i (by simp)).none.elim
 subst hk
 exact ⟨by rw [h.tw];simp [raw],by rw [h.out];rfl⟩
def putHO (room:Int) (H:HS) (t:T):Wrd×Int×HS :=
 if yE t≠0 then (⟨0,0⟩,yE t,H) else if yF [t]=false then (⟨0,0⟩,5,H) else if room < H.ws.length+szL [t] then (⟨0,0⟩,6,H) else ((putW H t).1,0,(putW H t).2)
theorem putHO_check {room:Int} {H:HS} {t:T} (h:yE t≠0):putHO room H t=(⟨0,0⟩,yE t,H):=by unfold putHO;rw [if_pos h]
theorem putHO_form {room:Int} {H:HS} {t:T} (h:yE t=0) (h1:yF [t]=false):putHO room H t=(⟨0,0⟩,5,H):=by unfold putHO;rw [if_neg (by simp [h]),if_pos h1]
theorem putHO_full {room:Int} {H:HS} {t:T} (h:yE t=0) (h1:yF [t]=true) (h2:room < H.ws.length+szL [t]):putHO room H t=(⟨0,0⟩,6,H):=by unfold putHO;rw [if_neg (by simp [h]),if_neg (by simp [h1]),if_pos h2]
theorem putHO_ok {room:Int} {H:HS} {t:T} (h:yE t=0) (h1:yF [t]=true) (h2:¬room < H.ws.length+szL [t]):putHO room H t=((putW H t).1,0,(putW H t).2):=by unfold putHO;rw [if_neg (by simp [h]),if_neg (by simp [h1]),if_neg h2]
def HPutP (F:Nat→Prop) (w:World) (B:Nat) (room:Int) (H:HS) (t:T) (e:Ending) (w':World):Prop :=
 e=.returned (.tuple #[.agg #[.int .i64 (putHO room H t).1.kind,.int .i64 (putHO room H t).1.n],.int .i64 (putHO room H t).2.1])∧Keep F w w'∧HeapR (fun b=>F b∨w.heap.size≤b) w' B room (putHO room H t).2.2
theorem put_end {F F0:Nat→Prop} {w W0 W1 W':World} {B g:Nat} {room:Int} {H':HS} (hB0:Below w.heap.size w W0) (hz0:w.heap.size≤W0.heap.size) (hF:∀ b,F0 b→F b∧b < w.heap.size) (h:PutM F0 W0 B room H' W1) (hB:Below 0 W1 W')
  (hg:w.heap.size≤g) (hgW:g < W0.heap.size) (ho:∀ b,b≠g→W'.heap[b]?=W1.heap[b]?):Keep F w W'∧HeapR (fun b=>F b∨w.heap.size≤b) W' B room H':=by
 have hz:=hB.size
 have hz1:=h.2.size
 refine ⟨⟨hB.os.trans (h.2.os.trans hB0.os),hB.tape.trans (h.2.tape.trans hB0.tape),hB.output.trans (h.2.output.trans hB0.output),by omega,fun k hk hn=>?_⟩,h.1.to hz (fun b hb=>?_) fun b hb hl=>ho b ?_⟩
 ·exact (ho k (by omega)).trans ((h.2.block k (by omega) fun e=>hn (hF k e).1).trans (hB0.block k hk))
 ·rcases hb with hb | hb
  ·exact .inl (hF b hb).1
  exact .inr (by omega)
 rcases hb with hb | hb
 ·have:=(hF b hb).2;omega
 omega
theorem hPut_c (t:T) (F S:Nat→Prop) (w:World) (B:Nat) (room:Int) (H:HS) (v:Value) (hR:HeapR F w B room H) (hv:RT S w t v) (hS:∀ b,S b→b < w.heap.size∧¬F b) (hb:yC [t]≤4294967296) (hl:H.ws.length≤4294967296) (hn:H.names.length≤4294967296) :
  Calls Tryz.prog 23 #[.pointer (some ⟨B,0,none⟩),v] w (HPutP F w B room H t):=by
 obtain ⟨a,cap,rfl,hcap,hr⟩:=hv
 have hsz:=szL_le _ [t] (Nat.le_refl _)
 obtain ⟨W0,hW0⟩:=I ((w.alloc (.cells #[.int .i64 t.kind,.int .i64 t.n,.string t.name,.slice a t.args.length cap] 25)).alloc (.cells #[.int .i64 0,.int .i64 0] 68))
 have HX3:Hid (Blk W0 w.heap.size [.int .i64 t.kind,.int .i64 t.n,.string t.name,.slice a t.args.length cap]):=J (by rw [hW0];exact (Blk.new _ _ _ _ rfl).alloc _)
 have HX4:Hid (Blk W0 (w.heap.size+1) [.int .i64 0,.int .i64 0]):=J (by rw [hW0];exact Blk.new _ _ _ _ (by simp))
 have HB0:Hid (Below w.heap.size w W0):=J (by rw [hW0];exact (yA _ _).trans ((yA _ _).mono (by simp)))
 have hs0:W0.heap.size=w.heap.size+2:=by rw [hW0];simp
 have hs0a:w.heap.size+2≤W0.heap.size:=by omega
 have hs0a':w.heap.size≤W0.heap.size:=by omega
 obtain ⟨F0,hF0⟩:∃ F0:Nat→Prop,F0=fun b=>F b∧b < w.heap.size:=⟨_,rfl⟩
 have HR0:Hid (HeapR F0 W0 B room H):=J (by rw [hF0];exact hR.low.below HB0.out)
 have HF1:Hid (∀ b,F0 b→F b∧b < w.heap.size):=J (fun b hb=>by rw [hF0] at hb;exact hb)
 have HT0:Hid (RT S W0 t (.agg #[.int .i64 t.kind,.int .i64 t.n,.string t.name,.slice a t.args.length cap])):=J (RT.below ⟨a,cap,rfl,hcap,hr⟩ HB0.out)
 have HS0:Hid (∀ b,S b→b < w.heap.size∧¬F0 b):=J (fun b hb=>⟨(hS b hb).1,fun h=>(hS b hb).2 (HF1.out b h).1⟩)
 have HW0:=J hW0
 clear hS hr hcap hR hW0 hF0 hs0
 go_enter Tryz.func23,Tryz.ntmps23
 go_upto_region 1 with fail
 rw [←HW0.out]
 obtain ⟨y0,y1,y2,y3⟩:=HX3.out.c4 0 1 2 3
 go_wp2_with fail
 refine (check_c t S _ _ HT0.out (by omega)).mono ?_
 rintro e w1 ⟨rfl,hB⟩
 have hs1:=hB.size
 have HB1:=J hB
 have HT1:=J (HT0.out.below hB)
 have HR1:=J (HR0.out.below hB)
 have HX31:=J (HX3.out.step hB)
 have HX41:=J (HX4.out.step hB)
 clear hB y0 y1 y2 y3
 by_cases hck:yE t=0
 ·have hckb:(yE t != 0)=false:=by simp [hck]
  have HCK:=J hck
  clear hck
  obtain ⟨y0,y1,y2,y3⟩:=HX31.out.c4 0 1 2 3
  go_wp2_with fail
  refine (closed_c t S _ _ HT1.out (by omega)).mono ?_
  rintro e w2 ⟨he,hB⟩
  have hs2:=hB.size
  have HB2:Hid (Below W0.heap.size W0 w2):=J (yB HB1.out (by omega) hB)
  have HT2:=J (HT1.out.below hB)
  have HR2:=J (HR1.out.below hB)
  have HX32:=J (HX31.out.step hB)
  have HX42:=J (HX41.out.step hB)
  clear hB y0 y1 y2 y3
  cases hc:yF [t]
  ·rw [hc] at he
   subst he
   have HA:=J (putHO_form (room:=room) (H:=H) HCK.out hc)
   clear hc
   go_wp2_with (refine yI 68 2 szWord _ _ rfl rfl rfl rfl rfl HX42.out rfl rfl rfl ?_;intro W' hF hs' hBW hoth;have HF:=J hF;have HSZ:=J hs';have HBW:=J hBW;have HOTH:=J hoth;clear hF hBW hoth hs')
   refine bodyPost_ret (yH Tryz.results23 szWord _ Tryz.underlying68 rfl rfl HF.out rfl) rfl ⟨?_,?_⟩
   ·rw [HA.out];try rfl
   rw [HA.out]
   exact put_end HB0.out hs0a' HF1.out ⟨HR2.out.mono (fun b hb=>.inl hb),Keep.of HB2.out⟩ (HBW.out 0 _ (by omega) (Below.refl _ _)) (by omega) (by omega) HOTH.out
  rw [hc] at he
  subst he
  have HC:=J hc
  clear hc
  obtain ⟨vw,vn,hV⟩:=HR2.out
  obtain ⟨aw,cw,rfl⟩:=hV.ws.form
  have HV:=J hV
  have HQ:Hid (∀ w':World,Below w2.heap.size w2 w'→w'.cell? ⟨B,0,none⟩=some (.int .i64 room)∧w'.cell? ⟨B,1,none⟩=some (.slice aw H.ws.length cw)∧w'.cell? ⟨w.heap.size,0,none⟩=some (.int .i64 t.kind)∧w'.cell? ⟨w.heap.size,1,none⟩=some (.int .i64 t.n)∧w'.cell? ⟨w.heap.size,2,none⟩=some (.string t.name)∧w'.cell? ⟨w.heap.size,3,none⟩=some (.slice a t.args.length cap)):=J fun w' h=>⟨(HV.out.blk.step h).cell 0 _ rfl,(HV.out.blk.step h).cell 1 _ rfl,(HX32.out.step h).cell 0 _ rfl,(HX32.out.step h).cell 1 _ rfl,(HX32.out.step h).cell 2 _ rfl,(HX32.out.step h).cell 3 _ rfl⟩
  have u1:IntKind.i64.wrap ((H.ws.length:Int)+szL [t])=(H.ws.length:Int)+szL [t]:=by rw [IntKind.wrap_i64];omega
  clear hV
  by_cases hfull:room < H.ws.length+szL [t]
  ·have HA:=J (putHO_full HCK.out HC.out hfull)
   have hfd:decide (room < (H.ws.length:Int)+szL [t])=true:=by simpa using hfull
   go_upto_region 6 with fail
   refine yK (fun w'=>w'.cell? ⟨B,0,none⟩=some (.int .i64 room)∧w'.cell? ⟨B,1,none⟩=some (.slice aw H.ws.length cw)∧w'.cell? ⟨w.heap.size,0,none⟩=some (.int .i64 t.kind)∧w'.cell? ⟨w.heap.size,1,none⟩=some (.int .i64 t.n)∧w'.cell? ⟨w.heap.size,2,none⟩=some (.string t.name)∧w'.cell? ⟨w.heap.size,3,none⟩=some (.slice a t.args.length cap)) (by as_aux_lemma=>kernel_rfl) (fun Wd h=>HQ.out _ h) ?_
   intro Wd hB hWd hWd' hHeld
   have HCWd:=J hB
   clear hB
   refine rgT 0 _ hHeld ?_
   refine rgT 1 _ hHeld ?_
   refine rgT 2 _ hHeld ?_
   refine rgT 3 _ hHeld ?_
   refine rgT 4 _ hHeld ?_
   refine rgT 5 _ hHeld ?_
   refine rgT 8 _ hHeld ?_
   refine rgT 9 _ hHeld ?_
   refine rgT 10 _ hHeld ?_
   refine rgT 11 _ hHeld ?_
   refine rgO 6 fun K hK=>?_
   go_simp
   go_at_call 53
   refine (size_c t S _ _ (HT2.out.below HCWd.out) (by omega)).mono ?_
   rintro e w3 ⟨rfl,hB⟩
   have hs3:=hB.size
   have HC3:Hid (Below w2.heap.size w2 w3):=J (yB HCWd.out (by omega) hB)
   clear hB
   refine hK.out _ _ (HQ.out _ HC3.out) fun _=>?_
   clear hK K hHeld;rename_i hHeld;try simp only [Act.put,pA,pB,pC]
   refine rgT 7 _ hHeld ?_
   refine rgT 12 _ hHeld ?_
   refine rgT 13 _ hHeld ?_
   refine rgD ?_
   clear hHeld
   have HX43:=J (HX42.out.step HC3.out)
   have HB3:Hid (Below W0.heap.size W0 w3):=J (HB2.out.trans (HC3.out.mono (by omega)))
   have HR3:=J (HR2.out.below HC3.out)
   go_wp2_with (refine yI 68 2 szWord _ _ rfl rfl rfl rfl rfl HX43.out rfl rfl rfl ?_;intro W' hF hs' hBW hoth;have HF:=J hF;have HSZ:=J hs';have HBW:=J hBW;have HOTH:=J hoth;clear hF hBW hoth hs')
   refine bodyPost_ret (yH Tryz.results23 szWord _ Tryz.underlying68 rfl rfl HF.out rfl) rfl ⟨?_,?_⟩
   ·rw [HA.out];try rfl
   rw [HA.out]
   exact put_end HB0.out hs0a' HF1.out ⟨HR3.out.mono (fun b hb=>.inl hb),Keep.of HB3.out⟩ (HBW.out 0 _ (by omega) (Below.refl _ _)) (by omega) (by omega) HOTH.out
  have HA:=J (putHO_ok HCK.out HC.out hfull)
  have hfd:decide (room < (H.ws.length:Int)+szL [t])=false:=by simpa using hfull
  go_upto_region 6 with fail
  refine yK (fun w'=>w'.cell? ⟨B,0,none⟩=some (.int .i64 room)∧w'.cell? ⟨B,1,none⟩=some (.slice aw H.ws.length cw)∧w'.cell? ⟨w.heap.size,0,none⟩=some (.int .i64 t.kind)∧w'.cell? ⟨w.heap.size,1,none⟩=some (.int .i64 t.n)∧w'.cell? ⟨w.heap.size,2,none⟩=some (.string t.name)∧w'.cell? ⟨w.heap.size,3,none⟩=some (.slice a t.args.length cap)) (by as_aux_lemma=>kernel_rfl) (fun Wd h=>HQ.out _ h) ?_
  intro Wd hB hWd hWd' hHeld
  have HCWd:=J hB
  clear hB
  refine rgT 0 _ hHeld ?_
  refine rgT 1 _ hHeld ?_
  refine rgT 2 _ hHeld ?_
  refine rgT 3 _ hHeld ?_
  refine rgT 4 _ hHeld ?_
  refine rgT 5 _ hHeld ?_
  refine rgT 8 _ hHeld ?_
  refine rgT 9 _ hHeld ?_
  refine rgT 10 _ hHeld ?_
  refine rgT 11 _ hHeld ?_
  refine rgO 6 fun K hK=>?_
  go_simp
  go_at_call 53
  refine (size_c t S _ _ (HT2.out.below HCWd.out) (by omega)).mono ?_
  rintro e w3 ⟨rfl,hB⟩
  have hs3:=hB.size
  have HC3:Hid (Below w2.heap.size w2 w3):=J (yB HCWd.out (by omega) hB)
  clear hB
  refine hK.out _ _ (HQ.out _ HC3.out) fun _=>?_
  clear hK K hHeld;rename_i hHeld;try simp only [Act.put,pA,pB,pC]
  refine rgT 7 _ hHeld ?_
  refine rgT 12 _ hHeld ?_
  refine rgT 13 _ hHeld ?_
  refine rgD ?_
  clear hHeld
  have HX33:=J (HX32.out.step HC3.out)
  have HX43:=J (HX42.out.step HC3.out)
  have HB3:Hid (Below W0.heap.size W0 w3):=J (HB2.out.trans (HC3.out.mono (by omega)))
  have HR3:=J (HR2.out.below HC3.out)
  have HT3:=J (HT2.out.below HC3.out)
  obtain ⟨y0,y1,y2,y3⟩:=HX33.out.c4 0 1 2 3
  go_wp2_with fail
  refine (hput_c t F0 S _ B room H _ HR3.out HT3.out (fun b hb=>⟨by have:=(HS0.out b hb).1;omega,(HS0.out b hb).2⟩) (by omega) (by omega)).mono ?_
  rintro e w4 ⟨he,hK,hR4⟩
  obtain ⟨x,hx⟩:∃ x,x=putW H t:=⟨_,rfl⟩
  rw [←hx] at he hR4 HA
  subst he
  have hs4:=hK.size
  have HX44:Hid (Blk w4 (w.heap.size+1) [.int .i64 0,.int .i64 0]):=J (HX43.out.keep hK (fun h=>by have:=(HF1.out _ h).2;omega))
  have HK4:Hid (Keep F0 W0 w4):=J ((Keep.of HB3.out).trans hK)
  have HR4:=J hR4
  clear hx hK hR4 y0 y1 y2 y3
  go_wp2_with (refine yI 68 2 szWord _ _ rfl rfl rfl rfl rfl HX44.out rfl rfl rfl ?_;intro W' hF hs' hBW hoth;have HF:=J hF;have HSZ:=J hs';have HBW:=J hBW;have HOTH:=J hoth;clear hF hBW hoth hs')
  refine bodyPost_ret (yH Tryz.results23 szWord _ Tryz.underlying68 rfl rfl HF.out rfl) rfl ⟨?_,?_⟩
  ·rw [HA.out];try rfl
  rw [HA.out]
  exact put_end HB0.out hs0a' HF1.out ⟨HR4.out.mono (fun b hb=>by rcases hb with hb | hb;exact .inl hb;exact .inr (by omega)),HK4.out⟩ (HBW.out 0 _ (by omega) (Below.refl _ _)) (by omega) (by omega) HOTH.out
 have hckb:(yE t != 0)=true:=by simp [hck]
 have HA:=J (putHO_check (room:=room) (H:=H) hck)
 clear hck
 go_wp2_with (refine yI 68 2 szWord _ _ rfl rfl rfl rfl rfl HX41.out rfl rfl rfl ?_;intro W' hF hs' hBW hoth;have HF:=J hF;have HSZ:=J hs';have HBW:=J hBW;have HOTH:=J hoth;clear hF hBW hoth hs')
 refine bodyPost_ret (yH Tryz.results23 szWord _ Tryz.underlying68 rfl rfl HF.out rfl) rfl ⟨?_,?_⟩
 ·rw [HA.out];try rfl
 rw [HA.out]
 exact put_end HB0.out hs0a' HF1.out ⟨HR1.out.mono (fun b hb=>.inl hb),Keep.of HB1.out⟩ (HBW.out 0 _ (by omega) (Below.refl _ _)) (by omega) (by omega) HOTH.out
def hdL (H:HS):List T→List Wrd→List Nat
 | [],_=>[]
 | ⟨k,_,_,l⟩ :: ts,xs=>(if k=4 then (xs.headD ⟨0,0⟩).n.toNat :: hdL H l (partsL H (xs.headD ⟨0,0⟩).n.toNat l.length) else []) ++ hdL H ts xs.tail
def hd1 (H:HS) (t:T) (x:Wrd):List Nat:=if t.kind=4 then x.n.toNat :: hdL H t.args (partsL H x.n.toNat t.args.length) else []
theorem hdL_nil (H:HS) (xs:List Wrd):hdL H [] xs=[]:=by rw [hdL]
theorem hdL_cons (H:HS) (t:T) (ts:List T) (x:Wrd) (xs:List Wrd):hdL H (t :: ts) (x :: xs)=hd1 H t x ++ hdL H ts xs:=by
 obtain ⟨k,n,s,l⟩:=t;rw [hdL];rfl
theorem hd1_tup {H:HS} {t:T} {i:Nat} (h:t.kind=4):hd1 H t ⟨4,(i:Int)⟩=i :: hdL H t.args (partsL H i t.args.length):=by unfold hd1;rw [if_pos h];simp
theorem hd1_leaf {H:HS} {t:T} {x:Wrd} (h:t.kind≠4):hd1 H t x=[]:=by unfold hd1;rw [if_neg h]
theorem Rep.hd {H:HS} {t:T} {x:Wrd} (h:Rep H t x) (hk:t.kind=4):∃ i:Nat,x=⟨4,(i:Int)⟩∧Hd H i t.args.length∧RepL H t.args (partsL H i t.args.length):=by
 obtain ⟨-,-,i,h1,h2,h3,h4⟩:=h.tup hk
 exact ⟨i,h1,⟨h2,h3⟩,h4⟩
theorem hdL_sum (H:HS):∀ (m:Nat) (ts:List T),yC ts≤m→∀ xs,RepL H ts xs→((hdL H ts xs).map fun i=>1+kN H i).sum=szL ts:=by
 intro m
 induction m with
 | zero =>
  intro ts hb xs h
  cases ts with
  | nil=>simp [hdL_nil,szL]
  | cons t ts=>rw [yG] at hb;omega
 | succ m ih =>
  intro ts hb xs h
  cases ts with
  | nil=>simp [hdL_nil,szL]
  | cons t ts =>
   rw [yG] at hb
   obtain ⟨x,r,rfl,h1,h2⟩:=(RepL_cons H t ts xs).1 h
   have e2:=ih ts (by omega) r h2
   rw [hdL_cons,List.map_append,List.sum_append_nat,e2,szL_cons]
   by_cases hk:t.kind=4
   ·obtain ⟨i,rfl,hd,hp⟩:=h1.hd hk
    have e1:=ih t.args (by omega) _ hp
    rw [hd1_tup hk,List.map_cons,List.sum_cons,e1,if_pos hk,hd.kN]
   ·rw [hd1_leaf hk,if_neg hk];simp
theorem hdL_reach (H:HS) (rs:List Wrd):∀ (m:Nat) (ts:List T),yC ts≤m→∀ xs,RepL H ts xs→(∀ j:Nat,(⟨4,(j:Int)⟩:Wrd)∈xs→Reach H rs j)→∀ i∈hdL H ts xs,Reach H rs i∧Hd H i (kN H i):=by
 intro m
 induction m with
 | zero =>
  intro ts hb xs h _ i hi
  cases ts with
  | nil=>rw [hdL_nil] at hi;cases hi
  | cons t ts=>rw [yG] at hb;omega
 | succ m ih =>
  intro ts hb xs h hr i hi
  cases ts with
  | nil=>rw [hdL_nil] at hi;cases hi
  | cons t ts =>
   rw [yG] at hb
   obtain ⟨x,r,rfl,h1,h2⟩:=(RepL_cons H t ts xs).1 h
   rw [hdL_cons] at hi
   rcases List.mem_append.1 hi with hi | hi
   ·by_cases hk:t.kind=4
    ·obtain ⟨j,rfl,hd,hp⟩:=h1.hd hk
     have hj:=hr j (by simp)
     rw [hd1_tup hk] at hi
     rcases List.mem_cons.1 hi with rfl | hi
     ·exact ⟨hj,by rw [hd.kN];exact hd⟩
     ·exact ih t.args (by omega) _ hp (fun q hq=>Reach.part j q hj (by rw [hd.kN];exact hq)) i hi
    ·rw [hd1_leaf hk] at hi;cases hi
   ·exact ih ts (by omega) r h2 (fun q hq=>hr q (by simp [hq])) i hi
theorem hdL_root (H:HS):∀ (ts:List T) (xs:List Wrd),RepL H ts xs→∀ i:Nat,(⟨4,(i:Int)⟩:Wrd)∈xs→i∈hdL H ts xs
 | [],xs,h,i,hi=>by rw [RepL_nil] at h;rw [h] at hi;cases hi
 | t :: ts,xs,h,i,hi=>by
  obtain ⟨x,r,rfl,h1,h2⟩:=(RepL_cons H t ts xs).1 h
  rw [hdL_cons]
  rcases List.mem_cons.1 hi with e | hi
  ·have hk:t.kind=4:=by rw [←h1.kinds,←e]
   rw [←e,hd1_tup hk];simp
  ·exact List.mem_append.2 (.inr (hdL_root H ts r h2 i hi))
theorem hdL_part (H:HS) (j i:Nat) (hji:(⟨4,(i:Int)⟩:Wrd)∈partsL H j (kN H j)):∀ (m:Nat) (ts:List T),yC ts≤m→∀ xs,RepL H ts xs→j∈hdL H ts xs→i∈hdL H ts xs:=by
 intro m
 induction m with
 | zero =>
  intro ts hb xs h hj
  cases ts with
  | nil=>rw [hdL_nil] at hj;cases hj
  | cons t ts=>rw [yG] at hb;omega
 | succ m ih =>
  intro ts hb xs h hj
  cases ts with
  | nil=>rw [hdL_nil] at hj;cases hj
  | cons t ts =>
   rw [yG] at hb
   obtain ⟨x,r,rfl,h1,h2⟩:=(RepL_cons H t ts xs).1 h
   rw [hdL_cons] at hj ⊢
   rcases List.mem_append.1 hj with hj | hj
   ·refine List.mem_append.2 (.inl ?_)
    by_cases hk:t.kind=4
    ·obtain ⟨q,rfl,hd,hp⟩:=h1.hd hk
     rw [hd1_tup hk] at hj ⊢
     rcases List.mem_cons.1 hj with rfl | hj
     ·rw [hd.kN] at hji
      exact mT (hdL_root H _ _ hp i hji)
     ·exact mT (ih t.args (by omega) _ hp hj)
    ·rw [hd1_leaf hk] at hj;cases hj
   ·exact List.mem_append.2 (.inr (ih ts (by omega) r h2 hj))
theorem reach_hdL {H:HS} {ts:List T} {rs:List Wrd} (h:RepL H ts rs) {i:Nat} (hr:Reach H rs i):i∈hdL H ts rs:=by
 induction hr with
 | root i hm=>exact hdL_root H ts rs h i hm
 | part j i hj hm ih=>exact hdL_part H j i hm _ ts (Nat.le_refl _) rs h ih
theorem Col.count {H:HS} {rs tw out:List Wrd} {ks:List Nat} (h:Col H rs ks tw out) {L:List Nat} (hn:L.Nodup) (h1:∀ i∈L,Reach H rs i) (h2:∀ i,Reach H rs i→i∈L):tw.length=(L.map fun i=>1+kN H i).sum:=by
 have e:tw.length=(ks.map fun i=>1+kN H i).sum:=by rw [h.tw,List.length_map,raw_len ks h.hd]
 have a:=sum_le (fun i=>1+kN H i) ks L h.nd fun i hi=>h2 i (h.rc i hi)
 have b:=sum_le (fun i=>1+kN H i) L ks hn fun i hi=>h.all (h1 i hi)
 omega
theorem Col.size {H:HS} {ts:List T} {rs tw out:List Wrd} {ks:List Nat} (h:Col H rs ks tw out) (hr:RepL H ts rs) (hn:(hdL H ts rs).Nodup):tw.length=szL ts:=by
 rw [h.count hn (fun i hi=>(hdL_reach H rs _ ts (Nat.le_refl _) rs hr (fun j hj=>Reach.root j hj) i hi).1) fun i hi=>reach_hdL hr hi]
 exact hdL_sum H _ ts (Nat.le_refl _) rs hr
theorem nodup_map {f:Nat→Nat}:∀ {l:List Nat},l.Nodup→(∀ i∈l,∀ j∈l,f i=f j→i=j)→(l.map f).Nodup
 | [],_,_=>by simp
 | a :: l,hn,hf=>by
  have hn':=List.nodup_cons.1 hn
  rw [List.map_cons,List.nodup_cons]
  refine ⟨fun hm=>?_,nodup_map hn'.2 fun i hi j hj=>hf i (by simp [hi]) j (by simp [hj])⟩
  obtain ⟨b,hb,e⟩:=List.mem_map.1 hm
  have:=hf b (by simp [hb]) a (by simp) e
  exact hn'.1 (this ▸ hb)
theorem Col.hdL {H:HS} {rs tw out:List Wrd} {ks:List Nat} (h:Col H rs ks tw out) (nm:List ByteArray):∀ (m:Nat) (ts:List T),yC ts≤m→∀ xs,RepL H ts xs→(∀ x∈xs,Kn ks x) →
  Go.Proofs.YtedfepnekjjmnabGreat.hdL ⟨tw,nm⟩ ts (xs.map (fwd H ks))=(Go.Proofs.YtedfepnekjjmnabGreat.hdL H ts xs).map (posn H ks)∧∀ i∈Go.Proofs.YtedfepnekjjmnabGreat.hdL H ts xs,i∈ks:=by
 intro m
 induction m with
 | zero =>
  intro ts hb xs hr _
  cases ts with
  | nil=>exact ⟨by rw [hdL_nil,hdL_nil];rfl,by rw [hdL_nil];simp⟩
  | cons t ts=>rw [yG] at hb;omega
 | succ m ih =>
  intro ts hb xs hr hk
  cases ts with
  | nil=>exact ⟨by rw [hdL_nil,hdL_nil];rfl,by rw [hdL_nil];simp⟩
  | cons t ts =>
   rw [yG] at hb
   obtain ⟨x,r,rfl,h1,h2⟩:=(RepL_cons H t ts xs).1 hr
   obtain ⟨b1,b2⟩:=ih ts (by omega) r h2 fun y hy=>hk y (by simp [hy])
   rw [List.map_cons,hdL_cons,hdL_cons,List.map_append,b1]
   by_cases hk4:t.kind=4
   ·obtain ⟨i,rfl,hd,hp⟩:=h1.hd hk4
    obtain ⟨i',hi,e⟩:=hk ⟨4,(i:Int)⟩ (by simp) rfl
    obtain rfl:i=i':=Int.ofNat.inj e
    have hf:fwd H ks ⟨4,(i:Int)⟩=⟨4,(posn H ks i:Int)⟩:=by unfold fwd;rw [if_pos rfl];simp
    obtain ⟨hb1,hb2⟩:=h.block hi nm
    rw [hd.kN] at hb1 hb2
    have hkp:∀ y∈partsL H i t.args.length,Kn ks y:=fun y hy=>h.kn y (by
     unfold raw
     refine List.mem_flatMap.2 ⟨i,hi,?_⟩
     unfold blkL
     rw [hd.kN]
     exact mT hy)
    obtain ⟨a1,a2⟩:=ih t.args (by omega) _ hp hkp
    refine ⟨?_,fun j hj=>?_⟩
    ·rw [hf,hd1_tup hk4,hd1_tup hk4,hb2,a1];rfl
    ·rcases List.mem_append.1 hj with hj | hj
     ·rw [hd1_tup hk4] at hj
      rcases List.mem_cons.1 hj with rfl | hj
      ·exact hi
      ·exact a2 j hj
     ·exact b2 j hj
   ·rw [hd1_leaf hk4,hd1_leaf hk4]
    exact ⟨rfl,fun j hj=>b2 j (by simpa using hj)⟩
theorem Col.nodup {H:HS} {ts:List T} {rs tw out:List Wrd} {ks:List Nat} (h:Col H rs ks tw out) (hr:RepL H ts rs) (hn:(Go.Proofs.YtedfepnekjjmnabGreat.hdL H ts rs).Nodup) (nm:List ByteArray):(Go.Proofs.YtedfepnekjjmnabGreat.hdL ⟨tw,nm⟩ ts out).Nodup:=by
 obtain ⟨h1,h2⟩:=h.hdL nm _ ts (Nat.le_refl _) rs hr h.rk
 rw [h.out,h1]
 exact nodup_map hn fun i hi j hj e=>posn_inj ks (h2 i hi) (h2 j hj) e
theorem hdL_app {H:HS} (new:List Wrd) (nm:List ByteArray):∀ (m:Nat) (ts:List T),yC ts≤m→∀ xs,RepL H ts xs→hdL ⟨H.ws ++ new,nm⟩ ts xs=hdL H ts xs∧∀ i∈hdL H ts xs,i < H.ws.length:=by
 intro m
 induction m with
 | zero =>
  intro ts hb xs hr
  cases ts with
  | nil=>exact ⟨by rw [hdL_nil,hdL_nil],by rw [hdL_nil];simp⟩
  | cons t ts=>rw [yG] at hb;omega
 | succ m ih =>
  intro ts hb xs hr
  cases ts with
  | nil=>exact ⟨by rw [hdL_nil,hdL_nil],by rw [hdL_nil];simp⟩
  | cons t ts =>
   rw [yG] at hb
   obtain ⟨x,r,rfl,h1,h2⟩:=(RepL_cons H t ts xs).1 hr
   obtain ⟨b1,b2⟩:=ih ts (by omega) r h2
   rw [hdL_cons,hdL_cons,b1]
   by_cases hk4:t.kind=4
   ·obtain ⟨i,rfl,hd,hp⟩:=h1.hd hk4
    obtain ⟨a1,a2⟩:=ih t.args (by omega) _ hp
    have hpp:partsL ⟨H.ws ++ new,nm⟩ i t.args.length=partsL H i t.args.length:=by
     have h5:=hd.2
     unfold partsL
     show ((H.ws ++ new).drop (i+1)).take _=_
     rw [List.drop_append_of_le_length (by omega),List.take_append_of_le_length (by rw [List.length_drop];omega)]
    refine ⟨by rw [hd1_tup hk4,hd1_tup hk4,hpp,a1],fun j hj=>?_⟩
    rcases List.mem_append.1 hj with hj | hj
    ·rw [hd1_tup hk4] at hj
     rcases List.mem_cons.1 hj with rfl | hj
     ·exact hd.lt
     ·exact a2 j hj
    ·exact b2 j hj
   ·rw [hd1_leaf hk4,hd1_leaf hk4]
    exact ⟨rfl,fun j hj=>b2 j (by simpa using hj)⟩
structure Lay (l:List Wrd):Prop where
 heads:∀ (j:Nat) (n:Int),l[j]?=some ⟨0,n⟩→∃ k:Nat,n=k∧j+1+k≤l.length
 apart:∀ (j k:Nat),l[j]?=some ⟨0,(k:Int)⟩→∀ m,j < m→m≤j+k→∀ x,l[m]?=some x→x.kind≠0
theorem Lay.nil:Lay []:=⟨by simp,by simp⟩
theorem Lay.app {a b:List Wrd} (ha:Lay a) (hb:Lay b):Lay (a ++ b):=by
 refine ⟨fun j n h=>?_,fun j k h m h1 h2 x hx=>?_⟩
 ·by_cases hj:j < a.length
  ·rw [List.getElem?_append_left hj] at h
   obtain ⟨k,h1,h2⟩:=ha.heads j n h
   exact ⟨k,h1,by rw [List.length_append];omega⟩
  rw [List.getElem?_append_right (by omega)] at h
  obtain ⟨k,h1,h2⟩:=hb.heads _ n h
  exact ⟨k,h1,by rw [List.length_append];omega⟩
 by_cases hj:j < a.length
 ·rw [List.getElem?_append_left hj] at h
  obtain ⟨k',h3,h4⟩:=ha.heads j _ h
  obtain rfl:k=k':=Int.ofNat.inj h3
  rw [List.getElem?_append_left (by omega)] at hx
  exact ha.apart j k h m h1 h2 x hx
 rw [List.getElem?_append_right (by omega)] at h hx
 exact hb.apart _ k h (m - a.length) (by omega) (by omega) x hx
theorem Lay.block {xs:List Wrd} (h:∀ x∈xs,x.kind≠0):Lay (⟨0,(xs.length:Int)⟩ :: xs):=by
 refine ⟨fun j n hj=>?_,fun j k hj m h1 h2 x hx=>?_⟩
 ·cases j with
  | zero =>
   have h1:=congrArg Wrd.n (Option.some.inj hj)
   exact ⟨xs.length,h1.symm,by simp;omega⟩
  | succ j =>
   have h1:xs[j]?=some ⟨0,n⟩:=hj
   exact absurd rfl (h _ (List.mem_of_getElem? h1))
 cases m with
 | zero=>omega
 | succ m =>
  have h3:xs[m]?=some x:=hx
  exact h x (List.mem_of_getElem? h3)
def GoodAt (base:Nat) (l:List Wrd) (x:Wrd):Prop:=x.kind=4→∃ j k:Nat,x.n=(base+j:Nat)∧l[j]?=some ⟨0,(k:Int)⟩∧j+1+k≤l.length
theorem GoodAt.left {base:Nat} {a:List Wrd} {x:Wrd} (h:GoodAt base a x) (b:List Wrd):GoodAt base (a ++ b) x:=fun e=>by
 obtain ⟨j,k,h1,h2,h3⟩:=h e
 exact ⟨j,k,h1,by rw [List.getElem?_append_left (by omega)];exact h2,by rw [List.length_append];omega⟩
theorem GoodAt.right {base:Nat} {a b:List Wrd} {x:Wrd} (h:GoodAt (base+a.length) b x):GoodAt base (a ++ b) x:=fun e=>by
 obtain ⟨j,k,h1,h2,h3⟩:=h e
 exact ⟨a.length+j,k,by rw [h1];congr 1;omega,by rw [List.getElem?_append_right (by omega),Nat.add_sub_cancel_left];exact h2,by rw [List.length_append];omega⟩
theorem WF.lay {H:HS} (h:WF H):Lay H.ws:=by
 refine ⟨fun j n hj=>?_,fun j k hj m h1 h2 x hx=>?_⟩
 ·obtain ⟨hl,he⟩:=List.getElem?_eq_some_iff.1 hj
  have h1:=h.heads j hl (by rw [he])
  rw [he] at h1
  exact ⟨n.toNat,(Int.toNat_of_nonneg h1.1).symm,by have:=h1.2;have h3:=h1.1;simp only at this h3;omega⟩
 obtain ⟨hl,he⟩:=List.getElem?_eq_some_iff.1 hj
 have h3:=(h.heads j hl (by rw [he])).2
 rw [he] at h3
 refine h.apart j k ⟨hj,by simp only at h3;omega⟩ x ?_
 unfold partsL
 refine List.mem_of_getElem? (i:=m - (j+1)) ?_
 rw [List.getElem?_take_of_lt (by omega),List.getElem?_drop,←hx]
 congr 1;omega
theorem WF.of {H:HS} (h:Lay H.ws) (hg:∀ x∈H.ws,GoodAt 0 H.ws x):WF H:=by
 refine ⟨fun i hi hk=>?_,fun i k hi x hx=>?_,fun x hx e=>?_⟩
 ·have h1:H.ws[i]?=some ⟨0,H.ws[i].n⟩:=by rw [List.getElem?_eq_getElem hi];congr 1;rw [←hk]
  obtain ⟨k,h2,h3⟩:=h.heads i _ h1
  rw [h2];omega
 ·unfold partsL at hx
  obtain ⟨m,hm⟩:=List.getElem?_of_mem hx
  have hmk:m < k:=by
   have:=(List.getElem?_eq_some_iff.1 hm).1
   rw [List.length_take] at this;omega
  rw [List.getElem?_take_of_lt hmk,List.getElem?_drop] at hm
  exact h.apart i k hi.1 _ (by omega) (by omega) x hm
 obtain ⟨j,k,h1,h2,h3⟩:=hg x hx e
 exact ⟨j,k,by rw [h1];simp,h2,h3⟩
theorem WF.goodAt {H:HS} (h:WF H) {x:Wrd} (hx:GoodW H x):GoodAt 0 H.ws x:=fun e=>by
 obtain ⟨i,k,h1,h2⟩:=hx e
 exact ⟨i,k,by rw [h1];simp,h2.1,h2.2⟩
theorem WF.grow {H:HS} (h:WF H) {new:List Wrd} (nm:List ByteArray) (hl:Lay new) (hg:∀ x∈new,GoodAt H.ws.length new x):WF ⟨H.ws ++ new,nm⟩:=by
 refine WF.of (h.lay.app hl) fun x hx=>?_
 rcases List.mem_append.1 hx with hx | hx
 ·exact (h.goodAt (h.good x hx)).left _
 refine GoodAt.right ?_
 rw [Nat.zero_add];exact hg x hx
def OkL:List T→Prop
 | []=>True
 | ⟨k,n,s,l⟩ :: ts=>(if k=4 then n=0∧s=⟨#[]⟩∧OkL l else if k=2 then n=0∧l=[] else (k=1∨k=3)∧s=⟨#[]⟩∧l=[])∧OkL ts
def OkT (t:T):Prop:=if t.kind=4 then t.n=0∧t.name=⟨#[]⟩∧OkL t.args else if t.kind=2 then t.n=0∧t.args=[] else (t.kind=1∨t.kind=3)∧t.name=⟨#[]⟩∧t.args=[]
theorem OkL_cons (t:T) (ts:List T):OkL (t :: ts)↔OkT t∧OkL ts:=by obtain ⟨k,n,s,l⟩:=t;rw [OkL];rfl
structure Agree (K:HS) (base:Nat) (new:List Wrd) (nm:List ByteArray):Prop where
 ws:∀ (j:Nat) (x:Wrd),new[j]?=some x→K.ws[base+j]?=some x
 len:base+new.length≤K.ws.length
 nm:∀ (j:Nat) (s:ByteArray),nm[j]?=some s→K.names[j]?=some s
theorem Agree.left {K:HS} {base:Nat} {a b:List Wrd} {nm more:List ByteArray} (h:Agree K base (a ++ b) (nm ++ more)):Agree K base a nm:=by
 have hl:=h.len
 rw [List.length_append] at hl
 refine ⟨fun j x hx=>h.ws j x ?_,by omega,fun j s hs=>h.nm j s ?_⟩
 ·rw [List.getElem?_append_left (List.getElem?_eq_some_iff.1 hx).1];exact hx
 rw [List.getElem?_append_left (List.getElem?_eq_some_iff.1 hs).1];exact hs
theorem Agree.right {K:HS} {base:Nat} {a b:List Wrd} {nm:List ByteArray} (h:Agree K base (a ++ b) nm):Agree K (base+a.length) b nm:=by
 have hl:=h.len
 rw [List.length_append] at hl
 refine ⟨fun j x hx=>?_,by omega,h.nm⟩
 rw [Nat.add_assoc]
 refine h.ws _ x ?_
 rw [List.getElem?_append_right (by omega),Nat.add_sub_cancel_left];exact hx
def PutS (H:HS) (t:T):Prop:=∃ new more,(putW H t).2.ws=H.ws ++ new∧(putW H t).2.names=H.names ++ more∧Lay new∧(∀ x∈new,GoodAt H.ws.length new x)∧(putW H t).1.kind≠0∧GoodAt H.ws.length new (putW H t).1 ∧
 ∀ K,Agree K H.ws.length new (H.names ++ more)→Rep K t (putW H t).1∧(hd1 K t (putW H t).1).Nodup∧∀ i∈hd1 K t (putW H t).1,H.ws.length≤i∧i < H.ws.length+new.length
def PutL (i:Nat) (H:HS) (ts:List T):Prop:=∃ xs new more,(putA i H ts).ws=(H.ws.take i ++ (xs ++ H.ws.drop (i+ts.length))) ++ new∧(putA i H ts).names=H.names ++ more∧xs.length=ts.length∧Lay new∧(∀ x∈new,GoodAt H.ws.length new x) ∧
 (∀ x∈xs,x.kind≠0∧GoodAt H.ws.length new x)∧∀ K,Agree K H.ws.length new (H.names ++ more)→RepL K ts xs∧(hdL K ts xs).Nodup∧∀ i∈hdL K ts xs,H.ws.length≤i∧i < H.ws.length+new.length
theorem putL_of:∀ (ts:List T),(∀ u∈ts,OkT u→∀ H,PutS H u)→OkL ts→∀ (i:Nat) (H:HS),i+ts.length≤H.ws.length→PutL i H ts
 | [],_,_,i,H,hi=>⟨[],[],[],by rw [putA_nil];simp,by rw [putA_nil];simp,rfl,Lay.nil,by simp,by simp,fun K _=>⟨by rw [RepL_nil],by rw [hdL_nil];simp,by rw [hdL_nil];simp⟩⟩
 | t :: ts,hu,ho,i,H,hi=>by
  obtain ⟨ho1,ho2⟩:=(OkL_cons t ts).1 ho
  rw [List.length_cons] at hi
  obtain ⟨n1,m1,a1,a2,a3,a4,a5,a6,a7⟩:=hu t (by simp) ho1 H
  have hws:(putW H t).2.ws.set i (putW H t).1=H.ws.set i (putW H t).1 ++ n1:=by rw [a1,List.set_append_left _ _ (by omega)]
  obtain ⟨xs,n2,m2,b1,b2,b3,b4,b5,b6,b7⟩:=putL_of ts (fun u h=>hu u (by simp [h])) ho2 (i+1) ⟨(putW H t).2.ws.set i (putW H t).1,(putW H t).2.names⟩ (by rw [hws];simp;omega)
  have hlen:((putW H t).2.ws.set i (putW H t).1).length=H.ws.length+n1.length:=by rw [hws];simp
  simp only [hlen] at b5 b6 b7
  refine ⟨(putW H t).1 :: xs,n1 ++ n2,m1 ++ m2,?_,?_,by simp [b3],a3.app b4,?_,?_,?_⟩
  ·rw [putA_cons,b1]
   simp only [hws]
   have h1:(H.ws.set i (putW H t).1 ++ n1).take (i+1)=H.ws.take i ++ [(putW H t).1]:=by
    rw [List.take_append_of_le_length (by simp;omega),List.take_succ_eq_append_getElem (by simp;omega),List.take_set_of_le (by omega),List.getElem_set_self]
   have h2:(H.ws.set i (putW H t).1 ++ n1).drop (i+1+ts.length)=H.ws.drop (i+(ts.length+1)) ++ n1:=by
    rw [List.drop_append_of_le_length (by simp;omega),List.drop_set_of_lt (by omega)]
    congr 2;omega
   rw [h1,h2]
   simp
  ·rw [putA_cons,b2]
   simp only [a2,List.append_assoc]
  ·intro x hx
   rcases List.mem_append.1 hx with hx | hx
   ·exact (a4 x hx).left _
   ·exact (b5 x hx).right
  ·intro x hx
   rcases List.mem_cons.1 hx with hx | hx
   ·rw [hx];exact ⟨a5,a6.left _⟩
   ·exact ⟨(b6 x hx).1,(b6 x hx).2.right⟩
  ·intro K hK
   rw [←List.append_assoc] at hK
   obtain ⟨A1,A2,A3⟩:=a7 K hK.left
   obtain ⟨B1,B2,B3⟩:=b7 K (by rw [a2];exact hK.right)
   refine ⟨(RepL_cons K t ts _).2 ⟨_,xs,rfl,A1,B1⟩,?_,?_⟩
   ·rw [hdL_cons,List.nodup_append]
    refine ⟨A2,B2,fun a ha b hb e=>?_⟩
    have h3:=A3 a ha
    have h4:=B3 b hb
    omega
   ·intro j hj
    rw [hdL_cons] at hj
    rw [List.length_append]
    rcases List.mem_append.1 hj with hj | hj
    ·have:=A3 j hj;omega
    ·have:=B3 j hj;omega
theorem atomH_at (s:ByteArray) (l:List ByteArray):∃ (i:Nat) (more:List ByteArray),(atomH s l).1=i∧(atomH s l).2=l ++ more∧(l ++ more)[i]?=some s:=by
 unfold atomH
 rcases nameI_cases s l with ⟨h,-⟩ | ⟨k,hk,h,he⟩
 ·rw [h];exact ⟨l.length,[s],rfl,rfl,by simp⟩
 rw [h,if_neg (by omega)]
 exact ⟨k,[],rfl,by simp,by rw [List.append_nil,List.getElem?_eq_getElem hk,he]⟩
theorem putW_says:∀ (t:T),OkT t→∀ (H:HS),PutS H t:=by
 intro t
 induction t using T.ind with
 | h t ih =>
  intro ho H
  unfold OkT at ho
  unfold PutS putW
  by_cases h2:t.kind=2
  ·rw [if_neg (by omega),if_pos h2] at ho
   rw [if_pos h2]
   obtain ⟨i,more,e1,e2,e3⟩:=atomH_at t.name H.names
   refine ⟨[],more,by simp,e2,Lay.nil,by simp,by simp,fun e=>absurd (show (2:Int)=4 from e) (by decide),fun K hK=>?_⟩
   refine ⟨?_,by rw [hd1_leaf (by omega)];simp,by rw [hd1_leaf (by omega)];simp⟩
   unfold Rep
   rw [if_neg (by omega),if_pos h2]
   exact ⟨ho.1,ho.2,i,by show (⟨2,(atomH t.name H.names).1⟩:Wrd)=_;rw [e1],hK.nm i _ e3⟩
  ·rw [if_neg h2]
   by_cases h4:t.kind=4
   ·rw [if_pos h4] at ho
    rw [if_pos h4]
    obtain ⟨xs,n1,more,b1,b2,b3,b4,b5,b6,b7⟩:=putL_of t.args ih ho.2.2 (H.ws.length+1) ⟨H.ws ++ (⟨0,t.args.length⟩ :: List.replicate t.args.length ⟨0,0⟩),H.names⟩ (by simp;omega)
    have hlen:(H.ws ++ ((⟨0,(t.args.length:Int)⟩:Wrd) :: List.replicate t.args.length ⟨0,0⟩)).length=H.ws.length+((⟨0,(xs.length:Int)⟩:Wrd) :: xs).length:=by simp [b3]
    simp only [hlen] at b5 b6 b7
    have hw:(H.ws ++ ((⟨0,(t.args.length:Int)⟩:Wrd) :: List.replicate t.args.length ⟨0,0⟩)).take (H.ws.length+1)=H.ws ++ [⟨0,(xs.length:Int)⟩]:=by
     rw [List.take_append,List.take_of_length_le (by omega),Nat.add_sub_cancel_left,List.take_succ_cons,List.take_zero,b3]
    have hd:(H.ws ++ ((⟨0,(t.args.length:Int)⟩:Wrd) :: List.replicate t.args.length ⟨0,0⟩)).drop (H.ws.length+1+t.args.length)=[]:=List.drop_eq_nil_of_le (by simp;omega)
    refine ⟨(⟨0,(xs.length:Int)⟩ :: xs) ++ n1,more,?_,b2,(Lay.block fun x hx=>(b6 x hx).1).app b4,?_,by show (4:Int)≠0;decide,?_,?_⟩
    ·show (putA (H.ws.length+1) _ t.args).ws=_
     rw [b1]
     simp only [hw,hd]
     simp
    ·intro x hx
     rcases List.mem_append.1 hx with hx | hx
     ·rcases List.mem_cons.1 hx with hx | hx
      ·rw [hx];exact fun e=>absurd (show (0:Int)=4 from e) (by decide)
      ·exact (b6 x hx).2.right
     ·exact (b5 x hx).right
    ·exact fun _=>⟨0,xs.length,by simp,rfl,by simp;omega⟩
    ·intro K hK
     obtain ⟨hx,hx2,hx3⟩:=b7 K hK.right
     have hlk:=hK.len
     simp only [List.length_append,List.length_cons] at hlk
     have hp:partsL K H.ws.length t.args.length=xs:=by
      unfold partsL
      apply List.ext_getElem?
      intro j
      by_cases hj:j < t.args.length
      ·rw [List.getElem?_take_of_lt hj,List.getElem?_drop]
       have hj':j < xs.length:=by omega
       have h1:=hK.ws (j+1) xs[j] (by rw [List.getElem?_append_left (by simp;omega),List.getElem?_cons_succ,List.getElem?_eq_getElem hj'])
       rw [List.getElem?_eq_getElem hj',←h1]
       congr 1;omega
      ·rw [List.getElem?_eq_none (by rw [List.length_take];omega),List.getElem?_eq_none (by omega)]
     have hh:hd1 K t ⟨4,(H.ws.length:Int)⟩=H.ws.length :: hdL K t.args xs:=by rw [hd1_tup h4,hp]
     refine ⟨?_,?_,?_⟩
     ·unfold Rep
      rw [if_pos h4]
      refine ⟨ho.1,ho.2.1,H.ws.length,rfl,?_,by omega,by rw [hp];exact hx⟩
      have h1:=hK.ws 0 ⟨0,(xs.length:Int)⟩ rfl
      rw [Nat.add_zero,b3] at h1
      exact h1
     ·show (hd1 K t ⟨4,(H.ws.length:Int)⟩).Nodup
      rw [hh,List.nodup_cons]
      refine ⟨fun hm=>?_,hx2⟩
      have:=hx3 _ hm
      simp only [List.length_cons] at this
      omega
     ·intro j hj
      have hj':j∈hd1 K t ⟨4,(H.ws.length:Int)⟩:=hj
      rw [hh] at hj'
      rw [List.length_append,List.length_cons]
      rcases List.mem_cons.1 hj' with rfl | hj'
      ·omega
      ·have:=hx3 _ hj'
       simp only [List.length_cons] at this
       omega
   ·rw [if_neg h4,if_neg h2] at ho
    rw [if_neg h4]
    refine ⟨[],[],by simp,by simp,Lay.nil,by simp,?_,fun e=>absurd e h4,fun K _=>?_⟩
    ·rcases ho.1 with h | h <;> rw [show ((⟨t.kind,t.n⟩:Wrd),H).1.kind=t.kind from rfl,h] <;> decide
    ·refine ⟨?_,by rw [hd1_leaf h4];simp,by rw [hd1_leaf h4];simp⟩
     unfold Rep
     rw [if_neg h4,if_neg h2]
     exact ⟨ho.1,ho.2.1,ho.2.2,rfl⟩
theorem partsL_app {H:HS} {i k:Nat} (new:List Wrd) (nm:List ByteArray) (h:i+1+k≤H.ws.length):partsL ⟨H.ws ++ new,nm⟩ i k=partsL H i k:=by
 unfold partsL
 show ((H.ws ++ new).drop (i+1)).take k=_
 rw [List.drop_append_of_le_length (by omega),List.take_append_of_le_length (by rw [List.length_drop];omega)]
theorem Rep.app {H:HS} (new:List Wrd) (more:List ByteArray):∀ (t:T) (x:Wrd),Rep H t x→Rep ⟨H.ws ++ new,H.names ++ more⟩ t x:=by
 intro t
 induction t using T.ind with
 | h t ih =>
  intro x hr
  unfold Rep at hr ⊢
  by_cases e4:t.kind=4
  ·rw [if_pos e4] at hr ⊢
   obtain ⟨hn,hs,i,rfl,hw,hl,hp⟩:=hr
   refine ⟨hn,hs,i,rfl,?_,by show _≤(H.ws ++ new).length;rw [List.length_append];omega,?_⟩
   ·show (H.ws ++ new)[i]?=_
    rw [List.getElem?_append_left (by omega)];exact hw
   ·rw [partsL_app new _ hl]
    have hpl:=hp.length
    exact RepL.of hpl fun j h1 h2=>ih _ (List.getElem_mem h1) _ (hp.at j h1 h2)
  ·rw [if_neg e4] at hr ⊢
   by_cases e2:t.kind=2
   ·rw [if_pos e2] at hr ⊢
    obtain ⟨h1,h2,i,rfl,h3⟩:=hr
    refine ⟨h1,h2,i,rfl,?_⟩
    show (H.names ++ more)[i]?=_
    rw [List.getElem?_append_left (List.getElem?_eq_some_iff.1 h3).1];exact h3
   ·rw [if_neg e2] at hr ⊢
    exact hr
structure PutR (H:HS) (t:T) (x:Wrd) (H':HS):Prop where
 wf:WF H'
 rep:Rep H' t x
 good:GoodW H' x
 old:∀ u y,Rep H u y→Rep H' u y
 nd:(hd1 H' t x).Nodup
 fr:∀ i∈hd1 H' t x,H.ws.length≤i
 hdo:∀ ts xs,RepL H ts xs→hdL H' ts xs=hdL H ts xs∧∀ i∈hdL H ts xs,i < H.ws.length
 oldg:∀ y,GoodW H y→GoodW H' y
theorem GoodW.app {H:HS} {x:Wrd} (h:GoodW H x) (new:List Wrd) (nm:List ByteArray):GoodW ⟨H.ws ++ new,nm⟩ x:=fun e=>by
 obtain ⟨i,k,h1,h2,h3⟩:=h e
 exact ⟨i,k,h1,by show (H.ws ++ new)[i]?=_;rw [List.getElem?_append_left (by omega)];exact h2,by show _≤(H.ws ++ new).length;rw [List.length_append];omega⟩
theorem putW_R {H:HS} (hW:WF H) {t:T} (ho:OkT t):PutR H t (putW H t).1 (putW H t).2:=by
 obtain ⟨new,more,h1,h2,h3,h4,h5,h6,h7⟩:=putW_says t ho H
 have he:(putW H t).2=⟨H.ws ++ new,H.names ++ more⟩:=by rw [←h1,←h2]
 have hA:Agree ⟨H.ws ++ new,H.names ++ more⟩ H.ws.length new (H.names ++ more):=⟨fun j x hx=>by
  show (H.ws ++ new)[H.ws.length+j]?=_
  rw [List.getElem?_append_right (by omega),Nat.add_sub_cancel_left];exact hx,by show _≤(H.ws ++ new).length;rw [List.length_append];omega,fun j s hs=>hs⟩
 rw [he]
 refine ⟨hW.grow _ h3 h4,(h7 _ hA).1,fun e=>?_,fun u y hr=>hr.app new more,(h7 _ hA).2.1,fun i hi=>((h7 _ hA).2.2 i hi).1,fun ts xs hr=>hdL_app new _ _ ts (Nat.le_refl _) xs hr,fun y hy=>hy.app new _⟩
 obtain ⟨j,k,g1,g2,g3⟩:=h6 e
 refine ⟨H.ws.length+j,k,g1,?_,?_⟩
 ·show (H.ws ++ new)[H.ws.length+j]?=_
  rw [List.getElem?_append_right (by omega),Nat.add_sub_cancel_left];exact g2
 show _≤(H.ws ++ new).length
 rw [List.length_append];omega
def span (H:HS) (ks:List Nat):List Nat:=ks.flatMap fun i=>List.range' i (1+kN H i)
theorem span_nodup {H:HS} (hW:WF H):∀ (ks:List Nat),(∀ i∈ks,Hd H i (kN H i))→ks.Nodup→(span H ks).Nodup
 | [],_,_=>by simp [span]
 | j :: ks,hd,nd=>by
  have nd':=List.nodup_cons.1 nd
  rw [show span H (j :: ks)=List.range' j (1+kN H j) ++ span H ks by simp [span],List.nodup_append]
  refine ⟨List.nodup_range',span_nodup hW ks (fun i hi=>hd i (by simp [hi])) nd'.2,fun a ha b hb e=>?_⟩
  subst e
  unfold span at hb
  obtain ⟨i,hi,hb⟩:=List.mem_flatMap.1 hb
  rw [List.mem_range'_1] at ha hb
  have hne:j≠i:=fun e=>nd'.1 (e ▸ hi)
  have hdj:=hd j (by simp)
  have hdi:=hd i (by simp [hi])
  by_cases hlt:j < i
  ·exact hW.lay.apart j _ hdj.1 i hlt (by omega) _ hdi.1 rfl
  ·exact hW.lay.apart i _ hdi.1 j (by omega) (by omega) _ hdj.1 rfl
theorem raw_le {H:HS} (hW:WF H) (ks:List Nat) (hd:∀ i∈ks,Hd H i (kN H i)) (nd:ks.Nodup):(raw H ks).length≤H.ws.length:=by
 have h1:=pigeon H.ws.length (span H ks) (span_nodup hW ks hd nd) fun x hx=>by
  unfold span at hx
  obtain ⟨i,hi,hx⟩:=List.mem_flatMap.1 hx
  rw [List.mem_range'_1] at hx
  have:=(hd i hi).2
  omega
 have h2:(span H ks).length=(ks.map fun i=>1+kN H i).sum:=by
  unfold span;rw [List.length_flatMap];simp
 rw [raw_len ks hd];omega
theorem ChInv.le {H:HS} (hW:WF H) {ks:List Nat} {s:Nat} {st:CS} (h:ChInv H ks s st):st.tw.length≤H.ws.length:=by
 rw [h.len];exact raw_le hW ks h.hd h.nd
theorem ChInv.good {H:HS} (hW:WF H) {ks:List Nat} {s:Nat} {st:CS} (h:ChInv H ks s st):∀ x∈raw H ks,GoodW H x:=fun x hx=>by
 unfold raw at hx
 obtain ⟨i,hi,hx⟩:=List.mem_flatMap.1 hx
 unfold blkL at hx
 rcases List.mem_cons.1 hx with hx | hx
 ·rw [hx];exact fun e=>absurd (show (0:Int)=4 from e) (by decide)
 ·exact hW.parts hx
end Go.Proofs.YtedfepnekjjmnabGreat
