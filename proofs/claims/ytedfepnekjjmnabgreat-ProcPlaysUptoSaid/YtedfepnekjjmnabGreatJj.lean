/-
  Contracts and plain laws, joined: ProcK ProcL ProcN ProcQ RAct0 RProc2 TakS. Conditions stand in each.
-/
import Derived.Test.YtedfepnekjjmnabGreatJi
import Derived.Test.YtedfepnekjjmnabGreatProc11
import Derived.Test.YtedfepnekjjmnabGreatSmallC
import Derived.Test.YtedfepnekjjmnabGreatJd
import Derived.Test.YtedfepnekjjmnabGreatRvalR
import Derived.Test.YtedfepnekjjmnabGreatJc
import Derived.Test.YtedfepnekjjmnabGreatJb
namespace Go.Proofs.YtedfepnekjjmnabGreat
open Go.RowKit
set_option linter.unusedSimpArgs false
set_option linter.unusedVariables false
set_option maxRecDepth 100000
set_option maxHeartbeats 8000000
def _root_.Go.World.cut (w:World) (N:Nat):World:={ w with heap:=w.heap.extract 0 N }
theorem cut_below (w:World) (N:Nat) (hN:N≤w.heap.size):(w.cut N).heap.size=N∧Below N (w.cut N) w:=by
 have hs:(w.cut N).heap.size=N:=by show (w.heap.extract 0 N).size=N;simp;omega
 refine ⟨hs,rfl,rfl,rfl,by omega,fun k hk=>?_⟩
 show w.heap[k]?=(w.heap.extract 0 N)[k]?
 rw [Array.getElem?_extract,if_pos (by omega),Nat.zero_add]
theorem DoS.start {w:World} {N db bb bc base:Nat} {self next:Int} {bd:List T} {R Qz:Nat→Prop} {bs:List (Nat×List Value)} (hN:N≤w.heap.size) (hX:Blk w db (doerC (.slice (some ⟨bb,0,none⟩) 4 bc) self next (outC 0 (.slice none 0 0) (.slice none 0 0) (.slice none 0 0)) false))
  (hbd:OwnG R base w (.slice (some ⟨bb,0,none⟩) 4 bc) bd) (hR:∀ b,R b→b < w.heap.size→N≤b∧b≠db) (hb:N≤base) (hd:N≤db) (hne:db≠bb) (hbs:∀ p∈bs,Blk w p.1 p.2∧p.1≠db∧p.1≠bb) (hQ:∀ b,Qz b→N≤b∧b < w.heap.size∧b≠db∧b≠bb) :
  ∃ P:Nat→Prop,(∀ b,P b→N≤b)∧(w.cut N).heap.size=N∧DoS P Qz w (w.cut N) w db bb bc self ⟨bd,next,[],[],[],0,false⟩ bs (.slice none 0 0) (.slice none 0 0) (.slice none 0 0):=by
 obtain ⟨hs,hB⟩:=cut_below w N hN
 have hn:∀ b,(Value.slice none 0 0).ownBlock≠some b:=fun b=>by simp [Value.ownBlock]
 have hrow:∀ r∈([rSnd (.slice none 0 0) [],rSpn (.slice none 0 0) [],rLnk (.slice none 0 0) []]:List Rw),∀ b,r.v.ownBlock≠some b:=fun r hr b=>by
  simp only [List.mem_cons,List.not_mem_nil,or_false] at hr
  rcases hr with rfl | rfl | rfl <;> exact hn b
 have hbl:=(OwnG.block hbd) bb rfl
 refine ⟨fun b=>N≤b∧b < w.heap.size∧b≠db∧b≠bb,fun b h=>h.1,hs,⟨⟨by rw [hs];exact hB,fun b h=>⟨h.2.1,fun hf=>hf.elim h.2.2.1 h.2.2.2,fun r hr=>hrow r hr b⟩,fun r hr=>?_,?_,fun b hf=>?_,fun p hp=>⟨(hbs p hp).1,fun hf=>hf.elim (hbs p hp).2.1 (hbs p hp).2.2,fun r hr=>hrow r hr _⟩⟩,hX,?_,hne,hQ,fun _ _=>rfl⟩⟩
 ·simp only [List.mem_cons,List.not_mem_nil,or_false] at hr
  rcases hr with rfl | rfl | rfl <;> exact OwnXQ.nil _ _ _ _
 ·refine List.pairwise_cons.2 ⟨fun s _ b hb'=>absurd hb' (hn b),List.pairwise_cons.2 ⟨fun s _ b hb'=>absurd hb' (hn b),List.pairwise_cons.2 ⟨fun s hs=>by simp at hs,List.Pairwise.nil⟩⟩⟩
 ·rw [hs]
  rcases hf with rfl | rfl
  ·exact ⟨hd,hX.lt,fun r hr=>hrow r hr _⟩
  exact ⟨by omega,hbl.2,fun r hr=>hrow r hr _⟩
 rw [hs]
 refine OwnT.to hbd hb (fun b h _=>?_) fun _ _ _=>rfl
 have h1:=hR b h.1 h.2.1
 exact ⟨⟨h1.1,h.2.1,h1.2,fun e=>h.2.2 (by rw [e];rfl)⟩,h.2⟩
theorem eraseIdx_map {α β:Type _} (f:α→β):∀ (l:List α) (i:Nat),(l.eraseIdx i).map f=(l.map f).eraseIdx i
 | [],_=>rfl
 | x :: l,0=>rfl
 | x :: l,i+1=>by
  show f x :: (l.eraseIdx i).map f=f x :: (l.map f).eraseIdx i
  rw [eraseIdx_map f l i]
theorem eraseIdx_sub {α:Type _}:∀ (l:List α) (i:Nat),(l.eraseIdx i).Sublist l
 | [],_=>List.Sublist.refl _
 | x :: l,0=>List.sublist_cons_self ..
 | x :: l,i+1=>(eraseIdx_sub l i).cons_cons x
theorem PrR.erase {G:Nat→Prop} {w w3:World} {pb:Nat} {name:ByteArray} {room:Int} {nb u:Nat} {F:Nat→Prop} {B:Nat} {H:HS} {L:TW} {wl:List Wrd} {gw cw i:Nat} (hwl:wl=wdsL L) (hV:PrV F w pb name room L [] B H (.slice (some ⟨gw,0,none⟩) wl.length cw)) (hn:H.names.length≤nb) (hu:H.ws.length=u) (hF:∀ b,F b→G b) (hp:G pb) (hg:G gw) 
  (hO:OwnW w3 (.slice (some ⟨gw,0,none⟩) (wl.length - 1) cw) (wl.eraseIdx i)) (hK:Keep (fun b=>b=gw) w w3) :
  PrR G (w3.setCell ⟨pb,2,none⟩ (.slice (some ⟨gw,0,none⟩) (wl.length - 1) cw)) pb name room nb u (L.eraseIdx i) []:=by
 refine ⟨F,B,H,.slice (some ⟨gw,0,none⟩) (wl.length - 1) cw,hV.words' hK.size (fun b hb hne=>hK.block b hb fun e=>hne (by rw [e];rfl)) ?_ (fun b hb=>.inl hb) ?_,hn,hu,hF,hp,fun b hb=>?_⟩
 ·have e:wdsL (L.eraseIdx i)=(wdsL L).eraseIdx i:=eraseIdx_map _ _ _
  rw [e,←hwl];exact hO
 ·rw [List.append_nil]
  have h1:=hV.ph
  rw [List.append_nil] at h1
  exact h1.sub (eraseIdx_sub L i)
 obtain rfl:gw=b:=by simpa [Value.ownBlock] using hb
 exact hg
theorem clFit_out {c:Clau} {st m:T} {bd:List T} (h:clFit c st m=some bd) (hs:yC [st]≤2000) (hm:yC [m]≤2000):bd.length=4∧∀ y∈bd,yC [y]≤2000:=by
 unfold clFit at h
 obtain ⟨b1,h1,h2⟩:=Option.bind_eq_some_iff.1 h
 exact fitsR_out h2 hm (fitsR_out h1 hs freeL_small).2
theorem clFirst_out {st m:T}:∀ {cs:List Clau} {c:Clau} {bd:List T},clFirst st m cs=some (c,bd)→c∈cs∧clFit c st m=some bd
 | [],_,_,h=>by cases h
 | x :: cs,c,bd,h=>by
  unfold clFirst at h
  split at h
  ·rename_i b hb
   simp only [Option.some.injEq,Prod.mk.injEq] at h
   obtain ⟨rfl,rfl⟩:=h
   exact ⟨by simp,hb⟩
  ·have:=clFirst_out h
   exact ⟨mT this.1,this.2⟩
theorem msFirst_out {cs:List Clau} {st:T} (hs:yC [st]≤2000):∀ {ms:List T} {k i:Nat} {c:Clau} {bd:List T},(∀ m∈ms,yC [m]≤2000)→msFirst cs st k ms=some (i,c,bd)→c∈cs∧k≤i∧i < k+ms.length∧bd.length=4∧∀ y∈bd,yC [y]≤2000
 | [],_,_,_,_,_,h=>by cases h
 | m :: ms,k,i,c,bd,hm,h=>by
  unfold msFirst at h
  split at h
  ·rename_i c' bd' hc
   simp only [Option.some.injEq,Prod.mk.injEq] at h
   obtain ⟨rfl,rfl,rfl⟩:=h
   have h1:=clFirst_out hc
   exact ⟨h1.1,Nat.le_refl _,by simp,clFit_out h1.2 hs (hm m (by simp))⟩
  ·have:=msFirst_out hs (fun x hx=>hm x (mT hx)) h
   exact ⟨this.1,by omega,by have:=this.2.2.1;simp;omega,this.2.2.2⟩
def foldA (self:Int) (d:Dst) (ds:List Deed):Dst:=ds.foldl (doA self) d
theorem foldA_snoc (self:Int) (d:Dst) {ds:List Deed} {k:Nat} (hk:k < ds.length):foldA self d (ds.take (k+1))=doA self (foldA self d (ds.take k)) ds[k]:=by
 unfold foldA
 rw [take_snoc' ds k hk,List.foldl_append];rfl
theorem foldA_len (self:Int) (ds:List Deed):∀ d:Dst,d.bd.length=4→(foldA self d ds).bd.length=4:=by
 induction ds with
 | nil=>intro d h;exact h
 | cons a ds ih=>intro d h;exact ih _ (doA_len self d a h)
theorem foldA_small (self:Int) (ds:List Deed):∀ d:Dst,(∀ t∈d.bd,yC [t]≤2000)→∀ t∈(foldA self d ds).bd,yC [t]≤2000:=by
 induction ds with
 | nil=>intro d h;exact h
 | cons a ds ih=>intro d h;exact ih _ (doA_small self d a h)
theorem foldA_rows (self:Int) (ds:List Deed):∀ (d:Dst) (n:Nat),(d.sends.length≤n∧d.spawns.length≤n∧d.links.length≤n)→(foldA self d ds).sends.length≤n+ds.length∧(foldA self d ds).spawns.length≤n+ds.length∧(foldA self d ds).links.length≤n+ds.length:=by
 induction ds with
 | nil=>intro d n h;exact h
 | cons a ds ih =>
  intro d n h
  have:=ih _ (n+1) (doA_rows self d a h)
  simp only [List.length_cons]
  have e:n+1+ds.length=n+(ds.length+1):=by omega
  rw [e] at this
  exact this
theorem doA_next (self:Int) (d:Dst) (a:Deed):d.next≤(doA self d a).next∧(doA self d a).next≤d.next+1:=by
 unfold doA
 repeat' split
 all_goals (constructor <;> (try simp) <;> omega)
theorem foldA_next (self:Int) (ds:List Deed):∀ d:Dst,d.next≤(foldA self d ds).next∧(foldA self d ds).next≤d.next+ds.length:=by
 induction ds with
 | nil=>intro d;exact ⟨Int.le_refl _,by simp [foldA]⟩
 | cons a ds ih =>
  intro d
  have h1:=doA_next self d a
  have h2:=ih (doA self d a)
  have e:foldA self d (a :: ds)=foldA self (doA self d a) ds:=rfl
  rw [e]
  simp only [List.length_cons]
  constructor <;> omega
/-! ### the small process -/
section
variable {l:List Behv} {name:ByteArray} {room self next:Int} {st m t:T} {ml us:List T} {k j:Nat} {c:Clau} {bd:List T} {dd:Dst} {n:Int}
theorem stepE_to (h:(toA l).2≠0):stepE l name room self next us=((zeroTak,(toA l).2),us):=by unfold stepE;rw [if_pos h]
theorem stepE_arg (h:(toA l).2=0) (h2:self < 1∨99 < self∨next < 1∨92 < next):stepE l name room self next us=((zeroTak,1),us):=by unfold stepE;rw [if_neg (by simp [h]),if_pos h2]
theorem stepE_name (h:(toA l).2=0) (h2:¬(self < 1∨99 < self∨next < 1∨92 < next)) (h3:namedI name l = -1):stepE l name room self next us=((zeroTak,4),us):=by
 unfold stepE;rw [if_neg (by simp [h]),if_neg h2,if_pos (by omega)]
theorem stepE_none (h:(toA l).2=0) (h2:¬(self < 1∨99 < self∨next < 1∨92 < next)) (h3:namedI name l=(k:Int)) (hk:k < l.length) (h4:msFirst l[k].clauses st 1 ml=none):stepE l name room self next (st :: ml)=((zeroTak,4),st :: ml):=by
 have e:l.getD (namedI name l).toNat ⟨⟨#[]⟩,[]⟩=l[k]:=by rw [h3,Int.toNat_natCast,List.getD_eq_getElem?_getD,List.getElem?_eq_getElem hk];rfl
 unfold stepE
 rw [if_neg (by simp [h]),if_neg h2,if_neg (by omega),e]
 unfold stepO
 rw [show (st :: ml).getD 0 yJ=st from rfl,show (st :: ml).tail=ml from rfl,h4]
 rfl
theorem stepE_some (h:(toA l).2=0) (h2:¬(self < 1∨99 < self∨next < 1∨92 < next)) (h3:namedI name l=(k:Int)) (hk:k < l.length) (h4:msFirst l[k].clauses st 1 ml=some (j+1,c,bd)) (hj:j < ml.length) (hm:ml[j]=m) :
  stepE l name room self next (st :: ml)=(((actO room self next st (ml.eraseIdx j) m c bd).1,0),(actO room self next st (ml.eraseIdx j) m c bd).2 :: ml.eraseIdx j):=by
 have e:l.getD (namedI name l).toNat ⟨⟨#[]⟩,[]⟩=l[k]:=by rw [h3,Int.toNat_natCast,List.getD_eq_getElem?_getD,List.getElem?_eq_getElem hk];rfl
 have em:ml.getD j yJ=m:=by rw [←hm,List.getD_eq_getElem?_getD,List.getElem?_eq_getElem hj];rfl
 unfold stepE
 rw [if_neg (by simp [h]),if_neg h2,if_neg (by omega),e]
 unfold stepO
 rw [show (st :: ml).getD 0 yJ=st from rfl,show (st :: ml).tail=ml from rfl,h4]
 simp only [Option.map_some,Nat.add_sub_cancel,em]
theorem actO_bad (hd:dd=foldA self ⟨bd,next,[],[],[],0,false⟩ c.acts) (hr:(t,n)=reckO dd.bd self c.next) (hb:(dd.bad || n != 0)=true):actO room self next st ml m c bd=(⟨m,2,[],[],[]⟩,st):=by
 have e:c.acts.foldl (doA self) ⟨bd,next,[],[],[],0,false⟩=dd:=hd.symm
 unfold actO
 simp only [e,←hr]
 rw [if_pos hb]
theorem actO_full (hd:dd=foldA self ⟨bd,next,[],[],[],0,false⟩ c.acts) (hr:(t,n)=reckO dd.bd self c.next) (hb:(dd.bad || n != 0)=false) (hp:pputE room ml t≠0):actO room self next st ml m c bd=(⟨m,3,[],[],[]⟩,st):=by
 have e:c.acts.foldl (doA self) ⟨bd,next,[],[],[],0,false⟩=dd:=hd.symm
 unfold actO
 simp only [e,←hr]
 rw [if_neg (by simp [hb]),if_neg hp]
theorem actO_ok (hd:dd=foldA self ⟨bd,next,[],[],[],0,false⟩ c.acts) (hr:(t,n)=reckO dd.bd self c.next) (hb:(dd.bad || n != 0)=false) (hp:pputE room ml t=0):actO room self next st ml m c bd=(⟨m,dd.fate,dd.sends,dd.spawns,dd.links⟩,t):=by
 have e:c.acts.foldl (doA self) ⟨bd,next,[],[],[],0,false⟩=dd:=hd.symm
 unfold actO
 simp only [e,←hr]
 rw [if_neg (by simp [hb]),if_pos hp]
end
theorem StepP.early {G:Nat→Prop} {w w':World} {pb:Nat} {name:ByteArray} {room:Int} {nb u:Nat} {L:TW} {r:(TakT×Int)×List T} {e:Ending} {n:Int} (hr:r=((zeroTak,n),yQ L)) (he:e=.returned (.tuple #[.agg #[.int .i64 0,.int .i64 0,.string ⟨#[]⟩,.slice none 0 0,.int .i64 0,.slice none 0 0,.slice none 0 0,.slice none 0 0],.int .i64 n]))
  (hB:Below w.heap.size w w') (h:PrR G w pb name room nb u L []):StepP G w pb name room nb r e w':=by
 subst hr
 exact ⟨[.int .i64 0,.int .i64 0,.string ⟨#[]⟩,.slice none 0 0,.int .i64 0,.slice none 0 0,.slice none 0 0,.slice none 0 0],he,zeroTak_c _ _,Keep.of hB,L,u,rfl,((h.below hB).names (by omega)).mono fun b hb _=>.inl hb⟩
theorem StepP.fin {G:Nat→Prop} {w w':World} {pb:Nat} {name:ByteArray} {room:Int} {nb nb' u':Nat} {L':TW} {r:(TakT×Int)×List T} {us:List T} {e:Ending} {tk:TakT} {cs:List Value} (hr:r=((tk,0),us)) (he:e=.returned (.tuple #[.agg cs.toArray,.int .i64 0])) (ht:takC (fun b=>w.heap.size≤b) w' tk cs) (hK:Keep G w w') (hL:yQ L'=us)
  (hP:PrR (fun b=>G b∨w.heap.size≤b) w' pb name room nb' u' L' []) (hn:nb'≤nb+4000):StepP G w pb name room nb r e w':=by
 subst hr
 exact ⟨cs,he,ht,hK,L',u',hL,hP.names hn⟩
theorem keep_cut {G:Nat→Prop} {w W6 w0 W9:World} {N:Nat} (h1:Keep G w W6) (h2:Below N w0 W6) (h3:Below N w0 W9) (hN:w.heap.size≤N) (hs:W6.heap.size≤W9.heap.size):Keep G w W9 :=
 ⟨h3.os.trans (h2.os.symm.trans h1.os),h3.tape.trans (h2.tape.symm.trans h1.tape),h3.output.trans (h2.output.symm.trans h1.output),Nat.le_trans h1.size hs,fun k hk hn=>((h3.block k (by omega)).trans (h2.block k (by omega)).symm).trans (h1.block k hk hn)⟩
theorem Keep.other {G:Nat→Prop} {w W W':World} {g:Nat} (h:Keep G w W) (hb:Below 0 W W') (ho:∀ b,b≠g→W'.heap[b]?=W.heap[b]?) (hg:w.heap.size≤g):Keep G w W' :=
 ⟨hb.os.trans h.os,hb.tape.trans h.tape,hb.output.trans h.output,Nat.le_trans h.size hb.size,fun k hk hn=>(ho k (by omega)).trans (h.block k hk hn)⟩
theorem szTaken:(Tryz.prog.info? 50).map (·.size)=some 8:=by kernel_rfl
theorem clausB_bulk {l:List Behv} {b:Behv} (hb:b∈l) {c:Clau} (hc:c∈b.clauses):yC [c.state]≤behvsB l∧yC [c.message]≤behvsB l∧yC [c.next]≤behvsB l∧∀ d∈c.acts,deedB d≤behvsB l:=by
 have h1:=behvsB_mem hb
 have h2:=clausB_mem hc
 have h3:clausB b.clauses≤behvB b:=by unfold behvB;omega
 have h4:clauB c=1+yC [c.state]+yC [c.message]+deedsB c.acts+yC [c.next]:=rfl
 refine ⟨by omega,by omega,by omega,fun d hd=>?_⟩
 have h5:=deedsB_mem hd
 omega

theorem reckO_valF {bd:List T} {self:Int} {x:T} (h:yE x=0) (hb:boundB bd=true) (hs:inB self 1 99=true):reckO bd self x=((valF bd self x).getD yJ,if (valF bd self x).isSome=true then 0 else 7):=by
 cases hv:valF bd self x with
 | some t=>rw [reckO_some h hb hs hv];rfl
 | none=>rw [reckO_none h hb hs hv];rfl
theorem doA_bad (self:Int) (d:Dst) (a:Deed) (h:d.bad=true):(doA self d a).bad=true:=by
 unfold doA
 repeat' split
 all_goals simp [h]
theorem foldA_bad (self:Int) (ds:List Deed):∀ d:Dst,d.bad=true→(foldA self d ds).bad=true:=by
 induction ds with
 | nil=>intro d h;exact h
 | cons a ds ih=>intro d h;exact ih _ (doA_bad self d a h)
theorem foldA_split (self:Int) (d:Dst) (ds:List Deed) (k:Nat):foldA self d ds=foldA self (foldA self d (ds.take k)) (ds.drop k):=by
 unfold foldA
 rw [←List.foldl_append,List.take_append_drop]
theorem pidTm_bnd {n:Int} (h1:1≤n) (h2:n≤99):bndB (pidTm n)=true:=by
 simp [bndB,pidTm,yE,formL_cons,formL,headB,bareB,dpL_cons,dpL,szL_cons,szL,inB,closedL_cons,yF,Lib.toList_data,h1,h2]
theorem boundB_set {l:List T} {k:Nat} {t:T} (h:boundB l=true) (ht:bndB t=true):boundB (l.set k t)=true:=by
 unfold boundB at h ⊢
 simp only [Bool.and_eq_true,List.length_set,List.all_eq_true] at h ⊢
 refine ⟨h.1,fun x hx=>?_⟩
 rcases List.mem_or_eq_of_mem_set hx with h1 | h1
 ·exact h.2 x h1
 subst h1;exact ht
theorem doA_bound (self:Int) (d:Dst) (a:Deed) (h:boundB d.bd=true) (h1:1≤d.next) (h2:d.next≤99):boundB (doA self d a).bd=true:=by
 unfold doA
 repeat' split
 ·exact h
 ·exact boundB_set h (pidTm_bnd h1 h2)
 ·exact h
 ·exact h
 exact h
theorem foldA_bound (self:Int) (ds:List Deed):∀ d:Dst,boundB d.bd=true→1≤d.next→d.next+ds.length≤100→boundB (foldA self d ds).bd=true:=by
 induction ds with
 | nil=>intro d h _ _;exact h
 | cons a ds ih =>
  intro d h h1 h2
  have h3:=doA_next self d a
  simp only [List.length_cons] at h2
  exact ih _ (doA_bound self d a h h1 (by omega)) (by omega) (by omega)
theorem toA_chk {l:List Behv} (h:(toA l).2=0):yE (progT l)=0:=by
 unfold toA at h
 split at h
 ·split at h
  ·assumption
  exact h
 simp at h
theorem toA_checks {l:List Behv} (h:(toA l).2=0) {b:Behv} (hb:b∈l) {c:Clau} (hc:c∈b.clauses):yE c.state=0∧yE c.message=0∧yE c.next=0 ∧
  ∀ d∈c.acts,1≤d.kind∧d.kind≤4∧(yE d.to=0∨d.to=yJ)∧(yE d.what=0∨d.what=yJ)∧(d.kind=1→yE d.to=0∧yE d.what=0)∧(d.kind=2→yE d.what=0)∧(d.kind=3→yE d.to=0):=by
 have h0:=toA_chk h
 have h1:yE (behvT b)=0:=check_args h0 (by show behvT b∈yP sCode :: l.map behvT;exact mT (List.mem_map.2 ⟨b,hb,rfl⟩))
 have h2:yE (clauT c)=0:=check_args h1 (by show clauT c∈yP sBeh :: yP b.name :: b.clauses.map clauT;exact mT (mT (List.mem_map.2 ⟨c,hc,rfl⟩)))
 have hm:∀ x∈[yP sOn,c.state,c.message,tupT (c.acts.map deedT),c.next],yE x=0:=fun x hx=>check_args h2 hx
 refine ⟨hm _ (by simp),hm _ (by simp),hm _ (by simp),fun d hd=>?_⟩
 have h3:yE (deedT d)=0:=check_args (hm (tupT (c.acts.map deedT)) (by simp)) (by show deedT d∈c.acts.map deedT;exact List.mem_map.2 ⟨d,hd,rfl⟩)
 have hok:=toA_prog h
 unfold progOk at hok
 simp only [Bool.and_eq_true,decide_eq_true_eq] at hok
 have hok:=List.all_eq_true.1 hok.2 b hb
 unfold behvOk at hok
 simp only [Bool.and_eq_true,decide_eq_true_eq] at hok
 have hok:=List.all_eq_true.1 hok.2 c hc
 unfold clauOk at hok
 simp only [Bool.and_eq_true,decide_eq_true_eq] at hok
 have hok:=List.all_eq_true.1 hok.2 d hd
 unfold deedOk at hok
 unfold deedT at h3
 by_cases k1:d.kind=1
 ·rw [if_pos k1] at h3
  have ha:∀ x∈[yP sSend,d.to,d.what],yE x=0:=fun x hx=>check_args h3 hx
  have e1:=ha d.to (by simp)
  have e2:=ha d.what (by simp)
  exact ⟨by omega,by omega,.inl e1,.inl e2,fun _=>⟨e1,e2⟩,fun h=>by omega,fun h=>by omega⟩
 rw [if_neg k1] at h3 hok
 by_cases k2:d.kind=2
 ·rw [if_pos k2] at h3 hok
  simp only [Bool.and_eq_true,emptyB_iff] at hok
  have e2:=check_args (t:=tupT [yP sSpawn,yP d.name,d.what,vT d.var]) h3 (y:=d.what) (by simp [tupT])
  exact ⟨by omega,by omega,.inr hok.2,.inl e2,fun h=>by omega,fun _=>e2,fun h=>by omega⟩
 rw [if_neg k2] at h3 hok
 by_cases k3:d.kind=3
 ·rw [if_pos k3] at h3 hok
  simp only [Bool.and_eq_true,emptyB_iff] at hok
  have e1:=check_args (t:=tupT [yP sLink,d.to]) h3 (y:=d.to) (by simp [tupT])
  exact ⟨by omega,by omega,.inl e1,.inr hok.2,fun h=>by omega,fun h=>by omega,fun _=>e1⟩
 rw [if_neg k3] at h3 hok
 by_cases k4:d.kind=4
 ·rw [if_pos k4] at hok
  simp only [Bool.and_eq_true,emptyB_iff] at hok
  exact ⟨by omega,by omega,.inr hok.1.2,.inr hok.2,fun h=>by omega,fun h=>by omega,fun h=>by omega⟩
 rw [if_neg k4] at hok;cases hok
theorem clFit_bound {c:Clau} {st m:T} {bd:List T} (h:clFit c st m=some bd):boundB bd=true:=by
 unfold clFit at h
 obtain ⟨b1,h1,h2⟩:=Option.bind_eq_some_iff.1 h
 obtain ⟨a1,a2,a3,a4⟩:=fitsR_len h2
 rw [fitsR_ok a1 a2 (by rw [a3,a4];rfl)] at h2
 have h2:fitO c.message m b1=some bd:=h2
 unfold fitO at h2
 split at h2
 ·simp only [Option.some.injEq] at h2
  subst h2
  exact fit_bound a4 a2 a3
 cases h2
def rsndF:ElT sndE where
 e:=104
 sl:=39
 bytes:=64
 z:=.agg #[.int .i64 0,.int .i64 0,.int .i64 0,.string ⟨#[]⟩,.slice none 0 0]
 hund:=Tryz.underlying39
 info:=by kernel_rfl
 hzs:=rfl
 hk:=by decide
 hb:=by decide
def rspnF:ElT spnE where
 e:=109
 sl:=40
 bytes:=80
 z:=.agg #[.int .i64 0,.string ⟨#[]⟩,.int .i64 0,.int .i64 0,.string ⟨#[]⟩,.slice none 0 0]
 hund:=Tryz.underlying40
 info:=by kernel_rfl
 hzs:=rfl
 hk:=by decide
 hb:=by decide
def rRSnd (v:Value) (l:List (Int×T)):Rw:=⟨_,sndE,rsndF,v,l⟩
def rRSpn (v:Value) (l:List (Int×ByteArray×T)):Rw:=⟨_,spnE,rspnF,v,l⟩
theorem OwnG.rxT {P:Nat→Prop} {base:Nat} {w:World} {v:Value} {ts:List T} (h:OwnG P base w v ts):RX termE (fun b=>v.ownBlock=some b) P w ts v:=by
 obtain ⟨a,cap,cs,rfl,h1,h2,h3⟩:=OwnT.rsl2 h
 exact ⟨a,cap,cs,rfl,h1,cells_termE.2 (h2.to (fun b hb _=>hb.1) fun _ _ _=>rfl),h3⟩
theorem RActS.start (A:Nat→Prop) {w:World} {N db bb bc base:Nat} {cs:List Value} {bd:List T} {R:Nat→Prop} {bs:List (Nat×List Value)} (hN:N≤w.heap.size) (hX:Blk w db cs) (hbd:OwnG R base w (.slice (some ⟨bb,0,none⟩) 4 bc) bd) (hR:∀ b,R b→b < w.heap.size→A b∧b≠db) (hb:N≤base) (hd:N≤db) (hne:db≠bb)
  (hbs:∀ p∈bs,Blk w p.1 p.2∧p.1≠db∧p.1≠bb) :
  (w.cut N).heap.size=N∧DoM (fun b=>A b∧b < w.heap.size∧b≠db∧b≠bb) (fun b=>A b∧b < w.heap.size∧b≠db∧b≠bb) w (w.cut N) w db bb bc cs bd bs [rRSnd (.slice none 0 0) [],rRSpn (.slice none 0 0) [],rLnk (.slice none 0 0) []]:=by
 obtain ⟨hs,hB⟩:=cut_below w N hN
 have hn:∀ b,(Value.slice none 0 0).ownBlock≠some b:=fun b=>by simp [Value.ownBlock]
 have hrow:∀ r∈([rRSnd (.slice none 0 0) [],rRSpn (.slice none 0 0) [],rLnk (.slice none 0 0) []]:List Rw),∀ b,r.v.ownBlock≠some b:=fun r hr b=>by
  simp only [List.mem_cons,List.not_mem_nil,or_false] at hr
  rcases hr with rfl | rfl | rfl <;> exact hn b
 have hbl:=(OwnG.block hbd) bb rfl
 refine ⟨hs,⟨by rw [hs];exact hB,fun b h=>⟨h.2.1,fun hf=>hf.elim h.2.2.1 h.2.2.2,fun r hr=>hrow r hr b⟩,fun r hr=>?_,?_,fun b hf=>?_,fun p hp=>⟨(hbs p hp).1,fun hf=>hf.elim (hbs p hp).2.1 (hbs p hp).2.2,fun r hr=>hrow r hr _⟩⟩,hX,?_,hne,fun _ h=>h,fun _ _=>rfl⟩
 ·simp only [List.mem_cons,List.not_mem_nil,or_false] at hr
  rcases hr with rfl | rfl | rfl <;> exact OwnXQ.nil _ _ _ _
 ·refine List.pairwise_cons.2 ⟨fun s _ b hb'=>absurd hb' (hn b),List.pairwise_cons.2 ⟨fun s _ b hb'=>absurd hb' (hn b),List.pairwise_cons.2 ⟨fun s hs=>by simp at hs,List.Pairwise.nil⟩⟩⟩
 ·rw [hs]
  rcases hf with rfl | rfl
  ·exact ⟨hd,hX.lt,fun r hr=>hrow r hr _⟩
  exact ⟨by omega,hbl.2,fun r hr=>hrow r hr _⟩
 rw [hs]
 refine OwnT.to hbd hb (fun b h _=>?_) fun _ _ _=>rfl
 exact ⟨⟨(hR b h.1 h.2.1).1,h.2.1,(hR b h.1 h.2.1).2,fun e=>h.2.2 (by rw [e];rfl)⟩,h.2⟩
theorem zero_chk:yE yJ≠0:=by simp [yE,yJ,formL_cons,formL,headB]
theorem rvalueX_c (bd:List T) (self:Int) (hl:bd.length=4) (x:T) (R S:Nat→Prop) (w:World) (v vb:Value) (hv:RT S w x v) (hb:RX termE R S w bd vb) (hR:∀ b,R b→b < w.heap.size) (hS:∀ b,S b→b < w.heap.size) (hbk:yC [x]+yC bd≤2000000) (hf:yE x=0∨x=yJ) :
  Calls Tryz.prog 57 #[v,vb,.int .i64 self] w (VF S w (valF bd self x)):=by
 rcases hf with hf | rfl
 ·exact rvalueR_c bd self hl x R S w v vb hv hb hR hS hbk (check_form' hf)
 exact rvalueZ_c bd self hl R S w v vb hv hb hR hS hbk
theorem RSl.rxT {S:Nat→Prop} {w:World} {ts:List T} {v:Value} (h:RSl S w ts v):RX termE S S w ts v:=by
 obtain ⟨a,cap,cs,rfl,h1,h2,h3⟩:=h.rsl2
 exact ⟨a,cap,cs,rfl,h1,cells_termE.2 h2,h3⟩
def RDelP (S St:Nat→Prop) (w:World) (qb:Nat) (name:ByteArray) (room:Int) (st:T) (ml:List T) (t:T) (e:Ending) (w':World):Prop :=
 e=.returned (.int .i64 (delE room (st :: ml) t))∧Keep (fun b=>b=qb) w w'∧∃ S':Nat→Prop,(∀ b,S' b→S b∨St b∨w.heap.size≤b)∧QR S' w' qb name room st (if delE room (st :: ml) t=0 then ml ++ [t] else ml)
theorem RDelP.early {S St:Nat→Prop} {w w':World} {qb:Nat} {name:ByteArray} {room:Int} {st:T} {ml:List T} {t:T} {e:Ending} {n:Int} (hd:delE room (st :: ml) t=n) (hn:n≠0) (he:e=.returned (.int .i64 n)) (h:QR S w qb name room st ml) (hB:Below w.heap.size w w'):RDelP S St w qb name room st ml t e w':=by
 subst hd
 exact ⟨he,Keep.of hB,S,fun b hb=>.inl hb,by rw [if_neg hn];exact h.below hB⟩
theorem rpdel_c (S St:Nat→Prop) (w:World) (qb:Nat) (name:ByteArray) (room:Int) (st:T) (ml:List T) (t:T) (v:Value) (h:QR S w qb name room st ml) (hv:RT St w t v) (hSt:∀ b,St b→b < w.heap.size∧b≠qb) (hbu:yC [st]≤2000∧∀ m∈ml,yC [m]≤2000) (hbt:yC [t]≤1099511627776) (hz:szL (st :: ml)≤1000) (hl:ml.length≤100) :
  Calls Tryz.prog 8 #[.pointer (some ⟨qb,0,none⟩),v] w (RDelP S St w qb name room st ml t):=by
 have HQ:=J h
 obtain ⟨a,c,vm,hX,hT,hM,hSS⟩:=h
 obtain ⟨am,cm,rfl,hcm,hrm⟩:=hM
 obtain ⟨at1,ct1,rfl,hct,hrt⟩:=hv
 obtain ⟨W0,hW0⟩:=I (w.alloc (.cells #[.int .i64 t.kind,.int .i64 t.n,.string t.name,.slice at1 t.args.length ct1] 25))
 obtain ⟨g3,hg3⟩:=I (w.heap.size)
 have HB0:Hid (Below w.heap.size w W0):=J (by rw [hW0];exact yA _ _)
 have HG0:Hid (Blk W0 g3 [.int .i64 t.kind,.int .i64 t.n,.string t.name,.slice at1 t.args.length ct1]):=J (by rw [hW0];exact Blk.new _ _ _ _ hg3)
 have HXW:Hid (Blk w qb [.string name,.int .i64 room,.int .i64 st.kind,.int .i64 st.n,.string st.name,.slice a st.args.length c,.slice am ml.length cm]):=J hX
 have HQL:Hid (qb < w.heap.size):=J hX.lt
 have HG3N:Hid (g3≠qb):=J (by have:=hX.lt;omega)
 have HTW:Hid (RT St w t (.agg #[.int .i64 t.kind,.int .i64 t.n,.string t.name,.slice at1 t.args.length ct1])):=J ⟨at1,ct1,rfl,hct,hrt⟩
 have HSW:=J hT
 have HMW:Hid (RX termE S S w ml (.slice am ml.length cm)):=J (RSl.rxT ⟨am,cm,rfl,hcm,hrm⟩)
 have HPP:Hid (∀ b,(S b∨St b)→b < w.heap.size∧b≠qb):=J fun b hb=>hb.elim (hSS b) (hSt b)
 have HBU:=J hbu;have HZL:=J hz;have HML:=J hl
 have z6:=(hX.step HB0.out).cell 6 _ rfl
 obtain ⟨y0,y1,y2,y3⟩:=HG0.out.c4 0 1 2 3
 clear hX hT hcm hrm hct hrt hSS hSt hbu hz
 go_enter Tryz.func8,Tryz.ntmps8
 go_upto_region 1 with fail
 rw [←hW0,←hg3]
 clear hW0 hg3
 by_cases h20:20≤ml.length
 ·have HDE:Hid (delE room (st :: ml) t=2):=J (by unfold delE;rw [if_pos (by simp;omega)])
  have q20:(20:Int)≤(ml.length:Int):=by omega
  clear h20
  go_wp2_with fail
  go_ret
  exact RDelP.early HDE.out (by decide) rfl HQ.out HB0.out
 have HDE0:Hid (delE room (st :: ml) t=pputE room (st :: ml) t):=J (by unfold delE;rw [if_neg (by simp;omega)])
 have q20:(ml.length:Int) < 20:=by omega
 clear h20
 go_wp2_with fail
 refine (rputable_c t St W0 _ (HTW.out.below HB0.out) (fun b hb=>by have:=HPP.out b (.inr hb);have:=HB0.out.size;omega) hbt).mono ?_
 rintro e w1 ⟨rfl,hB1⟩
 have HB1:Hid (Below w.heap.size w w1):=J (yB HB0.out HB0.out.size hB1)
 have HG1:=J (HG0.out.step hB1)
 clear hB1 z6 y0 y1 y2 y3
 by_cases hp:putE t=0
 rotate_left 1
 ·have HDE:Hid (delE room (st :: ml) t=putE t):=J (by rw [HDE0.out];unfold pputE;rw [if_pos hp])
  have HNE:=J hp
  have hpb:(putE t != 0)=true:=by simpa using hp
  clear hp
  go_wp2_with fail
  go_ret
  exact RDelP.early HDE.out HNE.out rfl HQ.out HB1.out
 have HP0:=J hp
 have HSZT:Hid (szL [t]≤200):=J (by
  obtain ⟨hc,hcl⟩:=putE_yes hp
  exact (check_ok hc hcl).2.2)
 rw [hp]
 clear hp
 have hadd:IntKind.i64.wrap ((szL (st :: ml):Int)+(szL [t]:Int))=(szL (st :: ml):Int)+(szL [t]:Int):=by (have:=HZL.out;have:=HSZT.out);rw [IntKind.wrap_i64];omega
 have HQ2:=J (HQ.out.below HB1.out)
 have HT2:=J (HTW.out.below HB1.out)
 have HX1:=J (HXW.out.step HB1.out)
 have HQ6:Hid (∀ w':World,Below w1.heap.size w1 w'→w'.cell? ⟨g3,0,none⟩=some (.int .i64 t.kind)∧w'.cell? ⟨g3,1,none⟩=some (.int .i64 t.n)∧w'.cell? ⟨g3,2,none⟩=some (.string t.name)∧w'.cell? ⟨g3,3,none⟩=some (.slice at1 t.args.length ct1)∧w'.cell? ⟨qb,1,none⟩=some (.int .i64 room)):=J fun w' h=>⟨(HG1.out.step h).cell 0 _ rfl,(HG1.out.step h).cell 1 _ rfl,(HG1.out.step h).cell 2 _ rfl,(HG1.out.step h).cell 3 _ rfl,(HX1.out.step h).cell 1 _ rfl⟩
 go_upto_region 6 with fail
 refine yK (fun w'=>w'.cell? ⟨g3,0,none⟩=some (.int .i64 t.kind)∧w'.cell? ⟨g3,1,none⟩=some (.int .i64 t.n)∧w'.cell? ⟨g3,2,none⟩=some (.string t.name)∧w'.cell? ⟨g3,3,none⟩=some (.slice at1 t.args.length ct1)∧w'.cell? ⟨qb,1,none⟩=some (.int .i64 room)) (by as_aux_lemma=>kernel_rfl) (fun Wd h=>HQ6.out _ h) ?_
 intro V0 hB hWd hWd' hHeld
 have HV0:=J hB
 clear hB
 refine rgT 0 _ hHeld ?_
 refine rgT 2 _ hHeld ?_
 refine rgT 5 _ hHeld ?_
 refine rgT 6 _ hHeld ?_
 refine rgT 7 _ hHeld ?_
 refine rgT 8 _ hHeld ?_
 refine rgO 1 fun K hK=>?_
 go_simp
 go_at_call 15
 refine (rlive_c S V0 qb name room st ml (HQ2.out.below HV0.out) (by have:=HBU.out.1;omega) (fun m hm=>by have:=HBU.out.2 m hm;omega) (by have:=HZL.out;omega) (by have:=HML.out;omega)).mono ?_
 rintro e V1 ⟨rfl,hB⟩
 have HV1:=J (yB HV0.out HV0.out.size hB)
 clear hB
 refine hK.out _ _ (HQ6.out _ HV1.out) fun _=>?_
 clear hK K hHeld;rename_i hHeld;try simp only [Act.put,pA,pB,pC]
 refine rgO 3 fun K hK=>?_
 go_simp
 go_at_call 26
 refine (rsize_c t St V1 _ (HT2.out.below HV1.out) (by omega)).mono ?_
 rintro e V2 ⟨rfl,hB⟩
 have HV2:=J (yB HV1.out HV1.out.size hB)
 clear hB
 refine hK.out _ _ (HQ6.out _ HV2.out) fun _=>?_
 clear hK K hHeld;rename_i hHeld;try simp only [Act.put,pA,pB,pC]
 refine rgT 4 _ hHeld ?_
 refine rgT 9 _ hHeld ?_
 refine rgD ?_
 clear hHeld
 have HBV:Hid (Below w.heap.size w V2):=J (yB HB1.out HB1.out.size HV2.out)
 have HG3:=J (HG1.out.step HV2.out)
 have HXV:=J (HX1.out.step HV2.out)
 have HMV:=J (HMW.out.below HBV.out)
 have HTV:=J (HTW.out.below HBV.out)
 have HSV:=J (HSW.out.below HBV.out)
 by_cases hf:room < (szL (st :: ml):Int)+(szL [t]:Int)
 ·have HDE:Hid (delE room (st :: ml) t=6):=J (by rw [HDE0.out];unfold pputE;rw [if_neg (by simp [HP0.out]),if_pos hf])
  go_wp2_with fail
  go_ret
  exact RDelP.early HDE.out (by decide) rfl HQ.out HBV.out
 have HDE:Hid (delE room (st :: ml) t=0):=J (by rw [HDE0.out];unfold pputE;rw [if_neg (by simp [HP0.out]),if_neg hf])
 have hf:=Int.not_lt.1 hf
 go_upto_region 8 with fail
 refine yK (fun w'=>w'.cell? ⟨g3,0,none⟩=some (.int .i64 t.kind)∧w'.cell? ⟨g3,1,none⟩=some (.int .i64 t.n)∧w'.cell? ⟨g3,2,none⟩=some (.string t.name)∧w'.cell? ⟨g3,3,none⟩=some (.slice at1 t.args.length ct1)) (by as_aux_lemma=>kernel_rfl) (fun Wd h=>⟨(HG3.out.step h).cell 0 _ rfl,(HG3.out.step h).cell 1 _ rfl,(HG3.out.step h).cell 2 _ rfl,(HG3.out.step h).cell 3 _ rfl⟩) ?_
 intro X0 hB hWd hWd' hHeld
 have HBX0:Hid (Below w.heap.size w X0):=J (yB HBV.out HBV.out.size hB)
 have HX2:=J (HXV.out.step hB)
 have HMX:=J (HMV.out.below hB)
 have HT8:=J (HTV.out.below hB)
 have HS0:=J (HSV.out.below hB)
 have HGX:=J (HG3.out.step hB)
 have HQ8:Hid (∀ w':World,Below X0.heap.size X0 w'→w'.cell? ⟨g3,0,none⟩=some (.int .i64 t.kind)∧w'.cell? ⟨g3,1,none⟩=some (.int .i64 t.n)∧w'.cell? ⟨g3,2,none⟩=some (.string t.name)∧w'.cell? ⟨g3,3,none⟩=some (.slice at1 t.args.length ct1)):=J fun w' h=>⟨(HGX.out.step h).cell 0 _ rfl,(HGX.out.step h).cell 1 _ rfl,(HGX.out.step h).cell 2 _ rfl,(HGX.out.step h).cell 3 _ rfl⟩
 have HQ8b:Hid (∀ w1:World,Below X0.heap.size X0 w1→∀ w':World,(∀ b,b≠qb→w'.heap[b]?=w1.heap[b]?)→w'.cell? ⟨g3,0,none⟩=some (.int .i64 t.kind)∧w'.cell? ⟨g3,1,none⟩=some (.int .i64 t.n)∧w'.cell? ⟨g3,2,none⟩=some (.string t.name)∧w'.cell? ⟨g3,3,none⟩=some (.slice at1 t.args.length ct1)):=J fun w1 h w' ho=>by
  have hh:=(HGX.out.step h).heap (ho g3 HG3N.out)
  exact ⟨hh.cell 0 _ rfl,hh.cell 1 _ rfl,hh.cell 2 _ rfl,hh.cell 3 _ rfl⟩
 have HR0:Hid (RQ (fun b=>S b∨St b) (fun _=>False) X0 [] X0 [rT (.slice none 0 0) []]):=J ((RQ.start (fun b=>S b∨St b) X0 fun b hb=>by have:=(HPP.out b hb).1;have:=HBX0.out.size;omega).nil termF)
 clear hB
 refine rgT 0 _ hHeld ?_
 refine rgT 1 _ hHeld ?_
 refine rgT 2 _ hHeld ?_
 refine rgT 3 _ hHeld ?_
 refine rgT 6 _ hHeld ?_
 refine rgW 4 7 (fun K hK=>?_) fun K hK=>?_
 ·skip
  have zm:=(HX2.out.step HR0.out.bel).cell 6 _ rfl
  go_simp
  clear zm
  refine hK.out _ _ (HQ8.out _ HR0.out.bel) fun _=>?_
  clear hK K hHeld;rename_i hHeld;try simp only [Act.put,pA,pB,pC]
  refine rgW 5 7 (fun K hK=>?_) fun K hK=>?_
  ·skip
   refine wp_manyQ (w:=X0) _ _ termF rfl [] [] (v:=.slice none 0 0) (xs:=[]) (ys:=ml) (by rfl) (by rfl) HR0.out ((HMX.out.below HR0.out.bel)) (fun b hb=>.inl hb) (by have:=HML.out;simp;omega) ?_
   intro v1 X1 hz hzg hv1
   obtain ⟨gv1,cv1,rfl⟩:=hv1
   simp only [List.length_nil,Nat.zero_add,List.nil_append] at hz ⊢
   have HR1:Hid (RQ (fun b=>S b∨St b) (fun _=>False) X0 [] X1 [rT (.slice gv1 ml.length cv1) ml]):=J hz
   clear hz hzg
   refine hK.out _ _ (HQ8.out _ HR1.out.bel) fun _=>?_
   clear hK K hHeld;rename_i hHeld;try simp only [Act.put,pA,pB,pC]
   refine rgO 7 fun K hK=>?_
   refine build1 _ rfl (by rfl) ?_
   obtain ⟨X2,hXX⟩:=I (X1.alloc (.cells #[.int .i64 t.kind,.int .i64 t.n,.string t.name,.slice at1 t.args.length ct1] 25))
   obtain ⟨gz,hgz⟩:=I (X1.heap.size)
   have HR2:Hid (RQ (fun b=>S b∨St b) (fun _=>False) X0 [(gz,[.int .i64 t.kind,.int .i64 t.n,.string t.name,.slice at1 t.args.length ct1])] X2 [rT (.slice gv1 ml.length cv1) ml]):=J (by rw [hXX];exact HR1.out.alloc #[.int .i64 t.kind,.int .i64 t.n,.string t.name,.slice at1 t.args.length ct1] _ hgz)
   show K _ (X1.alloc (.cells #[.int .i64 t.kind,.int .i64 t.n,.string t.name,.slice at1 t.args.length ct1] 25))
   rw [←hXX,←hgz]
   clear hXX hgz
   refine hK.out _ _ (HQ8.out _ HR2.out.bel) fun _=>?_
   clear hK K hHeld;rename_i hHeld;try simp only [Act.put,pA,pB,pC]
   refine rgO 8 fun K hK=>?_
   refine wp_growQ (w:=X2) _ _ termF rfl [] [] (v:=.slice gv1 ml.length cv1) (xs:=ml) (y:=t) (g0:=gz) (c:=[.int .i64 t.kind,.int .i64 t.n,.string t.name,.slice at1 t.args.length ct1]) (by rfl) (by rfl) HR2.out mS0 (termE_of ((HT8.out.below HR2.out.bel).mono fun b hb=>.inr hb)) rfl (by have:=HML.out;omega) ?_
   intro gn on cv2 X3 hz hzg
   obtain ⟨gv2,hgv2⟩:=I (some (⟨gn,on,none⟩:Addr))
   rw [←hgv2] at hz ⊢
   have HR3:Hid (RQ (fun b=>S b∨St b) (fun _=>False) X0 [(gz,[.int .i64 t.kind,.int .i64 t.n,.string t.name,.slice at1 t.args.length ct1])] X3 [rT (.slice gv2 (ml.length+1) cv2) (ml ++ [t])]):=J hz
   clear hz hzg hgv2
   refine hK.out _ _ (HQ8.out _ HR3.out.bel) fun _=>?_
   clear hK K hHeld;rename_i hHeld;try simp only [Act.put,pA,pB,pC]
   refine rgT 9 _ hHeld ?_
   refine rgT 10 _ hHeld ?_
   refine rgO 11 fun K hK=>?_
   have zb:=HX2.out.step HR3.out.bel
   have zf:=zb.fr
   have zc:=zb.cell 6 _ rfl
   have zl:=zb.lt
   go_simp
   obtain ⟨X9,hX9⟩:=I (X3.setCell ⟨qb,6,none⟩ (.slice gv2 (ml.length+1) cv2))
   have HX9:Hid (Blk X9 qb [.string name,.int .i64 room,.int .i64 st.kind,.int .i64 st.n,.string st.name,.slice a st.args.length c,.slice gv2 (ml.length+1) cv2]):=J (by rw [hX9];exact zb.set 6 _ (by simp))
   have HO9:Hid (∀ b,b≠qb→X9.heap[b]?=X3.heap[b]?):=J fun b hb=>by rw [hX9];exact yD _ qb 6 _ b hb
   have HK9:Hid (Keep (fun b=>b=qb) X0 X9):=J (by rw [hX9];exact (Keep.of HR3.out.bel).setCell _ (.inl rfl))
   have HRF:=HR3
   have HSZ9:Hid (X9.heap.size=X3.heap.size):=J (by rw [hX9];simp)
   rw [←hX9]
   clear hX9 zb zf zc zl
   refine hK.out _ _ (HQ8b.out _ (HRF.out.bel) _ HO9.out) fun _=>?_
   clear hK K hHeld;rename_i hHeld;try simp only [Act.put,pA,pB,pC]
   refine rgD ?_
   clear hHeld
   go_wp2_with fail
   go_ret
   have HROW:=J (RX.rslQ (HRF.out.rx mS0))
   refine ⟨by rw [HDE.out];rfl,(Keep.of HBX0.out).trans (HK9.out.mono fun _ _ h=>h),?_⟩
   rw [if_pos HDE.out]
   have HEQ:Hid (∀ b,b < X0.heap.size→b≠qb→X9.heap[b]?=X0.heap[b]?):=J fun b hb hn=>(HO9.out b hn).trans (HRF.out.bel.block b hb)
   have hsz:=HBX0.out.size
   have hsf:=HRF.out.bel.size
   refine ⟨fun b=>(S b∨St b∨w.heap.size≤b)∧b < X9.heap.size∧b≠qb,fun b hb=>hb.1,a,c,_,HX9.out,HS0.out.to (fun b hb hl=>?_) (fun b hb hl=>?_),HROW.out.to (fun b hb hl=>?_) (fun b hb hl=>?_),fun b hb=>hb.2⟩
   ·have h:=HPP.out b (.inl hb)
    exact ⟨.inl hb,by have:=HSZ9.out;omega,h.2⟩
   ·exact HEQ.out b hl (HPP.out b (.inl hb)).2
   ·rcases hb with hb | hb
    ·have h:=(HRF.out.lt mS0 b hb).1
     exact ⟨.inr (.inr (by omega)),by have:=HSZ9.out;omega,by have:=HQL.out;omega⟩
    have h:=HPP.out b hb
    exact ⟨hb.elim .inl fun h=>.inr (.inl h),by have:=HSZ9.out;omega,h.2⟩
   rcases hb with hb | hb
   ·have h:=(HRF.out.lt mS0 b hb).1
    exact HO9.out b (by have:=HQL.out;omega)
   exact HO9.out b (HPP.out b hb).2
  skip
  refine build1 _ rfl (by rfl) ?_
  obtain ⟨X1,hXX⟩:=I (X0.alloc (.cells #[.int .i64 t.kind,.int .i64 t.n,.string t.name,.slice at1 t.args.length ct1] 25))
  obtain ⟨gz,hgz⟩:=I (X0.heap.size)
  have HR1:Hid (RQ (fun b=>S b∨St b) (fun _=>False) X0 [(gz,[.int .i64 t.kind,.int .i64 t.n,.string t.name,.slice at1 t.args.length ct1])] X1 [rT (.slice none 0 0) []]):=J (by rw [hXX];exact HR0.out.alloc #[.int .i64 t.kind,.int .i64 t.n,.string t.name,.slice at1 t.args.length ct1] _ hgz)
  show K _ (X0.alloc (.cells #[.int .i64 t.kind,.int .i64 t.n,.string t.name,.slice at1 t.args.length ct1] 25))
  rw [←hXX,←hgz]
  clear hXX hgz
  refine hK.out _ _ (HQ8.out _ HR1.out.bel) fun _=>?_
  clear hK K hHeld;rename_i hHeld;try simp only [Act.put,pA,pB,pC]
  refine rgO 5 fun K hK=>?_
  refine wp_manyQ (w:=X1) _ _ termF rfl [] [] (v:=.slice none 0 0) (xs:=[]) (ys:=ml) (by rfl) (by rfl) HR1.out ((HMX.out.below HR1.out.bel)) (fun b hb=>.inl hb) (by have:=HML.out;simp;omega) ?_
  intro v1 X2 hz hzg hv1
  obtain ⟨gv1,cv1,rfl⟩:=hv1
  simp only [List.length_nil,Nat.zero_add,List.nil_append] at hz ⊢
  have HR2:Hid (RQ (fun b=>S b∨St b) (fun _=>False) X0 [(gz,[.int .i64 t.kind,.int .i64 t.n,.string t.name,.slice at1 t.args.length ct1])] X2 [rT (.slice gv1 ml.length cv1) ml]):=J hz
  clear hz hzg
  refine hK.out _ _ (HQ8.out _ HR2.out.bel) fun _=>?_
  clear hK K hHeld;rename_i hHeld;try simp only [Act.put,pA,pB,pC]
  refine rgO 8 fun K hK=>?_
  refine wp_growQ (w:=X2) _ _ termF rfl [] [] (v:=.slice gv1 ml.length cv1) (xs:=ml) (y:=t) (g0:=gz) (c:=[.int .i64 t.kind,.int .i64 t.n,.string t.name,.slice at1 t.args.length ct1]) (by rfl) (by rfl) HR2.out mS0 (termE_of ((HT8.out.below HR2.out.bel).mono fun b hb=>.inr hb)) rfl (by have:=HML.out;omega) ?_
  intro gn on cv2 X3 hz hzg
  obtain ⟨gv2,hgv2⟩:=I (some (⟨gn,on,none⟩:Addr))
  rw [←hgv2] at hz ⊢
  have HR3:Hid (RQ (fun b=>S b∨St b) (fun _=>False) X0 [(gz,[.int .i64 t.kind,.int .i64 t.n,.string t.name,.slice at1 t.args.length ct1])] X3 [rT (.slice gv2 (ml.length+1) cv2) (ml ++ [t])]):=J hz
  clear hz hzg hgv2
  refine hK.out _ _ (HQ8.out _ HR3.out.bel) fun _=>?_
  clear hK K hHeld;rename_i hHeld;try simp only [Act.put,pA,pB,pC]
  refine rgT 9 _ hHeld ?_
  refine rgT 10 _ hHeld ?_
  refine rgO 11 fun K hK=>?_
  have zb:=HX2.out.step HR3.out.bel
  have zf:=zb.fr
  have zc:=zb.cell 6 _ rfl
  have zl:=zb.lt
  go_simp
  obtain ⟨X9,hX9⟩:=I (X3.setCell ⟨qb,6,none⟩ (.slice gv2 (ml.length+1) cv2))
  have HX9:Hid (Blk X9 qb [.string name,.int .i64 room,.int .i64 st.kind,.int .i64 st.n,.string st.name,.slice a st.args.length c,.slice gv2 (ml.length+1) cv2]):=J (by rw [hX9];exact zb.set 6 _ (by simp))
  have HO9:Hid (∀ b,b≠qb→X9.heap[b]?=X3.heap[b]?):=J fun b hb=>by rw [hX9];exact yD _ qb 6 _ b hb
  have HK9:Hid (Keep (fun b=>b=qb) X0 X9):=J (by rw [hX9];exact (Keep.of HR3.out.bel).setCell _ (.inl rfl))
  have HRF:=HR3
  have HSZ9:Hid (X9.heap.size=X3.heap.size):=J (by rw [hX9];simp)
  rw [←hX9]
  clear hX9 zb zf zc zl
  refine hK.out _ _ (HQ8b.out _ (HRF.out.bel) _ HO9.out) fun _=>?_
  clear hK K hHeld;rename_i hHeld;try simp only [Act.put,pA,pB,pC]
  refine rgD ?_
  clear hHeld
  go_wp2_with fail
  go_ret
  have HROW:=J (RX.rslQ (HRF.out.rx mS0))
  refine ⟨by rw [HDE.out];rfl,(Keep.of HBX0.out).trans (HK9.out.mono fun _ _ h=>h),?_⟩
  rw [if_pos HDE.out]
  have HEQ:Hid (∀ b,b < X0.heap.size→b≠qb→X9.heap[b]?=X0.heap[b]?):=J fun b hb hn=>(HO9.out b hn).trans (HRF.out.bel.block b hb)
  have hsz:=HBX0.out.size
  have hsf:=HRF.out.bel.size
  refine ⟨fun b=>(S b∨St b∨w.heap.size≤b)∧b < X9.heap.size∧b≠qb,fun b hb=>hb.1,a,c,_,HX9.out,HS0.out.to (fun b hb hl=>?_) (fun b hb hl=>?_),HROW.out.to (fun b hb hl=>?_) (fun b hb hl=>?_),fun b hb=>hb.2⟩
  ·have h:=HPP.out b (.inl hb)
   exact ⟨.inl hb,by have:=HSZ9.out;omega,h.2⟩
  ·exact HEQ.out b hl (HPP.out b (.inl hb)).2
  ·rcases hb with hb | hb
   ·have h:=(HRF.out.lt mS0 b hb).1
    exact ⟨.inr (.inr (by omega)),by have:=HSZ9.out;omega,by have:=HQL.out;omega⟩
   have h:=HPP.out b hb
   exact ⟨hb.elim .inl fun h=>.inr (.inl h),by have:=HSZ9.out;omega,h.2⟩
  rcases hb with hb | hb
  ·have h:=(HRF.out.lt mS0 b hb).1
   exact HO9.out b (by have:=HQL.out;omega)
  exact HO9.out b (HPP.out b hb).2
 skip
 refine build1 _ rfl (by rfl) ?_
 obtain ⟨X1,hXX⟩:=I (X0.alloc (.cells #[.int .i64 t.kind,.int .i64 t.n,.string t.name,.slice at1 t.args.length ct1] 25))
 obtain ⟨gz,hgz⟩:=I (X0.heap.size)
 have HR1:Hid (RQ (fun b=>S b∨St b) (fun _=>False) X0 [(gz,[.int .i64 t.kind,.int .i64 t.n,.string t.name,.slice at1 t.args.length ct1])] X1 [rT (.slice none 0 0) []]):=J (by rw [hXX];exact HR0.out.alloc #[.int .i64 t.kind,.int .i64 t.n,.string t.name,.slice at1 t.args.length ct1] _ hgz)
 show K _ (X0.alloc (.cells #[.int .i64 t.kind,.int .i64 t.n,.string t.name,.slice at1 t.args.length ct1] 25))
 rw [←hXX,←hgz]
 clear hXX hgz
 refine hK.out _ _ (HQ8.out _ HR1.out.bel) fun _=>?_
 clear hK K hHeld;rename_i hHeld;try simp only [Act.put,pA,pB,pC]
 refine rgO 4 fun K hK=>?_
 have zm:=(HX2.out.step HR1.out.bel).cell 6 _ rfl
 go_simp
 clear zm
 refine hK.out _ _ (HQ8.out _ HR1.out.bel) fun _=>?_
 clear hK K hHeld;rename_i hHeld;try simp only [Act.put,pA,pB,pC]
 refine rgO 5 fun K hK=>?_
 refine wp_manyQ (w:=X1) _ _ termF rfl [] [] (v:=.slice none 0 0) (xs:=[]) (ys:=ml) (by rfl) (by rfl) HR1.out ((HMX.out.below HR1.out.bel)) (fun b hb=>.inl hb) (by have:=HML.out;simp;omega) ?_
 intro v1 X2 hz hzg hv1
 obtain ⟨gv1,cv1,rfl⟩:=hv1
 simp only [List.length_nil,Nat.zero_add,List.nil_append] at hz ⊢
 have HR2:Hid (RQ (fun b=>S b∨St b) (fun _=>False) X0 [(gz,[.int .i64 t.kind,.int .i64 t.n,.string t.name,.slice at1 t.args.length ct1])] X2 [rT (.slice gv1 ml.length cv1) ml]):=J hz
 clear hz hzg
 refine hK.out _ _ (HQ8.out _ HR2.out.bel) fun _=>?_
 clear hK K hHeld;rename_i hHeld;try simp only [Act.put,pA,pB,pC]
 refine rgO 8 fun K hK=>?_
 refine wp_growQ (w:=X2) _ _ termF rfl [] [] (v:=.slice gv1 ml.length cv1) (xs:=ml) (y:=t) (g0:=gz) (c:=[.int .i64 t.kind,.int .i64 t.n,.string t.name,.slice at1 t.args.length ct1]) (by rfl) (by rfl) HR2.out mS0 (termE_of ((HT8.out.below HR2.out.bel).mono fun b hb=>.inr hb)) rfl (by have:=HML.out;omega) ?_
 intro gn on cv2 X3 hz hzg
 obtain ⟨gv2,hgv2⟩:=I (some (⟨gn,on,none⟩:Addr))
 rw [←hgv2] at hz ⊢
 have HR3:Hid (RQ (fun b=>S b∨St b) (fun _=>False) X0 [(gz,[.int .i64 t.kind,.int .i64 t.n,.string t.name,.slice at1 t.args.length ct1])] X3 [rT (.slice gv2 (ml.length+1) cv2) (ml ++ [t])]):=J hz
 clear hz hzg hgv2
 refine hK.out _ _ (HQ8.out _ HR3.out.bel) fun _=>?_
 clear hK K hHeld;rename_i hHeld;try simp only [Act.put,pA,pB,pC]
 refine rgT 9 _ hHeld ?_
 refine rgT 10 _ hHeld ?_
 refine rgO 11 fun K hK=>?_
 have zb:=HX2.out.step HR3.out.bel
 have zf:=zb.fr
 have zc:=zb.cell 6 _ rfl
 have zl:=zb.lt
 go_simp
 obtain ⟨X9,hX9⟩:=I (X3.setCell ⟨qb,6,none⟩ (.slice gv2 (ml.length+1) cv2))
 have HX9:Hid (Blk X9 qb [.string name,.int .i64 room,.int .i64 st.kind,.int .i64 st.n,.string st.name,.slice a st.args.length c,.slice gv2 (ml.length+1) cv2]):=J (by rw [hX9];exact zb.set 6 _ (by simp))
 have HO9:Hid (∀ b,b≠qb→X9.heap[b]?=X3.heap[b]?):=J fun b hb=>by rw [hX9];exact yD _ qb 6 _ b hb
 have HK9:Hid (Keep (fun b=>b=qb) X0 X9):=J (by rw [hX9];exact (Keep.of HR3.out.bel).setCell _ (.inl rfl))
 have HRF:=HR3
 have HSZ9:Hid (X9.heap.size=X3.heap.size):=J (by rw [hX9];simp)
 rw [←hX9]
 clear hX9 zb zf zc zl
 refine hK.out _ _ (HQ8b.out _ (HRF.out.bel) _ HO9.out) fun _=>?_
 clear hK K hHeld;rename_i hHeld;try simp only [Act.put,pA,pB,pC]
 refine rgD ?_
 clear hHeld
 go_wp2_with fail
 go_ret
 have HROW:=J (RX.rslQ (HRF.out.rx mS0))
 refine ⟨by rw [HDE.out];rfl,(Keep.of HBX0.out).trans (HK9.out.mono fun _ _ h=>h),?_⟩
 rw [if_pos HDE.out]
 have HEQ:Hid (∀ b,b < X0.heap.size→b≠qb→X9.heap[b]?=X0.heap[b]?):=J fun b hb hn=>(HO9.out b hn).trans (HRF.out.bel.block b hb)
 have hsz:=HBX0.out.size
 have hsf:=HRF.out.bel.size
 refine ⟨fun b=>(S b∨St b∨w.heap.size≤b)∧b < X9.heap.size∧b≠qb,fun b hb=>hb.1,a,c,_,HX9.out,HS0.out.to (fun b hb hl=>?_) (fun b hb hl=>?_),HROW.out.to (fun b hb hl=>?_) (fun b hb hl=>?_),fun b hb=>hb.2⟩
 ·have h:=HPP.out b (.inl hb)
  exact ⟨.inl hb,by have:=HSZ9.out;omega,h.2⟩
 ·exact HEQ.out b hl (HPP.out b (.inl hb)).2
 ·rcases hb with hb | hb
  ·have h:=(HRF.out.lt mS0 b hb).1
   exact ⟨.inr (.inr (by omega)),by have:=HSZ9.out;omega,by have:=HQL.out;omega⟩
  have h:=HPP.out b hb
  exact ⟨hb.elim .inl fun h=>.inr (.inl h),by have:=HSZ9.out;omega,h.2⟩
 rcases hb with hb | hb
 ·have h:=(HRF.out.lt mS0 b hb).1
  exact HO9.out b (by have:=HQL.out;omega)
 exact HO9.out b (HPP.out b hb).2
theorem sameS (t:T):sameT t t=true:=(sameT_iff t t).2 rfl
theorem stk1_c (x:Int×T) (a1 a2:Option Addr) (c1 c2:Nat) (w:World) (h1:RT (fun b=>b < w.heap.size) w x.2 (.agg #[.int .i64 x.2.kind,.int .i64 x.2.n,.string x.2.name,.slice a1 x.2.args.length c1])) (h2:RT (fun b=>b < w.heap.size) w x.2 (.agg #[.int .i64 x.2.kind,.int .i64 x.2.n,.string x.2.name,.slice a2 x.2.args.length c2])) (hb:yC [x.2]≤1099511627776) :
  Calls Tryz.prog 44 #[.agg #[.int .i64 x.1,.int .i64 x.2.kind,.int .i64 x.2.n,.string x.2.name,.slice a1 x.2.args.length c1],.agg #[.int .i64 x.1,.int .i64 x.2.kind,.int .i64 x.2.n,.string x.2.name,.slice a2 x.2.args.length c2]] w fun e w'=>e=.returned (.bool true)∧Below w.heap.size w w':=by
 obtain ⟨n,t⟩:=x
 simp only at h1 h2 hb ⊢
 have H1:=J h1;have H2:=J h2
 clear h1 h2
 have hnn:(n == n)=true:=by simp
 go_enter Tryz.func44,Tryz.ntmps44
 go_wp2_with fail
 refine (same_c t t (fun b=>b < w.heap.size) _ _ _ ((H1.out.alloc _).alloc _) ((H2.out.alloc _).alloc _) hb hb).mono ?_
 rw [sameS]
 rintro e w1 ⟨rfl,hB⟩
 go_wp2_with fail
 go_ret
 exact ⟨rfl,yB ((yA _ _).alloc (by simp) _) (by simp <;> omega) hB⟩
theorem stk2_c (x:Int×ByteArray×T) (a1 a2:Option Addr) (c1 c2:Nat) (w:World) (h1:RT (fun b=>b < w.heap.size) w x.2.2 (.agg #[.int .i64 x.2.2.kind,.int .i64 x.2.2.n,.string x.2.2.name,.slice a1 x.2.2.args.length c1])) (h2:RT (fun b=>b < w.heap.size) w x.2.2 (.agg #[.int .i64 x.2.2.kind,.int .i64 x.2.2.n,.string x.2.2.name,.slice a2 x.2.2.args.length c2])) (hb:yC [x.2.2]≤1099511627776) :
  Calls Tryz.prog 46 #[.agg #[.int .i64 x.1,.string x.2.1,.int .i64 x.2.2.kind,.int .i64 x.2.2.n,.string x.2.2.name,.slice a1 x.2.2.args.length c1],.agg #[.int .i64 x.1,.string x.2.1,.int .i64 x.2.2.kind,.int .i64 x.2.2.n,.string x.2.2.name,.slice a2 x.2.2.args.length c2]] w fun e w'=>e=.returned (.bool true)∧Below w.heap.size w w':=by
 obtain ⟨n,s,t⟩:=x
 simp only at h1 h2 hb ⊢
 have H1:=J h1;have H2:=J h2
 clear h1 h2
 have hnn:(n == n)=true:=by simp
 have hss:(s.toList == s.toList)=true:=by simp
 go_enter Tryz.func46,Tryz.ntmps46
 go_wp2_with fail
 refine (same_c t t (fun b=>b < w.heap.size) _ _ _ ((H1.out.alloc _).alloc _) ((H2.out.alloc _).alloc _) hb hb).mono ?_
 rw [sameS]
 rintro e w1 ⟨rfl,hB⟩
 go_wp2_with fail
 go_ret
 exact ⟨rfl,yB ((yA _ _).alloc (by simp) _) (by simp <;> omega) hB⟩
theorem eqsends_c (l:List (Int×T)) (a1 a2:Option Addr) (c1 c2:Nat) (S1 S2:Nat→Prop) (w:World) (h1:RX sndE S1 S1 w l (.slice a1 l.length c1)) (h2:RX sndE S2 S2 w l (.slice a2 l.length c2)) (hb:∀ x∈l,yC [x.2]≤1099511627776) (hl:l.length≤1099511627776) :
  Calls Tryz.prog 43 #[.slice a1 l.length c1,.slice a2 l.length c2,.func (.func 44) #[] #[]] w fun e w'=>e=.returned (.bool true)∧Below w.heap.size w w':=by
 have H1:=J h1;have H2:=J h2;have HB:=J hb
 clear h1 h2 hb
 have hll:((l.length:Int) != (l.length:Int))=false:=by simp
 go_enter Tryz.func43,Tryz.ntmps43
 go_wp2_with fail
 go_loopw [17] (fun i wr=>∃ k:Nat,k≤l.length∧i=.int .i64 (k:Int)∧Below w.heap.size w wr) (fun i _=>l.length - (intOf i).toNat)
 case atStart=>exact ⟨0,Nat.zero_le _,rfl,Below.refl _ _⟩
 obtain ⟨k,hk,rfl,hBr⟩:=hrel
 have HBr:=J hBr
 clear hBr
 by_cases hlt:k < l.length
 ·obtain ⟨b,o,rfl⟩:=H1.out.addr (by decide) (by omega)
  obtain ⟨b',o',rfl⟩:=H2.out.addr (by decide) (by omega)
  obtain ⟨x,hx⟩:∃ x,x=l[k]:=⟨_,rfl⟩
  obtain ⟨ca,ha1,ha2⟩:=(H1.out.below HBr.out).elem k hlt
  obtain ⟨cb,hb1,hb2⟩:=(H2.out.below HBr.out).elem k hlt
  rw [←hx] at ha1 hb1
  obtain ⟨aa,pa,rfl,ra⟩:=ha1
  obtain ⟨ab,pb,rfl,rb⟩:=hb1
  have HX:Hid (yC [x.2]≤1099511627776):=J (HB.out x (by rw [hx];exact List.getElem_mem hlt))
  have HRA:=J ra;have HRB:=J rb
  have x0:‹World›.cell? ⟨b,o+k * 5,none⟩=some (.int .i64 x.1):=(ha2 0 _ rfl).2
  have x1:‹World›.cell? ⟨b,o+k * 5+1,none⟩=some (.int .i64 x.2.kind):=(ha2 1 _ rfl).2
  have x2:‹World›.cell? ⟨b,o+k * 5+2,none⟩=some (.int .i64 x.2.n):=(ha2 2 _ rfl).2
  have x3:‹World›.cell? ⟨b,o+k * 5+3,none⟩=some (.string x.2.name):=(ha2 3 _ rfl).2
  have x4:‹World›.cell? ⟨b,o+k * 5+4,none⟩=some (.slice aa x.2.args.length pa):=(ha2 4 _ rfl).2
  have y0:‹World›.cell? ⟨b',o'+k * 5,none⟩=some (.int .i64 x.1):=(hb2 0 _ rfl).2
  have y1:‹World›.cell? ⟨b',o'+k * 5+1,none⟩=some (.int .i64 x.2.kind):=(hb2 1 _ rfl).2
  have y2:‹World›.cell? ⟨b',o'+k * 5+2,none⟩=some (.int .i64 x.2.n):=(hb2 2 _ rfl).2
  have y3:‹World›.cell? ⟨b',o'+k * 5+3,none⟩=some (.string x.2.name):=(hb2 3 _ rfl).2
  have y4:‹World›.cell? ⟨b',o'+k * 5+4,none⟩=some (.slice ab x.2.args.length pb):=(hb2 4 _ rfl).2
  have z0:=World.block_lt_of_cell? _ _ y0
  have qk:(k:Int) < (l.length:Int):=by omega
  clear ha2 hb2 hx ra rb
  go_wp2_with fail
  refine (stk1_c x aa ab pa pb _ (((HRA.out.alloc _).alloc _).to (fun _ _ hl=>hl) fun _ _ _=>rfl) (((HRB.out.alloc _).alloc _).to (fun _ _ hl=>hl) fun _ _ _=>rfl) HX.out).mono ?_
  rintro e w1 ⟨rfl,hB⟩
  have HB1:Hid (Below w.heap.size w w1):=J (yB ((HBr.out.alloc HBr.out.size _).alloc (by have:=HBr.out.size;simp;omega) _) (by have:=HBr.out.size;simp;omega) hB)
  clear hB
  go_wp2_with fail
  go_roundw
  case rel=>exact ⟨k+1,by omega,by go_num,HB1.out⟩
  case measure=>simp [intOf];omega
 have hkk:k=l.length:=by omega
 have qk:¬(k:Int) < (l.length:Int):=by omega
 go_wp2_with fail
 go_ret
 exact ⟨rfl,HBr.out⟩
theorem eqspawns_c (l:List (Int×ByteArray×T)) (a1 a2:Option Addr) (c1 c2:Nat) (S1 S2:Nat→Prop) (w:World) (h1:RX spnE S1 S1 w l (.slice a1 l.length c1)) (h2:RX spnE S2 S2 w l (.slice a2 l.length c2)) (hb:∀ x∈l,yC [x.2.2]≤1099511627776) (hl:l.length≤1099511627776) :
  Calls Tryz.prog 45 #[.slice a1 l.length c1,.slice a2 l.length c2,.func (.func 46) #[] #[]] w fun e w'=>e=.returned (.bool true)∧Below w.heap.size w w':=by
 have H1:=J h1;have H2:=J h2;have HB:=J hb
 clear h1 h2 hb
 have hll:((l.length:Int) != (l.length:Int))=false:=by simp
 go_enter Tryz.func45,Tryz.ntmps45
 go_wp2_with fail
 go_loopw [17] (fun i wr=>∃ k:Nat,k≤l.length∧i=.int .i64 (k:Int)∧Below w.heap.size w wr) (fun i _=>l.length - (intOf i).toNat)
 case atStart=>exact ⟨0,Nat.zero_le _,rfl,Below.refl _ _⟩
 obtain ⟨k,hk,rfl,hBr⟩:=hrel
 have HBr:=J hBr
 clear hBr
 by_cases hlt:k < l.length
 ·obtain ⟨b,o,rfl⟩:=H1.out.addr (by decide) (by omega)
  obtain ⟨b',o',rfl⟩:=H2.out.addr (by decide) (by omega)
  obtain ⟨x,hx⟩:∃ x,x=l[k]:=⟨_,rfl⟩
  obtain ⟨ca,ha1,ha2⟩:=(H1.out.below HBr.out).elem k hlt
  obtain ⟨cb,hb1,hb2⟩:=(H2.out.below HBr.out).elem k hlt
  rw [←hx] at ha1 hb1
  obtain ⟨aa,pa,rfl,ra⟩:=ha1
  obtain ⟨ab,pb,rfl,rb⟩:=hb1
  have HX:Hid (yC [x.2.2]≤1099511627776):=J (HB.out x (by rw [hx];exact List.getElem_mem hlt))
  have HRA:=J ra;have HRB:=J rb
  have x0:‹World›.cell? ⟨b,o+k * 6,none⟩=some (.int .i64 x.1):=(ha2 0 _ rfl).2
  have x1:‹World›.cell? ⟨b,o+k * 6+1,none⟩=some (.string x.2.1):=(ha2 1 _ rfl).2
  have x2:‹World›.cell? ⟨b,o+k * 6+2,none⟩=some (.int .i64 x.2.2.kind):=(ha2 2 _ rfl).2
  have x3:‹World›.cell? ⟨b,o+k * 6+3,none⟩=some (.int .i64 x.2.2.n):=(ha2 3 _ rfl).2
  have x4:‹World›.cell? ⟨b,o+k * 6+4,none⟩=some (.string x.2.2.name):=(ha2 4 _ rfl).2
  have x5:‹World›.cell? ⟨b,o+k * 6+5,none⟩=some (.slice aa x.2.2.args.length pa):=(ha2 5 _ rfl).2
  have y0:‹World›.cell? ⟨b',o'+k * 6,none⟩=some (.int .i64 x.1):=(hb2 0 _ rfl).2
  have y1:‹World›.cell? ⟨b',o'+k * 6+1,none⟩=some (.string x.2.1):=(hb2 1 _ rfl).2
  have y2:‹World›.cell? ⟨b',o'+k * 6+2,none⟩=some (.int .i64 x.2.2.kind):=(hb2 2 _ rfl).2
  have y3:‹World›.cell? ⟨b',o'+k * 6+3,none⟩=some (.int .i64 x.2.2.n):=(hb2 3 _ rfl).2
  have y4:‹World›.cell? ⟨b',o'+k * 6+4,none⟩=some (.string x.2.2.name):=(hb2 4 _ rfl).2
  have y5:‹World›.cell? ⟨b',o'+k * 6+5,none⟩=some (.slice ab x.2.2.args.length pb):=(hb2 5 _ rfl).2
  have z0:=World.block_lt_of_cell? _ _ y0
  have qk:(k:Int) < (l.length:Int):=by omega
  clear ha2 hb2 hx ra rb
  go_wp2_with fail
  refine (stk2_c x aa ab pa pb _ (((HRA.out.alloc _).alloc _).to (fun _ _ hl=>hl) fun _ _ _=>rfl) (((HRB.out.alloc _).alloc _).to (fun _ _ hl=>hl) fun _ _ _=>rfl) HX.out).mono ?_
  rintro e w1 ⟨rfl,hB⟩
  have HB1:Hid (Below w.heap.size w w1):=J (yB ((HBr.out.alloc HBr.out.size _).alloc (by have:=HBr.out.size;simp;omega) _) (by have:=HBr.out.size;simp;omega) hB)
  clear hB
  go_wp2_with fail
  go_roundw
  case rel=>exact ⟨k+1,by omega,by go_num,HB1.out⟩
  case measure=>simp [intOf];omega
 have hkk:k=l.length:=by omega
 have qk:¬(k:Int) < (l.length:Int):=by omega
 go_wp2_with fail
 go_ret
 exact ⟨rfl,HBr.out⟩
theorem eqints_c (l:List Int) (a1 a2:Option Addr) (c1 c2:Nat) (S1 S2:Nat→Prop) (w:World) (h1:RX intE S1 S1 w l (.slice a1 l.length c1)) (h2:RX intE S2 S2 w l (.slice a2 l.length c2)) (hl:l.length≤1099511627776) :
  Calls Tryz.prog 47 #[.slice a1 l.length c1,.slice a2 l.length c2] w fun e w'=>e=.returned (.bool true)∧Below w.heap.size w w':=by
 have H1:=J h1;have H2:=J h2
 clear h1 h2
 have hll:((l.length:Int) != (l.length:Int))=false:=by simp
 go_enter Tryz.func47,Tryz.ntmps47
 go_wp2_with fail
 go_loopw [13] (fun i wr=>∃ k:Nat,k≤l.length∧i=.int .i64 (k:Int)∧Below w.heap.size w wr) (fun i _=>l.length - (intOf i).toNat)
 case atStart=>exact ⟨0,Nat.zero_le _,rfl,Below.refl _ _⟩
 obtain ⟨k,hk,rfl,hBr⟩:=hrel
 have HBr:=J hBr
 clear hBr
 by_cases hlt:k < l.length
 ·obtain ⟨b,o,rfl⟩:=H1.out.addr (by decide) (by omega)
  obtain ⟨b',o',rfl⟩:=H2.out.addr (by decide) (by omega)
  obtain ⟨x,hx⟩:∃ x,x=l[k]:=⟨_,rfl⟩
  obtain ⟨ca,ha1,ha2⟩:=(H1.out.below HBr.out).elem k hlt
  obtain ⟨cb,hb1,hb2⟩:=(H2.out.below HBr.out).elem k hlt
  rw [←hx] at ha1 hb1
  have ha1:ca=[.int .i64 x]:=ha1
  have hb1:cb=[.int .i64 x]:=hb1
  subst ha1 hb1
  have x0:‹World›.cell? ⟨b,o+k,none⟩=some (.int .i64 x):=by rw [show o+k=o+k * intE.k+0 by simp [intE]];exact (ha2 0 _ rfl).2
  have y0:‹World›.cell? ⟨b',o'+k,none⟩=some (.int .i64 x):=by rw [show o'+k=o'+k * intE.k+0 by simp [intE]];exact (hb2 0 _ rfl).2
  have qk:(k:Int) < (l.length:Int):=by omega
  have hxx:(x != x)=false:=by simp
  clear ha2 hb2 hx
  go_wp2_with fail
  go_region
  go_wp2_with fail
  go_roundw
  case rel=>exact ⟨k+1,by omega,by go_num,by first | exact HBr.out | exact HBr.out.drew⟩
  case measure=>simp [intOf];omega
 have hkk:k=l.length:=by omega
 have qk:¬(k:Int) < (l.length:Int):=by omega
 go_wp2_with fail
 go_ret
 exact ⟨rfl,HBr.out⟩
theorem sametaken_c (t:TakT) (c1 c2:List Value) (S1 S2:Nat→Prop) (w:World) (h1:takC S1 w t c1) (h2:takC S2 w t c2) (hm:yC [t.message]≤1099511627776) (hs:∀ x∈t.sends,yC [x.2]≤1099511627776) (hp:∀ x∈t.spawns,yC [x.2.2]≤1099511627776) (hl:t.sends.length≤1000∧t.spawns.length≤1000∧t.links.length≤1000) :
  Calls Tryz.prog 12 #[.agg c1.toArray,.agg c2.toArray] w fun e w'=>e=.returned (.bool true)∧Below w.heap.size w w':=by
 obtain ⟨a1,p1,v1,v2,v3,rfl,m1,s1,q1,k1⟩:=h1
 obtain ⟨a2,p2,u1,u2,u3,rfl,m2,s2,q2,k2⟩:=h2
 obtain ⟨b1,d1,e1,-⟩:=s1.form
 obtain ⟨b2,d2,e2,-⟩:=q1.form
 obtain ⟨b3,d3,e3,-⟩:=k1.form
 obtain ⟨b4,d4,e4,-⟩:=s2.form
 obtain ⟨b5,d5,e5,-⟩:=q2.form
 obtain ⟨b6,d6,e6,-⟩:=k2.form
 subst e1 e2 e3 e4 e5 e6
 obtain ⟨W0,hW0⟩:=I ((w.alloc (.cells #[.int .i64 t.message.kind,.int .i64 t.message.n,.string t.message.name,.slice a1 t.message.args.length p1,.int .i64 t.fate,.slice b1 t.sends.length d1,.slice b2 t.spawns.length d2,.slice b3 t.links.length d3] 50)).alloc (.cells #[.int .i64 t.message.kind,.int .i64 t.message.n,.string t.message.name,.slice a2 t.message.args.length p2,.int .i64 t.fate,.slice b4 t.sends.length d4,.slice b5 t.spawns.length d5,.slice b6 t.links.length d6] 43))
 obtain ⟨g2,hg2⟩:=I (w.heap.size)
 obtain ⟨g3,hg3⟩:=I (w.heap.size+1)
 have HB0:Hid (Below w.heap.size w W0):=J (by rw [hW0];exact (yA _ _).trans ((yA _ _).mono (by simp)))
 have HX2:Hid (Blk W0 g2 [.int .i64 t.message.kind,.int .i64 t.message.n,.string t.message.name,.slice a1 t.message.args.length p1,.int .i64 t.fate,.slice b1 t.sends.length d1,.slice b2 t.spawns.length d2,.slice b3 t.links.length d3]):=J (by rw [hW0,hg2];exact (Blk.new _ _ _ _ rfl).alloc _)
 have HX3:Hid (Blk W0 g3 [.int .i64 t.message.kind,.int .i64 t.message.n,.string t.message.name,.slice a2 t.message.args.length p2,.int .i64 t.fate,.slice b4 t.sends.length d4,.slice b5 t.spawns.length d5,.slice b6 t.links.length d6]):=J (by rw [hW0];exact Blk.new _ _ _ _ (by rw [hg3];simp))
 have M1:Hid (RT (fun _=>True) W0 t.message _):=J ((m1.below HB0.out).mono fun _ _=>trivial)
 have M2:Hid (RT (fun _=>True) W0 t.message _):=J ((m2.below HB0.out).mono fun _ _=>trivial)
 have A1:=J (s1.below HB0.out);have A2:=J (s2.below HB0.out)
 have P1:=J (q1.below HB0.out);have P2:=J (q2.below HB0.out)
 have L1:=J (k1.below HB0.out);have L2:=J (k2.below HB0.out)
 have x0:=HX2.out.cell 0 _ rfl
 have y0:=HX3.out.cell 0 _ rfl
 have x1:=HX2.out.cell 1 _ rfl
 have y1:=HX3.out.cell 1 _ rfl
 have x2:=HX2.out.cell 2 _ rfl
 have y2:=HX3.out.cell 2 _ rfl
 have x3:=HX2.out.cell 3 _ rfl
 have y3:=HX3.out.cell 3 _ rfl
 have x4:=HX2.out.cell 4 _ rfl
 have y4:=HX3.out.cell 4 _ rfl
 have x5:=HX2.out.cell 5 _ rfl
 have y5:=HX3.out.cell 5 _ rfl
 have x6:=HX2.out.cell 6 _ rfl
 have y6:=HX3.out.cell 6 _ rfl
 have x7:=HX2.out.cell 7 _ rfl
 have y7:=HX3.out.cell 7 _ rfl
 have HS:=J hs;have HP:=J hp;have HL:=J hl
 have hff:(t.fate == t.fate)=true:=by simp
 clear m1 m2 s1 s2 q1 q2 k1 k2 hs hp hl
 go_enter Tryz.func12,Tryz.ntmps12
 go_upto_region 1 with fail
 rw [←hW0,←hg3,←hg2]
 clear hW0 hg2 hg3
 go_wp2_with fail
 refine (eqsends_c t.sends b1 b4 d1 d4 S1 S2 W0 A1.out A2.out HS.out (by have:=HL.out;omega)).mono ?_
 rintro e w1 ⟨rfl,hB1⟩
 have HB1:=J hB1
 clear x0 y0 x1 y1 x2 y2 x3 y3 x4 y4 x5 y5 x6 y6 x7 y7
 have x0:=(HX2.out.step HB1.out).cell 0 _ rfl
 have y0:=(HX3.out.step HB1.out).cell 0 _ rfl
 have x1:=(HX2.out.step HB1.out).cell 1 _ rfl
 have y1:=(HX3.out.step HB1.out).cell 1 _ rfl
 have x2:=(HX2.out.step HB1.out).cell 2 _ rfl
 have y2:=(HX3.out.step HB1.out).cell 2 _ rfl
 have x3:=(HX2.out.step HB1.out).cell 3 _ rfl
 have y3:=(HX3.out.step HB1.out).cell 3 _ rfl
 have x4:=(HX2.out.step HB1.out).cell 4 _ rfl
 have y4:=(HX3.out.step HB1.out).cell 4 _ rfl
 have x5:=(HX2.out.step HB1.out).cell 5 _ rfl
 have y5:=(HX3.out.step HB1.out).cell 5 _ rfl
 have x6:=(HX2.out.step HB1.out).cell 6 _ rfl
 have y6:=(HX3.out.step HB1.out).cell 6 _ rfl
 have x7:=(HX2.out.step HB1.out).cell 7 _ rfl
 have y7:=(HX3.out.step HB1.out).cell 7 _ rfl
 go_wp2_with fail
 refine (eqspawns_c t.spawns b2 b5 d2 d5 S1 S2 w1 (P1.out.below HB1.out) (P2.out.below HB1.out) HP.out (by have:=HL.out;omega)).mono ?_
 rintro e w2 ⟨rfl,hB2⟩
 have HB2:Hid (Below W0.heap.size W0 w2):=J (yB HB1.out HB1.out.size hB2)
 clear x0 y0 x1 y1 x2 y2 x3 y3 x4 y4 x5 y5 x6 y6 x7 y7
 have x0:=(HX2.out.step HB2.out).cell 0 _ rfl
 have y0:=(HX3.out.step HB2.out).cell 0 _ rfl
 have x1:=(HX2.out.step HB2.out).cell 1 _ rfl
 have y1:=(HX3.out.step HB2.out).cell 1 _ rfl
 have x2:=(HX2.out.step HB2.out).cell 2 _ rfl
 have y2:=(HX3.out.step HB2.out).cell 2 _ rfl
 have x3:=(HX2.out.step HB2.out).cell 3 _ rfl
 have y3:=(HX3.out.step HB2.out).cell 3 _ rfl
 have x4:=(HX2.out.step HB2.out).cell 4 _ rfl
 have y4:=(HX3.out.step HB2.out).cell 4 _ rfl
 have x5:=(HX2.out.step HB2.out).cell 5 _ rfl
 have y5:=(HX3.out.step HB2.out).cell 5 _ rfl
 have x6:=(HX2.out.step HB2.out).cell 6 _ rfl
 have y6:=(HX3.out.step HB2.out).cell 6 _ rfl
 have x7:=(HX2.out.step HB2.out).cell 7 _ rfl
 have y7:=(HX3.out.step HB2.out).cell 7 _ rfl
 go_wp2_with fail
 refine (same_c t.message t.message (fun _=>True) w2 _ _ (M1.out.below HB2.out) (M2.out.below HB2.out) hm hm).mono ?_
 rw [sameS]
 rintro e w3 ⟨rfl,hB3⟩
 have HB3:Hid (Below W0.heap.size W0 w3):=J (yB HB2.out HB2.out.size hB3)
 clear x0 y0 x1 y1 x2 y2 x3 y3 x4 y4 x5 y5 x6 y6 x7 y7
 have x0:=(HX2.out.step HB3.out).cell 0 _ rfl
 have y0:=(HX3.out.step HB3.out).cell 0 _ rfl
 have x1:=(HX2.out.step HB3.out).cell 1 _ rfl
 have y1:=(HX3.out.step HB3.out).cell 1 _ rfl
 have x2:=(HX2.out.step HB3.out).cell 2 _ rfl
 have y2:=(HX3.out.step HB3.out).cell 2 _ rfl
 have x3:=(HX2.out.step HB3.out).cell 3 _ rfl
 have y3:=(HX3.out.step HB3.out).cell 3 _ rfl
 have x4:=(HX2.out.step HB3.out).cell 4 _ rfl
 have y4:=(HX3.out.step HB3.out).cell 4 _ rfl
 have x5:=(HX2.out.step HB3.out).cell 5 _ rfl
 have y5:=(HX3.out.step HB3.out).cell 5 _ rfl
 have x6:=(HX2.out.step HB3.out).cell 6 _ rfl
 have y6:=(HX3.out.step HB3.out).cell 6 _ rfl
 have x7:=(HX2.out.step HB3.out).cell 7 _ rfl
 have y7:=(HX3.out.step HB3.out).cell 7 _ rfl
 go_wp2_with fail
 refine (eqints_c t.links b3 b6 d3 d6 S1 S2 w3 (L1.out.below HB3.out) (L2.out.below HB3.out) (by have:=HL.out;omega)).mono ?_
 rintro e w4 ⟨rfl,hB4⟩
 have HB4:Hid (Below W0.heap.size W0 w4):=J (yB HB3.out HB3.out.size hB4)
 go_wp2_with fail
 go_ret
 exact ⟨rfl,HB0.out.trans (HB4.out.mono HB0.out.size)⟩
end Go.Proofs.YtedfepnekjjmnabGreat
