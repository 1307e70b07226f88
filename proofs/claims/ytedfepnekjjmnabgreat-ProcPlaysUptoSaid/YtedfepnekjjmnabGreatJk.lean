/-
  Contracts and plain laws, joined: ProcT RStep0 Duo. Conditions stand in each.
-/
import Derived.Test.YtedfepnekjjmnabGreatJj
import Derived.Test.YtedfepnekjjmnabGreatProc15
import Derived.Test.YtedfepnekjjmnabGreatJi
import Derived.Test.YtedfepnekjjmnabGreatRAct
import Derived.Test.YtedfepnekjjmnabGreatJc
namespace Go.Proofs.YtedfepnekjjmnabGreat
open Go.RowKit
set_option linter.unusedSimpArgs false
set_option linter.unusedVariables false
set_option maxRecDepth 100000
set_option maxHeartbeats 1000000
structure PC where
 kind:Int
 self:Int
 t:T
def pcE:El PC where
 k:=6
 C:=fun S w x cs=>∃ a cap,cs=[.int .i64 x.kind,.int .i64 x.self,.int .i64 x.t.kind,.int .i64 x.t.n,.string x.t.name,.slice a x.t.args.length cap]∧RT S w x.t (.agg #[.int .i64 x.t.kind,.int .i64 x.t.n,.string x.t.name,.slice a x.t.args.length cap])
 len:=by rintro S w x cs ⟨a,cap,rfl,-⟩;rfl
 one:=by rintro S w x cs ⟨a,cap,rfl,-⟩;simp [Value.oneCell']
 «to»:=by rintro S S' w w' x cs ⟨a,cap,rfl,h⟩ hs hc;exact ⟨a,cap,rfl,h.to hs hc⟩
def pcF:ElT pcE where
 e:=37
 sl:=26
 bytes:=72
 z:=.agg #[.int .i64 0,.int .i64 0,.int .i64 0,.int .i64 0,.string ⟨#[]⟩,.slice none 0 0]
 hund:=Tryz.underlying26
 info:=by kernel_rfl
 hzs:=rfl
 hk:=by decide
 hb:=by decide
def pcB (x:PC):Nat:=1+yC [x.t]
def pcsB:List PC→Nat
 | []=>1
 | x :: l=>pcB x+pcsB l
theorem pcsB_pos:∀ l:List PC,1≤pcsB l
 | []=>Nat.le_refl _
 | x :: l=>by have:=pcsB_pos l;simp only [pcsB];omega
theorem pcsB_mem {x:PC}:∀ {l:List PC},x∈l→yC [x.t]≤pcsB l
 | [],h=>by cases h
 | y :: l,h=>by
  rcases List.mem_cons.1 h with rfl | h
  ·simp only [pcsB,pcB];omega
  ·have:=pcsB_mem h;simp only [pcsB];omega
structure Two (w:World) (pa pb:Nat) (name:ByteArray) (room:Int) (Ga Gb:Nat→Prop) (na nb ua ub:Nat) (La Lb:TW) (wx:World):Prop where
 bel:Below w.heap.size w wx
 ra:PrR Ga wx pa name room na ua La []
 rb:PrR Gb wx pb name room nb ub Lb []
 ga:∀ b,Ga b→w.heap.size≤b∧b < wx.heap.size∧¬Gb b
 gb:∀ b,Gb b→w.heap.size≤b∧b < wx.heap.size
section
variable {w:World} {pa pb:Nat} {name:ByteArray} {room:Int} {Ga Gb:Nat→Prop} {na nb ua ub na' nb' ua' ub':Nat} {La Lb La' Lb':TW} {wx wy:World}
theorem Two.below (h:Two w pa pb name room Ga Gb na nb ua ub La Lb wx) (hB:Below wx.heap.size wx wy):Two w pa pb name room Ga Gb na nb ua ub La Lb wy :=
 ⟨yB h.bel h.bel.size hB,h.ra.below hB,h.rb.below hB,fun b hb=>⟨(h.ga b hb).1,Nat.lt_of_lt_of_le (h.ga b hb).2.1 hB.size,(h.ga b hb).2.2⟩,fun b hb=>⟨(h.gb b hb).1,Nat.lt_of_lt_of_le (h.gb b hb).2 hB.size⟩⟩
end
def TwoP (w:World) (pa pb:Nat) (name:ByteArray) (room:Int) (n m:Nat) (wx:World):Prop :=
 ∃ (Ga Gb:Nat→Prop) (ua ub:Nat) (La Lb:TW),Two w pa pb name room Ga Gb n n ua ub La Lb wx∧yQ La=yQ Lb∧1≤La.length∧La.length≤m
theorem TwoP.below {w:World} {pa pb:Nat} {name:ByteArray} {room:Int} {n m:Nat} {wx wy:World} (h:TwoP w pa pb name room n m wx) (hB:Below wx.heap.size wx wy):TwoP w pa pb name room n m wy:=by
 obtain ⟨Ga,Gb,ua,ub,La,Lb,h1,h2⟩:=h
 exact ⟨Ga,Gb,ua,ub,La,Lb,h1.below hB,h2⟩
theorem TwoP.mono {w:World} {pa pb:Nat} {name:ByteArray} {room:Int} {n m n' m':Nat} {wx:World} (h:TwoP w pa pb name room n m wx) (hn:n≤n') (hm:m≤m'):TwoP w pa pb name room n' m' wx:=by
 obtain ⟨Ga,Gb,ua,ub,La,Lb,h1,h2,h3,h4⟩:=h
 exact ⟨Ga,Gb,ua,ub,La,Lb,⟨h1.bel,h1.ra.names hn,h1.rb.names hn,h1.ga,h1.gb⟩,h2,h3,by omega⟩
theorem tmsL_cons {L:TW} {t:T} {us:List T} (h:yQ L=t :: us):∃ (x:Wrd) (L':TW),L=(t,x) :: L'∧yQ L'=us:=by
 cases L with
 | nil=>cases h
 | cons p L =>
  have h:p.1 :: yQ L=t :: us:=h
  simp only [List.cons.injEq] at h
  exact ⟨p.2,L,by rw [←h.1],h.2⟩
theorem newE_room {name:ByteArray} {room:Int} {t:T} (h:newE name room t=0):0≤room∧room≤1000:=by
 unfold newE at h
 split at h
 ·simp at h
 split at h
 ·simp at h
 omega
theorem stepE_len (l:List Behv) (name:ByteArray) (room self next:Int) (st:T) (ml:List T):1≤(stepE l name room self next (st :: ml)).2.length∧(stepE l name room self next (st :: ml)).2.length≤ml.length+1:=by
 unfold stepE
 split
 ·simp
 split
 ·simp
 split
 ·simp
 split
 ·simp
 rename_i x hx
 unfold stepO at hx
 obtain ⟨y,hy,rfl⟩:=Option.map_eq_some_iff.1 hx
 have h:=(eraseIdx_sub ml (y.1 - 1)).length_le
 simp only [List.length_cons,List.tail_cons]
 omega
theorem actO_msg (room self next:Int) (st:T) (ml:List T) (m:T) (c:Clau) (bd:List T):(actO room self next st ml m c bd).1.message=m:=by
 unfold actO
 simp only
 split
 ·rfl
 split
 ·rfl
 rfl
theorem stepE_msg (l:List Behv) (name:ByteArray) (room self next:Int) (st:T) (ml:List T) (h:∀ t∈ml,yC [t]≤2000):yC [(stepE l name room self next (st :: ml)).1.1.message]≤2000:=by
 have hz:yC [zeroTak.message]≤2000:=by show yC [yJ]≤2000;rw [bulk_zeroT];decide
 unfold stepE
 split
 ·exact hz
 split
 ·exact hz
 split
 ·exact hz
 split
 ·exact hz
 rename_i x hx
 unfold stepO at hx
 obtain ⟨y,hy,rfl⟩:=Option.map_eq_some_iff.1 hx
 show yC [(actO _ _ _ _ _ _ _ _).1.message]≤2000
 rw [actO_msg]
 show yC [ml.getD (y.1 - 1) yJ]≤2000
 rw [List.getD_eq_getElem?_getD]
 cases hg:ml[y.1 - 1]? with
 | none=>exact hz
 | some t=>exact h t (List.mem_of_getElem? hg)
theorem PrR.small {G:Nat→Prop} {w:World} {pb:Nat} {name:ByteArray} {room:Int} {nb u:Nat} {L Z:TW} (h:PrR G w pb name room nb u L Z):∀ t∈yQ L,yC [t]≤2000:=by
 obtain ⟨F,B,H,v,hV,-⟩:=h
 intro t ht
 obtain ⟨p,hp,rfl⟩:=List.mem_map.1 ht
 exact Nat.le_trans (chk_bulk (hV.ph.ok p (List.mem_append.2 (.inl hp))).1) (by decide)
theorem same_self (t:T):sameT t t=true:=(sameT_iff t t).2 rfl
theorem sameL_self (l:List T):sameL l l=true:=(sameL_iff l l).2 rfl
theorem fitO_out {p t:T} {bd l:List T} (h:fitO p t bd=some l) (hl:bd.length=4) (ht:yC [t]≤2000) (hb:∀ y∈bd,yC [y]≤2000):l.length=4∧(∀ y∈l,yC [y]≤2000)∧yC l≤8000:=by
 unfold fitO at h
 split at h
 ·simp only [Option.some.injEq] at h
  subst h
  have h1:=fitT_bulk 2000 p t bd ht hb
  have h2:=bulk_eachP 2000 _ h1
  rw [fitT_length,hl] at h2
  exact ⟨by rw [fitT_length,hl],h1,by omega⟩
 cases h
theorem clFit_fitO {c:Clau} {st m:T} (hc:yE c.state=0∧yE c.message=0) (hs:yE st=0∧yF [st]=true) (hm:yE m=0∧yF [m]=true):clFit c st m=(fitO c.state st freeL).bind fun bd=>fitO c.message m bd:=by
 unfold clFit
 rw [fitsR_ok hc.1 hs.1 (by rw [hs.2,freeL_bound];rfl)]
 show (fitO c.state st freeL).bind _=_
 cases h:fitO c.state st freeL with
 | none=>rfl
 | some bd =>
  show (fitsR c.message m bd).2=fitO c.message m bd
  have hb:boundB bd=true:=by
   unfold fitO at h
   split at h
   ·simp only [Option.some.injEq] at h;subst h;exact fit_bound freeL_bound hs.1 hs.2
   ·cases h
  rw [fitsR_ok hc.2 hm.1 (by rw [hm.2,hb];rfl)]
theorem CellsX.drop {X:Type} {E:El X} {S:Nat→Prop} {w:World}:∀ {xs:List X} {cs:List Value} (i:Nat),CellsX E S w xs cs→CellsX E S w (xs.drop i) (cs.drop (i * E.k))
 | xs,cs,0,h=>by simpa using h
 | [],cs,i+1,h=>by
  have h:cs=[]:=h
  subst h
  show List.drop _ []=[]
  simp
 | x :: xs,cs,i+1,h=>by
  obtain ⟨c,cs',rfl,h1,h2⟩:=h
  have hl:=E.len h1
  have h3:=CellsX.drop i h2
  have e:(c ++ cs').drop ((i+1) * E.k)=cs'.drop (i * E.k):=by
   rw [Nat.succ_mul,Nat.add_comm,←hl,←List.drop_drop,List.drop_left]
  rw [e];exact h3
theorem CellsX.take {X:Type} {E:El X} {S:Nat→Prop} {w:World}:∀ {xs:List X} {cs:List Value} (i:Nat),CellsX E S w xs cs→CellsX E S w (xs.take i) (cs.take (i * E.k))
 | xs,cs,0,h=>by
  show CellsX E S w [] _
  simp [CellsX]
 | [],cs,i+1,h=>by
  have h:cs=[]:=h
  subst h
  show List.take _ []=[]
  simp
 | x :: xs,cs,i+1,h=>by
  obtain ⟨c,cs',rfl,h1,h2⟩:=h
  have hl:=E.len h1
  have h3:=CellsX.take i h2
  have e:(c ++ cs').take ((i+1) * E.k)=c ++ cs'.take (i * E.k):=by
   rw [Nat.succ_mul,Nat.add_comm,←hl,List.take_length_add_append]
  rw [e]
  exact ⟨c,_,rfl,h1,h3⟩
theorem RX.takeX {X:Type} {E:El X} {R S:Nat→Prop} {w:World} {l:List X} {a:Option Addr} {n cap:Nat} (h:RX E R S w l (.slice a n cap)) (i cap':Nat) (hi:i≤l.length) (hc:CapOk a i cap'):RX E R S w (l.take i) (.slice a i cap'):=by
 obtain ⟨a',c',cs,e,h1,h2,h3⟩:=h
 simp only [Value.slice.injEq] at e
 obtain ⟨rfl,-,rfl⟩:=e
 have hl:(l.take i).length=i:=by rw [List.length_take];omega
 refine ⟨a,cap',cs.take (i * E.k),by rw [hl],by rw [hl];exact hc,h2.take i,fun j u hu=>h3 j u ?_⟩
 rw [List.getElem?_take] at hu
 split at hu
 ·exact hu
 cases hu
theorem RX.dropX {X:Type} {E:El X} {R S:Nat→Prop} {w:World} {l:List X} {b o n cap:Nat} (h:RX E R S w l (.slice (some ⟨b,o,none⟩) n cap)) (i cap':Nat) (hc:l.length - i≤cap'):RX E R S w (l.drop i) (.slice (some ⟨b,o+i * E.k,none⟩) (l.length - i) cap'):=by
 obtain ⟨a',c',cs,e,h1,h2,h3⟩:=h
 simp only [Value.slice.injEq] at e
 obtain ⟨rfl,-,rfl⟩:=e
 have hl:(l.drop i).length=l.length - i:=List.length_drop
 refine ⟨some ⟨b,o+i * E.k,none⟩,cap',cs.drop (i * E.k),by rw [hl],⟨by rw [hl];exact hc,by simp⟩,h2.drop i,fun j u hu=>?_⟩
 rw [List.getElem?_drop] at hu
 obtain ⟨b',o',e,hr,hcell⟩:=h3 _ u hu
 simp only [Option.some.injEq,Addr.mk.injEq,and_true] at e
 obtain ⟨rfl,rfl⟩:=e
 exact ⟨b,_,rfl,hr,by rw [Nat.add_assoc];exact hcell⟩
theorem free_new (w:World):RSl (fun b=>b=w.heap.size) (w.alloc (.cells #[.int .i64 6,.int .i64 0,.string ⟨#[]⟩,.slice none 0 0,.int .i64 6,.int .i64 0,.string ⟨#[]⟩,.slice none 0 0,.int .i64 6,.int .i64 0,.string ⟨#[]⟩,.slice none 0 0,.int .i64 6,.int .i64 0,.string ⟨#[]⟩,.slice none 0 0] 25)) freeL (.slice (some ⟨w.heap.size,0,none⟩) 4 4) :=
 free_rsl (by show ((w.heap.push _))[w.heap.size]?=_;rw [Array.getElem?_push,if_pos rfl];rfl) rfl
theorem szL_erase:∀ (l:List T) (i:Nat),szL (l.eraseIdx i)≤szL l
 | [],_=>Nat.le_refl _
 | x :: l,0=>by
  show szL l≤szL (x :: l)
  rw [szL_pair];omega
 | x :: l,i+1=>by
  show szL (x :: l.eraseIdx i)≤szL (x :: l)
  have h:=szL_erase l i
  rw [szL_pair,szL_pair x l];omega
def RStepP (S Sc:Nat→Prop) (w:World) (qb:Nat) (name:ByteArray) (room:Int) (r:(TakT×Int)×List T) (e:Ending) (w':World):Prop :=
 ∃ cs,e=.returned (.tuple #[.agg cs.toArray,.int .i64 r.1.2])∧takC (fun b=>S b∨Sc b∨w.heap.size≤b) w' r.1.1 cs∧Keep (fun b=>b=qb) w w'∧∃ (st':T) (ml':List T),r.2=st' :: ml'∧QR (fun b=>(S b∨Sc b∨w.heap.size≤b)∧b < w'.heap.size∧b≠qb) w' qb name room st' ml'
theorem RStepP.early {S Sc:Nat→Prop} {w w':World} {qb:Nat} {name:ByteArray} {room:Int} {st:T} {ml:List T} {r:(TakT×Int)×List T} {e:Ending} {n:Int} (hr:r=((zeroTak,n),st :: ml)) (he:e=.returned (.tuple #[.agg #[.int .i64 0,.int .i64 0,.string ⟨#[]⟩,.slice none 0 0,.int .i64 0,.slice none 0 0,.slice none 0 0,.slice none 0 0],.int .i64 n])) (hB:Below w.heap.size w w') (h:QR S w qb name room st ml):RStepP S Sc w qb name room r e w':=by
 subst hr
 refine ⟨_,he,zeroTak_c _ _,Keep.of hB,st,ml,rfl,?_⟩
 obtain ⟨a,c,vm,h1,h2,h3,h4⟩:=h
 have hs:=hB.size
 exact ⟨a,c,vm,h1.step hB,h2.to (fun b hb hl=>⟨.inl hb,by omega,(h4 b hb).2⟩) fun b hb hl=>hB.block b hl,h3.to (fun b hb hl=>⟨.inl hb,by omega,(h4 b hb).2⟩) fun b hb hl=>hB.block b hl,fun b hb=>hb.2⟩
theorem RStepP.fin {S Sc A1 Q1:Nat→Prop} {w X5 wc w6 w9:World} {qb g8 N:Nat} {name:ByteArray} {room:Int} {st':T} {ml':List T} {r:(TakT×Int)×List T} {tk:TakT} {e:Ending} {cs:List Value} (hr:r=((tk,0),st' :: ml')) (he:e=.returned (.tuple #[.agg cs.toArray,.int .i64 0])) (ht:takC A1 w6 tk cs) (hq:QR Q1 w6 qb name room st' ml')
  (hB:Below w.heap.size w X5) (hK1:Keep (fun b=>b=qb) X5 wc) (hK2:Keep (fun b=>b=qb∨N≤b) wc w6) (hB9:Below 0 w6 w9) (ho:∀ b,b≠g8→w9.heap[b]?=w6.heap[b]?) (hs9:w9.heap.size=w6.heap.size) (hg:w.heap.size≤g8) (hN:w.heap.size≤N) (hql:qb < w.heap.size)
  (hA:∀ b,(A1 b∨Q1 b)→b < w6.heap.size→(S b∨Sc b∨w.heap.size≤b)∧b≠g8):RStepP S Sc w qb name room r e w9:=by
 subst hr
 have s1:=hB.size
 have s2:=hK1.size
 have s3:=hK2.size
 refine ⟨cs,he,ht.to (fun b hb hl=>(hA b (.inl hb) hl).1) fun b hb hl=>ho b (hA b (.inl hb) hl).2,⟨hB9.os.trans (hK2.os.trans (hK1.os.trans hB.os)),hB9.tape.trans (hK2.tape.trans (hK1.tape.trans hB.tape)),hB9.output.trans (hK2.output.trans (hK1.output.trans hB.output)),by omega,fun k hk hn=>?_⟩,st',ml',rfl,?_⟩
 ·rw [ho k (by omega),hK2.block k (by omega) (fun h=>h.elim hn fun h=>by omega),hK1.block k (by omega) hn,hB.block k hk]
 obtain ⟨a,c,vm,h1,h2,h3,h4⟩:=hq
 have hS:∀ b,Q1 b→b < w6.heap.size→(S b∨Sc b∨w.heap.size≤b)∧b < w9.heap.size∧b≠qb:=fun b hb hl=>⟨(hA b (.inr hb) hl).1,by omega,(h4 b hb).2⟩
 exact ⟨a,c,vm,h1.heap (ho qb (by omega)),h2.to hS fun b hb hl=>ho b (hA b (.inr hb) hl).2,h3.to hS fun b hb hl=>ho b (hA b (.inr hb) hl).2,fun b hb=>hb.2⟩
def OutsB (n:Nat) (sn:List (Int×T)) (sp:List (Int×ByteArray×T)) (ln:List Int):Prop :=
 (∀ x∈sn,yC [x.2]≤1809)∧(∀ x∈sp,yC [x.2.2]≤1809)∧sn.length≤n∧sp.length≤n∧ln.length≤n
theorem doA_outs (self:Int) (d:Dst) (a:Deed) {n:Nat} (h:OutsB n d.sends d.spawns d.links):OutsB (n+1) (doA self d a).sends (doA self d a).spawns (doA self d a).links:=by
 obtain ⟨h1,h2,h3,h4,h5⟩:=h
 unfold doA
 repeat' split
 ·refine ⟨fun x hx=>?_,h2,by simp;omega,by show d.spawns.length≤_;omega,by show d.links.length≤_;omega⟩
  rcases List.mem_append.1 hx with hx | hx
  ·exact h1 x hx
  obtain rfl:=List.mem_singleton.1 hx
  exact reckO_small _ _ _
 ·refine ⟨h1,fun x hx=>?_,by show d.sends.length≤_;omega,by simp;omega,by show d.links.length≤_;omega⟩
  rcases List.mem_append.1 hx with hx | hx
  ·exact h2 x hx
  obtain rfl:=List.mem_singleton.1 hx
  exact reckO_small _ _ _
 ·exact ⟨h1,h2,by show d.sends.length≤_;omega,by show d.spawns.length≤_;omega,by simp;omega⟩
 ·exact ⟨h1,h2,by show d.sends.length≤_;omega,by show d.spawns.length≤_;omega,by show d.links.length≤_;omega⟩
 exact ⟨h1,h2,by omega,by omega,by omega⟩
theorem foldA_outs (self:Int) (ds:List Deed):∀ (d:Dst) (n:Nat),OutsB n d.sends d.spawns d.links→OutsB (n+ds.length) (foldA self d ds).sends (foldA self d ds).spawns (foldA self d ds).links:=by
 induction ds with
 | nil=>intro d n h;exact h
 | cons a ds ih =>
  intro d n h
  have h1:=ih _ _ (doA_outs self d a h)
  rw [List.length_cons,show n+(ds.length+1)=n+1+ds.length by omega]
  exact h1
theorem OutsB.nil (n:Nat):OutsB n [] [] []:=⟨by simp,by simp,by simp,by simp,by simp⟩
theorem OutsB.mono {n m:Nat} {sn:List (Int×T)} {sp:List (Int×ByteArray×T)} {ln:List Int} (h:OutsB n sn sp ln) (hm:n≤m):OutsB m sn sp ln:=by
 obtain ⟨h1,h2,h3,h4,h5⟩:=h
 exact ⟨h1,h2,by omega,by omega,by omega⟩
theorem actO_outs (room self next:Int) (st:T) (ml:List T) (m:T) (c:Clau) (bd:List T):OutsB c.acts.length (actO room self next st ml m c bd).1.sends (actO room self next st ml m c bd).1.spawns (actO room self next st ml m c bd).1.links:=by
 unfold actO
 simp only
 split
 ·exact OutsB.nil _
 split
 ·have h:=foldA_outs self c.acts ⟨bd,next,[],[],[],0,false⟩ 0 (OutsB.nil _)
  rw [Nat.zero_add] at h
  exact h
 exact OutsB.nil _
theorem actO_ck (room self next:Int) (st:T) (ml:List T) (m:T) (c:Clau) (bd:List T) (h:yE st=0∧yF [st]=true):yE (actO room self next st ml m c bd).2=0∧yF [(actO room self next st ml m c bd).2]=true:=by
 unfold actO
 simp only
 split
 ·exact h
 split
 ·rename_i hp
  unfold pputE at hp
  split at hp
  ·contradiction
  rename_i hq
  exact putE_yes (by simpa using hq)
 exact h
theorem stepE_outs {l:List Behv} {name:ByteArray} {room self next:Int} {st:T} {ml:List T} (hs:yC [st]≤2000) (hm:∀ m∈ml,yC [m]≤2000):OutsB 8 (stepE l name room self next (st :: ml)).1.1.sends (stepE l name room self next (st :: ml)).1.1.spawns (stepE l name room self next (st :: ml)).1.1.links:=by
 unfold stepE
 split
 ·exact OutsB.nil _
 rename_i hto
 split
 ·exact OutsB.nil _
 split
 ·exact OutsB.nil _
 split
 ·exact OutsB.nil _
 rename_i x hx
 unfold stepO at hx
 obtain ⟨⟨i,c,bd⟩,hy,rfl⟩:=Option.map_eq_some_iff.1 hx
 have h1:=(msFirst_out (by exact hs) (by exact hm) hy).1
 refine (actO_outs _ _ _ _ _ _ _ _).mono ?_
 rw [List.getD_eq_getElem?_getD] at h1
 cases hg:l[(namedI name l).toNat]? with
 | none=>rw [hg] at h1;simp at h1
 | some b =>
  rw [hg] at h1
  exact ((toA_clau (by simpa using hto) (List.mem_of_getElem? hg)).2 c h1).1
theorem stepE_ck {l:List Behv} {name:ByteArray} {room self next:Int} {st:T} {ml:List T} (h:∀ x∈st :: ml,yE x=0∧yF [x]=true):∀ x∈(stepE l name room self next (st :: ml)).2,yE x=0∧yF [x]=true:=by
 unfold stepE
 split
 ·exact h
 split
 ·exact h
 split
 ·exact h
 split
 ·exact h
 rename_i x hx
 unfold stepO at hx
 obtain ⟨⟨i,c,bd⟩,hy,rfl⟩:=Option.map_eq_some_iff.1 hx
 intro x hx
 rcases List.mem_cons.1 hx with rfl | hx
 ·exact actO_ck _ _ _ _ _ _ _ _ (h st mS0)
 exact h x (mT ((eraseIdx_sub ml _).subset hx))
theorem newE_ck {name:ByteArray} {room:Int} {t:T} (h:newE name room t=0):yE t=0∧yF [t]=true:=by
 unfold newE at h
 split at h
 ·simp at h
 split at h
 ·simp at h
 unfold pputE at h
 split at h
 ·contradiction
 rename_i hq;exact putE_yes (by simpa using hq)
theorem delE_ck {room:Int} {us:List T} {t:T} (h:delE room us t=0) (hc:∀ x∈us,yE x=0∧yF [x]=true):∀ x∈us ++ [t],yE x=0∧yF [x]=true:=by
 intro x hx
 rcases List.mem_append.1 hx with hx | hx
 ·exact hc x hx
 obtain rfl:=List.mem_singleton.1 hx
 unfold delE at h
 split at h
 ·simp at h
 unfold pputE at h
 split at h
 ·contradiction
 rename_i hq;exact putE_yes (by simpa using hq)
structure Duo (w:World) (pb qb:Nat) (name:ByteArray) (room:Int) (G S:Nat→Prop) (n u:Nat) (L:TW) (st:T) (ml:List T) (wx:World):Prop where
 bel:Below w.heap.size w wx
 rp:PrR G wx pb name room n u L []
 rq:QR S wx qb name room st ml
 ga:∀ b,G b→w.heap.size≤b∧b < wx.heap.size∧¬S b∧b≠qb
 qn:w.heap.size≤qb
section
variable {w:World} {pb qb:Nat} {name:ByteArray} {room:Int} {G S S':Nat→Prop} {n n' u u':Nat} {L L':TW} {st st':T} {ml ml':List T} {wx wy:World}
theorem QR.sl (h:QR S w qb name room st ml):∀ b,S b→b < w.heap.size∧b≠qb:=by obtain ⟨a,c,vm,-,-,-,h⟩:=h;exact h
theorem Duo.below (h:Duo w pb qb name room G S n u L st ml wx) (hB:Below wx.heap.size wx wy):Duo w pb qb name room G S n u L st ml wy :=
 ⟨yB h.bel h.bel.size hB,h.rp.below hB,h.rq.below hB,fun b hb=>⟨(h.ga b hb).1,Nat.lt_of_lt_of_le (h.ga b hb).2.1 hB.size,(h.ga b hb).2.2⟩,h.qn⟩
theorem Duo.stepP (h:Duo w pb qb name room G S n u L st ml wx) (hK:Keep G wx wy) (hP:PrR (fun b=>G b∨wx.heap.size≤b) wy pb name room n' u' L' []):Duo w pb qb name room (fun b=>(G b∨wx.heap.size≤b)∧b < wy.heap.size) S n' u' L' st ml wy:=by
 have hs:=h.bel.size
 have hsz:=hK.size
 refine ⟨h.bel.trans (hK.below hs fun b hb=>(h.ga b hb).1),hP.low,h.rq.to hsz fun b hb hl=>hK.block b hl fun hg=>hb.elim (h.ga b hg).2.2.1 (h.ga b hg).2.2.2,fun b hb=>?_,h.qn⟩
 rcases hb.1 with h1 | h1
 ·exact ⟨(h.ga b h1).1,hb.2,(h.ga b h1).2.2⟩
 exact ⟨by omega,hb.2,fun hg=>by have:=(h.rq.sl b hg).1;omega,by have:=h.rq.lt;omega⟩
theorem Duo.stepQ (h:Duo w pb qb name room G S n u L st ml wx) (hK:Keep (fun b=>b=qb) wx wy) (hQ:QR S' wy qb name room st' ml') (hS:∀ b,S' b→S b∨b < w.heap.size∨wx.heap.size≤b):Duo w pb qb name room G S' n u L st' ml' wy:=by
 have hs:=h.bel.size
 have hsz:=hK.size
 refine ⟨h.bel.trans (hK.below hs fun b hb=>by rw [hb];exact h.qn),h.rp.to hsz fun b hb hl=>hK.block b hl (h.ga b hb).2.2.2,hQ,fun b hb=>?_,h.qn⟩
 have h1:=h.ga b hb
 refine ⟨h1.1,by omega,fun hg=>?_,h1.2.2.2⟩
 rcases hS b hg with h2 | h2 | h2
 ·exact h1.2.2.1 h2
 ·omega
 omega
theorem Duo.other {g:Nat} (h:Duo w pb qb name room G S n u L st ml wx) (hB:Below w.heap.size w wy) (hs:wy.heap.size=wx.heap.size) (ho:∀ b,b≠g→wy.heap[b]?=wx.heap[b]?) (hG:¬G g) (hS:¬S g) (hq:g≠qb):Duo w pb qb name room G S n u L st ml wy :=
 ⟨hB,h.rp.to (by omega) fun b hb _=>ho b fun e=>hG (e ▸ hb),h.rq.to (by omega) fun b hb _=>ho b fun e=>hb.elim (fun hb=>hS (e ▸ hb)) fun hb=>hq (e.symm.trans hb),fun b hb=>by rw [hs];exact h.ga b hb,h.qn⟩
end
def DuoP (w:World) (pb qb:Nat) (name:ByteArray) (room:Int) (n m:Nat) (wx:World):Prop :=
 ∃ (G S:Nat→Prop) (u:Nat) (L:TW) (st:T) (ml:List T),Duo w pb qb name room G S n u L st ml wx∧yQ L=st :: ml∧ml.length≤m∧∀ x∈st :: ml,yE x=0∧yF [x]=true
theorem DuoP.mono {w:World} {pb qb:Nat} {name:ByteArray} {room:Int} {n m n' m':Nat} {wx:World} (h:DuoP w pb qb name room n m wx) (hn:n≤n') (hm:m≤m'):DuoP w pb qb name room n' m' wx:=by
 obtain ⟨G,S,u,L,st,ml,h1,h2,h3,h4⟩:=h
 exact ⟨G,S,u,L,st,ml,⟨h1.bel,h1.rp.names hn,h1.rq,h1.ga,h1.qn⟩,h2,by omega,h4⟩
theorem pname_c (G:Nat→Prop) (w:World) (pb:Nat) (name:ByteArray) (room:Int) (nb u:Nat) (L Z:TW) (h:PrR G w pb name room nb u L Z) :
  Calls Tryz.prog 16 #[.pointer (some ⟨pb,0,none⟩)] w fun e w'=>e=.returned (.string name)∧w=w':=by
 obtain ⟨F,B,H,v,hV,hn,rfl,hG⟩:=h
 have y0:=hV.blk.cell 0 _ rfl
 clear hV
 go_enter Tryz.func16,Tryz.ntmps16
 go_wp2_with fail
 go_ret
 exact ⟨rfl,rfl⟩
end Go.Proofs.YtedfepnekjjmnabGreat
