/-
  Contracts and plain laws, joined: HeapM Heap1 RToP Zeros. Conditions stand in each.
-/
import Derived.Lib.AppendZerosOnto
import Derived.Test.YtedfepnekjjmnabGreatJc
import Derived.Test.YtedfepnekjjmnabGreatJa
import Derived.Test.YtedfepnekjjmnabGreatClause
import Derived.Test.YtedfepnekjjmnabGreatActT
import Derived.Test.YtedfepnekjjmnabGreatJd
import Derived.Test.YtedfepnekjjmnabGreatRCheck
import Derived.Test.YtedfepnekjjmnabGreatJb
namespace Go.Proofs.YtedfepnekjjmnabGreat
open Go.RowKit
set_option linter.unusedSimpArgs false
set_option linter.unusedVariables false
set_option maxRecDepth 100000
set_option maxHeartbeats 2000000
def OwnW (w:World) (v:Value) (l:List Wrd):Prop:=OwnXG wrdE 68 (fun _=>True) 0 w v l
def OwnN (w:World) (v:Value) (l:List ByteArray):Prop:=OwnXG nmE 9 (fun _=>True) 0 w v l
theorem OwnW.to {w w':World} {v:Value} {l:List Wrd} (h:OwnW w v l) (hl:w.heap.size≤w'.heap.size) (hc:∀ b,v.ownBlock=some b→w'.heap[b]?=w.heap[b]?):OwnW w' v l:=by
 obtain ⟨cs,⟨h1,h2⟩,hC⟩:=h
 refine ⟨cs,⟨h1,?_⟩,?_⟩
 ·rcases h2 with h2 | ⟨g,cap,cur,rfl,hg,hh,r⟩
  ·exact .inl h2
  exact .inr ⟨g,cap,cur,rfl,by omega,by rw [hc g rfl];exact hh,r⟩
 clear h1 h2
 induction l generalizing cs with
 | nil=>exact hC
 | cons x l ih=>obtain ⟨c,cs',rfl,h1,h2⟩:=hC;exact ⟨c,cs',rfl,h1,ih cs' h2⟩
theorem OwnN.to {w w':World} {v:Value} {l:List ByteArray} (h:OwnN w v l) (hl:w.heap.size≤w'.heap.size) (hc:∀ b,v.ownBlock=some b→w'.heap[b]?=w.heap[b]?):OwnN w' v l:=by
 obtain ⟨cs,⟨h1,h2⟩,hC⟩:=h
 refine ⟨cs,⟨h1,?_⟩,?_⟩
 ·rcases h2 with h2 | ⟨g,cap,cur,rfl,hg,hh,r⟩
  ·exact .inl h2
  exact .inr ⟨g,cap,cur,rfl,by omega,by rw [hc g rfl];exact hh,r⟩
 clear h1 h2
 induction l generalizing cs with
 | nil=>exact hC
 | cons x l ih=>obtain ⟨c,cs',rfl,h1,h2⟩:=hC;exact ⟨c,cs',rfl,h1,ih cs' h2⟩
structure HeapV (F:Nat→Prop) (w:World) (B:Nat) (room:Int) (H:HS) (vw vn:Value):Prop where
 blk:Blk w B [.int .i64 room,vw,vn]
 ws:OwnW w vw H.ws
 nm:OwnN w vn H.names
 nw:vw.ownBlock≠some B
 nn:vn.ownBlock≠some B
 ne:∀ b,vw.ownBlock=some b→vn.ownBlock≠some b
 fb:F B
 fw:∀ b,vw.ownBlock=some b→F b
 fn:∀ b,vn.ownBlock=some b→F b
def HeapR (F:Nat→Prop) (w:World) (B:Nat) (room:Int) (H:HS):Prop:=∃ vw vn,HeapV F w B room H vw vn
theorem HeapV.to {F F':Nat→Prop} {w w':World} {B:Nat} {room:Int} {H:HS} {vw vn:Value} (h:HeapV F w B room H vw vn) (hl:w.heap.size≤w'.heap.size) (hF:∀ b,F b→F' b)
  (hc:∀ b,F b→b < w.heap.size→w'.heap[b]?=w.heap[b]?):HeapV F' w' B room H vw vn where
 blk:=by
  have he:=hc B h.fb h.blk.lt
  exact ⟨by have:=h.blk.lt;omega,fun j u hu=>(World.cell?_of_block (w:=w) (a:=⟨B,j,none⟩) he).trans (h.blk.cell j u hu),fun o=>(World.frozen?_of_block (w:=w) (a:=⟨B,o,none⟩) he).trans (h.blk.fr o)⟩
 ws:=h.ws.to hl fun b hb=>hc b (h.fw b hb) (h.ws.block b hb).2
 nm:=h.nm.to hl fun b hb=>hc b (h.fn b hb) (h.nm.block b hb).2
 nw:=h.nw
 nn:=h.nn
 ne:=h.ne
 fb:=hF _ h.fb
 fw:=fun b hb=>hF _ (h.fw b hb)
 fn:=fun b hb=>hF _ (h.fn b hb)
theorem HeapR.to {F F':Nat→Prop} {w w':World} {B:Nat} {room:Int} {H:HS} (h:HeapR F w B room H) (hl:w.heap.size≤w'.heap.size) (hF:∀ b,F b→F' b)
  (hc:∀ b,F b→b < w.heap.size→w'.heap[b]?=w.heap[b]?):HeapR F' w' B room H:=by
 obtain ⟨vw,vn,h⟩:=h;exact ⟨vw,vn,h.to hl hF hc⟩
theorem HeapV.below {F:Nat→Prop} {w w':World} {B:Nat} {room:Int} {H:HS} {vw vn:Value} (h:HeapV F w B room H vw vn) (hB:Below w.heap.size w w'):HeapV F w' B room H vw vn:=h.to hB.size (fun _ h=>h) fun b _ hb=>hB.block b hb
theorem HeapR.below {F:Nat→Prop} {w w':World} {B:Nat} {room:Int} {H:HS} (h:HeapR F w B room H) (hB:Below w.heap.size w w'):HeapR F w' B room H:=h.to hB.size (fun _ h=>h) fun b _ hb=>hB.block b hb
theorem HeapR.mono {F F':Nat→Prop} {w:World} {B:Nat} {room:Int} {H:HS} (h:HeapR F w B room H) (hF:∀ b,F b→F' b):HeapR F' w B room H:=h.to (Nat.le_refl _) hF fun _ _ _=>rfl
theorem HeapR.keep {F R:Nat→Prop} {w w':World} {B:Nat} {room:Int} {H:HS} (h:HeapR F w B room H) (hK:Keep R w w') (hR:∀ b,F b→b < w.heap.size→¬R b):HeapR F w' B room H:=h.to hK.size (fun _ h=>h) fun b hb hl=>hK.block b hl (hR b hb hl)
theorem OwnW.form {w:World} {v:Value} {l:List Wrd} (h:OwnW w v l):∃ a cap,v=.slice a l.length cap:=by obtain ⟨a,cap,rfl,-⟩:=OwnXG.form h;exact ⟨a,cap,rfl⟩
theorem OwnN.form {w:World} {v:Value} {l:List ByteArray} (h:OwnN w v l):∃ a cap,v=.slice a l.length cap:=by obtain ⟨a,cap,rfl,-⟩:=OwnXG.form h;exact ⟨a,cap,rfl⟩
theorem OwnW.rx {w:World} {v:Value} {l:List Wrd} (h:OwnW w v l):RX wrdE (fun b=>v.ownBlock=some b) (fun _=>True) w l v:=(OwnX.rx h).mono (fun _ h=>h) fun _ _=>trivial
theorem OwnN.rx {w:World} {v:Value} {l:List ByteArray} (h:OwnN w v l):RX nmE (fun b=>v.ownBlock=some b) (fun _=>True) w l v:=(OwnX.rx h).mono (fun _ h=>h) fun _ _=>trivial
theorem RX.wrd {R S:Nat→Prop} {w:World} {l:List Wrd} {b o n cap:Nat} (h:RX wrdE R S w l (.slice (some ⟨b,o,none⟩) n cap)) (j:Nat) (hj:j < l.length) :
  R b∧w.cell? ⟨b,o+j * 2,none⟩=some (.int .i64 l[j].kind)∧w.cell? ⟨b,o+j * 2+1,none⟩=some (.int .i64 l[j].n):=by
 obtain ⟨c,rfl,hc⟩:=h.elem j hj
 exact ⟨(hc 0 _ rfl).1,(hc 0 _ rfl).2,(hc 1 _ rfl).2⟩
theorem RX.nm {R S:Nat→Prop} {w:World} {l:List ByteArray} {b o n cap:Nat} (h:RX nmE R S w l (.slice (some ⟨b,o,none⟩) n cap)) (j:Nat) (hj:j < l.length) :
  R b∧w.cell? ⟨b,o+j,none⟩=some (.string l[j]):=by
 obtain ⟨c,rfl,hc⟩:=h.elem j hj
 have h0:=hc 0 _ rfl
 exact ⟨h0.1,by have:=h0.2;simpa [nmE] using this⟩
theorem RX.part {R S:Nat→Prop} {w:World} {l:List Wrd} {b o n cap:Nat} (h:RX wrdE R S w l (.slice (some ⟨b,o,none⟩) n cap)) (i k cap':Nat) (hik:i+k≤l.length) (hk:k≤cap') :
  RX wrdE R S w ((l.drop i).take k) (.slice (some ⟨b,o+i * 2,none⟩) k cap'):=by
 have hl:((l.drop i).take k).length=k:=by rw [List.length_take,List.length_drop];omega
 refine ⟨some ⟨b,o+i * 2,none⟩,cap',((l.drop i).take k).flatMap fun x=>[.int .i64 x.kind,.int .i64 x.n],by rw [hl],⟨by omega,by simp⟩,?_,?_⟩
 ·clear hl hik h hk
  generalize (l.drop i).take k=m
  induction m with
  | nil=>rfl
  | cons x m ih=>exact ⟨[.int .i64 x.kind,.int .i64 x.n],_,rfl,rfl,ih⟩
 have key:∀ (m:List Wrd) (j:Nat) (u:Value),(m.flatMap fun x=>[Value.int .i64 x.kind,.int .i64 x.n])[j]?=some u→∃ q,∃ hq:q < m.length,(j=q * 2∧u=.int .i64 m[q].kind)∨(j=q * 2+1∧u=.int .i64 m[q].n):=by
  intro m
  induction m with
  | nil=>intro j u hu;simp at hu
  | cons x m ih =>
   intro j u hu
   match j,hu with
   | 0,hu=>exact ⟨0,by simp,.inl ⟨rfl,by simpa using hu.symm⟩⟩
   | 1,hu=>exact ⟨0,by simp,.inr ⟨rfl,by simpa using hu.symm⟩⟩
   | j+2,hu =>
    obtain ⟨q,hq,h⟩:=ih j u (by simpa using hu)
    refine ⟨q+1,by simpa using hq,?_⟩
    rcases h with ⟨h1,h2⟩ | ⟨h1,h2⟩
    ·exact .inl ⟨by omega,by simpa using h2⟩
    ·exact .inr ⟨by omega,by simpa using h2⟩
 intro j u hu
 obtain ⟨q,hq,hh⟩:=key _ j u hu
 rw [hl] at hq
 have hg:((l.drop i).take k)[q]'(by rw [hl];exact hq)=l[i+q]'(by omega):=by simp
 have hw:=h.wrd (i+q) (by omega)
 rw [hg] at hh
 rcases hh with ⟨rfl,rfl⟩ | ⟨rfl,rfl⟩
 ·exact ⟨b,o+i * 2,rfl,hw.1,by rw [show o+i * 2+q * 2=o+(i+q) * 2 by omega];exact hw.2.1⟩
 exact ⟨b,o+i * 2,rfl,hw.1,by rw [show o+i * 2+(q * 2+1)=o+(i+q) * 2+1 by omega];exact hw.2.2⟩
theorem szWord:(Tryz.prog.info? 68).map (·.size)=some 2:=by kernel_rfl
theorem keep_grown {F:Nat→Prop} {w0 w':World} {O:Obj} {own:Option Nat} {base:Nat} (hB:Below base w0 w') (hg:(w0.alloc O).grownBy w' own) (hF:∀ b,own=some b→F b):Keep F w0 w' :=
 ⟨hB.os,hB.tape,hB.output,hB.size,fun k hk hn=>(hg.block k (by simp;omega) (fun e=>hn (hF k e.symm))).trans (Below.heap_alloc _ _ _ hk)⟩
theorem HeapV.names' {F:Nat→Prop} {w w3:World} {B:Nat} {room:Int} {H:HS} {vw vn v':Value} {l:List ByteArray} (h:HeapV F w B room H vw vn) (hl:w.heap.size≤w3.heap.size)
  (hg:∀ b,b < w.heap.size→vn.ownBlock≠some b→w3.heap[b]?=w.heap[b]?) (hO:OwnN w3 v' l) (hp:∀ b,v'.ownBlock=some b→vn.ownBlock=some b∨w.heap.size≤b) :
  HeapV (fun b=>F b∨w.heap.size≤b) (w3.setCell ⟨B,2,none⟩ v') B room ⟨H.ws,l⟩ vw v':=by
 have hBl:=h.blk.lt
 have hne:v'.ownBlock≠some B:=fun e=>by
  rcases hp B e with h1 | h1
  ·exact h.nn h1
  ·omega
 have hb:=hg B hBl h.nn
 have hblk:Blk w3 B [.int .i64 room,vw,vn]:=⟨by omega,fun j u hu=>(World.cell?_of_block (w:=w) (a:=⟨B,j,none⟩) hb).trans (h.blk.cell j u hu),fun o=>(World.frozen?_of_block (w:=w) (a:=⟨B,o,none⟩) hb).trans (h.blk.fr o)⟩
 refine ⟨hblk.set 2 v' (by simp),(h.ws.to hl fun b hb=>hg b (h.ws.block b hb).2 (h.ne b hb)).to (by simp) fun b hb=>yD w3 B 2 v' b fun e=>h.nw (by rw [←e];exact hb),hO.to (by simp) fun b hb=>yD w3 B 2 v' b fun e=>hne (by rw [←e];exact hb),h.nw,hne,fun b h1 h2=>?_,.inl h.fb,fun b hb=>.inl (h.fw b hb),fun b hb=>(hp b hb).imp (h.fn b) id⟩
 rcases hp b h2 with h3 | h3
 ·exact h.ne b h1 h3
 have:=(h.ws.block b h1).2;omega
theorem HeapV.words' {F:Nat→Prop} {w w3:World} {B:Nat} {room:Int} {H:HS} {vw vn v':Value} {l:List Wrd} (h:HeapV F w B room H vw vn) (hl:w.heap.size≤w3.heap.size)
  (hg:∀ b,b < w.heap.size→vw.ownBlock≠some b→w3.heap[b]?=w.heap[b]?) (hO:OwnW w3 v' l) (hp:∀ b,v'.ownBlock=some b→vw.ownBlock=some b∨w.heap.size≤b) :
  HeapV (fun b=>F b∨w.heap.size≤b) (w3.setCell ⟨B,1,none⟩ v') B room ⟨l,H.names⟩ v' vn:=by
 have hBl:=h.blk.lt
 have hne:v'.ownBlock≠some B:=fun e=>by
  rcases hp B e with h1 | h1
  ·exact h.nw h1
  ·omega
 have hb:=hg B hBl h.nw
 have hblk:Blk w3 B [.int .i64 room,vw,vn]:=⟨by omega,fun j u hu=>(World.cell?_of_block (w:=w) (a:=⟨B,j,none⟩) hb).trans (h.blk.cell j u hu),fun o=>(World.frozen?_of_block (w:=w) (a:=⟨B,o,none⟩) hb).trans (h.blk.fr o)⟩
 refine ⟨hblk.set 1 v' (by simp),hO.to (by simp) fun b hb=>yD w3 B 1 v' b fun e=>hne (by rw [←e];exact hb),(h.nm.to hl fun b hb=>hg b (h.nm.block b hb).2 (fun e=>h.ne b e hb)).to (by simp) fun b hb=>yD w3 B 1 v' b fun e=>h.nn (by rw [←e];exact hb),hne,h.nn,fun b h1 h2=>?_,.inl h.fb,fun b hb=>(hp b hb).imp (h.fw b) id,fun b hb=>.inl (h.fn b hb)⟩
 rcases hp b h1 with h3 | h3
 ·exact h.ne b h3 h2
 have:=(h.nm.block b h2).2;omega
theorem hnew_ok (room:Int) (w:World) (h0:0≤room) (h1:room≤1000):Calls Tryz.prog 22 #[.int .i64 room] w fun e w'=>e=.returned (.tuple #[.pointer (some ⟨w.heap.size,0,none⟩),.int .i64 0])∧Below w.heap.size w w'∧HeapR (fun b=>b=w.heap.size) w' w.heap.size room ⟨[],[]⟩∧w'.heap.size=w.heap.size+1:=by
 go_enter Tryz.func22,Tryz.ntmps22
 go_wp2_with fail
 go_ret2
 refine ⟨rfl,yA _ _,⟨.slice none 0 0,.slice none 0 0,Blk.new _ _ _ _ rfl,OwnXG.nil _ _ _ _,OwnXG.nil _ _ _ _,by simp [Value.ownBlock],by simp [Value.ownBlock],by simp [Value.ownBlock],rfl,by simp [Value.ownBlock],by simp [Value.ownBlock]⟩,by simp⟩
theorem hnew_bad (room:Int) (w:World) (h:room < 0∨1000 < room):Calls Tryz.prog 22 #[.int .i64 room] w fun e w'=>e=.returned (.tuple #[.pointer none,.int .i64 1])∧w=w':=by
 rcases h with h | h
 ·go_enter Tryz.func22,Tryz.ntmps22
  go_wp2_with fail
  go_ret2
  exact ⟨rfl,rfl⟩
 have h':¬room < 0:=by omega
 go_enter Tryz.func22,Tryz.ntmps22
 go_wp2_with fail
 go_ret2
 exact ⟨rfl,rfl⟩
theorem hused_c (F:Nat→Prop) (w:World) (B:Nat) (room:Int) (H:HS) (hR:HeapR F w B room H):Calls Tryz.prog 49 #[.pointer (some ⟨B,0,none⟩)] w fun e w'=>e=.returned (.int .i64 H.ws.length)∧w=w':=by
 obtain ⟨vw,vn,hV⟩:=hR
 obtain ⟨a,cap,rfl⟩:=hV.ws.form
 have y1:=hV.blk.cell 1 _ rfl
 have HV:=J hV
 clear hV
 go_enter Tryz.func49,Tryz.ntmps49
 go_wp2_with fail
 go_ret
 exact ⟨rfl,rfl⟩
theorem nameI_any (s:ByteArray) (l:List ByteArray) (h:(l.any fun x=>s.toList == x.toList)=false):nameI s l = -1:=idxI_none _ _ _ h
theorem nameI_take (s:ByteArray) (l:List ByteArray) (k:Nat) (hk:k < l.length) (h:((l.take k).any fun x=>s.toList == x.toList)=false) (h1:(s.toList == l[k].toList)=true):nameI s l=k:=by
 rw [nameI,idxI_take _ l k 0 hk h h1];omega
theorem index_c (R S:Nat→Prop) (l:List ByteArray) (s:ByteArray) (a:Option Addr) (cap:Nat) (w:World) (hv:RX nmE R S w l (.slice a l.length cap)) (hl:l.length≤1099511627776) :
  Calls Tryz.prog 92 #[.slice a l.length cap,.string s] w fun e w'=>e=.returned (.int .i64 (nameI s l))∧w=w':=by
 have HV:=J hv
 clear hv
 go_enter Tryz.func92,Tryz.ntmps92
 go_wp2_with fail
 go_loop [8] (fun i=>∃ k:Nat,k≤l.length∧i=.int .i64 k∧((l.take k).any fun x=>s.toList == x.toList)=false) (fun i=>l.length - (intOf i).toNat)
 case atStart=>exact ⟨0,Nat.zero_le _,rfl,rfl⟩
 obtain ⟨k,hk,rfl,hany⟩:=hrel
 have HA:=J hany
 clear hany
 by_cases hlt:k < l.length
 ·obtain ⟨b,o,rfl⟩:=HV.out.addr (by decide) (by omega)
  have c0:=(HV.out.nm k hlt).2
  have HS:=J (any_take_succ (fun x=>s.toList == x.toList) l k hlt)
  cases hp:(s.toList == l[k].toList)
  ·have HP:=J hp
   go_wp2_with fail
   go_round
   case rel=>exact ⟨k+1,by omega,by go_num,by rw [HS.out,HA.out,HP.out];rfl⟩
   case measure=>simp [intOf];omega
  have HP:=J hp
  have HN:=J (nameI_take s l k hlt HA.out hp)
  go_wp2_with fail
  go_ret
  exact ⟨yO HN.out.symm,rfl⟩
 have hkk:k=l.length:=by omega
 subst hkk
 have HN:=J (nameI_any s l (by have:=HA.out;rwa [List.take_of_length_le (Nat.le_refl _)] at this))
 go_wp2_with fail
 go_ret
 exact ⟨yO HN.out.symm,rfl⟩
theorem any_first {α:Type} (p:α→Bool):∀ (l:List α),l.any p=true→∃ k,∃ hk:k < l.length,(l.take k).any p=false∧p l[k]=true
 | [],h=>by simp at h
 | x :: l,h=>by
  cases hx:p x
  ·rw [List.any_cons,hx,Bool.false_or] at h
   obtain ⟨k,hk,h1,h2⟩:=any_first p l h
   exact ⟨k+1,by simpa using hk,by rw [List.take_succ_cons,List.any_cons,hx,h1];rfl,by simpa using h2⟩
  ·exact ⟨0,by simp,rfl,by simpa using hx⟩
theorem nameI_cases (s:ByteArray) (l:List ByteArray):nameI s l = -1∧(∀ x∈l,x≠s)∨∃ k,∃ hk:k < l.length,nameI s l=k∧l[k]=s:=by
 cases h:(l.any fun x=>s.toList == x.toList)
 ·refine .inl ⟨nameI_any s l h,fun x hx he=>?_⟩
  rw [List.any_eq_false] at h
  have:=h x hx
  rw [he] at this
  simp at this
 obtain ⟨k,hk,h1,h2⟩:=any_first _ l h
 refine .inr ⟨k,hk,nameI_take s l k hk h1 h2,?_⟩
 have h3:=eq_of_beq h2
 rw [Lib.toList_data,Lib.toList_data] at h3
 exact (ba_ext h3).symm
def AtomP (F:Nat→Prop) (w:World) (B:Nat) (room:Int) (H:HS) (s:ByteArray) (e:Ending) (w':World):Prop :=
 e=.returned (.int .i64 (atomH s H.names).1)∧Keep F w w'∧HeapR (fun b=>F b∨w.heap.size≤b) w' B room ⟨H.ws,(atomH s H.names).2⟩
theorem hatom_c (F:Nat→Prop) (w:World) (B:Nat) (room:Int) (H:HS) (s:ByteArray) (hR:HeapR F w B room H) (hl:H.names.length≤137438953472) :
  Calls Tryz.prog 76 #[.pointer (some ⟨B,0,none⟩),.string s] w (AtomP F w B room H s):=by
 obtain ⟨vw,vn,hV⟩:=hR
 obtain ⟨an,cn,rfl⟩:=hV.nm.form
 have y2:=hV.blk.cell 2 _ rfl
 have HV:=J hV
 have HX:=J hV.nm.rx
 have hBl:=hV.blk.lt
 clear hV
 by_cases hneg:nameI s H.names < 0
 ·have HA:Hid (atomH s H.names=((H.names.length:Int),H.names ++ [s])):=J (by rw [atomH,if_pos hneg])
  obtain ⟨m,hm⟩:∃ m,m=nameI s H.names:=⟨_,rfl⟩
  have HM:=J hm
  rw [←hm] at hneg
  clear hm
  go_enter Tryz.func76,Tryz.ntmps76
  go_wp2_with fail
  refine (index_c _ _ H.names s an cn _ HX.out (by omega)).mono ?_
  rintro e w' ⟨he,hw⟩
  rw [←HM.out] at he
  subst he
  obtain rfl:w=w':=hw
  go_wp2_with (at_builtin;(refine append_growX nmF (v:=.slice an H.names.length cn) (y:=s) (g0:=w.heap.size) _ _ rfl rfl (by rfl) (by rfl) rfl (show OwnXG nmE nmF.e (fun _=>True) 0 w (.slice an H.names.length cn) H.names from HV.out.nm) (R:=fun _=>False) rfl (fun b hb=>hb.elim) rfl (by omega) (by omega) ?_);intro gg cg w3 hO3 hB3 hG3 hD3;have hgb:=hG3.block B (by simp;omega) (fun he=>HV.out.nn he.symm);have hgb2:w3.heap[B]?=w.heap[B]?:=hgb.trans (Below.heap_alloc _ _ _ hBl);have y23:=(World.cell?_of_block (w:=w) (a:=⟨B,2,none⟩) hgb2).trans y2;have yf3:=(fun o=>(World.frozen?_of_block (w:=w) (a:=⟨B,o,none⟩) hgb2).trans (HV.out.blk.fr o));have hl3:=hB3.size;have HO3:=J hO3;have HB3:=J hB3;have HG3:=J hG3;have HD3:=J hD3;clear hO3 hB3 hG3 hD3 hgb hgb2)
  go_ret
  have hp:∀ b,(Value.slice (some ⟨gg,0,none⟩) (H.names.length+1) cg).ownBlock=some b→(Value.slice an H.names.length cn).ownBlock=some b∨w.heap.size≤b:=fun b hb=>by
   obtain rfl:gg=b:=by simpa [Value.ownBlock] using hb
   exact HD3.out.imp id (by omega)
  have hg:∀ b,b < w.heap.size→(Value.slice an H.names.length cn).ownBlock≠some b→w3.heap[b]?=w.heap[b]?:=fun b hb hn=>(HG3.out.block b (by simp;omega) (fun e=>hn e.symm)).trans (Below.heap_alloc _ _ _ hb)
  refine ⟨yO (by rw [HA.out]),(keep_grown HB3.out HG3.out HV.out.fn).setCell _ (.inl HV.out.fb),?_⟩
  rw [HA.out]
  exact ⟨_,_,HV.out.names' (by omega) hg HO3.out hp⟩
 have HA:Hid (atomH s H.names=(nameI s H.names,H.names)):=J (by rw [atomH,if_neg hneg])
 obtain ⟨m,hm⟩:∃ m,m=nameI s H.names:=⟨_,rfl⟩
 have HM:=J hm
 rw [←hm] at hneg
 clear hm
 go_enter Tryz.func76,Tryz.ntmps76
 go_wp2_with fail
 refine (index_c _ _ H.names s an cn _ HX.out (by omega)).mono ?_
 rintro e w' ⟨he,hw⟩
 rw [←HM.out] at he
 subst he
 obtain rfl:w=w':=hw
 go_wp2_with fail
 go_ret
 refine ⟨yO (by rw [HA.out];exact HM.out),Keep.refl _ _,?_⟩
 rw [HA.out]
 exact ⟨_,_,HV.out.to (Nat.le_refl _) (fun b hb=>.inl hb) fun _ _ _=>rfl⟩
theorem RT.none0 {S:Nat→Prop} {w:World}:RT S w yJ (.agg #[.int .i64 0,.int .i64 0,.string ⟨#[]⟩,.slice none 0 0]):=⟨none,0,rfl,⟨Nat.le_refl _,fun _=>rfl⟩,by simp [yJ,RTs]⟩
theorem emptyB_same (t:T):sameT t yJ=emptyB t:=by
 cases h:emptyB t
 ·cases h2:sameT t yJ
  ·rfl
  rw [(emptyB_iff t).2 ((sameT_iff t yJ).1 h2)] at h;cases h
 exact (sameT_iff t yJ).2 ((emptyB_iff t).1 h)
theorem rnone_c (t:T) (a:Option Addr) (cap:Nat) (S:Nat→Prop) (w:World) (hv:RT S w t (.agg #[.int .i64 t.kind,.int .i64 t.n,.string t.name,.slice a t.args.length cap])) (hb:yC [t]≤1099511627776) :
  Calls Tryz.prog 27 #[.agg #[.int .i64 t.kind,.int .i64 t.n,.string t.name,.slice a t.args.length cap]] w fun e w'=>e=.returned (.bool (emptyB t))∧Below w.heap.size w w':=by
 have HV:=J (hv.alloc (.cells #[.int .i64 t.kind,.int .i64 t.n,.string t.name,.slice a t.args.length cap] 25))
 have HB:=J (yA w (.cells #[.int .i64 t.kind,.int .i64 t.n,.string t.name,.slice a t.args.length cap] 25))
 have HE:=J (emptyB_same t)
 clear hv
 go_enter Tryz.func27,Tryz.ntmps27
 go_wp2_with fail
 refine (same_c t yJ S _ _ _ HV.out RT.none0 (by omega) (by simp [yJ,yG,yC,ByteArray.size])).mono ?_
 rw [HE.out]
 rintro e w1 ⟨rfl,hB1⟩
 go_wp2_with fail
 go_ret
 exact ⟨rfl,yB HB.out (by simp) hB1⟩
def RToPost (w:World) (r:T×Int) (e:Ending) (w':World):Prop :=
 ∃ a cap,e=.returned (.tuple #[.agg #[.int .i64 r.1.kind,.int .i64 r.1.n,.string r.1.name,.slice a r.1.args.length cap],.int .i64 r.2])∧Below w.heap.size w w'∧RT (fun b=>b < w'.heap.size) w' r.1 (.agg #[.int .i64 r.1.kind,.int .i64 r.1.n,.string r.1.name,.slice a r.1.args.length cap])
section
variable {ops:Array Oper} {rest:List Oper} {o:Oper} {a:Act} {Q:Exit→Act→World→Prop}
theorem append_grow2 (s x:Operand) (hgd:o.guard=none) (ho:o.op=.call { callee:=.builtin .append,args:=#[s,x],argTypes:=#[23,23] })
  {P R:Nat→Prop} {base:Nat} {w0:World} {v:Value} {ts:List T} {t:T} {c0 c1 c2 c3:Value} {g0 n:Nat} (hs:a.eval s=v) (hx:a.eval x=.slice (some ⟨g0,0,none⟩) 1 1) (hg0:g0=w0.heap.size) (hown:OwnG P base w0 v ts)
  (ht:RT R w0 t (.agg #[c0,c1,c2,c3])) (hR:∀ b,R b→b < w0.heap.size→P b∧v.ownBlock≠some b) (hnl:ts.length=n) (hn:n+1≤1099511627776) (hbase:base≤w0.heap.size)
  (h:∀ g cap w',OwnG P base w' (.slice (some ⟨g,0,none⟩) (n+1) cap) (ts ++ [t])→(w0.alloc (.cells #[c0,c1,c2,c3] 25)).grownBy w' v.ownBlock→Below base w0 w'→(v.ownBlock=some g∨w0.heap.size < g)→wpList Tryz.prog ops Q rest (a.put o.dst (.slice (some ⟨g,0,none⟩) (n+1) cap)) w') :
  wpList Tryz.prog ops Q (o :: rest) a (w0.alloc (.cells #[c0,c1,c2,c3] 25)) :=
 wpList_plain hgd fun K hK=>wp_grow s x hgd ho hs hx hg0 hown ht hR hnl hn hbase fun g cap w' h1 h2 h3 h4=>hK _ _ (h g cap w' h1 h2 h3 h4)
end
theorem zeros_eq (n:Nat):(Builtin.zeroCells #[.int .i64 0,.int .i64 0] n).toList=List.replicate (n * 2) (.int .i64 0):=by
 rw [List.eq_replicate_iff]
 refine ⟨by simp [Builtin.zeroCells],fun b hb=>?_⟩
 unfold Builtin.zeroCells at hb
 rw [Array.toList_map,List.mem_map] at hb
 obtain ⟨i,-,rfl⟩:=hb
 show (#[Value.int .i64 0,Value.int .i64 0]:Array Value)[i % 2]! = _
 rcases Nat.mod_two_eq_zero_or_one i with h | h <;> rw [h] <;> rfl
theorem zeros_size (n:Nat):(Builtin.zeroCells #[.int .i64 0,.int .i64 0] n).size=n * 2:=by simp [Builtin.zeroCells]
theorem cells_zeros (S:Nat→Prop) (w:World) (n:Nat):CellsX wrdE S w (List.replicate n ⟨0,0⟩) (List.replicate (n * 2) (.int .i64 0)):=by
 induction n with
 | zero=>rfl
 | succ n ih=>exact ⟨[.int .i64 0,.int .i64 0],_,by rw [show (n+1) * 2=n * 2+1+1 by omega];rfl,rfl,ih⟩
theorem owns_app {w:World} {v:Value} {l m:List Wrd} {cs:List Value} (S:Nat→Prop) (h:w.ownsRow 0 68 2 v (l ++ m).length cs) (hC:CellsX wrdE S w (l ++ m) cs):OwnW w v (l ++ m):=by
 refine ⟨cs,h,?_⟩
 clear h
 generalize l ++ m=k at hC ⊢
 induction k generalizing cs with
 | nil=>exact hC
 | cons x k ih=>obtain ⟨c,cs',rfl,h1,h2⟩:=hC;exact ⟨c,cs',rfl,h1,ih h2⟩
theorem cellsW {S S':Nat→Prop} {w w':World} {l:List Wrd} {cs:List Value} (hC:CellsX wrdE S w l cs):CellsX wrdE S' w' l cs:=by
 induction l generalizing cs with
 | nil=>exact hC
 | cons x k ih=>obtain ⟨c,cs',rfl,h1,h2⟩:=hC;exact ⟨c,cs',rfl,h1,ih h2⟩
theorem infoWord:(Tryz.prog.info? 68).map (fun i=>(i.zero,i.size,i.bytes))=some (some (.agg #[.int .i64 0,.int .i64 0]),2,16):=by kernel_rfl
theorem run_append_zeros (w:World) (ty:TypeId) (v:Value) (l:List Wrd) (n:Nat) (hown:OwnW w v l) (hn:l.length+n≤137438953472) :
  ∃ a cap w',(Builtin.append_ #[71,3] ty #[v,.int .i64 n]).run Tryz.prog w=.ok (.slice a (l.length+n) cap) w'∧OwnW w' (.slice a (l.length+n) cap) (l ++ List.replicate n ⟨0,0⟩)∧w.grownBy w' v.ownBlock ∧
   (∀ b,(Value.slice a (l.length+n) cap).ownBlock=some b→v.ownBlock=some b∨w.heap.size≤b):=by
 obtain ⟨i,hi,hz,his,hib⟩:=info_parts infoWord
 obtain ⟨cs,hrow,hC⟩:=hown
 have hlen:(l ++ List.replicate n (⟨0,0⟩:Wrd)).length=l.length+n:=by simp
 have hcl:cs.length=l.length * 2:=hC.length
 have hw:IntKind.i64.wrap (n:Int)=n:=by rw [IntKind.wrap_i64];omega
 have hneg:¬((n:Int) < 0):=by omega
 have hw0:IntKind.i64.wrap 0=0:=by decide
 have h48i:¬(281474976710656 < (n:Int) * (i.bytes:Int)):=by rw [hib];omega
 rcases hrow.2 with ⟨rfl,h0⟩ | ⟨g,cap,cur,rfl,hbg,hg,hnc,hcm,hcs,htake⟩
 ·have hl0:l=[]:=List.eq_nil_of_length_eq_zero h0
  subst hl0
  have hcs0:cs=[]:=List.eq_nil_of_length_eq_zero (by simpa using hcl)
  subst hcs0
  by_cases hn0:n=0
  ·subst hn0
   refine ⟨none,0,w,?_,OwnXG.nil _ _ _ _,⟨rfl,rfl,rfl,Nat.le_refl _,fun _ _ _=>rfl⟩,fun b hb=>.inl hb⟩
   simp [Builtin.append_,run_underlying Tryz.underlying71,run_underlying Tryz.underlying3,sizeOf,typeInfo,hi,asInt,asIntOf,hw0]
  have hr:=Lib.run_append_nil_zeros (P:=Tryz.prog) w 71 3 ty 68 i _ .i64 .i64 Tryz.underlying71 Tryz.underlying3 hi hz n (by omega) (by rw [his];omega) (by omega) (by rw [hib];omega)
  have hge:=grownCap_ge w n 0 68
  have hcm:grownCap w n 0 68≤maxLen:=grownCap_le_maxLen w n 0 68 (by unfold maxLen;omega)
  refine ⟨some ⟨w.heap.size,0,none⟩,grownCap w n 0 68,w.drew.alloc (.cells (Builtin.zeroCells #[.int .i64 0,.int .i64 0] n ++ Builtin.zeroCells #[.int .i64 0,.int .i64 0] (grownCap w n 0 68 - n)) 68),by simpa [Value.cells] using hr,?_,⟨rfl,rfl,rfl,by simp,fun k hk _=>heap_alloc_old w.drew _ hk⟩,fun b hb=>.inr ?_⟩
  ·refine owns_app (fun _=>True) (cs:=List.replicate (n * 2) (.int .i64 0)) ?_ (by simpa using cells_zeros _ _ n)
   refine ⟨by simp,.inr ⟨w.heap.size,_,_,by simp,Nat.zero_le _,heap_alloc_new w.drew _,by simpa using hge,hcm,?_,?_⟩⟩
   ·simp only [Array.size_append,zeros_size];omega
   simp only [Array.toList_append,zeros_eq]
   rw [List.take_left' (by simp)]
  simp only [Value.ownBlock,Option.some.injEq] at hb;omega
 have hcs:cur.size=cap * 2:=hcs
 have htake:cur.toList.take (l.length * 2)=cs:=htake
 by_cases hroom:l.length+n≤cap
 ·have hst:=run_storeCells_at Tryz.prog g (l.length * 2) 68 (List.replicate (n * 2) (Value.int .i64 0)) 0 cur w hg (by rw [List.length_replicate];omega) (by intro u hu;rw [List.eq_of_mem_replicate hu];rfl)
  simp only [Nat.add_zero,List.length_replicate] at hst
  refine ⟨some ⟨g,0,none⟩,cap,w.setRow g (cur.toList.take (l.length * 2) ++ List.replicate (n * 2) (Value.int .i64 0) ++ cur.toList.drop (l.length * 2+n * 2)).toArray,?_,?_,⟨rfl,rfl,rfl,by simp,fun k _ hk=>setRow_other w g k _ (fun e=>hk (by simp [Value.ownBlock,e]))⟩,fun b hb=>.inl hb⟩
  ·by_cases hn0:n=0
   ·subst hn0
    simp [Builtin.append_,run_underlying Tryz.underlying71,run_underlying Tryz.underlying3,sizeOf,typeInfo,hi,his,asInt,asIntOf,hw0,hnc,storeCells]
    rw [setRow_self w g cur 68 (0,0) hg]
   have hns:¬(n * i.size=0):=by rw [his];omega
   have hz':(Builtin.zeroCells (Value.agg #[.int .i64 0,.int .i64 0]).cells n).toList=List.replicate (n * 2) (.int .i64 0):=zeros_eq n
   have h16:¬(281474976710656 < (n:Int) * 16):=by omega
   have hn2:¬(n * 2=0):=by omega
   simp [Builtin.append_,run_underlying Tryz.underlying71,run_underlying Tryz.underlying3,sizeOf,typeInfo,zeroValue,hi,hz,his,hib,asInt,asIntOf,hw,hneg,h16,hn2,hn0,hroom,Addr.add_lit,hz',hst]
  refine owns_app (fun _=>True) (cs:=cs ++ List.replicate (n * 2) (.int .i64 0)) ?_ ((cellsW hC).append (cells_zeros _ _ n))
  refine ⟨by simp [hcl];omega,.inr ⟨g,cap,_,by simp,Nat.zero_le _,setRow_heap w g cur _ 68 _ hg,by simpa using hroom,hcm,?_,?_⟩⟩
  ·simp only [List.size_toArray,List.length_append,List.length_take,List.length_drop,Array.length_toList,List.length_replicate];omega
  rw [htake,List.take_left' (by simp [hcl];omega)]
 have holds:∀ j u,cs[j]?=some u→w.drew.cell? ((⟨g,0,none⟩:Addr).add j)=some u:=fun j u hu=>hrow.cells (g:=g) rfl j u hu
 have hf:=run_firstCells_some (P:=Tryz.prog) w.drew i.size l.length ⟨g,0,none⟩ l.length cap cs (by rw [hcl,his]) holds
 have hr:=Lib.run_append_grow_zeros (P:=Tryz.prog) w 71 3 ty 68 i _ .i64 .i64 Tryz.underlying71 Tryz.underlying3 hi hz (some ⟨g,0,none⟩) l.length cap cs hf n (by omega) (by rw [his];omega) (by omega) (by omega) (by rw [hib];omega) (growslice_fits (by omega) (by rw [hib];omega))
 have hge:=grownCap_ge w (l.length+n) cap 68
 have hcm':grownCap w (l.length+n) cap 68≤maxLen:=grownCap_le_maxLen w (l.length+n) cap 68 (by unfold maxLen;omega)
 refine ⟨some ⟨w.heap.size,0,none⟩,grownCap w (l.length+n) cap 68,w.drew.alloc (.cells (cs.toArray ++ Builtin.zeroCells #[.int .i64 0,.int .i64 0] n ++ Builtin.zeroCells #[.int .i64 0,.int .i64 0] (grownCap w (l.length+n) cap 68 - (l.length+n))) 68),by simpa [Value.cells] using hr,?_,⟨rfl,rfl,rfl,by simp,fun k hk _=>heap_alloc_old w.drew _ hk⟩,fun b hb=>.inr ?_⟩
 ·refine owns_app (fun _=>True) (cs:=cs ++ List.replicate (n * 2) (.int .i64 0)) ?_ ((cellsW hC).append (cells_zeros _ _ n))
  refine ⟨by simp [hcl];omega,.inr ⟨w.heap.size,_,_,by simp,Nat.zero_le _,heap_alloc_new w.drew _,by simpa using hge,hcm',?_,?_⟩⟩
  ·simp only [Array.size_append,zeros_size,List.size_toArray,hcl];omega
  simp only [Array.toList_append,zeros_eq]
  rw [List.take_left' (by simp [hcl];omega)]
 simp only [Value.ownBlock,Option.some.injEq] at hb;omega
end Go.Proofs.YtedfepnekjjmnabGreat
