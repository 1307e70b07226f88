/-
  term.Name, term.within, term.form: what they answer. No condition but a bound on how much there is.
-/
import Derived.Test.YtedfepnekjjmnabGreatJa
namespace Go.Proofs.YtedfepnekjjmnabGreat
open Go.RowKit
set_option linter.unusedSimpArgs false
set_option linter.unusedVariables false
set_option maxRecDepth 100000
set_option maxHeartbeats 1000000
def inB (n lo hi:Int):Bool:=decide (lo≤n) && decide (n≤hi)
def lowB (c:UInt8):Bool:=decide (97≤c.toNat) && decide (c.toNat≤122)
def nameB (s:ByteArray):Bool:=decide (1≤s.size) && decide (s.size≤8) && s.data.toList.all lowB
theorem within_c (n lo hi:Int) (w:World) :
  Calls Tryz.prog 89 #[.int .i64 n,.int .i64 lo,.int .i64 hi] w fun e w'=>e=.returned (.bool (inB n lo hi))∧w=w':=by
 by_cases h:lo≤n
 ·go_enter Tryz.func89,Tryz.ntmps89
  go_wp2
  go_ret
  exact ⟨by simp [inB,h],rfl⟩
 go_enter Tryz.func89,Tryz.ntmps89
 go_wp2
 go_ret
 exact ⟨by simp [inB];omega,rfl⟩
theorem all_take_succ (s:ByteArray) (k:Nat) (h:k < s.size):(s.data.toList.take (k+1)).all lowB=((s.data.toList.take k).all lowB && lowB s[k]):=by
 rw [take_snoc' _ k (by simpa using h),List.all_append];simp;rfl
theorem all_low_false (s:ByteArray) (k:Nat) (h:k < s.size) (hf:lowB s[k]=false):s.data.toList.all lowB=false:=by
 rw [List.all_eq_false]
 exact ⟨s[k],by rw [show s[k]=s.data.toList[k]'(by simpa using h) from rfl];exact List.getElem_mem _,by simp [hf]⟩
theorem name_c (s:ByteArray) (w:World) (hs:s.size≤1099511627776) :
  Calls Tryz.prog 21 #[.string s] w fun e w'=>e=.returned (.bool (nameB s))∧w=w':=by
 by_cases h1:s.size < 1
 ·go_enter Tryz.func21,Tryz.ntmps21
  go_wp2
  go_ret
  exact ⟨by simp [nameB];omega,rfl⟩
 by_cases h2:8 < s.size
 ·go_enter Tryz.func21,Tryz.ntmps21
  go_wp2
  go_ret
  exact ⟨by simp [nameB];omega,rfl⟩
 go_enter Tryz.func21,Tryz.ntmps21
 go_wp2
 go_loop [14] (fun i=>∃ k:Nat,k≤s.size∧i=.int .i64 k∧(s.data.toList.take k).all lowB=true) (fun i=>s.size - (intOf i).toNat)
 case atStart=>exact ⟨0,Nat.zero_le _,rfl,rfl⟩
 obtain ⟨k,hk,rfl,hall⟩:=hrel
 have HA:=J hall;clear hall
 by_cases hlt:k < s.size
 ·have HS:=J (all_take_succ s k hlt)
  by_cases ha:s[k].toNat < 97
  ·go_wp2
   go_ret
   refine ⟨yL ?_,rfl⟩
   rw [nameB,all_low_false s k hlt (by simp [lowB];omega),Bool.and_false]
  by_cases hb:122 < s[k].toNat
  ·go_wp2
   go_ret
   refine ⟨yL ?_,rfl⟩
   rw [nameB,all_low_false s k hlt (by simp [lowB];omega),Bool.and_false]
  go_wp2
  go_round
  case rel=>exact ⟨k+1,by omega,by go_num,by rw [HS.out,HA.out];simp [lowB];omega⟩
  case measure=>simp [intOf];omega
 have hkk:k=s.size:=by omega
 subst hkk
 go_wp2
 go_ret
 refine ⟨yL ?_,rfl⟩
 have:=HA.out
 rw [List.take_of_length_le (by simp)] at this
 simp [nameB,this];omega
def bareB (t:T):Bool:=t.name.toList.isEmpty && decide (t.args.length=0)
def headB (t:T):Bool :=
 if t.kind=1 then bareB t && inB t.n (-1099511627776) 1099511627776
 else if t.kind=2 then decide (t.n=0) && decide (t.args.length=0) && nameB t.name
 else if t.kind=3 then bareB t && inB t.n 1 99
 else if t.kind=5 then bareB t && inB t.n 0 3
 else if t.kind=6 then bareB t && decide (t.n=0)
 else if t.kind=4 then decide (t.n=0) && t.name.toList.isEmpty && decide (t.args.length≤8)
 else false
def formL:List T→Bool
 | []=>true
 | ⟨k,n,s,l⟩ :: ts=>headB ⟨k,n,s,l⟩ && formL l && formL ts
theorem formL_cons (t:T) (ts:List T):formL (t :: ts)=(headB t && formL t.args && formL ts):=by
 obtain ⟨k,n,s,l⟩:=t;rw [formL]
theorem formL_all (ts:List T):formL ts=ts.all fun x=>formL [x]:=by
 induction ts with
 | nil=>simp [formL]
 | cons t ts ih=>rw [formL_cons,ih,List.all_cons,formL_cons];simp [formL]
theorem formL_any (ts:List T):formL ts=!(ts.any fun x=>!formL [x]):=by
 induction ts with
 | nil=>simp [formL]
 | cons t ts ih=>rw [formL_cons,ih,List.any_cons,formL_cons];simp [formL]
def idxI {α:Type} (p:α→Bool):List α→Int→Int
 | [],_=>-1
 | x :: r,i=>if p x then i else idxI p r (i+1)
theorem idxI_any {α : Type} (p : α → Bool) (l : List α) (i : Int) (h : 0 ≤ i) : decide (0 ≤ idxI p l i) = l.any p := by
  induction l generalizing i with
  | nil => rfl
  | cons x r ih => rw [idxI, List.any_cons]; split <;> rename_i hp
                   · simp [hp, h]
                   · rw [ih (i + 1) (by omega)]; simp [hp]
theorem idxI_take {α:Type} (p:α→Bool):∀ (l:List α) (k:Nat) (i:Int) (h:k < l.length),(l.take k).any p=false→p l[k]=true→idxI p l i=i+k
 | x :: r,0,i,_,_,hp=>by rw [idxI,if_pos (by simpa using hp)];simp
 | x :: r,k+1,i,h,ha,hp=>by
  simp only [List.take_succ_cons,List.any_cons,Bool.or_eq_false_iff] at ha
  rw [idxI,if_neg (by simp [ha.1]),idxI_take p r k (i+1) (by simpa using h) ha.2 (by simpa using hp)]
  omega
theorem idxI_none {α:Type} (p:α→Bool) (l:List α) (i:Int) (h:l.any p=false):idxI p l i = -1:=by
 induction l generalizing i with
 | nil=>rfl
 | cons x r ih=>simp only [List.any_cons,Bool.or_eq_false_iff] at h;rw [idxI,if_neg (by simp [h.1]),ih _ h.2]
theorem any_take_succ {α:Type} (p:α→Bool) (l:List α) (k:Nat) (h:k < l.length):(l.take (k+1)).any p=((l.take k).any p || p l[k]):=by
 rw [take_snoc' l k h,List.any_append];simp
theorem indexFunc_form1 (p:T→Bool) (S:Nat→Prop) (ts:List T) (w:World) (v:Value) (hv:RSl S w ts v) (hlen:ts.length≤1099511627776)
  (hf:∀ x∈ts,∀ (W:World) (u:Value),RT S W x u→Calls Tryz.prog 90 #[u] W fun e w'=>e=.returned (.bool (p x))∧Below W.heap.size W w') :
  Calls Tryz.prog 91 #[v,.func (.func 90) #[] #[]] w fun e w'=>e=.returned (.int .i64 (idxI p ts 0))∧Below w.heap.size w w':=by
 obtain ⟨a,cap,rfl,hcap,hr⟩:=hv
 have HF:=J hf;clear hf
 have HR:=J hr;clear hr
 go_enter Tryz.func91,Tryz.ntmps91
 go_wp2_with fail
 go_loopw [8] (fun i wr=>∃ k:Nat,k≤ts.length∧i=.int .i64 k∧(ts.take k).any p=false∧Below w.heap.size w wr) (fun i _=>ts.length - (intOf i).toNat)
 case atStart=>exact ⟨0,Nat.zero_le _,rfl,rfl,Below.refl _ _⟩
 obtain ⟨k,hkl,rfl,hany,hB⟩:=hrel
 have HA:=J hany;clear hany
 have hsz':=hB.size
 by_cases hlt:k < ts.length
 ·obtain ⟨b,o,rfl⟩:=HR.out.addr (by omega)
  obtain ⟨a',cap',_,d0,d1,d2,d3,hE⟩:=(HR.out.below hB).elem k hlt
  have HS:=J (any_take_succ p ts k hlt)
  go_wp2_with fail
  refine (HF.out _ (List.getElem_mem hlt) _ _ hE).mono ?_
  cases hp:p ts[k]
  ·have HP:=J hp;clear hp
   rintro e w1 ⟨rfl,hB1⟩
   go_wp2_with fail
   go_roundw
   case rel=>exact ⟨k+1,by omega,by go_num,by rw [HS.out,HA.out,HP.out];rfl,yB hB (by omega) hB1⟩
   case measure=>simp [intOf];omega
  have HP:=J hp;clear hp
  rintro e w1 ⟨rfl,hB1⟩
  go_wp2_with fail
  go_ret
  exact ⟨yO (by rw [idxI_take p ts k 0 hlt HA.out HP.out];omega),yB hB (by omega) hB1⟩
 have hkk:k=ts.length:=by omega
 subst hkk
 go_wp2_with fail
 go_ret
 exact ⟨yO (by rw [idxI_none p ts 0 (by simpa using HA.out)]),hB⟩
theorem containsFunc_form1 (p:T→Bool) (S:Nat→Prop) (ts:List T) (w:World) (v:Value) (hv:RSl S w ts v) (hlen:ts.length≤1099511627776)
  (hf:∀ x∈ts,∀ (W:World) (u:Value),RT S W x u→Calls Tryz.prog 90 #[u] W fun e w'=>e=.returned (.bool (p x))∧Below W.heap.size W w') :
  Calls Tryz.prog 74 #[v,.func (.func 90) #[] #[]] w fun e w'=>e=.returned (.bool (ts.any p))∧Below w.heap.size w w':=by
 have HF:=J hf;clear hf
 have HV:=J hv;clear hv
 go_enter Tryz.func74,Tryz.ntmps74
 go_wp2_with fail
 refine (indexFunc_form1 p S ts _ v HV.out hlen HF.out).mono ?_
 rintro e w1 ⟨rfl,hB1⟩
 go_wp2_with fail
 go_ret
 exact ⟨yL (idxI_any p ts 0 (by omega)),hB1⟩
theorem indexFunc_Closed1 (p:T→Bool) (S:Nat→Prop) (ts:List T) (w:World) (v:Value) (hv:RSl S w ts v) (hlen:ts.length≤1099511627776)
  (hf:∀ x∈ts,∀ (W:World) (u:Value),RT S W x u→Calls Tryz.prog 75 #[u] W fun e w'=>e=.returned (.bool (p x))∧Below W.heap.size W w') :
  Calls Tryz.prog 91 #[v,.func (.func 75) #[] #[]] w fun e w'=>e=.returned (.int .i64 (idxI p ts 0))∧Below w.heap.size w w':=by
 obtain ⟨a,cap,rfl,hcap,hr⟩:=hv
 have HF:=J hf;clear hf
 have HR:=J hr;clear hr
 go_enter Tryz.func91,Tryz.ntmps91
 go_wp2_with fail
 go_loopw [8] (fun i wr=>∃ k:Nat,k≤ts.length∧i=.int .i64 k∧(ts.take k).any p=false∧Below w.heap.size w wr) (fun i _=>ts.length - (intOf i).toNat)
 case atStart=>exact ⟨0,Nat.zero_le _,rfl,rfl,Below.refl _ _⟩
 obtain ⟨k,hkl,rfl,hany,hB⟩:=hrel
 have HA:=J hany;clear hany
 have hsz':=hB.size
 by_cases hlt:k < ts.length
 ·obtain ⟨b,o,rfl⟩:=HR.out.addr (by omega)
  obtain ⟨a',cap',_,d0,d1,d2,d3,hE⟩:=(HR.out.below hB).elem k hlt
  have HS:=J (any_take_succ p ts k hlt)
  go_wp2_with fail
  refine (HF.out _ (List.getElem_mem hlt) _ _ hE).mono ?_
  cases hp:p ts[k]
  ·have HP:=J hp;clear hp
   rintro e w1 ⟨rfl,hB1⟩
   go_wp2_with fail
   go_roundw
   case rel=>exact ⟨k+1,by omega,by go_num,by rw [HS.out,HA.out,HP.out];rfl,yB hB (by omega) hB1⟩
   case measure=>simp [intOf];omega
  have HP:=J hp;clear hp
  rintro e w1 ⟨rfl,hB1⟩
  go_wp2_with fail
  go_ret
  exact ⟨yO (by rw [idxI_take p ts k 0 hlt HA.out HP.out];omega),yB hB (by omega) hB1⟩
 have hkk:k=ts.length:=by omega
 subst hkk
 go_wp2_with fail
 go_ret
 exact ⟨yO (by rw [idxI_none p ts 0 (by simpa using HA.out)]),hB⟩
theorem containsFunc_Closed1 (p:T→Bool) (S:Nat→Prop) (ts:List T) (w:World) (v:Value) (hv:RSl S w ts v) (hlen:ts.length≤1099511627776)
  (hf:∀ x∈ts,∀ (W:World) (u:Value),RT S W x u→Calls Tryz.prog 75 #[u] W fun e w'=>e=.returned (.bool (p x))∧Below W.heap.size W w') :
  Calls Tryz.prog 74 #[v,.func (.func 75) #[] #[]] w fun e w'=>e=.returned (.bool (ts.any p))∧Below w.heap.size w w':=by
 have HF:=J hf;clear hf
 have HV:=J hv;clear hv
 go_enter Tryz.func74,Tryz.ntmps74
 go_wp2_with fail
 refine (indexFunc_Closed1 p S ts _ v HV.out hlen HF.out).mono ?_
 rintro e w1 ⟨rfl,hB1⟩
 go_wp2_with fail
 go_ret
 exact ⟨yL (idxI_any p ts 0 (by omega)),hB1⟩
theorem indexFunc_Bound1 (p:T→Bool) (S:Nat→Prop) (ts:List T) (w:World) (v:Value) (hv:RSl S w ts v) (hlen:ts.length≤1099511627776)
  (hf:∀ x∈ts,∀ (W:World) (u:Value),RT S W x u→Calls Tryz.prog 95 #[u] W fun e w'=>e=.returned (.bool (p x))∧Below W.heap.size W w') :
  Calls Tryz.prog 91 #[v,.func (.func 95) #[] #[]] w fun e w'=>e=.returned (.int .i64 (idxI p ts 0))∧Below w.heap.size w w':=by
 obtain ⟨a,cap,rfl,hcap,hr⟩:=hv
 have HF:=J hf;clear hf
 have HR:=J hr;clear hr
 go_enter Tryz.func91,Tryz.ntmps91
 go_wp2_with fail
 go_loopw [8] (fun i wr=>∃ k:Nat,k≤ts.length∧i=.int .i64 k∧(ts.take k).any p=false∧Below w.heap.size w wr) (fun i _=>ts.length - (intOf i).toNat)
 case atStart=>exact ⟨0,Nat.zero_le _,rfl,rfl,Below.refl _ _⟩
 obtain ⟨k,hkl,rfl,hany,hB⟩:=hrel
 have HA:=J hany;clear hany
 have hsz':=hB.size
 by_cases hlt:k < ts.length
 ·obtain ⟨b,o,rfl⟩:=HR.out.addr (by omega)
  obtain ⟨a',cap',_,d0,d1,d2,d3,hE⟩:=(HR.out.below hB).elem k hlt
  have HS:=J (any_take_succ p ts k hlt)
  go_wp2_with fail
  refine (HF.out _ (List.getElem_mem hlt) _ _ hE).mono ?_
  cases hp:p ts[k]
  ·have HP:=J hp;clear hp
   rintro e w1 ⟨rfl,hB1⟩
   go_wp2_with fail
   go_roundw
   case rel=>exact ⟨k+1,by omega,by go_num,by rw [HS.out,HA.out,HP.out];rfl,yB hB (by omega) hB1⟩
   case measure=>simp [intOf];omega
  have HP:=J hp;clear hp
  rintro e w1 ⟨rfl,hB1⟩
  go_wp2_with fail
  go_ret
  exact ⟨yO (by rw [idxI_take p ts k 0 hlt HA.out HP.out];omega),yB hB (by omega) hB1⟩
 have hkk:k=ts.length:=by omega
 subst hkk
 go_wp2_with fail
 go_ret
 exact ⟨yO (by rw [idxI_none p ts 0 (by simpa using HA.out)]),hB⟩
theorem containsFunc_Bound1 (p:T→Bool) (S:Nat→Prop) (ts:List T) (w:World) (v:Value) (hv:RSl S w ts v) (hlen:ts.length≤1099511627776)
  (hf:∀ x∈ts,∀ (W:World) (u:Value),RT S W x u→Calls Tryz.prog 95 #[u] W fun e w'=>e=.returned (.bool (p x))∧Below W.heap.size W w') :
  Calls Tryz.prog 74 #[v,.func (.func 95) #[] #[]] w fun e w'=>e=.returned (.bool (ts.any p))∧Below w.heap.size w w':=by
 have HF:=J hf;clear hf
 have HV:=J hv;clear hv
 go_enter Tryz.func74,Tryz.ntmps74
 go_wp2_with fail
 refine (indexFunc_Bound1 p S ts _ v HV.out hlen HF.out).mono ?_
 rintro e w1 ⟨rfl,hB1⟩
 go_wp2_with fail
 go_ret
 exact ⟨yL (idxI_any p ts 0 (by omega)),hB1⟩
theorem RT.args {S:Nat→Prop} {w:World} {t:T} {a:Option Addr} {cap:Nat} (hcap:CapOk a t.args.length cap) (h:RTs S w t.args a 0):RSl S w t.args (.slice a t.args.length cap):=⟨a,cap,rfl,hcap,h⟩
theorem form_c:∀ (t:T) (S:Nat→Prop) (w:World) (v:Value),RT S w t v→yC [t]≤1099511627776 →
  Calls Tryz.prog 72 #[v] w fun e w'=>e=.returned (.bool (formL [t]))∧Below w.heap.size w w':=by
 intro t
 induction t using T.ind with
 | h t ih =>
  intro S w v hv hb
  obtain ⟨a,cap,rfl,hcap,hr⟩:=hv
  have hba:=yR t
  have hbn:=bulk_name t
  have hla:=yM t.args
  have IH:=J ih;clear ih
  have HR:=J hr;clear hr
  have HF:=J (show formL [t]=(headB t && formL t.args) by rw [formL_cons];simp [formL])
  have hf:∀ x∈t.args,∀ (W:World) (u:Value),RT S W x u→Calls Tryz.prog 90 #[u] W fun e w'=>e=.returned (.bool (!formL [x]))∧Below W.heap.size W w':=by
   intro x hx W u hu
   obtain ⟨a,cap,rfl,hcap,hr⟩:=hu
   have hbx:=bulk_mem hx
   go_enter Tryz.func90,Tryz.ntmps90
   go_wp2_with fail
   refine (IH.out x hx S _ _ (RT.alloc ⟨a,cap,rfl,hcap,hr⟩ _) (by omega)).mono ?_
   rintro e w1 ⟨rfl,hB1⟩
   go_wp2_with fail
   go_ret
   exact ⟨rfl,yB (yA _ _) (by simp) hB1⟩
  have HFF:=J hf;clear hf
  have HN:=J (formL_any t.args)
  by_cases hk1:t.kind=1
  ·go_enter Tryz.func72,Tryz.ntmps72
   go_wp2_with (first | (go_at_call 89;refine (within_c _ _ _ _).mono ?_;rintro e w' ⟨rfl,rfl⟩) | (go_at_call 21;refine (name_c _ _ (by omega)).mono ?_;rintro e w' ⟨rfl,rfl⟩))
   all_goals go_ret
   all_goals refine ⟨yL ?_,yA _ _⟩
   all_goals rw [HF.out]
   all_goals first | (simp [headB,bareB,formL, *];done) | (simp [headB,bareB,formL, *];rfl)
  by_cases hk2:t.kind=2
  ·go_enter Tryz.func72,Tryz.ntmps72
   go_wp2_with (first | (go_at_call 89;refine (within_c _ _ _ _).mono ?_;rintro e w' ⟨rfl,rfl⟩) | (go_at_call 21;refine (name_c _ _ (by omega)).mono ?_;rintro e w' ⟨rfl,rfl⟩))
   all_goals go_ret
   all_goals refine ⟨yL ?_,yA _ _⟩
   all_goals rw [HF.out]
   all_goals first | (simp [headB,bareB,formL, *];done) | (simp [headB,bareB,formL, *];rfl)
  by_cases hk3:t.kind=3
  ·go_enter Tryz.func72,Tryz.ntmps72
   go_wp2_with (first | (go_at_call 89;refine (within_c _ _ _ _).mono ?_;rintro e w' ⟨rfl,rfl⟩) | (go_at_call 21;refine (name_c _ _ (by omega)).mono ?_;rintro e w' ⟨rfl,rfl⟩))
   all_goals go_ret
   all_goals refine ⟨yL ?_,yA _ _⟩
   all_goals rw [HF.out]
   all_goals first | (simp [headB,bareB,formL, *];done) | (simp [headB,bareB,formL, *];rfl)
  by_cases hk5:t.kind=5
  ·go_enter Tryz.func72,Tryz.ntmps72
   go_wp2_with (first | (go_at_call 89;refine (within_c _ _ _ _).mono ?_;rintro e w' ⟨rfl,rfl⟩) | (go_at_call 21;refine (name_c _ _ (by omega)).mono ?_;rintro e w' ⟨rfl,rfl⟩))
   all_goals go_ret
   all_goals refine ⟨yL ?_,yA _ _⟩
   all_goals rw [HF.out]
   all_goals first | (simp [headB,bareB,formL, *];done) | (simp [headB,bareB,formL, *];rfl)
  by_cases hk6:t.kind=6
  ·go_enter Tryz.func72,Tryz.ntmps72
   go_wp2_with (first | (go_at_call 89;refine (within_c _ _ _ _).mono ?_;rintro e w' ⟨rfl,rfl⟩) | (go_at_call 21;refine (name_c _ _ (by omega)).mono ?_;rintro e w' ⟨rfl,rfl⟩))
   all_goals go_ret
   all_goals refine ⟨yL ?_,yA _ _⟩
   all_goals rw [HF.out]
   all_goals first | (simp [headB,bareB,formL, *];done) | (simp [headB,bareB,formL, *];rfl)
  by_cases hk4:t.kind=4
  ·go_enter Tryz.func72,Tryz.ntmps72
   go_wp2_with (first | (go_at_call 74;refine (containsFunc_form1 _ S _ _ _ ((RT.args hcap HR.out).alloc _) (by omega) HFF.out).mono ?_;rintro e w1 ⟨rfl,hB1⟩))
   all_goals go_ret
   all_goals refine ⟨yL ?_,by first | exact yA _ _ | exact yB (yA _ _) (by simp) hB1⟩
   all_goals rw [HF.out]
   all_goals try rw [HN.out]
   all_goals try have h8:t.args.length≤8:=by omega
   all_goals try have h8:¬t.args.length≤8:=by omega
   all_goals simp [headB,bareB, *]
  ·go_enter Tryz.func72,Tryz.ntmps72
   go_wp2_with fail
   all_goals go_ret
   all_goals refine ⟨yL ?_,yA _ _⟩
   all_goals rw [HF.out]
   all_goals first | (simp [headB,bareB, *];done) | (simp [headB,bareB, *];rfl)
end Go.Proofs.YtedfepnekjjmnabGreat
