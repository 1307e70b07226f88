/-
  clerkref.Check: what it answers. No condition but a bound on how much there is.
-/
import Derived.Test.YtedfepnekjjmnabGreatJb
namespace Go.Proofs.YtedfepnekjjmnabGreat
open Go.RowKit
set_option linter.unusedSimpArgs false
set_option linter.unusedVariables false
set_option maxRecDepth 100000
set_option maxHeartbeats 4000000
theorem formL_heads:∀ m (ts:List T),yC ts≤m→formL ts=(allL ts).all headB:=by
 intro m
 induction m with
 | zero=>intro ts h;cases ts with
  | nil=>simp [formL,allL]
  | cons t ts=>rw [yG] at h;omega
 | succ m ih =>
  intro ts h
  cases ts with
  | nil=>simp [formL,allL]
  | cons t ts =>
   rw [yG] at h
   rw [formL_cons,allL_cons,List.all_cons,List.all_append,ih t.args (by omega),ih ts (by omega)]
   simp only [Bool.and_assoc]
def dqF:Int→List T→List Int→Int
 | m,x :: xs,d :: ds=>dqF (if x.kind=4∧m < d+1 then d+1 else m) xs ds
 | m,_,_=>m
theorem dqF_append (m:Int) (xs ys:List T) (ds es:List Int) (h:xs.length=ds.length):dqF m (xs ++ ys) (ds ++ es)=dqF (dqF m xs ds) ys es:=by
 induction xs generalizing m ds with
 | nil=>cases ds with
  | nil=>simp [dqF]
  | cons d ds=>cases h
 | cons x xs ih=>cases ds with
  | nil=>cases h
  | cons d ds=>simp only [List.cons_append,dqF];exact ih _ _ (by simpa using h)
theorem head_args {t:T} (h:headB t=true) (hk:t.kind≠4):t.args=[]:=by
 have:t.args.length=0:=by
  unfold headB bareB at h
  by_cases h1:t.kind=1
  ·simp [h1] at h;simp [h.1.2]
  by_cases h2:t.kind=2
  ·simp [h2] at h;simp [h.1.2]
  by_cases h3:t.kind=3
  ·simp [h3] at h;simp [h.1.2]
  by_cases h5:t.kind=5
  ·simp [h5] at h;simp [h.1.2]
  by_cases h6:t.kind=6
  ·simp [h6] at h;simp [h.1.2]
  simp [h1,h2,h3,h5,h6,hk] at h
 exact List.eq_nil_of_length_eq_zero this
theorem dqF_form:∀ n (ts:List T),yC ts≤n→formL ts=true→∀ m d:Int,0≤m→0≤d→dqF m (allL ts) (atL d ts)=max m (if dpL ts=0 then 0 else d+dpL ts):=by
 intro n
 induction n with
 | zero=>intro ts h;cases ts with
  | nil=>intro _ m d hm hd;simp [dqF,allL,atL,dpL];omega
  | cons t ts=>rw [yG] at h;omega
 | succ n ih =>
  intro ts h
  cases ts with
  | nil=>intro _ m d hm hd;simp [dqF,allL,atL,dpL];omega
  | cons t ts =>
   intro hf m d hm hd
   rw [yG] at h
   rw [formL_cons,Bool.and_eq_true,Bool.and_eq_true] at hf
   rw [allL_cons,atL_cons,dqF,dqF_append _ _ _ _ _ (atL_length _ _ (Nat.le_refl _) _).symm,dpL_cons]
   rw [ih t.args (by omega) hf.1.2 _ (d+1) (by split <;> omega) (by omega),ih ts (by omega) hf.2 _ d (by omega) hd]
   by_cases hk:t.kind=4
   ·simp only [hk,true_and,if_true]
    generalize dpL t.args=x;generalize dpL ts=y
    by_cases hx:x=0 <;> by_cases hy:y=0 <;> simp only [hx,hy,if_true,if_false] <;> split <;> omega
   ·rw [head_args hf.1.1 hk]
    simp only [hk,false_and,if_false]
    have:dpL []=0:=by simp [dpL]
    rw [this]
    generalize dpL ts=y
    by_cases hy:y=0 <;> simp [hy] <;> omega
theorem dqF_snoc (xs:List T) (ds:List Int) (k:Nat) (hx:k < xs.length) (hd:k < ds.length) :
  dqF 0 (xs.take (k+1)) (ds.take (k+1))=if xs[k].kind=4∧dqF 0 (xs.take k) (ds.take k) < ds[k]+1 then ds[k]+1 else dqF 0 (xs.take k) (ds.take k):=by
 rw [take_snoc' xs k hx,take_snoc' ds k hd,dqF_append _ _ _ _ _ (by simp;omega)]
 simp [dqF]
theorem atL_bounds:∀ n (ts:List T),yC ts≤n→∀ d:Int,∀ x∈atL d ts,d≤x∧x < d+yC ts:=by
 intro n
 induction n with
 | zero=>intro ts h;cases ts with
  | nil=>intro d x hx;simp [atL] at hx
  | cons t ts=>rw [yG] at h;omega
 | succ n ih =>
  intro ts h d x hx
  cases ts with
  | nil=>simp [atL] at hx
  | cons t ts =>
   rw [yG] at h ⊢
   rw [atL_cons] at hx
   rcases List.mem_cons.1 hx with rfl | hx
   ·omega
   rcases List.mem_append.1 hx with hx | hx
   ·have:=ih t.args (by omega) (d+1) x hx;omega
   ·have:=ih ts (by omega) d x hx;omega
theorem dqF_bounds (xs:List T) (ds:List Int) (B m:Int) (hm:0≤m∧m≤B) (h:∀ x∈ds,0≤x∧x < B):0≤dqF m xs ds∧dqF m xs ds≤B:=by
 induction xs generalizing m ds with
 | nil=>simpa [dqF] using hm
 | cons x xs ih=>cases ds with
  | nil=>simpa [dqF] using hm
  | cons d ds =>
   have:=h d (by simp)
   simp only [dqF]
   exact ih _ _ (by split <;> omega) fun y hy=>h y (by simp [hy])
theorem checkE_of (t:T) (hf:formL [t]=true):yE t=if dqF 0 (allL [t]) (atL 0 [t])≤12∧szL [t]≤200 then 0 else 2:=by
 have h:=dqF_form _ [t] (Nat.le_refl _) hf 0 0 (by omega) (by omega)
 rw [h,yE,if_pos hf]
 by_cases h0:dpL [t]=0
 ·simp [h0]
 simp only [h0,if_false]
 by_cases h1:dpL [t]≤12
 ·have:max (0:Int) (0+(dpL [t]:Int))≤12:=by omega
  simp only [h1,this,true_and]
 have:¬max (0:Int) (0+(dpL [t]:Int))≤12:=by omega
 simp only [h1,this,false_and,if_false]
theorem allL_name:∀ n (ts:List T),yC ts≤n→∀ x∈allL ts,x.name.size≤yC ts:=by
 intro n
 induction n with
 | zero=>intro ts h;cases ts with
  | nil=>intro x hx;simp [allL] at hx
  | cons t ts=>rw [yG] at h;omega
 | succ n ih =>
  intro ts h x hx
  cases ts with
  | nil=>simp [allL] at hx
  | cons t ts =>
   rw [yG] at h ⊢
   rw [allL_cons] at hx
   rcases List.mem_cons.1 hx with rfl | hx
   ·omega
   rcases List.mem_append.1 hx with hx | hx
   ·have:=ih t.args (by omega) x hx;omega
   ·have:=ih ts (by omega) x hx;omega
theorem rcheck_c (t:T) (S:Nat→Prop) (w:World) (v:Value) (hv:RT S w t v) (hS:∀ b,S b→b < w.heap.size) (hb:yC [t]≤1099511627776) :
  Calls Tryz.prog 30 #[v] w fun e w'=>e=.returned (.int .i64 (yE t))∧Below w.heap.size w w':=by
 have HH:=J (formL_heads _ [t] (Nat.le_refl _))
 have HE:=J (checkE_of t)
 have H5:=J (show formL [t]=false→yE t=5 by intro h;simp [yE,h])
 have hal:=allL_le _ [t] (Nat.le_refl _)
 have HL:=J (atL_length _ [t] (Nat.le_refl _) 0)
 have HBD:=J (atL_bounds _ [t] (Nat.le_refl _) 0)
 have hsb:=szL_le _ [t] (Nat.le_refl _)
 obtain ⟨a,cap,rfl,hcap,hr⟩:=hv
 have HV:Hid (RT S w t _):=J ⟨a,cap,rfl,hcap,hr⟩
 have HS:=J hS;clear hS hr
 go_enter Tryz.func30,Tryz.ntmps30
 go_wp2_with fail
 refine (all_c t 0 S _ _ (HV.out.alloc _) (fun b hb=>by have:=HS.out b hb;simp <;> omega) (by omega) (by omega)).mono ?_
 rintro e w1 ⟨v1,v2,rfl,hB1,hr1,hr2⟩
 obtain ⟨a1,cap1,rfl⟩:=hr1.form
 obtain ⟨a2,cap2,rfl⟩:=hr2.form
 have HR1:=J hr1;clear hr1
 have HR2:=J hr2;clear hr2
 have hs1:=hB1.size
 simp only [World.size_alloc] at hs1
 have hbox0:w1.cell? ⟨w.heap.size,0,none⟩=some (.int .i64 t.kind):=by rw [hB1.cell (p:=⟨w.heap.size,0,none⟩) (by simp)];go_simp
 have hbox1:w1.cell? ⟨w.heap.size,1,none⟩=some (.int .i64 t.n):=by rw [hB1.cell (p:=⟨w.heap.size,1,none⟩) (by simp)];go_simp
 have hbox2:w1.cell? ⟨w.heap.size,2,none⟩=some (.string t.name):=by rw [hB1.cell (p:=⟨w.heap.size,2,none⟩) (by simp)];go_simp
 have hbox3:w1.cell? ⟨w.heap.size,3,none⟩=some (.slice a t.args.length cap):=by rw [hB1.cell (p:=⟨w.heap.size,3,none⟩) (by simp)];go_simp
 have HBOX:Hid (w1.cell? ⟨w.heap.size,0,none⟩=some (.int .i64 t.kind)∧w1.cell? ⟨w.heap.size,1,none⟩=some (.int .i64 t.n)∧w1.cell? ⟨w.heap.size,2,none⟩=some (.string t.name)∧w1.cell? ⟨w.heap.size,3,none⟩=some (.slice a t.args.length cap)):=J ⟨hbox0,hbox1,hbox2,hbox3⟩
 clear hbox0 hbox1 hbox2 hbox3
 have hBB:=yB (yA w _) (by simp) hB1
 have HV1:=J ((HV.out.alloc _).below hB1)
 go_wp2_with fail
 go_loopw [5,6] (fun dp i wr=>∃ k:Nat,k≤(allL [t]).length∧i=.int .i64 k∧((allL [t]).take k).all headB=true∧dp=.int .i64 (dqF 0 ((allL [t]).take k) ((atL 0 [t]).take k))∧Below w1.heap.size w1 wr) (fun _ i _=>(allL [t]).length - (intOf i).toNat)
 case atStart=>exact ⟨0,Nat.zero_le _,rfl,rfl,by simp [dqF],Below.refl _ _⟩
 obtain ⟨k,hk,rfl,hall,rfl,hB⟩:=hrel
 have HA:=J hall;clear hall
 have hsw:=hB.size
 by_cases hlt:k < (allL [t]).length
 ·obtain ⟨b,o,rfl⟩:=HR1.out.addr (by omega)
  have hlt2:k < (atL 0 [t]).length:=by rw [HL.out];exact hlt
  obtain ⟨b2,o2,rfl⟩:=HR2.out.addr (by omega)
  obtain ⟨a',cap',_,d0,d1,d2,d3,hE⟩:=(HR1.out.below hB).elem k hlt
  obtain ⟨_,e0⟩:=(HR2.out.below hB).elem k hlt2
  have hblt:=World.block_lt_of_cell? wr _ e0
  have hdk:=HBD.out _ (List.getElem_mem hlt2)
  have hdq:=dqF_bounds ((allL [t]).take k) ((atL 0 [t]).take k) (yC [t]) 0 (by omega) fun x hx=>by have:=HBD.out x (List.mem_of_mem_take hx);omega
  have HSN:=J (all_snoc headB (allL [t]) k hlt)
  have HF:=J (all_false_at headB (allL [t]) k hlt)
  have HQ:=J (dqF_snoc (allL [t]) (atL 0 [t]) k hlt hlt2)
  have hnm:=allL_name _ [t] (Nat.le_refl _) _ (List.getElem_mem hlt)
  have hBk:∀ o,Below w.heap.size w (wr.alloc o):=fun o=>(yB hBB (by omega) hB).alloc (by omega) _
  have HBK:=J hBk;clear hBk
  generalize (allL [t])[k]=x at *
  generalize (atL 0 [t])[k]=dd at *
  generalize dqF 0 ((allL [t]).take k) ((atL 0 [t]).take k)=dq at *
  by_cases hk1:x.kind=1
  ·skip
   have q2:(x.kind == 2)=false:=by simp [hk1]
   have q4:(x.kind != 4)=true:=by simp [hk1]
   have q5:(x.kind == 4)=false:=by simp [hk1]
   cases hn:x.name.toList.isEmpty
   ·skip
    go_wp2_with (first | (go_at_call 9;refine (in_c _ _ _ _).mono ?_;rintro e w' ⟨rfl,rfl⟩) | (go_at_call 24;refine (rname_c _ _ (by omega)).mono ?_;rintro e w' ⟨rfl,rfl⟩))
    go_ret
    exact ⟨yO (H5.out (by rw [HH.out];exact HF.out (by simp [headB,bareB, *]))).symm,HBK.out _⟩
   skip
   cases hin:inB x.n (-1099511627776) 1099511627776
   ·skip
    go_wp2_with (first | (go_at_call 9;refine (in_c _ _ _ _).mono ?_;rintro e w' ⟨rfl,rfl⟩) | (go_at_call 24;refine (rname_c _ _ (by omega)).mono ?_;rintro e w' ⟨rfl,rfl⟩))
    go_ret
    exact ⟨yO (H5.out (by rw [HH.out];exact HF.out (by simp [headB,bareB, *]))).symm,HBK.out _⟩
   skip
   by_cases hl:x.args.length=0
   ·have el:decide (0 < (x.args.length:Int))=false:=by simp [hl]
    go_wp2_with (first | (go_at_call 9;refine (in_c _ _ _ _).mono ?_;rintro e w' ⟨rfl,rfl⟩) | (go_at_call 24;refine (rname_c _ _ (by omega)).mono ?_;rintro e w' ⟨rfl,rfl⟩))
    go_roundw
    case rel=>exact ⟨k+1,by omega,by go_num,by rw [HSN.out,HA.out];simp [headB,bareB, *],by rw [HQ.out];simp [*],hB.alloc (by omega) _⟩
    case measure=>simp [intOf];omega
   have el:decide (0 < (x.args.length:Int))=true:=by simp;omega
   go_wp2_with (first | (go_at_call 9;refine (in_c _ _ _ _).mono ?_;rintro e w' ⟨rfl,rfl⟩) | (go_at_call 24;refine (rname_c _ _ (by omega)).mono ?_;rintro e w' ⟨rfl,rfl⟩))
   go_ret
   exact ⟨yO (H5.out (by rw [HH.out];exact HF.out (by simp [headB,bareB, *]))).symm,HBK.out _⟩
  by_cases hk3:x.kind=3
  ·skip
   have q2:(x.kind == 2)=false:=by simp [hk3]
   have q4:(x.kind != 4)=true:=by simp [hk3]
   have q5:(x.kind == 4)=false:=by simp [hk3]
   cases hn:x.name.toList.isEmpty
   ·skip
    go_wp2_with (first | (go_at_call 9;refine (in_c _ _ _ _).mono ?_;rintro e w' ⟨rfl,rfl⟩) | (go_at_call 24;refine (rname_c _ _ (by omega)).mono ?_;rintro e w' ⟨rfl,rfl⟩))
    go_ret
    exact ⟨yO (H5.out (by rw [HH.out];exact HF.out (by simp [headB,bareB, *]))).symm,HBK.out _⟩
   skip
   cases hin:inB x.n 1 99
   ·skip
    go_wp2_with (first | (go_at_call 9;refine (in_c _ _ _ _).mono ?_;rintro e w' ⟨rfl,rfl⟩) | (go_at_call 24;refine (rname_c _ _ (by omega)).mono ?_;rintro e w' ⟨rfl,rfl⟩))
    go_ret
    exact ⟨yO (H5.out (by rw [HH.out];exact HF.out (by simp [headB,bareB, *]))).symm,HBK.out _⟩
   skip
   by_cases hl:x.args.length=0
   ·have el:decide (0 < (x.args.length:Int))=false:=by simp [hl]
    go_wp2_with (first | (go_at_call 9;refine (in_c _ _ _ _).mono ?_;rintro e w' ⟨rfl,rfl⟩) | (go_at_call 24;refine (rname_c _ _ (by omega)).mono ?_;rintro e w' ⟨rfl,rfl⟩))
    go_roundw
    case rel=>exact ⟨k+1,by omega,by go_num,by rw [HSN.out,HA.out];simp [headB,bareB, *],by rw [HQ.out];simp [*],hB.alloc (by omega) _⟩
    case measure=>simp [intOf];omega
   have el:decide (0 < (x.args.length:Int))=true:=by simp;omega
   go_wp2_with (first | (go_at_call 9;refine (in_c _ _ _ _).mono ?_;rintro e w' ⟨rfl,rfl⟩) | (go_at_call 24;refine (rname_c _ _ (by omega)).mono ?_;rintro e w' ⟨rfl,rfl⟩))
   go_ret
   exact ⟨yO (H5.out (by rw [HH.out];exact HF.out (by simp [headB,bareB, *]))).symm,HBK.out _⟩
  by_cases hk5:x.kind=5
  ·skip
   have q2:(x.kind == 2)=false:=by simp [hk5]
   have q4:(x.kind != 4)=true:=by simp [hk5]
   have q5:(x.kind == 4)=false:=by simp [hk5]
   cases hn:x.name.toList.isEmpty
   ·skip
    go_wp2_with (first | (go_at_call 9;refine (in_c _ _ _ _).mono ?_;rintro e w' ⟨rfl,rfl⟩) | (go_at_call 24;refine (rname_c _ _ (by omega)).mono ?_;rintro e w' ⟨rfl,rfl⟩))
    go_ret
    exact ⟨yO (H5.out (by rw [HH.out];exact HF.out (by simp [headB,bareB, *]))).symm,HBK.out _⟩
   skip
   cases hin:inB x.n 0 3
   ·skip
    go_wp2_with (first | (go_at_call 9;refine (in_c _ _ _ _).mono ?_;rintro e w' ⟨rfl,rfl⟩) | (go_at_call 24;refine (rname_c _ _ (by omega)).mono ?_;rintro e w' ⟨rfl,rfl⟩))
    go_ret
    exact ⟨yO (H5.out (by rw [HH.out];exact HF.out (by simp [headB,bareB, *]))).symm,HBK.out _⟩
   skip
   by_cases hl:x.args.length=0
   ·have el:decide (0 < (x.args.length:Int))=false:=by simp [hl]
    go_wp2_with (first | (go_at_call 9;refine (in_c _ _ _ _).mono ?_;rintro e w' ⟨rfl,rfl⟩) | (go_at_call 24;refine (rname_c _ _ (by omega)).mono ?_;rintro e w' ⟨rfl,rfl⟩))
    go_roundw
    case rel=>exact ⟨k+1,by omega,by go_num,by rw [HSN.out,HA.out];simp [headB,bareB, *],by rw [HQ.out];simp [*],hB.alloc (by omega) _⟩
    case measure=>simp [intOf];omega
   have el:decide (0 < (x.args.length:Int))=true:=by simp;omega
   go_wp2_with (first | (go_at_call 9;refine (in_c _ _ _ _).mono ?_;rintro e w' ⟨rfl,rfl⟩) | (go_at_call 24;refine (rname_c _ _ (by omega)).mono ?_;rintro e w' ⟨rfl,rfl⟩))
   go_ret
   exact ⟨yO (H5.out (by rw [HH.out];exact HF.out (by simp [headB,bareB, *]))).symm,HBK.out _⟩
  by_cases hk6:x.kind=6
  ·skip
   have q2:(x.kind == 2)=false:=by simp [hk6]
   have q4:(x.kind != 4)=true:=by simp [hk6]
   have q5:(x.kind == 4)=false:=by simp [hk6]
   cases hn:x.name.toList.isEmpty
   ·skip
    go_wp2_with (first | (go_at_call 9;refine (in_c _ _ _ _).mono ?_;rintro e w' ⟨rfl,rfl⟩) | (go_at_call 24;refine (rname_c _ _ (by omega)).mono ?_;rintro e w' ⟨rfl,rfl⟩))
    go_ret
    exact ⟨yO (H5.out (by rw [HH.out];exact HF.out (by simp [headB,bareB, *]))).symm,HBK.out _⟩
   skip
   cases hin:x.n == 0
   ·skip
    have hz':¬x.n=0:=by simpa using hin
    go_wp2_with (first | (go_at_call 9;refine (in_c _ _ _ _).mono ?_;rintro e w' ⟨rfl,rfl⟩) | (go_at_call 24;refine (rname_c _ _ (by omega)).mono ?_;rintro e w' ⟨rfl,rfl⟩))
    go_ret
    exact ⟨yO (H5.out (by rw [HH.out];exact HF.out (by simp [headB,bareB, *]))).symm,HBK.out _⟩
   skip
   have hz':x.n=0:=by simpa using hin
   by_cases hl:x.args.length=0
   ·have el:decide (0 < (x.args.length:Int))=false:=by simp [hl]
    go_wp2_with (first | (go_at_call 9;refine (in_c _ _ _ _).mono ?_;rintro e w' ⟨rfl,rfl⟩) | (go_at_call 24;refine (rname_c _ _ (by omega)).mono ?_;rintro e w' ⟨rfl,rfl⟩))
    go_roundw
    case rel=>exact ⟨k+1,by omega,by go_num,by rw [HSN.out,HA.out];simp [headB,bareB, *],by rw [HQ.out];simp [*],hB.alloc (by omega) _⟩
    case measure=>simp [intOf];omega
   have el:decide (0 < (x.args.length:Int))=true:=by simp;omega
   go_wp2_with (first | (go_at_call 9;refine (in_c _ _ _ _).mono ?_;rintro e w' ⟨rfl,rfl⟩) | (go_at_call 24;refine (rname_c _ _ (by omega)).mono ?_;rintro e w' ⟨rfl,rfl⟩))
   go_ret
   exact ⟨yO (H5.out (by rw [HH.out];exact HF.out (by simp [headB,bareB, *]))).symm,HBK.out _⟩
  by_cases hk2:x.kind=2
  ·skip
   have q2:(x.kind == 2)=true:=by simp [hk2]
   have q4:(x.kind != 4)=true:=by simp [hk2]
   have q5:(x.kind == 4)=false:=by simp [hk2]
   cases hn:x.name.toList.isEmpty
   ·skip
    cases hnb:nameB x.name
    ·skip
     go_wp2_with (first | (go_at_call 9;refine (in_c _ _ _ _).mono ?_;rintro e w' ⟨rfl,rfl⟩) | (go_at_call 24;refine (rname_c _ _ (by omega)).mono ?_;rintro e w' ⟨rfl,rfl⟩))
     go_ret
     exact ⟨yO (H5.out (by rw [HH.out];exact HF.out (by simp [headB,bareB, *]))).symm,HBK.out _⟩
    skip
    cases hz:x.n == 0
    ·skip
     have hz':¬x.n=0:=by simpa using hz
     go_wp2_with (first | (go_at_call 9;refine (in_c _ _ _ _).mono ?_;rintro e w' ⟨rfl,rfl⟩) | (go_at_call 24;refine (rname_c _ _ (by omega)).mono ?_;rintro e w' ⟨rfl,rfl⟩))
     go_ret
     exact ⟨yO (H5.out (by rw [HH.out];exact HF.out (by simp [headB,bareB, *]))).symm,HBK.out _⟩
    skip
    have hz':x.n=0:=by simpa using hz
    by_cases hl:x.args.length=0
    ·have el:decide (0 < (x.args.length:Int))=false:=by simp [hl]
     go_wp2_with (first | (go_at_call 9;refine (in_c _ _ _ _).mono ?_;rintro e w' ⟨rfl,rfl⟩) | (go_at_call 24;refine (rname_c _ _ (by omega)).mono ?_;rintro e w' ⟨rfl,rfl⟩))
     go_roundw
     case rel=>exact ⟨k+1,by omega,by go_num,by rw [HSN.out,HA.out];simp [headB,bareB, *],by rw [HQ.out];simp [*],hB.alloc (by omega) _⟩
     case measure=>simp [intOf];omega
    have el:decide (0 < (x.args.length:Int))=true:=by simp;omega
    go_wp2_with (first | (go_at_call 9;refine (in_c _ _ _ _).mono ?_;rintro e w' ⟨rfl,rfl⟩) | (go_at_call 24;refine (rname_c _ _ (by omega)).mono ?_;rintro e w' ⟨rfl,rfl⟩))
    go_ret
    exact ⟨yO (H5.out (by rw [HH.out];exact HF.out (by simp [headB,bareB, *]))).symm,HBK.out _⟩
   skip
   cases hnb:nameB x.name
   ·skip
    go_wp2_with (first | (go_at_call 9;refine (in_c _ _ _ _).mono ?_;rintro e w' ⟨rfl,rfl⟩) | (go_at_call 24;refine (rname_c _ _ (by omega)).mono ?_;rintro e w' ⟨rfl,rfl⟩))
    go_ret
    exact ⟨yO (H5.out (by rw [HH.out];exact HF.out (by simp [headB,bareB, *]))).symm,HBK.out _⟩
   skip
   cases hz:x.n == 0
   ·skip
    have hz':¬x.n=0:=by simpa using hz
    go_wp2_with (first | (go_at_call 9;refine (in_c _ _ _ _).mono ?_;rintro e w' ⟨rfl,rfl⟩) | (go_at_call 24;refine (rname_c _ _ (by omega)).mono ?_;rintro e w' ⟨rfl,rfl⟩))
    go_ret
    exact ⟨yO (H5.out (by rw [HH.out];exact HF.out (by simp [headB,bareB, *]))).symm,HBK.out _⟩
   skip
   have hz':x.n=0:=by simpa using hz
   by_cases hl:x.args.length=0
   ·have el:decide (0 < (x.args.length:Int))=false:=by simp [hl]
    go_wp2_with (first | (go_at_call 9;refine (in_c _ _ _ _).mono ?_;rintro e w' ⟨rfl,rfl⟩) | (go_at_call 24;refine (rname_c _ _ (by omega)).mono ?_;rintro e w' ⟨rfl,rfl⟩))
    go_roundw
    case rel=>exact ⟨k+1,by omega,by go_num,by rw [HSN.out,HA.out];simp [headB,bareB, *],by rw [HQ.out];simp [*],hB.alloc (by omega) _⟩
    case measure=>simp [intOf];omega
   have el:decide (0 < (x.args.length:Int))=true:=by simp;omega
   go_wp2_with (first | (go_at_call 9;refine (in_c _ _ _ _).mono ?_;rintro e w' ⟨rfl,rfl⟩) | (go_at_call 24;refine (rname_c _ _ (by omega)).mono ?_;rintro e w' ⟨rfl,rfl⟩))
   go_ret
   exact ⟨yO (H5.out (by rw [HH.out];exact HF.out (by simp [headB,bareB, *]))).symm,HBK.out _⟩
  by_cases hk4:x.kind=4
  ·skip
   have q2:(x.kind == 2)=false:=by simp [hk4]
   have q4:(x.kind != 4)=false:=by simp [hk4]
   have q5:(x.kind == 4)=true:=by simp [hk4]
   cases hn:x.name.toList.isEmpty
   ·skip
    go_wp2_with (first | (go_at_call 9;refine (in_c _ _ _ _).mono ?_;rintro e w' ⟨rfl,rfl⟩) | (go_at_call 24;refine (rname_c _ _ (by omega)).mono ?_;rintro e w' ⟨rfl,rfl⟩))
    go_ret
    exact ⟨yO (H5.out (by rw [HH.out];exact HF.out (by simp [headB,bareB, *]))).symm,HBK.out _⟩
   skip
   cases hz:x.n == 0
   ·skip
    have hz':¬x.n=0:=by simpa using hz
    go_wp2_with (first | (go_at_call 9;refine (in_c _ _ _ _).mono ?_;rintro e w' ⟨rfl,rfl⟩) | (go_at_call 24;refine (rname_c _ _ (by omega)).mono ?_;rintro e w' ⟨rfl,rfl⟩))
    go_ret
    exact ⟨yO (H5.out (by rw [HH.out];exact HF.out (by simp [headB,bareB, *]))).symm,HBK.out _⟩
   skip
   have hz':x.n=0:=by simpa using hz
   by_cases h8:x.args.length≤8
   ·by_cases hq:dq < dd+1
    ·skip
     go_wp2_with (first | (go_at_call 9;refine (in_c _ _ _ _).mono ?_;rintro e w' ⟨rfl,rfl⟩) | (go_at_call 24;refine (rname_c _ _ (by omega)).mono ?_;rintro e w' ⟨rfl,rfl⟩))
     go_roundw
     case rel=>exact ⟨k+1,by omega,by go_num,by rw [HSN.out,HA.out];simp [headB,bareB, *],by rw [HQ.out];simp [*],hB.alloc (by omega) _⟩
     case measure=>simp [intOf];omega
    skip
    go_wp2_with (first | (go_at_call 9;refine (in_c _ _ _ _).mono ?_;rintro e w' ⟨rfl,rfl⟩) | (go_at_call 24;refine (rname_c _ _ (by omega)).mono ?_;rintro e w' ⟨rfl,rfl⟩))
    go_roundw
    case rel=>exact ⟨k+1,by omega,by go_num,by rw [HSN.out,HA.out];simp [headB,bareB, *],by rw [HQ.out];simp [*],hB.alloc (by omega) _⟩
    case measure=>simp [intOf];omega
   skip
   go_wp2_with (first | (go_at_call 9;refine (in_c _ _ _ _).mono ?_;rintro e w' ⟨rfl,rfl⟩) | (go_at_call 24;refine (rname_c _ _ (by omega)).mono ?_;rintro e w' ⟨rfl,rfl⟩))
   go_ret
   exact ⟨yO (H5.out (by rw [HH.out];exact HF.out (by simp [headB,bareB, *]))).symm,HBK.out _⟩
  skip
  have q2:(x.kind == 2)=false:=by simp [hk2]
  cases hn:x.name.toList.isEmpty
  all_goals go_wp2_with (first | (go_at_call 9;refine (in_c _ _ _ _).mono ?_;rintro e w' ⟨rfl,rfl⟩) | (go_at_call 24;refine (rname_c _ _ (by omega)).mono ?_;rintro e w' ⟨rfl,rfl⟩))
  all_goals go_ret
  all_goals exact ⟨yO (H5.out (by rw [HH.out];exact HF.out (by simp [headB,bareB, *]))).symm,HBK.out _⟩
 have hkk:k=(allL [t]).length:=by omega
 subst hkk
 have hdq:=dqF_bounds (allL [t]) (atL 0 [t]) (yC [t]) 0 (by omega) fun x hx=>by have:=HBD.out x hx;omega
 have HQ:=J (show (allL [t]).take (allL [t]).length=allL [t]∧(atL 0 [t]).take (allL [t]).length=atL 0 [t] from ⟨List.take_length,List.take_of_length_le (by rw [HL.out];exact Nat.le_refl _)⟩)
 rw [HQ.out.1,HQ.out.2]
 have hal2:=HA.out
 rw [HQ.out.1,←HH.out] at hal2
 have HE2:=J (HE.out hal2)
 clear hal2
 obtain ⟨z0,z1,z2,z3⟩:=HBOX.out
 have hwl:w.heap.size < w1.heap.size:=by omega
 have y0:=(hB.cell (p:=⟨w.heap.size,0,none⟩) hwl).trans z0
 have y1:=(hB.cell (p:=⟨w.heap.size,1,none⟩) hwl).trans z1
 have y2:=(hB.cell (p:=⟨w.heap.size,2,none⟩) hwl).trans z2
 have y3:=(hB.cell (p:=⟨w.heap.size,3,none⟩) hwl).trans z3
 clear z0 z1 z2 z3
 have HV2:=J (HV1.out.below hB)
 generalize dqF 0 (allL [t]) (atL 0 [t])=dq at *
 by_cases hd:dq≤12
 ·by_cases hs:szL [t]≤200
  all_goals
   go_wp2_with fail
   refine (rsize_c t S _ _ HV2.out hb).mono ?_
   rintro e w2 ⟨rfl,hB2⟩
   go_wp2_with fail
   go_ret
   exact ⟨yO (by rw [HE2.out];simp [hd,hs]),yB (yB hBB (by omega) hB) (by omega) hB2⟩
 go_wp2_with fail
 go_ret
 exact ⟨yO (by rw [HE2.out,if_neg (by omega)]),yB hBB (by omega) hB⟩
end Go.Proofs.YtedfepnekjjmnabGreat
