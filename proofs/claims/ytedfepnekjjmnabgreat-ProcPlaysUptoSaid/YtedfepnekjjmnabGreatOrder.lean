/-
  cmp.Compare, cmp.Or, strings.Compare, slices.CompareFunc, term.Order: what they answer. No condition but a bound on how much there is.
-/
import Derived.Lib.Bytealg
import Derived.Deep.RegionHeld3
import Derived.Deep.DrawnRows
import Derived.Test.YtedfepnekjjmnabGreatJa
namespace Go.Proofs.YtedfepnekjjmnabGreat
open Go.RowKit
set_option linter.unusedSimpArgs false
set_option linter.unusedVariables false
set_option maxRecDepth 100000
set_option maxHeartbeats 4000000
def cmpI (a b:Int):Int:=if a < b then -1 else if b < a then 1 else 0
def orI:List Int→Int
 | []=>0
 | x :: r=>if x=0 then orI r else x
theorem isNaN_c (n:Int) (w:World):Calls Tryz.prog 108 #[.int .i64 n] w fun e w'=>e=.returned (.bool false)∧w=w':=by
 go_enter Tryz.func108,Tryz.ntmps108
 go_wp2
 go_ret
 exact ⟨by simp,rfl⟩
theorem compare_c (a b:Int) (w:World):Calls Tryz.prog 103 #[.int .i64 a,.int .i64 b] w fun e w'=>e=.returned (.int .i64 (cmpI a b))∧w=w':=by
 by_cases h1:a < b
 ·go_enter Tryz.func103,Tryz.ntmps103
  go_wp2_with (go_at_call 108;refine (isNaN_c _ _).mono ?_;rintro e w' ⟨rfl,rfl⟩)
  go_ret
  exact ⟨yO (by simp [cmpI,h1]),rfl⟩
 by_cases h2:b < a
 ·go_enter Tryz.func103,Tryz.ntmps103
  go_wp2_with (go_at_call 108;refine (isNaN_c _ _).mono ?_;rintro e w' ⟨rfl,rfl⟩)
  go_ret
  exact ⟨yO (by simp [cmpI,h2];omega),rfl⟩
 go_enter Tryz.func103,Tryz.ntmps103
 go_wp2_with (go_at_call 108;refine (isNaN_c _ _).mono ?_;rintro e w' ⟨rfl,rfl⟩)
 go_ret
 exact ⟨yO (by simp [cmpI];omega),rfl⟩
theorem orI_take (l:List Int) (k:Nat) (h:k < l.length) (ha:∀ x∈l.take k,x=0) (hx:l[k]≠0):orI l=l[k]:=by
 induction l generalizing k with
 | nil=>cases h
 | cons y r ih=>cases k with
  | zero=>simp only [List.getElem_cons_zero] at hx ⊢;rw [orI,if_neg hx]
  | succ k =>
   have h0:y=0:=ha y (by simp)
   rw [orI,if_pos h0]
   exact ih k (by simpa using h) (fun x hx=>ha x (by simp [hx])) (by simpa using hx)
theorem orI_zero (l:List Int) (ha:∀ x∈l,x=0):orI l=0:=by
 induction l with
 | nil=>rfl
 | cons y r ih=>rw [orI,if_pos (ha y (by simp))];exact ih fun x hx=>ha x (by simp [hx])
theorem or_c (S:Nat→Prop) (xs:List Int) (v:Value) (w:World) (hv:RI S w xs v) (hl:xs.length≤1099511627776) :
  Calls Tryz.prog 102 #[v] w fun e w'=>e=.returned (.int .i64 (orI xs))∧w=w':=by
 obtain ⟨a,cap,rfl⟩:=hv.form
 have HV:=J hv;clear hv
 go_enter Tryz.func102,Tryz.ntmps102
 go_wp2
 go_loop [8] (fun i=>∃ k:Nat,k≤xs.length∧i=.int .i64 k∧∀ x∈xs.take k,x=0) (fun i=>xs.length - (intOf i).toNat)
 case atStart=>exact ⟨0,Nat.zero_le _,rfl,by simp⟩
 obtain ⟨k,hk,rfl,hall⟩:=hrel
 have HA:=J hall;clear hall
 by_cases hlt:k < xs.length
 ·obtain ⟨b,o,rfl⟩:=HV.out.addr (by omega)
  obtain ⟨_,d0⟩:=HV.out.elem k hlt
  have HO:=J (orI_take xs k hlt HA.out)
  have HT:=J (take_snoc' xs k hlt)
  generalize xs[k]=x at *
  by_cases hx:x=0
  ·have hb:(x != 0)=false:=by simp [hx]
   have HX:=J hx;clear hx
   go_wp2
   go_round
   case rel=>exact ⟨k+1,by omega,by go_num,by rw [HT.out];intro y hy;rcases List.mem_append.1 hy with h | h;exact HA.out y h;simp at h;rw [h];exact HX.out⟩
   case measure=>simp [intOf];omega
  have hb:(x != 0)=true:=by simp [hx]
  go_wp2
  go_ret
  exact ⟨yO (HO.out hx).symm,rfl⟩
 have hkk:k=xs.length:=by omega
 subst hkk
 go_wp2
 go_ret
 exact ⟨yO (orI_zero xs (by simpa using HA.out)).symm,rfl⟩
theorem run_cmpstring (a b:ByteArray) (w:World):(callFunc 110 #[.string a,.string b]).run Tryz.prog w=.ok (.value (.int .i64 (Lib.compareBytes a.data.toList b.data.toList))) w:=by
 rw [run_callFunc_extern Tryz.func110 (by kernel_rfl) (by kernel_rfl) (by kernel_rfl) (e:=Extern.BytealgCompare.compare) (by kernel_rfl),Lib.run_compareString]
 rfl
theorem compareString_c (a b:ByteArray) (w:World):Calls Tryz.prog 109 #[.string a,.string b] w fun e w'=>e=.returned (.int .i64 (Lib.compareBytes a.data.toList b.data.toList))∧w=w':=by
 have hr:=fun w=>run_cmpstring a b w
 go_enter Tryz.func109,Tryz.ntmps109
 go_wp2_with fail
 go_ret
 exact ⟨rfl,rfl⟩
theorem scompare_c (a b:ByteArray) (w:World):Calls Tryz.prog 104 #[.string a,.string b] w fun e w'=>e=.returned (.int .i64 (Lib.compareBytes a.data.toList b.data.toList))∧w=w':=by
 go_enter Tryz.func104,Tryz.ntmps104
 go_wp2_with (go_at_call 109;refine (compareString_c _ _ _).mono ?_;rintro e w' ⟨rfl,rfl⟩)
 go_ret
 exact ⟨rfl,rfl⟩
def ordL:List T→List T→Int
 | [],[]=>0
 | [],_ :: _=>-1
 | _ :: _,[]=>1
 | ⟨k,n,s,l⟩ :: xs,y :: ys=>orI [orI [cmpI k y.kind,cmpI n y.n,Lib.compareBytes s.data.toList y.name.data.toList,cmpI l.length y.args.length,ordL l y.args],ordL xs ys]
def ordT (x y:T):Int:=orI [cmpI x.kind y.kind,cmpI x.n y.n,Lib.compareBytes x.name.data.toList y.name.data.toList,cmpI x.args.length y.args.length,ordL x.args y.args]
theorem ordL_cons (x y:T) (xs ys:List T):ordL (x :: xs) (y :: ys)=orI [ordT x y,ordL xs ys]:=by obtain ⟨k,n,s,l⟩:=x;rw [ordL];rfl
theorem ordL_nn:ordL [] []=0:=by rw [ordL]
theorem ordL_nc (y:T) (ys:List T):ordL [] (y :: ys) = -1:=by rw [ordL]
theorem ordL_cn (x:T) (xs:List T):ordL (x :: xs) []=1:=by rw [ordL]
theorem drop_cons' {α:Type} (l:List α) (k:Nat) (h:k < l.length):l.drop k=l[k] :: l.drop (k+1):=List.drop_eq_getElem_cons h
theorem compareFunc_Order (S:Nat→Prop) (xs ys:List T) (w:World) (u v:Value) (hu:RSl S w xs u) (hv:RSl S w ys v) (hlx:xs.length≤1099511627776) (hly:ys.length≤1099511627776)
  (hf:∀ x∈xs,∀ y∈ys,∀ (W:World) (p q:Value),RT S W x p→RT S W y q→Calls Tryz.prog 96 #[p,q] W fun e w'=>e=.returned (.int .i64 (ordT x y))∧Below W.heap.size W w') :
  Calls Tryz.prog 105 #[u,v,.func (.func 96) #[] #[]] w fun e w'=>e=.returned (.int .i64 (ordL xs ys))∧Below w.heap.size w w':=by
 obtain ⟨a1,cap1,rfl,hc1,hr1⟩:=hu
 obtain ⟨a2,cap2,rfl,hc2,hr2⟩:=hv
 have HF:=J hf;clear hf
 have HX:=J hr1;clear hr1
 have HY:=J hr2;clear hr2
 go_enter Tryz.func105,Tryz.ntmps105
 go_wp2_with fail
 go_loopw [13] (fun i wr=>∃ k:Nat,k≤xs.length∧k≤ys.length∧i=.int .i64 k∧ordL xs ys=ordL (xs.drop k) (ys.drop k)∧Below w.heap.size w wr) (fun i _=>xs.length - (intOf i).toNat)
 case atStart=>exact ⟨0,Nat.zero_le _,Nat.zero_le _,rfl,rfl,Below.refl _ _⟩
 obtain ⟨k,hkx,hky,rfl,hord,hB⟩:=hrel
 have HO:=J hord;clear hord
 have hsw:=hB.size
 by_cases hlt:k < xs.length
 ·obtain ⟨b,o,rfl⟩:=HX.out.addr (by omega)
  obtain ⟨a',cap',_,d0,d1,d2,d3,hE⟩:=(HX.out.below hB).elem k hlt
  have HDX:=J (drop_cons' xs k hlt)
  by_cases hlt2:k < ys.length
  ·obtain ⟨b2,o2,rfl⟩:=HY.out.addr (by omega)
   obtain ⟨a2',cap2',_,e0,e1,e2,e3,hE2⟩:=(HY.out.below hB).elem k hlt2
   have hblt:=World.block_lt_of_cell? wr _ e0
   have HDY:=J (drop_cons' ys k hlt2)
   go_wp2_with fail
   refine (HF.out _ (List.getElem_mem hlt) _ (List.getElem_mem hlt2) _ _ _ ((hE.alloc _).alloc _) ((hE2.alloc _).alloc _)).mono ?_
   generalize hxx:xs[k]=x at *
   generalize hyy:ys[k]=y at *
   clear hxx hyy
   by_cases hz:ordT x y=0
   ·have hzb:(ordT x y != 0)=false:=by simp [hz]
    have HZ:=J hz;clear hz
    rintro e w1 ⟨rfl,hB1⟩
    have hs1:=hB1.size
    simp only [World.size_alloc] at hs1
    go_wp2_with fail
    go_roundw
    case rel=>exact ⟨k+1,by omega,by omega,by go_num,by rw [HO.out,HDX.out,HDY.out,ordL_cons,HZ.out];simp [orI];exact fun h=>h.symm,yB ((hB.alloc (by omega) _).alloc (by simp <;> omega) _) (by simp <;> omega) hB1⟩
    case measure=>simp [intOf];omega
   have hzb:(ordT x y != 0)=true:=by simp [hz]
   rintro e w1 ⟨rfl,hB1⟩
   go_wp2_with fail
   go_ret
   exact ⟨yO (by rw [HO.out,HDX.out,HDY.out,ordL_cons];simp [orI,hz]),yB ((hB.alloc (by omega) _).alloc (by simp <;> omega) _) (by simp <;> omega) hB1⟩
  have hkk:k=ys.length:=by omega
  subst hkk
  go_wp2_with fail
  go_ret
  exact ⟨yO (by rw [HO.out,HDX.out,List.drop_length,ordL_cn]),hB.alloc (by omega) _⟩
 have hkk:k=xs.length:=by omega
 subst hkk
 by_cases hlt2:xs.length < ys.length
 ·go_wp2_with fail
  go_ret
  exact ⟨yO (by rw [HO.out,List.drop_length,drop_cons' ys _ hlt2,ordL_nc]),hB⟩
 go_wp2_with fail
 go_ret
 exact ⟨yO (by rw [HO.out,List.drop_length,List.drop_of_length_le (by omega),ordL_nn]),hB⟩
attribute [local go_sem ↓] Go.wp_at_zero Go.wp_at_succ
theorem order_c:∀ (x:T) (y:T) (S:Nat→Prop) (w:World) (p q:Value),RT S w x p→RT S w y q→yC [x]≤1099511627776→yC [y]≤1099511627776 →
  Calls Tryz.prog 96 #[p,q] w fun e w'=>e=.returned (.int .i64 (ordT x y))∧Below w.heap.size w w':=by
 intro x
 induction x using T.ind with
 | h x ih =>
  intro y S w p q hp hq hbx hby
  obtain ⟨a1,cap1,rfl,hc1,hr1⟩:=hp
  obtain ⟨a2,cap2,rfl,hc2,hr2⟩:=hq
  have hba:=yR x
  have hbb:=yR y
  have hla:=yM x.args
  have hlb:=yM y.args
  have IH:=J ih;clear ih
  have HX:Hid (RSl S w x.args (.slice a1 x.args.length cap1)):=J ⟨a1,cap1,rfl,hc1,hr1⟩
  have HY:Hid (RSl S w y.args (.slice a2 y.args.length cap2)):=J ⟨a2,cap2,rfl,hc2,hr2⟩
  clear hr1 hr2 hc1 hc2
  have HF:Hid (∀ x1∈x.args,∀ y1∈y.args,∀ (W:World) (p q:Value),RT S W x1 p→RT S W y1 q→Calls Tryz.prog 96 #[p,q] W fun e w'=>e=.returned (.int .i64 (ordT x1 y1))∧Below W.heap.size W w'):=J fun x1 hx y1 hy W p q h1 h2=>IH.out x1 hx y1 S W p q h1 h2 (by have:=bulk_mem hx;omega) (by have:=bulk_mem hy;omega)
  have hll:w.heap.size < w.heap.size+1+1:=by omega
  go_enter Tryz.func96,Tryz.ntmps96
  go_wp2_with fail
  go_region_held3 (fun w'=>w'.cell? ⟨w.heap.size,0,none⟩=some (.int .i64 x.kind)∧w'.cell? ⟨w.heap.size,1,none⟩=some (.int .i64 x.n)∧w'.cell? ⟨w.heap.size,2,none⟩=some (.string x.name)∧w'.cell? ⟨w.heap.size,3,none⟩=some (.slice a1 x.args.length cap1) ∧
    w'.cell? ⟨w.heap.size+1,0,none⟩=some (.int .i64 y.kind)∧w'.cell? ⟨w.heap.size+1,1,none⟩=some (.int .i64 y.n)∧w'.cell? ⟨w.heap.size+1,2,none⟩=some (.string y.name)∧w'.cell? ⟨w.heap.size+1,3,none⟩=some (.slice a2 y.args.length cap2))
   (go_keep)
   (first
    | (go_at_call 103;refine (compare_c _ _ _).mono ?_;rintro e w' ⟨rfl,rfl⟩)
    | (go_at_call 104;refine (scompare_c _ _ _).mono ?_;rintro e w' ⟨rfl,rfl⟩)
    | (go_at_call 105;refine (compareFunc_Order S _ _ _ _ _ (HX.out.below ?_) (HY.out.below ?_) (by omega) (by omega) HF.out).mono ?_;(repeat' (first | exact Below.refl _ _ | apply Below.drew | refine Below.alloc ?_ (by simp <;> omega) _));rintro e w1 ⟨rfl,hB1⟩;obtain ⟨hcc,-⟩:=bcell hB1)
    | (go_at_call 102;refine (or_c _ [_,_,_,_,_] _ _ (RI.lit _ [_,_,_,_,_] _) (by simp)).mono ?_;rintro e w2 ⟨rfl,rfl⟩))
  go_wp2
  go_ret
  refine ⟨rfl,Below.alloc (yB ?_ ?_ hB1) ?_ _⟩
  ·repeat' (first | exact Below.refl _ _ | apply Below.drew | refine Below.alloc ?_ (by simp <;> omega) _)
  ·simp <;> omega
  ·have:=hB1.size;simp at this;omega
end Go.Proofs.YtedfepnekjjmnabGreat
