/-
  heap's parts, stands, all: what they answer. No condition but a bound.
-/
import Derived.Test.YtedfepnekjjmnabGreatJf
namespace Go.Proofs.YtedfepnekjjmnabGreat
open Go.RowKit
set_option linter.unusedSimpArgs false
set_option linter.unusedVariables false
set_option maxRecDepth 100000
set_option maxHeartbeats 4000000
def headN (H:HS) (at_:Int):Option Int:=if 0≤at_∧at_ < H.ws.length then (if (H.ws.getD at_.toNat ⟨0,0⟩).kind=0 then some (H.ws.getD at_.toNat ⟨0,0⟩).n else none) else none
def HeadsOk (H:HS):Prop:=∀ i (h:i < H.ws.length),H.ws[i].kind=0→0≤H.ws[i].n∧(i:Int)+1+H.ws[i].n≤H.ws.length
def partsL (H:HS) (i k:Nat):List Wrd:=(H.ws.drop (i+1)).take k
theorem headN_some {H:HS} {at_ n:Int} (hH:HeadsOk H) (h:headN H at_=some n):∃ (i k:Nat) (hi:i < H.ws.length),at_=i∧n=k∧H.ws[i]=⟨0,n⟩∧i+1+k≤H.ws.length:=by
 unfold headN at h
 split at h
 ·rename_i hr
  split at h
  ·rename_i hk
   simp only [Option.some.injEq] at h
   have hi:at_.toNat < H.ws.length:=by omega
   rw [List.getD_eq_getElem?_getD,List.getElem?_eq_getElem hi] at hk h
   simp only [Option.getD_some] at hk h
   have h1:=hH _ hi hk
   refine ⟨at_.toNat,n.toNat,hi,by omega,by omega,?_,by omega⟩
   obtain ⟨k0,n0⟩:∃ k0 n0,H.ws[at_.toNat]=⟨k0,n0⟩:=⟨_,_,rfl⟩
   cases hx:H.ws[at_.toNat]
   rw [hx] at hk h
   simp only at hk h
   rw [hk,h]
  cases h
 cases h
theorem headN_of {H:HS} {i:Nat} (hi:i < H.ws.length) (hk:H.ws[i].kind=0):headN H i=some H.ws[i].n:=by
 unfold headN
 rw [if_pos ⟨by omega,by omega⟩,Int.toNat_natCast,List.getD_eq_getElem?_getD,List.getElem?_eq_getElem hi]
 simp [hk]
def PartsP (F:Nat→Prop) (w:World) (l:List Wrd) (e:Ending) (w':World):Prop :=
 ∃ a cap,e=.returned (.tuple #[.slice a l.length cap,.bool true])∧Below w.heap.size w w'∧RX wrdE F (fun _=>True) w' l (.slice a l.length cap)
theorem RX.nilAt {X:Type} {E:El X} (R S:Nat→Prop) (w:World) (a:Option Addr) (cap:Nat) (h:a=none→cap=0):RX E R S w [] (.slice a 0 cap):=⟨a,cap,[],rfl,⟨Nat.zero_le _,h⟩,rfl,fun j u h=>by simp at h⟩
theorem hparts_no (F:Nat→Prop) (w:World) (B:Nat) (room:Int) (H:HS) (at_:Int) (hR:HeapR F w B room H) (hn:headN H at_=none) (hl:H.ws.length≤137438953472) :
  Calls Tryz.prog 98 #[.pointer (some ⟨B,0,none⟩),.int .i64 at_] w fun e w'=>e=.returned (.tuple #[.slice none 0 0,.bool false])∧w=w':=by
 obtain ⟨vw,vn,hV⟩:=hR
 obtain ⟨aw,cw,rfl⟩:=hV.ws.form
 have y1:=hV.blk.cell 1 _ rfl
 have HX:=J hV.ws.rx
 clear hV
 by_cases h0:at_ < 0
 ·clear hn
  go_enter Tryz.func98,Tryz.ntmps98
  go_wp2_with fail
  go_ret2
  exact ⟨rfl,rfl⟩
 by_cases h1:at_ < H.ws.length
 ·obtain ⟨i,rfl⟩:∃ i:Nat,at_=i:=⟨at_.toNat,by omega⟩
  have hi:i < H.ws.length:=by omega
  obtain ⟨b,o,rfl⟩:=HX.out.addr (by decide) (by omega)
  obtain ⟨-,c0,c1⟩:=HX.out.wrd i hi
  have hk:(H.ws[i].kind != 0)=true:=by
   cases hh:(H.ws[i].kind != 0)
   ·rw [headN_of hi (by simpa using hh)] at hn;cases hn
   rfl
  clear hn
  go_enter Tryz.func98,Tryz.ntmps98
  go_wp2_with fail
  go_ret2
  exact ⟨rfl,rfl⟩
 clear hn
 go_enter Tryz.func98,Tryz.ntmps98
 go_wp2_with fail
 go_ret2
 exact ⟨rfl,rfl⟩
theorem hparts_yes (F : Nat → Prop) (w : World) (B : Nat) (room : Int) (H : HS) (i k : Nat) (hR : HeapR F w B room H) (hi : i < H.ws.length) (hw : H.ws[i] = ⟨0, k⟩) (hik : i + 1 + k ≤ H.ws.length) (hl : H.ws.length ≤ 137438953472) :
    Calls Tryz.prog 98 #[.pointer (some ⟨B, 0, none⟩), .int .i64 i] w (PartsP F w (partsL H i k)) := by
  obtain ⟨vw, vn, hV⟩ := hR
  obtain ⟨aw, cw, rfl, hcap⟩ : ∃ a cap, vw = .slice a H.ws.length cap ∧ CapOk a H.ws.length cap := by have := OwnXG.form hV.ws; exact this
  have y1 := hV.blk.cell 1 _ rfl
  have hx := hV.ws.rx
  have hF := hV.fw
  have hBl := hV.blk.lt
  clear hV
  obtain ⟨b, o, rfl⟩ := hx.addr (by decide) (by omega)
  obtain ⟨hb, c0, c1⟩ := hx.wrd i hi
  rw [hw] at c0 c1
  simp only at c0 c1
  have hbl := World.block_lt_of_cell? _ _ c0
  have HX := J hx
  have HF := J hF
  have hcw : H.ws.length ≤ cw := hcap.1
  have hpl : (partsL H i k).length = k := by unfold partsL; rw [List.length_take, List.length_drop]; omega
  have HPL := J hpl
  clear hw hx hF hpl hcap
  have HQ : Hid (∀ w' : World, Below w.heap.size w w' → w'.cell? ⟨B, 1, none⟩ = some (.slice (some ⟨b, o, none⟩) H.ws.length cw) ∧ w'.cell? ⟨b, o + i * 2 + 1, none⟩ = some (.int .i64 k)) := J fun w' h => ⟨(h.cell (p := ⟨B, 1, none⟩) hBl).trans y1, (h.cell (p := ⟨b, o + i * 2 + 1, none⟩) hbl).trans c1⟩
  have k0 : (0 : Int) ≤ k := by omega
  have hlt : (i : Int) < H.ws.length := by omega
  have u1 : IntKind.i64.wrap ((i : Int) + 1) = (i : Int) + 1 := by rw [IntKind.wrap_i64]; omega
  have u2 : IntKind.i64.wrap ((i : Int) + 1 + k) = (i : Int) + 1 + k := by rw [IntKind.wrap_i64]; omega
  have n1 : ((i : Int) + 1).toNat = i + 1 := by omega
  have n2 : ((i : Int) + 1 + k).toNat = i + 1 + k := by omega
  have q1 : (0 : Int) ≤ (i : Int) + 1 + k := by omega
  have q2 : (i : Int) + 1 + k ≤ cw := by omega
  have q3 : (0 : Int) ≤ (i : Int) + 1 := by omega
  have q4 : (i : Int) + 1 ≤ max ((i : Int) + 1 + k) 0 := by omega
  have n3 : i + 1 + k - (i + 1) = k := by omega
  by_cases hcc : cw = i + 1
  all_goals (
    go_enter Tryz.func98, Tryz.ntmps98
    go_upto_region 3 with fail
    refine yK (fun w' => w'.cell? ⟨B, 1, none⟩ = some (.slice (some ⟨b, o, none⟩) H.ws.length cw) ∧ w'.cell? ⟨b, o + i * 2 + 1, none⟩ = some (.int .i64 k)) (by as_aux_lemma => kernel_rfl) (HQ.out) ?_
    intro Wd hB hWd hWd' hHeld
    have HCWd := J hB
    clear hB
    refine rgT 0 _ hHeld ?_
    refine rgT 1 _ hHeld ?_
    refine rgT 2 _ hHeld ?_
    refine rgT 3 _ hHeld ?_
    refine rgT 4 _ hHeld ?_
    refine rgT 5 _ hHeld ?_
    refine rgT 6 _ hHeld ?_
    refine rgT 7 _ hHeld ?_
    refine rgT 8 _ hHeld ?_
    refine rgT 9 _ hHeld ?_
    refine rgT 10 _ hHeld ?_
    refine rgT 11 _ hHeld ?_
    refine rgT 12 _ hHeld ?_
    refine rgT 13 _ hHeld ?_
    refine rgT 14 _ hHeld ?_
    refine rgT 15 _ hHeld ?_
    refine rgT 16 _ hHeld ?_
    refine rg_take (i := 17) (v := ?_) rfl (by as_aux_lemma => kernel_rfl) (by as_aux_lemma => kernel_rfl) (by as_aux_lemma => kernel_rfl) (by rfl) ?_ hHeld ?_
    rotate_left 1
    · intro w hSw; (try dsimp only at hSw); go_simp; (try rw [if_pos (by omega)]); (try rw [if_pos (by omega)]); try (with_reducible rfl)
    try simp only [Act.put, pA, pB, pC]
    refine rgT 18 _ hHeld ?_
    refine rgT 19 _ hHeld ?_
    refine rgD ?_
    clear hHeld
    go_wp2_with fail
    go_ret2
    refine ⟨_, _, by rw [HPL.out]; rfl, HCWd.out, ?_⟩
    first
      | (have hk0 : k = 0 := by omega
         subst hk0
         have hpe : partsL H i 0 = [] := by unfold partsL; rw [List.take_zero]
         rw [hpe]
         exact RX.nilAt _ _ _ _ _ (by simp))
      | (rw [HPL.out]
         have hp := (HX.out.part (i + 1) k (cw - (i + 1)) (by omega) (by omega)).mono (R' := F) (fun x hx => HF.out x hx) (S' := fun _ => True) fun _ _ => trivial
         exact hp.below HCWd.out)
    )
def standsB (H:HS) (x:Wrd):Bool :=
 if x.kind=1 then decide (-1099511627776≤x.n) && decide (x.n≤1099511627776) else if x.kind=3 then decide (1≤x.n) && decide (x.n≤99)
 else if x.kind=2 then decide (0≤x.n) && decide (x.n < H.names.length) else if x.kind=4 then (headN H x.n).isSome else false
theorem hstands_c (F:Nat→Prop) (w:World) (B:Nat) (room:Int) (H:HS) (x:Wrd) (hR:HeapR F w B room H) (hH:HeadsOk H) (hl:H.ws.length≤137438953472) :
  Calls Tryz.prog 83 #[.pointer (some ⟨B,0,none⟩),.agg #[.int .i64 x.kind,.int .i64 x.n]] w fun e w'=>e=.returned (.bool (standsB H x))∧Below w.heap.size w w':=by
 have HR:=J hR
 have HH:=J hH
 obtain ⟨vw,vn,hV⟩:=hR
 obtain ⟨an,cn,rfl⟩:=hV.nm.form
 have HV:=J hV
 clear hV hH
 by_cases hk1:x.kind=1
 ·have HE:Hid (standsB H x=(decide (-1099511627776≤x.n) && decide (x.n≤1099511627776))):=J (by unfold standsB;rw [if_pos hk1])
  have k1:(x.kind == 1)=true:=by rw [hk1];rfl
  clear hk1
  obtain ⟨d1,hd1⟩:∃ d1,decide (-1099511627776≤x.n)=d1:=⟨_,rfl⟩
  obtain ⟨d2,hd2⟩:∃ d2,decide (x.n≤1099511627776)=d2:=⟨_,rfl⟩
  rw [hd1,hd2] at HE
  cases d1 <;> cases d2
  all_goals (
   go_enter Tryz.func83,Tryz.ntmps83
   go_wp2_with fail
   go_ret
   exact ⟨yL (by rw [HE.out];first | rfl | simp [hd2]),yA _ _⟩)
 have k1:(x.kind == 1)=false:=by simpa using hk1
 by_cases hk3:x.kind=3
 ·have HE:Hid (standsB H x=(decide (1≤x.n) && decide (x.n≤99))):=J (by unfold standsB;rw [if_neg hk1,if_pos hk3])
  have k3:(x.kind == 3)=true:=by rw [hk3];rfl
  clear hk1 hk3
  obtain ⟨d1,hd1⟩:∃ d1,decide (1≤x.n)=d1:=⟨_,rfl⟩
  obtain ⟨d2,hd2⟩:∃ d2,decide (x.n≤99)=d2:=⟨_,rfl⟩
  rw [hd1,hd2] at HE
  cases d1 <;> cases d2
  all_goals (
   go_enter Tryz.func83,Tryz.ntmps83
   go_wp2_with fail
   go_ret
   exact ⟨yL (by rw [HE.out];first | rfl | simp [hd2]),yA _ _⟩)
 have k3:(x.kind == 3)=false:=by simpa using hk3
 by_cases hk2:x.kind=2
 ·have HE:Hid (standsB H x=(decide (0≤x.n) && decide (x.n < H.names.length))):=J (by unfold standsB;rw [if_neg hk1,if_neg hk3,if_pos hk2])
  have k2:(x.kind == 2)=true:=by rw [hk2];rfl
  clear hk1 hk3 hk2
  obtain ⟨W0,hW0⟩:=I (w.alloc (.cells #[.int .i64 x.kind,.int .i64 x.n] 68))
  have HX0:Hid (Blk W0 w.heap.size [.int .i64 x.kind,.int .i64 x.n]):=J (by rw [hW0];exact Blk.new _ _ _ _ rfl)
  have HB0:Hid (Below w.heap.size w W0):=J (by rw [hW0];exact yA _ _)
  have HV0:=J (HV.out.below HB0.out)
  have HW0:=J hW0
  clear hW0
  have HQ:Hid (∀ w':World,Below W0.heap.size W0 w'→w'.cell? ⟨w.heap.size,1,none⟩=some (.int .i64 x.n)∧w'.cell? ⟨B,2,none⟩=some (.slice an H.names.length cn)):=J fun w' h=>⟨(HX0.out.step h).cell 1 _ rfl,(HV0.out.blk.step h).cell 2 _ rfl⟩
  by_cases h1:0≤x.n
  ·have hd1:decide (0≤x.n)=true:=by simpa using h1
   go_enter Tryz.func83,Tryz.ntmps83
   go_upto_region 7 with fail
   rw [←HW0.out]
   refine yK (fun w'=>w'.cell? ⟨w.heap.size,1,none⟩=some (.int .i64 x.n)∧w'.cell? ⟨B,2,none⟩=some (.slice an H.names.length cn)) (by as_aux_lemma=>kernel_rfl) (HQ.out) ?_
   intro Wd hB hWd hWd' hHeld
   have HCWd:=J hB
   clear hB
   refine rgT 0 _ hHeld ?_
   refine rgT 1 _ hHeld ?_
   refine rgT 2 _ hHeld ?_
   refine rgT 3 _ hHeld ?_
   refine rgT 4 _ hHeld ?_
   refine rgT 5 _ hHeld ?_
   refine rgT 6 _ hHeld ?_
   refine rgT 7 _ hHeld ?_
   refine rgT 8 _ hHeld ?_
   refine rgT 9 _ hHeld ?_
   refine rgT 10 _ hHeld ?_
   refine rgT 11 _ hHeld ?_
   refine rgT 12 _ hHeld ?_
   refine rgT 13 _ hHeld ?_
   refine rgD ?_
   clear hHeld
   go_wp2_with fail
   go_ret
   exact ⟨yL (by rw [HE.out];first | (simp [h1];done) | (simp;omega)),HB0.out.trans (HCWd.out.mono (by have:=HB0.out.size;omega))⟩
  have hd1:decide (0≤x.n)=false:=by simpa using h1
  go_enter Tryz.func83,Tryz.ntmps83
  go_upto_region 7 with fail
  rw [←HW0.out]
  refine yK (fun w'=>w'.cell? ⟨w.heap.size,1,none⟩=some (.int .i64 x.n)∧w'.cell? ⟨B,2,none⟩=some (.slice an H.names.length cn)) (by as_aux_lemma=>kernel_rfl) (HQ.out) ?_
  intro Wd hB hWd hWd' hHeld
  have HCWd:=J hB
  clear hB
  refine rgT 0 _ hHeld ?_
  refine rgT 1 _ hHeld ?_
  refine rgT 2 _ hHeld ?_
  refine rgT 3 _ hHeld ?_
  refine rgN 4 hHeld ?_
  refine rgN 5 hHeld ?_
  refine rgN 6 hHeld ?_
  refine rgN 7 hHeld ?_
  refine rgN 8 hHeld ?_
  refine rgN 9 hHeld ?_
  refine rgN 10 hHeld ?_
  refine rgN 11 hHeld ?_
  refine rgT 12 _ hHeld ?_
  refine rgT 13 _ hHeld ?_
  refine rgD ?_
  clear hHeld
  go_wp2_with fail
  go_ret
  exact ⟨yL (by rw [HE.out];first | (simp [h1];done) | (simp;omega)),HB0.out.trans (HCWd.out.mono (by have:=HB0.out.size;omega))⟩
 have k2:(x.kind == 2)=false:=by simpa using hk2
 by_cases hk4:x.kind=4
 ·have HE:Hid (standsB H x=(headN H x.n).isSome):=J (by unfold standsB;rw [if_neg hk1,if_neg hk3,if_neg hk2,if_pos hk4])
  have k4:(x.kind == 4)=true:=by rw [hk4];rfl
  have HR0:=J (HR.out.below (yA w (.cells #[.int .i64 x.kind,.int .i64 x.n] 68)))
  have HB0:=J (yA w (.cells #[.int .i64 x.kind,.int .i64 x.n] 68))
  clear hk1 hk3 hk2 hk4
  cases hh:headN H x.n with
  | none =>
   have HN:=J hh
   rw [hh] at HE
   clear hh
   go_enter Tryz.func83,Tryz.ntmps83
   go_wp2_with fail
   refine (hparts_no F _ B room H x.n HR0.out HN.out hl).mono ?_
   rintro e w' ⟨rfl,rfl⟩
   go_wp2_with fail
   go_ret
   exact ⟨yL (by rw [HE.out];rfl),HB0.out⟩
  | some n =>
   obtain ⟨i,k,hi,hx,rfl,hw,hik⟩:=headN_some HH.out hh
   rw [hh] at HE
   have HW:=J hw
   have HXN:=J hx
   clear hh hw hx
   go_enter Tryz.func83,Tryz.ntmps83
   go_wp2_with fail
   have hc:=hparts_yes F _ B room H i k HR0.out hi HW.out hik hl
   rw [←HXN.out] at hc
   refine hc.mono ?_
   rintro e w1 ⟨a1,c1,rfl,hB,-⟩
   go_wp2_with fail
   go_ret
   exact ⟨yL (by rw [HE.out];rfl),yB HB0.out (by simp) hB⟩
 have HE:Hid (standsB H x=false):=J (by unfold standsB;rw [if_neg hk1,if_neg hk3,if_neg hk2,if_neg hk4])
 have k4:(x.kind == 4)=false:=by simpa using hk4
 clear hk1 hk3 hk2 hk4
 go_enter Tryz.func83,Tryz.ntmps83
 go_wp2_with fail
 go_ret
 exact ⟨yL HE.out.symm,yA _ _⟩
end Go.Proofs.YtedfepnekjjmnabGreat
