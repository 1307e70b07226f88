/-
 Two processes side by side; a process' calls as read; slices.Contains of integers. No condition.
-/
import Derived.Test.YtedfepnekjjmnabJi
import Derived.Test.YtedfepnekjjmnabProc15
import Derived.Test.YtedfepnekjjmnabJh
namespace Go.Proofs.Ytedfepnekjjmnab
open Go.RowKit
set_option linter.unusedSimpArgs false
set_option linter.unusedVariables false
set_option maxRecDepth 100000

/-- A call as it is handed in: what is to be done, as whom, a term. -/
structure PC where
 kind : Int
 self : Int
 t : T
def pcE : El PC where
 k := 6
 C := fun S w x cs => ∃ a cap, cs = [.int .i64 x.kind, .int .i64 x.self, .int .i64 x.t.kind, .int .i64 x.t.n, .string x.t.name, .slice a x.t.args.length cap] ∧ RT S w x.t (.agg #[.int .i64 x.t.kind, .int .i64 x.t.n, .string x.t.name, .slice a x.t.args.length cap])
 len := by rintro S w x cs ⟨a, cap, rfl, -⟩; rfl
 one := by rintro S w x cs ⟨a, cap, rfl, -⟩; simp [Value.oneCell']
 «to» := by rintro S S' w w' x cs ⟨a, cap, rfl, h⟩ hs hc; exact ⟨a, cap, rfl, h.to hs hc⟩
def pcF : ElT pcE where
 e := 92
 sl := 75
 bytes := 72
 z := .agg #[.int .i64 0, .int .i64 0, .int .i64 0, .int .i64 0, .string ⟨#[]⟩, .slice none 0 0]
 hund := Try.underlying75
 info := by kernel_rfl
 hzs := rfl
 hk := by decide
 hb := by decide
def pcB (x : PC) : Nat := 1 + bulkL [x.t]
def pcsB : List PC → Nat
 | [] => 1
 | x :: l => pcB x + pcsB l
theorem pcsB_pos : ∀ l : List PC, 1 ≤ pcsB l
 | [] => Nat.le_refl _
 | x :: l => by have := pcsB_pos l; simp only [pcsB]; omega
theorem pcsB_mem {x : PC} : ∀ {l : List PC}, x ∈ l → bulkL [x.t] ≤ pcsB l
 | [], h => by cases h
 | y :: l, h => by
  rcases List.mem_cons.1 h with rfl | h
  ·simp only [pcsB, pcB]; omega
  ·have := pcsB_mem h; simp only [pcsB]; omega
set_option maxHeartbeats 2000000 in
theorem indexI_c (l : List Int) (n : Int) (S : Nat → Prop) (a : Option Addr) (cap : Nat) (w : World) (hv : RX intE S S w l (.slice a l.length cap)) (hl : l.length ≤ 1099511627776) :
  Calls Try.prog 74 #[.slice a l.length cap, .int .i64 n] w fun e w' => (∃ i : Int, e = .returned (.int .i64 i)) ∧ Below w.heap.size w w' := by
 have HV := Lib.hid hv
 clear hv
 go_enter Try.func74, Try.ntmps74
 go_wp2_with fail
 go_loopw [8] (fun i wr => ∃ k : Nat, k ≤ l.length ∧ i = .int .i64 (k : Int) ∧ Below w.heap.size w wr) (fun i _ => l.length - (intOf i).toNat)
 case atStart => exact ⟨0, Nat.zero_le _, rfl, Below.refl _ _⟩
 case round =>
  obtain ⟨k, hk, rfl, hB⟩ := hrel
  have HB := Lib.hid hB
  clear hB
  by_cases hlt : k < l.length
  ·obtain ⟨b, o, rfl⟩ := HV.out.addr (by decide) (by omega)
   obtain ⟨c, hc1, hc2⟩ := HV.out.elem k hlt
   obtain ⟨x, hx⟩ : ∃ x, x = l[k] := ⟨_, rfl⟩
   rw [← hx] at hc1
   have hc1 : c = [.int .i64 x] := hc1
   subst hc1
   have x0 := (HB.out.cell (World.block_lt_of_cell? _ _ (hc2 0 _ rfl).2)).trans (hc2 0 _ rfl).2
   have x0 : ‹World›.cell? ⟨b, o + k, none⟩ = some (.int .i64 x) := by rw [show o + k = o + k * intE.k + 0 by simp [intE]]; exact x0
   clear hc2 hx
   cases hq : (n == x)
   ·go_wp2_with fail
    go_roundw
    case rel => exact ⟨k + 1, by omega, by go_num, HB.out⟩
    case measure => simp [intOf]; omega
   ·go_wp2_with fail
    go_ret
    exact ⟨⟨_, rfl⟩, HB.out⟩
  ·have hk2 : k = l.length := by omega
   subst hk2
   go_wp2_with fail
   go_ret
   exact ⟨⟨_, rfl⟩, HB.out⟩
set_option maxHeartbeats 1000000 in
theorem containsI_c (l : List Int) (n : Int) (S : Nat → Prop) (a : Option Addr) (cap : Nat) (w : World) (hv : RX intE S S w l (.slice a l.length cap)) (hl : l.length ≤ 1099511627776) :
  Calls Try.prog 38 #[.slice a l.length cap, .int .i64 n] w fun e w' => (∃ q : Bool, e = .returned (.bool q)) ∧ Below w.heap.size w w' := by
 go_enter Try.func38, Try.ntmps38
 go_wp2_with fail
 refine (indexI_c l n S a cap w hv hl).mono ?_
 rintro e w1 ⟨⟨i, rfl⟩, hB⟩
 go_wp2_with fail
 go_ret
 exact ⟨⟨_, rfl⟩, hB⟩
/-- Two processes, apart from each other. -/
structure Two (w : World) (pa pb : Nat) (name : ByteArray) (room : Int) (Ga Gb : Nat → Prop) (na nb ua ub : Nat) (La Lb : TW) (wx : World) : Prop where
 bel : Below w.heap.size w wx
 ra : PrR Ga wx pa name room na ua La []
 rb : PrR Gb wx pb name room nb ub Lb []
 ga : ∀ b, Ga b → w.heap.size ≤ b ∧ b < wx.heap.size ∧ ¬ Gb b
 gb : ∀ b, Gb b → w.heap.size ≤ b ∧ b < wx.heap.size
section
variable {w : World} {pa pb : Nat} {name : ByteArray} {room : Int} {Ga Gb : Nat → Prop} {na nb ua ub na' nb' ua' ub' : Nat} {La Lb La' Lb' : TW} {wx wy : World}
theorem Two.below (h : Two w pa pb name room Ga Gb na nb ua ub La Lb wx) (hB : Below wx.heap.size wx wy) : Two w pa pb name room Ga Gb na nb ua ub La Lb wy :=
 ⟨below_step h.bel h.bel.size hB, h.ra.below hB, h.rb.below hB, fun b hb => ⟨(h.ga b hb).1, Nat.lt_of_lt_of_le (h.ga b hb).2.1 hB.size, (h.ga b hb).2.2⟩, fun b hb => ⟨(h.gb b hb).1, Nat.lt_of_lt_of_le (h.gb b hb).2 hB.size⟩⟩
theorem Two.stepA (h : Two w pa pb name room Ga Gb na nb ua ub La Lb wx) (hK : Keep Ga wx wy) (hP : PrR (fun b => Ga b ∨ wx.heap.size ≤ b) wy pa name room na' ua' La' []) : Two w pa pb name room (fun b => (Ga b ∨ wx.heap.size ≤ b) ∧ b < wy.heap.size) Gb na' nb ua' ub La' Lb wy := by
 have hs := h.bel.size
 have hsz := hK.size
 refine ⟨h.bel.trans (hK.below hs fun b hb => (h.ga b hb).1), hP.low, h.rb.to hsz fun b hb hl => hK.block b hl fun hg => (h.ga b hg).2.2 hb, fun b hb => ?_, fun b hb => ⟨(h.gb b hb).1, by have := (h.gb b hb).2; omega⟩⟩
 rcases hb.1 with h1 | h1
 ·exact ⟨(h.ga b h1).1, hb.2, (h.ga b h1).2.2⟩
 ·exact ⟨by omega, hb.2, fun hg => by have := (h.gb b hg).2; omega⟩
theorem Two.stepB (h : Two w pa pb name room Ga Gb na nb ua ub La Lb wx) (hK : Keep Gb wx wy) (hP : PrR (fun b => Gb b ∨ wx.heap.size ≤ b) wy pb name room nb' ub' Lb' []) : Two w pa pb name room Ga (fun b => (Gb b ∨ wx.heap.size ≤ b) ∧ b < wy.heap.size) na nb' ua ub' La Lb' wy := by
 have hs := h.bel.size
 have hsz := hK.size
 refine ⟨h.bel.trans (hK.below hs fun b hb => (h.gb b hb).1), h.ra.to hsz fun b hb hl => hK.block b hl fun hg => (h.ga b hb).2.2 hg, hP.low, fun b hb => ⟨(h.ga b hb).1, by have := (h.ga b hb).2.1; omega, fun hg => ?_⟩, fun b hb => ?_⟩
 ·rcases hg.1 with h1 | h1
  ·exact (h.ga b hb).2.2 h1
  ·have := (h.ga b hb).2.1; omega
 ·rcases hb.1 with h1 | h1
  ·exact ⟨(h.gb b h1).1, hb.2⟩
  ·exact ⟨by omega, hb.2⟩
end
/-- The two between two calls. -/
def TwoP (w : World) (pa pb : Nat) (name : ByteArray) (room : Int) (n m : Nat) (wx : World) : Prop :=
 ∃ (Ga Gb : Nat → Prop) (ua ub : Nat) (La Lb : TW), Two w pa pb name room Ga Gb n n ua ub La Lb wx ∧ tmsL La = tmsL Lb ∧ 1 ≤ La.length ∧ La.length ≤ m
theorem TwoP.below {w : World} {pa pb : Nat} {name : ByteArray} {room : Int} {n m : Nat} {wx wy : World} (h : TwoP w pa pb name room n m wx) (hB : Below wx.heap.size wx wy) : TwoP w pa pb name room n m wy := by
 obtain ⟨Ga, Gb, ua, ub, La, Lb, h1, h2⟩ := h
 exact ⟨Ga, Gb, ua, ub, La, Lb, h1.below hB, h2⟩
theorem TwoP.mono {w : World} {pa pb : Nat} {name : ByteArray} {room : Int} {n m n' m' : Nat} {wx : World} (h : TwoP w pa pb name room n m wx) (hn : n ≤ n') (hm : m ≤ m') : TwoP w pa pb name room n' m' wx := by
 obtain ⟨Ga, Gb, ua, ub, La, Lb, h1, h2, h3, h4⟩ := h
 exact ⟨Ga, Gb, ua, ub, La, Lb, ⟨h1.bel, h1.ra.names hn, h1.rb.names hn, h1.ga, h1.gb⟩, h2, h3, by omega⟩
theorem tmsL_cons {L : TW} {t : T} {us : List T} (h : tmsL L = t :: us) : ∃ (x : Wrd) (L' : TW), L = (t, x) :: L' ∧ tmsL L' = us := by
 cases L with
 | nil => cases h
 | cons p L =>
  have h : p.1 :: tmsL L = t :: us := h
  simp only [List.cons.injEq] at h
  exact ⟨p.2, L, by rw [← h.1], h.2⟩
theorem newE_room {name : ByteArray} {room : Int} {t : T} (h : newE name room t = 0) : 0 ≤ room ∧ room ≤ 1000 := by
 unfold newE at h
 split at h
 ·simp at h
 ·split at h
  ·simp at h
  ·omega
theorem stepE_len (l : List Behv) (name : ByteArray) (room self next : Int) (st : T) (ml : List T) : 1 ≤ (stepE l name room self next (st :: ml)).2.length ∧ (stepE l name room self next (st :: ml)).2.length ≤ ml.length + 1 := by
 unfold stepE
 split
 ·simp
 split
 ·simp
 split
 ·simp
 split
 ·simp
 ·rename_i x hx
  unfold stepO at hx
  obtain ⟨y, hy, rfl⟩ := Option.map_eq_some_iff.1 hx
  have h := (eraseIdx_sub ml (y.1 - 1)).length_le
  simp only [List.length_cons, List.tail_cons]
  omega
theorem actO_msg (room self next : Int) (st : T) (ml : List T) (m : T) (c : Clau) (bd : List T) : (actO room self next st ml m c bd).1.message = m := by
 unfold actO
 simp only
 split
 ·rfl
 split
 ·rfl
 ·rfl
theorem stepE_msg (l : List Behv) (name : ByteArray) (room self next : Int) (st : T) (ml : List T) (h : ∀ t ∈ ml, bulkL [t] ≤ 2000) : bulkL [(stepE l name room self next (st :: ml)).1.1.message] ≤ 2000 := by
 have hz : bulkL [zeroTak.message] ≤ 2000 := by show bulkL [zeroT] ≤ 2000; rw [bulk_zeroT]; decide
 unfold stepE
 split
 ·exact hz
 split
 ·exact hz
 split
 ·exact hz
 split
 ·exact hz
 ·rename_i x hx
  unfold stepO at hx
  obtain ⟨y, hy, rfl⟩ := Option.map_eq_some_iff.1 hx
  show bulkL [(actO _ _ _ _ _ _ _ _).1.message] ≤ 2000
  rw [actO_msg]
  show bulkL [ml.getD (y.1 - 1) zeroT] ≤ 2000
  rw [List.getD_eq_getElem?_getD]
  cases hg : ml[y.1 - 1]? with
  | none => exact hz
  | some t => exact h t (List.mem_of_getElem? hg)
theorem PrR.small {G : Nat → Prop} {w : World} {pb : Nat} {name : ByteArray} {room : Int} {nb u : Nat} {L Z : TW} (h : PrR G w pb name room nb u L Z) : ∀ t ∈ tmsL L, bulkL [t] ≤ 2000 := by
 obtain ⟨F, B, H, v, hV, -⟩ := h
 intro t ht
 obtain ⟨p, hp, rfl⟩ := List.mem_map.1 ht
 exact Nat.le_trans (chk_bulk (hV.ph.ok p (List.mem_append.2 (.inl hp))).1) (by decide)
theorem szL_snocs (s : T) (ml : List T) {j : Nat} (hj : j < ml.length) : szL (s :: ml.take (j + 1)) = szL (s :: ml.take j) + szL [ml[j]] := by
 rw [take_snoc' ml j hj, ← List.cons_append, szL_append]
theorem szL_take_le (s : T) (ml : List T) (j : Nat) : szL (s :: ml.take j) ≤ szL (s :: ml) := by
 have e : s :: ml = (s :: ml.take j) ++ ml.drop j := by simp
 rw [e, szL_append]; omega
theorem same_self (t : T) : sameT t t = true := (sameT_iff t t).2 rfl
theorem sameL_self (l : List T) : sameL l l = true := (sameL_iff l l).2 rfl
end Go.Proofs.Ytedfepnekjjmnab
