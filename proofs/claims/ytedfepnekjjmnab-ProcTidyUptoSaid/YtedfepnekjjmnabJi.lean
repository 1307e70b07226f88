/-
  Contracts and plain laws, joined: Proc7 ProcG ProcH ProcI ProcJ ProcK ProcL ProcN. Conditions stand in each.
-/
import Derived.Test.YtedfepnekjjmnabJh
import Derived.Test.YtedfepnekjjmnabJc
import Derived.Test.YtedfepnekjjmnabTo
import Derived.Test.YtedfepnekjjmnabProc11
import Derived.Test.YtedfepnekjjmnabSmallC
/-
 A process: Mail. Conditions: it lies as PrR says; few names, few words.
-/
namespace Go.Proofs.Ytedfepnekjjmnab
open Go.RowKit
set_option linter.unusedSimpArgs false
set_option linter.unusedVariables false
set_option maxRecDepth 100000

theorem RX.rslQ {R S : Nat → Prop} {w : World} {ts : List T} {v : Value} (h : RX termE R S w ts v) : RSl (fun b => R b ∨ S b) w ts v := by
 obtain ⟨a, cap, cs, rfl, h1, h2, h3⟩ := h
 exact RSl2.rsl ⟨a, cap, cs, rfl, h1, cells_termE.1 h2, h3⟩
theorem RQ.formT {P F : Nat → Prop} {w0 w : World} {bs : List (Nat × List Value)} {rs : List Rw} {v : Value} {us : List T} (h : RQ P F w0 bs w (rT v us :: rs)) : ∃ a c, v = .slice a us.length c := by
 obtain ⟨a, c, e, -⟩ := (h.rx (List.mem_cons_self ..)).form
 exact ⟨a, c, e⟩
/-- Between two messages. -/
def MailI (w : World) (L : TW) (v3 v4 : Value) (wr : World) : Prop :=
 ∃ (k : Nat) (us : List T) (P : Nat → Prop), 1 ≤ k ∧ k ≤ L.length ∧ v4 = .int .i64 (k : Int) ∧ us = ((tmsL L).take k).drop 1 ∧ (∀ b, P b → w.heap.size ≤ b) ∧ RQ P (fun _ => False) w [] wr [rT v3 us]
set_option maxHeartbeats 4000000 in
theorem pmail_c (G : Nat → Prop) (w : World) (pb : Nat) (name : ByteArray) (room : Int) (nb u : Nat) (L : TW) (h : PrR G w pb name room nb u L []) (hl : 1 ≤ L.length ∧ L.length ≤ 900) (hr : room ≤ 1000) (hn : nb ≤ 137438953472) :
  Calls Try.prog 40 #[.pointer (some ⟨pb, 0, none⟩)] w fun e w' => ∃ v, e = .returned v ∧ Below w.heap.size w w' ∧ RSl (fun b => w.heap.size ≤ b) w' ((tmsL L).drop 1) v := by
 have HH := Lib.hid h
 obtain ⟨F, B, H, v, hV, -⟩ := h
 obtain ⟨a0, c0, e0, -⟩ := hV.rx.form
 rw [wdsL_len] at e0
 subst e0
 have HV := Lib.hid hV
 clear hV
 go_enter Try.func40, Try.ntmps40
 go_wp2_with fail
 go_loopw [3, 4] (fun v3 v4 wr => MailI w L v3 v4 wr) (fun _ v4 _ => L.length - (intOf v4).toNat)
 case atStart => exact ⟨1, [], fun _ => False, Nat.le_refl _, hl.1, rfl, by simp, fun _ h => h.elim, (RQ.start (fun _ => False) w fun b hb => hb.elim).nil termF⟩
 case round =>
  obtain ⟨k, us, P, hk1, hkl, rfl, hus, hP, hR⟩ := hrel
  have HUS := Lib.hid hus; have HP := Lib.hid hP; have HR := Lib.hid hR
  have y2 := (HV.out.below hR.bel).blk.cell 2 _ rfl
  obtain ⟨a3, c3, rfl⟩ := hR.formT
  have hul : us.length ≤ 900 := by rw [hus]; simp [tmsL]; omega
  have hbel := hR.bel.size
  clear hus hP hR
  by_cases hlt : k < L.length
  ·have qk : (k : Int) < (L.length : Int) := by omega
   go_wp2_with fail
   refine (pget_c G wr pb name room nb u L [] (HH.out.below HR.out.bel) k hlt (by omega) hr hn).mono ?_
   rintro e w1 ⟨ar, cr, rfl, hB, hT⟩
   obtain ⟨t, ht⟩ : ∃ t, t = L[k].1 := ⟨_, rfl⟩
   rw [← ht] at hT
   rw [← ht]
   have HT := Lib.hid hT; have HTE := Lib.hid ht
   have HR1 : Hid (RQ (fun b => P b ∨ (wr.heap.size ≤ b ∧ b < w1.heap.size)) (fun _ => False) w [] w1 [rT (.slice a3 us.length c3) us]) := Lib.hid (HR.out.belowP hB)
   have HS1 := Lib.hid hB.size
   clear hB hT ht y2
   obtain ⟨Wb, hWb⟩ : ∃ W : World, W = w1.alloc (.cells #[.int .i64 t.kind, .int .i64 t.n, .string t.name, .slice ar t.args.length cr] 24) := ⟨_, rfl⟩
   obtain ⟨gz, hgz⟩ : ∃ g, g = w1.heap.size := ⟨_, rfl⟩
   have HRA : Hid (RQ (fun b => P b ∨ (wr.heap.size ≤ b ∧ b < w1.heap.size)) (fun _ => False) w [(gz, [.int .i64 t.kind, .int .i64 t.n, .string t.name, .slice ar t.args.length cr])] Wb [rT (.slice a3 us.length c3) us]) := Lib.hid (by rw [hWb]; exact HR1.out.alloc #[.int .i64 t.kind, .int .i64 t.n, .string t.name, .slice ar t.args.length cr] _ hgz)
   have HTA : Hid (RT (fun b => P b ∨ (wr.heap.size ≤ b ∧ b < w1.heap.size)) Wb t (.agg #[.int .i64 t.kind, .int .i64 t.n, .string t.name, .slice ar t.args.length cr])) := Lib.hid (by rw [hWb]; exact HT.out.to (fun b hb hl => .inr ⟨hb, hl⟩) fun b _ hl => (below_alloc _ _).block b hl)
   have HWB := Lib.hid hWb
   have HGZ := Lib.hid hgz
   clear hWb hgz
   go_wp2_with (rw [← HWB.out, ← HGZ.out]; refine append_growQ _ _ rfl termF rfl [] [] (v := .slice a3 us.length c3) (xs := us) (y := t) (g0 := gz) (c := [.int .i64 t.kind, .int .i64 t.n, .string t.name, .slice ar t.args.length cr]) (by rfl) (by rfl) HRA.out (List.mem_cons_self ..) (termE_of HTA.out) rfl (by omega) ?_; intro gn on cn wn hz hzg; have HZ := Lib.hid (hz.sub (bs' := []) (by simp)); clear hz hzg)
   go_roundw
   case rel =>
    refine ⟨k + 1, us ++ [t], _, by omega, by omega, by go_num, ?_, fun b hb => ?_, HZ.out⟩
    ·rw [List.take_add_one, List.getElem?_eq_getElem (by rw [tmsL_len]; exact hlt), Option.toList_some, List.drop_append_of_le_length (by rw [List.length_take, tmsL_len]; omega), ← HUS.out, HTE.out]
     simp [tmsL]
    ·rcases hb with hb | hb
     ·exact HP.out b hb
     ·omega
   case measure => simp [intOf]; omega
  ·have qk : ¬ (k : Int) < (L.length : Int) := by omega
   go_wp2_with fail
   go_ret
   have hk : k = L.length := by omega
   have e : us = (tmsL L).drop 1 := by rw [HUS.out, hk, List.take_of_length_le (by rw [tmsL_len]; exact Nat.le_refl _)]
   refine ⟨_, rfl, HR.out.bel, ?_⟩
   have h1 := RX.rslQ (HR.out.rx (List.mem_cons_self ..))
   first | rw [← List.drop_one, ← e] | rw [← e]
   exact h1.to (fun b hb _ => hb.elim (fun h => (HR.out.lt (List.mem_cons_self ..) b h).1) fun h => HP.out b h) fun _ _ _ => rfl
end Go.Proofs.Ytedfepnekjjmnab

/-
 What a process does at a step, in plain words. No condition.
-/
namespace Go.Proofs.Ytedfepnekjjmnab
open Go.RowKit
set_option linter.unusedSimpArgs false
set_option linter.unusedVariables false

/-- What a doer has. -/
structure Dst where
 bd : List T
 next : Int
 sends : List (Int × T)
 spawns : List (Int × ByteArray × T)
 links : List Int
 fate : Int
 bad : Bool
def pidTm (n : Int) : T := ⟨3, n, ⟨#[]⟩, []⟩
/-- An act is done. -/
def doA (self : Int) (d : Dst) (a : Deed) : Dst :=
 if a.kind = 1 then
  { d with sends := d.sends ++ [((reckO d.bd self a.to).1.n, (reckO d.bd self a.what).1)], bad := ((d.bad || (reckO d.bd self a.to).2 != 0) || (reckO d.bd self a.to).1.kind != 3) || (reckO d.bd self a.what).2 != 0 }
 else if a.kind = 2 then
  { d with spawns := d.spawns ++ [(d.next, a.name, (reckO d.bd self a.what).1)], bad := (d.bad || !((d.bd.getD a.var.toNat zeroT).kind == 6)) || (reckO d.bd self a.what).2 != 0, bd := d.bd.set a.var.toNat (pidTm d.next), next := d.next + 1 }
 else if a.kind = 3 then
  { d with links := d.links ++ [(reckO d.bd self a.to).1.n], bad := (d.bad || (reckO d.bd self a.to).2 != 0) || (reckO d.bd self a.to).1.kind != 3 }
 else if a.kind = 4 then { d with fate := 1 }
 else d
/-- What a step gives: a message, a fate, and, unless the fate is 2 or 3, what was done. -/
structure TakT where
 message : T
 fate : Int
 sends : List (Int × T)
 spawns : List (Int × ByteArray × T)
 links : List Int
/-- A step by a clause: what it gives, and the state behind it. -/
def actO (room : Int) (self next : Int) (st : T) (ml : List T) (m : T) (c : Clau) (bd : List T) : TakT × T :=
 let d := c.acts.foldl (doA self) ⟨bd, next, [], [], [], 0, false⟩
 let r := reckO d.bd self c.next
 if (d.bad || r.2 != 0) = true then (⟨m, 2, [], [], []⟩, st)
 else if pputE room ml r.1 = 0 then (⟨m, d.fate, d.sends, d.spawns, d.links⟩, r.1)
 else (⟨m, 3, [], [], []⟩, st)
/-- A step: none: no message fits. Else what it gives, the state and the mail behind it. -/
def stepO (cs : List Clau) (room : Int) (self next : Int) (st : T) (ml : List T) : Option (TakT × T × List T) :=
 (msFirst cs st 1 ml).map fun x => ((actO room self next st (ml.eraseIdx (x.1 - 1)) (ml.getD (x.1 - 1) zeroT) x.2.1 x.2.2).1, (actO room self next st (ml.eraseIdx (x.1 - 1)) (ml.getD (x.1 - 1) zeroT) x.2.1 x.2.2).2, ml.eraseIdx (x.1 - 1))
theorem doA_len (self : Int) (d : Dst) (a : Deed) (h : d.bd.length = 4) : (doA self d a).bd.length = 4 := by
 unfold doA
 repeat' split
 all_goals simp [h]
end Go.Proofs.Ytedfepnekjjmnab

/-
 A doer's rows in memory: sends, spawns, links. No condition.
-/
namespace Go.Proofs.Ytedfepnekjjmnab
open Go.RowKit
set_option linter.unusedSimpArgs false
set_option linter.unusedVariables false
set_option maxRecDepth 100000

def sndE : El (Int × T) where
 k := 5
 C := fun S w x cs => ∃ a cap, cs = [.int .i64 x.1, .int .i64 x.2.kind, .int .i64 x.2.n, .string x.2.name, .slice a x.2.args.length cap] ∧ RT S w x.2 (.agg #[.int .i64 x.2.kind, .int .i64 x.2.n, .string x.2.name, .slice a x.2.args.length cap])
 len := by rintro S w x cs ⟨a, cap, rfl, -⟩; rfl
 one := by rintro S w x cs ⟨a, cap, rfl, -⟩; simp [Value.oneCell']
 «to» := by rintro S S' w w' x cs ⟨a, cap, rfl, h⟩ hs hc; exact ⟨a, cap, rfl, h.to hs hc⟩
def spnE : El (Int × ByteArray × T) where
 k := 6
 C := fun S w x cs => ∃ a cap, cs = [.int .i64 x.1, .string x.2.1, .int .i64 x.2.2.kind, .int .i64 x.2.2.n, .string x.2.2.name, .slice a x.2.2.args.length cap] ∧ RT S w x.2.2 (.agg #[.int .i64 x.2.2.kind, .int .i64 x.2.2.n, .string x.2.2.name, .slice a x.2.2.args.length cap])
 len := by rintro S w x cs ⟨a, cap, rfl, -⟩; rfl
 one := by rintro S w x cs ⟨a, cap, rfl, -⟩; simp [Value.oneCell']
 «to» := by rintro S S' w w' x cs ⟨a, cap, rfl, h⟩ hs hc; exact ⟨a, cap, rfl, h.to hs hc⟩
def sndF : ElT sndE where
 e := 90
 sl := 82
 bytes := 64
 z := .agg #[.int .i64 0, .int .i64 0, .int .i64 0, .string ⟨#[]⟩, .slice none 0 0]
 hund := Try.underlying82
 info := by kernel_rfl
 hzs := rfl
 hk := by decide
 hb := by decide
def spnF : ElT spnE where
 e := 171
 sl := 83
 bytes := 80
 z := .agg #[.int .i64 0, .string ⟨#[]⟩, .int .i64 0, .int .i64 0, .string ⟨#[]⟩, .slice none 0 0]
 hund := Try.underlying83
 info := by kernel_rfl
 hzs := rfl
 hk := by decide
 hb := by decide
def lnkF : ElT intE where
 e := 3
 sl := 76
 bytes := 8
 z := .int .i64 0
 hund := Try.underlying76
 info := info3
 hzs := rfl
 hk := by decide
 hb := by decide
def rSnd (v : Value) (l : List (Int × T)) : Rw := ⟨_, sndE, sndF, v, l⟩
def rSpn (v : Value) (l : List (Int × ByteArray × T)) : Rw := ⟨_, spnE, spnF, v, l⟩
def rLnk (v : Value) (l : List Int) : Rw := ⟨_, intE, lnkF, v, l⟩
end Go.Proofs.Ytedfepnekjjmnab

/-
 A doer in memory: its block, what is bound, its rows. No condition.
-/
namespace Go.Proofs.Ytedfepnekjjmnab
open Go.RowKit
set_option linter.unusedSimpArgs false
set_option linter.unusedVariables false

theorem RQ.moreK {P F : Nat → Prop} {w0 w w' : World} {bs : List (Nat × List Value)} {rs : List Rw} (h : RQ P F w0 bs w rs) (hK : Keep F w w') :
  RQ (fun b => P b ∨ (w.heap.size ≤ b ∧ b < w'.heap.size)) F w0 bs w' rs := by
 have h1 := h.keep hK fun b hb => ⟨.inl hb, by have := (h.fh b hb).2.1; have := hK.size; omega⟩
 have hs := hK.size
 refine ⟨h1.bel, fun b hb => ?_, fun r hr => ?_, h1.ap, h1.fh, h1.bk⟩
 ·rcases hb with hb | hb
  ·exact h1.pb b hb
  ·exact ⟨hb.2, fun hf => by have := (h.fh b hf).2.1; omega, fun r hr e => by have := (h.lt hr b e).2; omega⟩
 ·obtain ⟨cs, h2, h3⟩ := h1.ok r hr
  exact ⟨cs, h2, h3.to (fun b hb _ => ⟨.inl hb.1, hb.2⟩) fun _ _ _ => rfl⟩
theorem OwnG.mono {P P' : Nat → Prop} {base : Nat} {w : World} {v : Value} {ts : List T} (h : OwnG P base w v ts) (hp : ∀ b, P b → P' b) : OwnG P' base w v ts :=
 OwnT.to h (Nat.le_refl _) (fun b hb _ => ⟨hp b hb.1, hb.2⟩) fun _ _ _ => rfl
theorem OwnG.rslO {P : Nat → Prop} {base : Nat} {w : World} {v : Value} {ts : List T} (h : OwnG P base w v ts) : RSl (fun b => v.ownBlock = some b ∨ P b) w ts v :=
 (OwnT.rsl2 h).rsl.mono fun b hb => hb.imp id (·.1)

/-- A doer: its block, what is bound, its rows; other blocks that are known whole; what Qz says is as in wz. -/
structure DoM (P Qz : Nat → Prop) (wz w0 w : World) (db bb bc : Nat) (cs : List Value) (bd : List T) (bs : List (Nat × List Value)) (rs : List Rw) : Prop where
 rq : RQ P (fun b => b = db ∨ b = bb) w0 bs w rs
 blk : Blk w db cs
 bd : OwnG P w0.heap.size w (.slice (some ⟨bb, 0, none⟩) 4 bc) bd
 ne : db ≠ bb
 qp : ∀ b, Qz b → P b
 qf : ∀ b, Qz b → w.heap[b]? = wz.heap[b]?
section
variable {P P' Qz : Nat → Prop} {wz w0 w w' : World} {db bb bc : Nat} {cs cs' : List Value} {bd : List T} {bs : List (Nat × List Value)} {rs : List Rw}
theorem DoM.lt (h : DoM P Qz wz w0 w db bb bc cs bd bs rs) : w0.heap.size ≤ db ∧ db < w.heap.size ∧ w0.heap.size ≤ bb ∧ bb < w.heap.size := ⟨(h.rq.fh db (.inl rfl)).1, (h.rq.fh db (.inl rfl)).2.1, (h.rq.fh bb (.inr rfl)).1, (h.rq.fh bb (.inr rfl)).2.1⟩
theorem DoM.pn (h : DoM P Qz wz w0 w db bb bc cs bd bs rs) {b : Nat} (hb : P b) : b < w.heap.size ∧ b ≠ db ∧ b ≠ bb := ⟨(h.rq.pb b hb).1, fun e => (h.rq.pb b hb).2.1 (.inl e), fun e => (h.rq.pb b hb).2.1 (.inr e)⟩
theorem DoM.rslB (h : DoM P Qz wz w0 w db bb bc cs bd bs rs) : RSl (fun b => b < w.heap.size ∧ b ≠ db) w bd (.slice (some ⟨bb, 0, none⟩) 4 bc) := by
 refine h.bd.rslO.mono fun b hb => ?_
 rcases hb with hb | hb
 ·obtain rfl : bb = b := by simpa [Value.ownBlock] using hb
  exact ⟨h.lt.2.2.2, fun e => h.ne e.symm⟩
 ·exact ⟨(h.pn hb).1, (h.pn hb).2.1⟩
theorem DoM.cell (h : DoM P Qz wz w0 w db bb bc cs bd bs rs) {g : Nat} {c : List Value} (hg : (g, c) ∈ bs) (j : Nat) (u : Value) (hu : c[j]? = some u) : w.cell? ⟨g, j, none⟩ = some u := h.rq.cell hg j u hu
theorem DoM.sub (h : DoM P Qz wz w0 w db bb bc cs bd bs rs) {bs' : List (Nat × List Value)} (hs : ∀ p ∈ bs', p ∈ bs) : DoM P Qz wz w0 w db bb bc cs bd bs' rs := ⟨h.rq.sub hs, h.blk, h.bd, h.ne, h.qp, h.qf⟩
/-- All that was below stays. -/
theorem DoM.below (h : DoM P Qz wz w0 w db bb bc cs bd bs rs) (hB : Below w.heap.size w w') : DoM P Qz wz w0 w' db bb bc cs bd bs rs := ⟨h.rq.below hB, h.blk.step hB, h.bd.below hB, h.ne, h.qp, fun b hb => (hB.block b (h.pn (h.qp b hb)).1).trans (h.qf b hb)⟩
/-- A block is made. -/
theorem DoM.alloc (h : DoM P Qz wz w0 w db bb bc cs bd bs rs) (c : Array Value) (e : TypeId) {g : Nat} (hg : g = w.heap.size) : DoM P Qz wz w0 (w.alloc (.cells c e)) db bb bc cs bd ((g, c.toList) :: bs) rs := ⟨h.rq.alloc c e hg, h.blk.alloc _, h.bd.alloc _, h.ne, h.qp, fun b hb => ((below_alloc w _).block b (h.pn (h.qp b hb)).1).trans (h.qf b hb)⟩
/-- Something with the doer's block; new blocks may be led to. -/
theorem DoM.keep (h : DoM P Qz wz w0 w db bb bc cs bd bs rs) (hK : Keep (fun b => b = db) w w') (hX : Blk w' db cs') : DoM (fun b => P b ∨ (w.heap.size ≤ b ∧ b < w'.heap.size)) Qz wz w0 w' db bb bc cs' bd bs rs := by
 refine ⟨h.rq.moreK (hK.mono fun b _ hb => .inl hb), hX, (h.bd.to hK.size fun b hb hl => hK.block b hl ?_).mono fun b hb => .inl hb, h.ne, fun b hb => .inl (h.qp b hb), fun b hb => (hK.block b (h.pn (h.qp b hb)).1 (h.pn (h.qp b hb)).2.1).trans (h.qf b hb)⟩
 rcases hb with hb | hb
 ·exact (h.pn hb).2.1
 ·obtain rfl : bb = b := by simpa [Value.ownBlock] using hb
  exact fun e => h.ne e.symm
/-- A store into the doer's block. -/
theorem DoM.set (h : DoM P Qz wz w0 w db bb bc cs bd bs rs) (j : Nat) (u : Value) (hj : j < cs.length) : DoM P Qz wz w0 (w.setCell ⟨db, j, none⟩ u) db bb bc (cs.set j u) bd bs rs := by
 have hK : Keep (fun b => b = db ∨ b = bb) w (w.setCell ⟨db, j, none⟩ u) := (Keep.refl _ _).setCell _ (.inl (.inl rfl))
 refine ⟨h.rq.keep hK fun b hb => ⟨.inl hb, ?_⟩, h.blk.set j u hj, h.bd.to (by simp) fun b hb hl => setCell_other w db j u b ?_, h.ne, h.qp, fun b hb => (setCell_other w db j u b (h.pn (h.qp b hb)).2.1).trans (h.qf b hb)⟩
 ·rcases hb with rfl | rfl
  ·simpa using h.lt.2.1
  ·simpa using h.lt.2.2.2
 ·rcases hb with hb | hb
  ·exact (h.pn hb).2.1
  ·obtain rfl : bb = b := by simpa [Value.ownBlock] using hb
   exact fun e => h.ne e.symm
/-- A row is grown. -/
theorem DoM.grown {l1 l2 : List Rw} {r : Rw} {rs' : List Rw} (h : DoM P Qz wz w0 w db bb bc cs bd bs (l1 ++ r :: l2)) (hg : w.grownBy w' r.v.ownBlock) (hq : RQ P (fun b => b = db ∨ b = bb) w0 bs w' rs') : DoM P Qz wz w0 w' db bb bc cs bd bs rs' := by
 refine ⟨hq, h.blk.heap (h.rq.stay hg db (.inr (.inl rfl))), h.bd.to hg.size fun b hb _ => h.rq.stay hg b ?_, h.ne, h.qp, fun b hb => (h.rq.stay hg b (.inl (h.qp b hb))).trans (h.qf b hb)⟩
 rcases hb with hb | hb
 ·exact .inl hb
 ·obtain rfl : bb = b := by simpa [Value.ownBlock] using hb
  exact .inr (.inr rfl)
/-- A term is stored into what is bound. -/
theorem DoM.store {k : Nat} {t : T} {c0 c1 c2 c3 : Value} (h : DoM P Qz wz w0 w db bb bc cs bd bs rs) (hk : k < bd.length) (hr : RT P w t (.agg #[c0, c1, c2, c3])) :
  DoM P Qz wz w0 ((((w.setCell ⟨bb, k * 4, none⟩ c0).setCell ⟨bb, k * 4 + 1, none⟩ c1).setCell ⟨bb, k * 4 + 2, none⟩ c2).setCell ⟨bb, k * 4 + 3, none⟩ c3) db bb bc cs (bd.set k t) bs rs := by
 have hK : Keep (fun b => b = db ∨ b = bb) w ((((w.setCell ⟨bb, k * 4, none⟩ c0).setCell ⟨bb, k * 4 + 1, none⟩ c1).setCell ⟨bb, k * 4 + 2, none⟩ c2).setCell ⟨bb, k * 4 + 3, none⟩ c3) := by
  refine Keep.setCell ?_ _ (.inl (.inr rfl))
  refine Keep.setCell ?_ _ (.inl (.inr rfl))
  refine Keep.setCell ?_ _ (.inl (.inr rfl))
  exact (Keep.refl _ _).setCell _ (.inl (.inr rfl))
 refine ⟨h.rq.keep hK fun b hb => ⟨.inl hb, ?_⟩, h.blk.heap ?_, h.bd.store hk hr fun b hb _ => ⟨hb, (h.pn hb).2.2⟩, h.ne, h.qp, fun b hb => ?_⟩
 ·rcases hb with rfl | rfl
  ·simpa using h.lt.2.1
  ·simpa using h.lt.2.2.2
 ·simp only [setCell_other _ _ _ _ _ h.ne]
 ·have hn := (h.pn (h.qp b hb)).2.2
  simp only [setCell_other _ _ _ _ _ hn]
  exact h.qf b hb
theorem DoM.there (h : DoM P Qz wz w0 w db bb bc cs bd bs rs) {k : Nat} (hk : k < bd.length) : w.there bb (k * 4) 4 := by
 obtain ⟨ab, capb, eb, -, hrb⟩ := h.rslB
 simp only [Value.slice.injEq] at eb
 obtain ⟨rfl, -, rfl⟩ := eb
 obtain ⟨ua, uc, -, d0, d1, d2, d3, -⟩ := hrb.elem k hk
 (try simp only [Nat.zero_add] at d0 d1 d2 d3)
 have hf := h.bd.frozen
 intro j hj
 match j, hj with
 | 0, _ => exact ⟨by rw [show k * 4 + 0 = k * 4 from rfl, d0]; rfl, hf _⟩
 | 1, _ => exact ⟨by rw [d1]; rfl, hf _⟩
 | 2, _ => exact ⟨by rw [d2]; rfl, hf _⟩
 | 3, _ => exact ⟨by rw [d3]; rfl, hf _⟩
end
/-- What a doer's out holds: no message, a fate, three rows. -/
def outC (fate : Int) (vs vp vl : Value) : List Value := [.int .i64 0, .int .i64 0, .string ⟨#[]⟩, .slice none 0 0, .int .i64 fate, vs, vp, vl]
/-- A doer's state in memory. -/
def DoS (P Qz : Nat → Prop) (wz w0 w : World) (db bb bc : Nat) (self : Int) (d : Dst) (bs : List (Nat × List Value)) (vs vp vl : Value) : Prop :=
 DoM P Qz wz w0 w db bb bc (doerC (.slice (some ⟨bb, 0, none⟩) 4 bc) self d.next (outC d.fate vs vp vl) d.bad) d.bd bs [rSnd vs d.sends, rSpn vp d.spawns, rLnk vl d.links]
end Go.Proofs.Ytedfepnekjjmnab

/-
 A step of a process in plain words, and how what it gives lies. No condition.
-/
namespace Go.Proofs.Ytedfepnekjjmnab
open Go.RowKit
set_option linter.unusedSimpArgs false
set_option linter.unusedVariables false

theorem bulk_pidTm (n : Int) : bulkL [pidTm n] = 1 := by simp [pidTm, bulkL_cons, bulkL, ByteArray.size]
theorem bulk_zeroT : bulkL [zeroT] = 1 := by simp [zeroT, bulkL_cons, bulkL, ByteArray.size]
theorem reckO_small (bd : List T) (self : Int) (x : T) : bulkL [(reckO bd self x).1] ≤ 1809 := by
 have hz := bulk_zeroT
 unfold reckO
 repeat' split
 ·show bulkL [zeroT] ≤ _; omega
 ·show bulkL [zeroT] ≤ _; omega
 ·show bulkL [zeroT] ≤ _; omega
 ·rename_i t h
  unfold valF at h
  obtain ⟨u, hu, h⟩ := Option.bind_eq_some_iff.1 h
  split at h
  ·rename_i hc
   simp only [Option.some.injEq] at h
   subst h
   exact chk_bulk hc
  ·cases h
 ·show bulkL [zeroT] ≤ _; omega
theorem doA_small (self : Int) (d : Dst) (a : Deed) (h : ∀ t ∈ d.bd, bulkL [t] ≤ 2000) : ∀ t ∈ (doA self d a).bd, bulkL [t] ≤ 2000 := by
 have hp := bulk_pidTm d.next
 intro t ht
 unfold doA at ht
 repeat' split at ht
 ·exact h t ht
 ·rcases List.mem_or_eq_of_mem_set ht with h1 | h1
  ·exact h t h1
  ·subst h1; omega
 ·exact h t ht
 ·exact h t ht
 ·exact h t ht
theorem doA_rows (self : Int) (d : Dst) (a : Deed) {n : Nat} (h : d.sends.length ≤ n ∧ d.spawns.length ≤ n ∧ d.links.length ≤ n) : (doA self d a).sends.length ≤ n + 1 ∧ (doA self d a).spawns.length ≤ n + 1 ∧ (doA self d a).links.length ≤ n + 1 := by
 unfold doA
 repeat' split
 all_goals (refine ⟨?_, ?_, ?_⟩ <;> (try simp) <;> omega)
/-- A program that is one: its clauses have few acts, their variables are few. -/
def actsOk (c : Clau) : Prop := c.acts.length ≤ 8 ∧ ∀ d ∈ c.acts, d.kind = 2 → 0 ≤ d.var ∧ d.var ≤ 3
theorem toA_prog {l : List Behv} (h : (toA l).2 = 0) : progOk l = true := by
 cases e : progOk l
 ·unfold toA at h; rw [e] at h; simp at h
 ·rfl
theorem toA_clau {l : List Behv} (h : (toA l).2 = 0) {b : Behv} (hb : b ∈ l) : b.clauses.length ≤ 6 ∧ ∀ c ∈ b.clauses, actsOk c := by
 have hp := toA_prog h
 unfold progOk at hp
 simp only [Bool.and_eq_true, decide_eq_true_eq] at hp
 have h1 := List.all_eq_true.1 hp.2 b hb
 unfold behvOk at h1
 simp only [Bool.and_eq_true, decide_eq_true_eq] at h1
 refine ⟨h1.1.2.2, fun c hc => ?_⟩
 have h2 := List.all_eq_true.1 h1.2 c hc
 unfold clauOk at h2
 simp only [Bool.and_eq_true, decide_eq_true_eq] at h2
 refine ⟨h2.1, fun d hd hk => ?_⟩
 have h3 := List.all_eq_true.1 h2.2 d hd
 unfold deedOk at h3
 rw [if_neg (by omega), if_pos hk] at h3
 simp only [Bool.and_eq_true, decide_eq_true_eq] at h3
 omega
def zeroTak : TakT := ⟨zeroT, 0, [], [], []⟩
/-- What Step answers, where the terms of us stand; they, behind it. -/
def stepE (l : List Behv) (name : ByteArray) (room self next : Int) (us : List T) : (TakT × Int) × List T :=
 if (toA l).2 ≠ 0 then ((zeroTak, (toA l).2), us)
 else if self < 1 ∨ 99 < self ∨ next < 1 ∨ 92 < next then ((zeroTak, 1), us)
 else if namedI name l < 0 then ((zeroTak, 4), us)
 else match stepO (l.getD (namedI name l).toNat ⟨⟨#[]⟩, []⟩).clauses room self next (us.getD 0 zeroT) us.tail with
  | none => ((zeroTak, 4), us)
  | some x => ((x.1, 0), x.2.1 :: x.2.2)
/-- A Taken in memory. -/
def takC (S : Nat → Prop) (w : World) (t : TakT) (cs : List Value) : Prop :=
 ∃ a cap vs vp vl, cs = [.int .i64 t.message.kind, .int .i64 t.message.n, .string t.message.name, .slice a t.message.args.length cap, .int .i64 t.fate, vs, vp, vl] ∧ RT S w t.message (.agg #[.int .i64 t.message.kind, .int .i64 t.message.n, .string t.message.name, .slice a t.message.args.length cap]) ∧
  RX sndE S S w t.sends vs ∧ RX spnE S S w t.spawns vp ∧ RX intE S S w t.links vl
theorem takC.to {S S' : Nat → Prop} {w w' : World} {t : TakT} {cs : List Value} (h : takC S w t cs) (hs : ∀ b, S b → b < w.heap.size → S' b) (hc : ∀ b, S b → b < w.heap.size → w'.heap[b]? = w.heap[b]?) : takC S' w' t cs := by
 obtain ⟨a, cap, vs, vp, vl, rfl, h1, h2, h3, h4⟩ := h
 exact ⟨a, cap, vs, vp, vl, rfl, h1.to hs hc, h2.to hs hs fun b hb => hc b (hb.elim id id), h3.to hs hs fun b hb => hc b (hb.elim id id), h4.to hs hs fun b hb => hc b (hb.elim id id)⟩
theorem zeroTak_c (S : Nat → Prop) (w : World) : takC S w zeroTak [.int .i64 0, .int .i64 0, .string ⟨#[]⟩, .slice none 0 0, .int .i64 0, .slice none 0 0, .slice none 0 0, .slice none 0 0] :=
 ⟨none, 0, _, _, _, rfl, zeroT_rt _ _, RX.nil _ _ _, RX.nil _ _ _, RX.nil _ _ _⟩
/-- What stands behind a step. -/
def StepP (G : Nat → Prop) (w : World) (pb : Nat) (name : ByteArray) (room : Int) (nb : Nat) (r : (TakT × Int) × List T) (e : Ending) (w' : World) : Prop :=
 ∃ cs, e = .returned (.tuple #[.agg cs.toArray, .int .i64 r.1.2]) ∧ takC (fun b => w.heap.size ≤ b) w' r.1.1 cs ∧ Keep G w w' ∧ ∃ (L' : TW) (u' : Nat), tmsL L' = r.2 ∧ PrR (fun b => G b ∨ w.heap.size ≤ b) w' pb name room (nb + 4000) u' L' []
end Go.Proofs.Ytedfepnekjjmnab

/-
 A step: how a doer starts, a word deleted, which message is found, the small process' step. No condition.
-/
namespace Go.Proofs.Ytedfepnekjjmnab
open Go.RowKit
set_option linter.unusedSimpArgs false
set_option linter.unusedVariables false
set_option maxRecDepth 100000

/-- The blocks below N alone. -/
def _root_.Go.World.cut (w : World) (N : Nat) : World := { w with heap := w.heap.extract 0 N }
theorem cut_below (w : World) (N : Nat) (hN : N ≤ w.heap.size) : (w.cut N).heap.size = N ∧ Below N (w.cut N) w := by
 have hs : (w.cut N).heap.size = N := by show (w.heap.extract 0 N).size = N; simp; omega
 refine ⟨hs, rfl, rfl, rfl, by omega, fun k hk => ?_⟩
 show w.heap[k]? = (w.heap.extract 0 N)[k]?
 rw [Array.getElem?_extract, if_pos (by omega), Nat.zero_add]
theorem DoS.start {w : World} {N db bb bc base : Nat} {self next : Int} {bd : List T} {R Qz : Nat → Prop} {bs : List (Nat × List Value)} (hN : N ≤ w.heap.size) (hX : Blk w db (doerC (.slice (some ⟨bb, 0, none⟩) 4 bc) self next (outC 0 (.slice none 0 0) (.slice none 0 0) (.slice none 0 0)) false))
  (hbd : OwnG R base w (.slice (some ⟨bb, 0, none⟩) 4 bc) bd) (hR : ∀ b, R b → b < w.heap.size → N ≤ b ∧ b ≠ db) (hb : N ≤ base) (hd : N ≤ db) (hne : db ≠ bb) (hbs : ∀ p ∈ bs, Blk w p.1 p.2 ∧ p.1 ≠ db ∧ p.1 ≠ bb) (hQ : ∀ b, Qz b → N ≤ b ∧ b < w.heap.size ∧ b ≠ db ∧ b ≠ bb) :
  ∃ P : Nat → Prop, (∀ b, P b → N ≤ b) ∧ (w.cut N).heap.size = N ∧ DoS P Qz w (w.cut N) w db bb bc self ⟨bd, next, [], [], [], 0, false⟩ bs (.slice none 0 0) (.slice none 0 0) (.slice none 0 0) := by
 obtain ⟨hs, hB⟩ := cut_below w N hN
 have hn : ∀ b, (Value.slice none 0 0).ownBlock ≠ some b := fun b => by simp [Value.ownBlock]
 have hrow : ∀ r ∈ ([rSnd (.slice none 0 0) [], rSpn (.slice none 0 0) [], rLnk (.slice none 0 0) []] : List Rw), ∀ b, r.v.ownBlock ≠ some b := fun r hr b => by
  simp only [List.mem_cons, List.not_mem_nil, or_false] at hr
  rcases hr with rfl | rfl | rfl <;> exact hn b
 have hbl := (OwnG.block hbd) bb rfl
 refine ⟨fun b => N ≤ b ∧ b < w.heap.size ∧ b ≠ db ∧ b ≠ bb, fun b h => h.1, hs, ⟨⟨by rw [hs]; exact hB, fun b h => ⟨h.2.1, fun hf => hf.elim h.2.2.1 h.2.2.2, fun r hr => hrow r hr b⟩, fun r hr => ?_, ?_, fun b hf => ?_, fun p hp => ⟨(hbs p hp).1, fun hf => hf.elim (hbs p hp).2.1 (hbs p hp).2.2, fun r hr => hrow r hr _⟩⟩, hX, ?_, hne, hQ, fun _ _ => rfl⟩⟩
 ·simp only [List.mem_cons, List.not_mem_nil, or_false] at hr
  rcases hr with rfl | rfl | rfl <;> exact OwnXQ.nil _ _ _ _
 ·refine List.pairwise_cons.2 ⟨fun s _ b hb' => absurd hb' (hn b), List.pairwise_cons.2 ⟨fun s _ b hb' => absurd hb' (hn b), List.pairwise_cons.2 ⟨fun s hs => by simp at hs, List.Pairwise.nil⟩⟩⟩
 ·rw [hs]
  rcases hf with rfl | rfl
  ·exact ⟨hd, hX.lt, fun r hr => hrow r hr _⟩
  ·exact ⟨by omega, hbl.2, fun r hr => hrow r hr _⟩
 ·rw [hs]
  refine OwnT.to hbd hb (fun b h _ => ?_) fun _ _ _ => rfl
  have h1 := hR b h.1 h.2.1
  exact ⟨⟨h1.1, h.2.1, h1.2, fun e => h.2.2 (by rw [e]; rfl)⟩, h.2⟩
theorem eraseIdx_map {α β : Type _} (f : α → β) : ∀ (l : List α) (i : Nat), (l.eraseIdx i).map f = (l.map f).eraseIdx i
 | [], _ => rfl
 | x :: l, 0 => rfl
 | x :: l, i + 1 => by
  show f x :: (l.eraseIdx i).map f = f x :: (l.map f).eraseIdx i
  rw [eraseIdx_map f l i]
theorem eraseIdx_sub {α : Type _} : ∀ (l : List α) (i : Nat), (l.eraseIdx i).Sublist l
 | [], _ => List.Sublist.refl _
 | x :: l, 0 => List.sublist_cons_self ..
 | x :: l, i + 1 => (eraseIdx_sub l i).cons_cons x
/-- A message is taken out. -/
theorem PrR.erase {G : Nat → Prop} {w w3 : World} {pb : Nat} {name : ByteArray} {room : Int} {nb u : Nat} {F : Nat → Prop} {B : Nat} {H : HS} {L : TW} {wl : List Wrd} {gw cw i : Nat} (hwl : wl = wdsL L) (hV : PrV F w pb name room L [] B H (.slice (some ⟨gw, 0, none⟩) wl.length cw)) (hn : H.names.length ≤ nb) (hu : H.ws.length = u) (hF : ∀ b, F b → G b) (hp : G pb) (hg : G gw) 
  (hO : OwnW w3 (.slice (some ⟨gw, 0, none⟩) (wl.length - 1) cw) (wl.eraseIdx i)) (hK : Keep (fun b => b = gw) w w3) :
  PrR G (w3.setCell ⟨pb, 2, none⟩ (.slice (some ⟨gw, 0, none⟩) (wl.length - 1) cw)) pb name room nb u (L.eraseIdx i) [] := by
 refine ⟨F, B, H, .slice (some ⟨gw, 0, none⟩) (wl.length - 1) cw, hV.words' hK.size (fun b hb hne => hK.block b hb fun e => hne (by rw [e]; rfl)) ?_ (fun b hb => .inl hb) ?_, hn, hu, hF, hp, fun b hb => ?_⟩
 ·have e : wdsL (L.eraseIdx i) = (wdsL L).eraseIdx i := eraseIdx_map _ _ _
  rw [e, ← hwl]; exact hO
 ·rw [List.append_nil]
  have h1 := hV.ph
  rw [List.append_nil] at h1
  exact h1.sub (eraseIdx_sub L i)
 ·obtain rfl : gw = b := by simpa [Value.ownBlock] using hb
  exact hg
theorem clFit_out {c : Clau} {st m : T} {bd : List T} (h : clFit c st m = some bd) (hs : bulkL [st] ≤ 2000) (hm : bulkL [m] ≤ 2000) : bd.length = 4 ∧ ∀ y ∈ bd, bulkL [y] ≤ 2000 := by
 unfold clFit at h
 obtain ⟨b1, h1, h2⟩ := Option.bind_eq_some_iff.1 h
 exact fitsR_out h2 hm (fitsR_out h1 hs freeL_small).2
theorem clFirst_out {st m : T} : ∀ {cs : List Clau} {c : Clau} {bd : List T}, clFirst st m cs = some (c, bd) → c ∈ cs ∧ clFit c st m = some bd
 | [], _, _, h => by cases h
 | x :: cs, c, bd, h => by
  unfold clFirst at h
  split at h
  ·rename_i b hb
   simp only [Option.some.injEq, Prod.mk.injEq] at h
   obtain ⟨rfl, rfl⟩ := h
   exact ⟨by simp, hb⟩
  ·have := clFirst_out h
   exact ⟨List.mem_cons_of_mem _ this.1, this.2⟩
theorem msFirst_out {cs : List Clau} {st : T} (hs : bulkL [st] ≤ 2000) : ∀ {ms : List T} {k i : Nat} {c : Clau} {bd : List T}, (∀ m ∈ ms, bulkL [m] ≤ 2000) → msFirst cs st k ms = some (i, c, bd) → c ∈ cs ∧ k ≤ i ∧ i < k + ms.length ∧ bd.length = 4 ∧ ∀ y ∈ bd, bulkL [y] ≤ 2000
 | [], _, _, _, _, _, h => by cases h
 | m :: ms, k, i, c, bd, hm, h => by
  unfold msFirst at h
  split at h
  ·rename_i c' bd' hc
   simp only [Option.some.injEq, Prod.mk.injEq] at h
   obtain ⟨rfl, rfl, rfl⟩ := h
   have h1 := clFirst_out hc
   exact ⟨h1.1, Nat.le_refl _, by simp, clFit_out h1.2 hs (hm m (by simp))⟩
  ·have := msFirst_out hs (fun x hx => hm x (List.mem_cons_of_mem _ hx)) h
   exact ⟨this.1, by omega, by have := this.2.2.1; simp; omega, this.2.2.2⟩
/-- The state of a doer behind k acts. -/
def foldA (self : Int) (d : Dst) (ds : List Deed) : Dst := ds.foldl (doA self) d
theorem foldA_snoc (self : Int) (d : Dst) {ds : List Deed} {k : Nat} (hk : k < ds.length) : foldA self d (ds.take (k + 1)) = doA self (foldA self d (ds.take k)) ds[k] := by
 unfold foldA
 rw [take_snoc' ds k hk, List.foldl_append]; rfl
theorem foldA_len (self : Int) (ds : List Deed) : ∀ d : Dst, d.bd.length = 4 → (foldA self d ds).bd.length = 4 := by
 induction ds with
 | nil => intro d h; exact h
 | cons a ds ih => intro d h; exact ih _ (doA_len self d a h)
theorem foldA_small (self : Int) (ds : List Deed) : ∀ d : Dst, (∀ t ∈ d.bd, bulkL [t] ≤ 2000) → ∀ t ∈ (foldA self d ds).bd, bulkL [t] ≤ 2000 := by
 induction ds with
 | nil => intro d h; exact h
 | cons a ds ih => intro d h; exact ih _ (doA_small self d a h)
theorem foldA_rows (self : Int) (ds : List Deed) : ∀ (d : Dst) (n : Nat), (d.sends.length ≤ n ∧ d.spawns.length ≤ n ∧ d.links.length ≤ n) → (foldA self d ds).sends.length ≤ n + ds.length ∧ (foldA self d ds).spawns.length ≤ n + ds.length ∧ (foldA self d ds).links.length ≤ n + ds.length := by
 induction ds with
 | nil => intro d n h; exact h
 | cons a ds ih =>
  intro d n h
  have := ih _ (n + 1) (doA_rows self d a h)
  simp only [List.length_cons]
  have e : n + 1 + ds.length = n + (ds.length + 1) := by omega
  rw [e] at this
  exact this
theorem doA_next (self : Int) (d : Dst) (a : Deed) : d.next ≤ (doA self d a).next ∧ (doA self d a).next ≤ d.next + 1 := by
 unfold doA
 repeat' split
 all_goals (constructor <;> (try simp) <;> omega)
theorem foldA_next (self : Int) (ds : List Deed) : ∀ d : Dst, d.next ≤ (foldA self d ds).next ∧ (foldA self d ds).next ≤ d.next + ds.length := by
 induction ds with
 | nil => intro d; exact ⟨Int.le_refl _, by simp [foldA]⟩
 | cons a ds ih =>
  intro d
  have h1 := doA_next self d a
  have h2 := ih (doA self d a)
  have e : foldA self d (a :: ds) = foldA self (doA self d a) ds := rfl
  rw [e]
  simp only [List.length_cons]
  constructor <;> omega
/-! ### the small process -/
def smMail : T := tupT [wordT sN, numT 4]
def smOut : T := tupT [wordT sN, numT 5]
theorem small_prog' : progOk [smBehv] = true := by
 simp [progOk, behvOk, smBehv, clauOk, smClau, deedOk, smDeed, dbareB, nameB, sRelay, ByteArray.size, Lib.toList_data, lowB]
theorem small_check' : checkE (progT [smBehv]) = 0 := by
 simp [checkE, progT, behvT, clauT, deedT, smBehv, smClau, smDeed, smMsg, smWhat, smAdd, tupT, wordT, numT, vT, formL_cons, formL, headB, bareB, dpL_cons, dpL, szL_cons, szL, inB, nameB, sRelay, sN, sAdd', sCode, sBeh, sOn, sSend, ByteArray.size, lowB, Lib.toList_data]
theorem small_to' : toA [smBehv] = (progT [smBehv], 0) := by unfold toA; rw [if_pos small_prog', if_pos small_check']
theorem small_bulk' : behvsB [smBehv] ≤ 100 := by
 simp [behvsB, behvB, clausB, clauB, deedsB, deedB, smBehv, smClau, smDeed, smMsg, smWhat, smAdd, tupT, wordT, numT, vT, bulkL_cons, bulkL, ByteArray.size, sRelay, sN, sAdd']
end Go.Proofs.Ytedfepnekjjmnab

/-
 A step in plain words, case by case. No condition.
-/
namespace Go.Proofs.Ytedfepnekjjmnab
open Go.RowKit
set_option linter.unusedSimpArgs false
set_option linter.unusedVariables false
set_option maxRecDepth 100000

section
variable {l : List Behv} {name : ByteArray} {room self next : Int} {st m t : T} {ml us : List T} {k j : Nat} {c : Clau} {bd : List T} {dd : Dst} {n : Int}
theorem stepE_to (h : (toA l).2 ≠ 0) : stepE l name room self next us = ((zeroTak, (toA l).2), us) := by unfold stepE; rw [if_pos h]
theorem stepE_arg (h : (toA l).2 = 0) (h2 : self < 1 ∨ 99 < self ∨ next < 1 ∨ 92 < next) : stepE l name room self next us = ((zeroTak, 1), us) := by unfold stepE; rw [if_neg (by simp [h]), if_pos h2]
theorem stepE_name (h : (toA l).2 = 0) (h2 : ¬ (self < 1 ∨ 99 < self ∨ next < 1 ∨ 92 < next)) (h3 : namedI name l = -1) : stepE l name room self next us = ((zeroTak, 4), us) := by
 unfold stepE; rw [if_neg (by simp [h]), if_neg h2, if_pos (by omega)]
theorem stepE_none (h : (toA l).2 = 0) (h2 : ¬ (self < 1 ∨ 99 < self ∨ next < 1 ∨ 92 < next)) (h3 : namedI name l = (k : Int)) (hk : k < l.length) (h4 : msFirst l[k].clauses st 1 ml = none) : stepE l name room self next (st :: ml) = ((zeroTak, 4), st :: ml) := by
 have e : l.getD (namedI name l).toNat ⟨⟨#[]⟩, []⟩ = l[k] := by rw [h3, Int.toNat_natCast, List.getD_eq_getElem?_getD, List.getElem?_eq_getElem hk]; rfl
 unfold stepE
 rw [if_neg (by simp [h]), if_neg h2, if_neg (by omega), e]
 unfold stepO
 rw [show (st :: ml).getD 0 zeroT = st from rfl, show (st :: ml).tail = ml from rfl, h4]
 rfl
theorem stepE_some (h : (toA l).2 = 0) (h2 : ¬ (self < 1 ∨ 99 < self ∨ next < 1 ∨ 92 < next)) (h3 : namedI name l = (k : Int)) (hk : k < l.length) (h4 : msFirst l[k].clauses st 1 ml = some (j + 1, c, bd)) (hj : j < ml.length) (hm : ml[j] = m) :
  stepE l name room self next (st :: ml) = (((actO room self next st (ml.eraseIdx j) m c bd).1, 0), (actO room self next st (ml.eraseIdx j) m c bd).2 :: ml.eraseIdx j) := by
 have e : l.getD (namedI name l).toNat ⟨⟨#[]⟩, []⟩ = l[k] := by rw [h3, Int.toNat_natCast, List.getD_eq_getElem?_getD, List.getElem?_eq_getElem hk]; rfl
 have em : ml.getD j zeroT = m := by rw [← hm, List.getD_eq_getElem?_getD, List.getElem?_eq_getElem hj]; rfl
 unfold stepE
 rw [if_neg (by simp [h]), if_neg h2, if_neg (by omega), e]
 unfold stepO
 rw [show (st :: ml).getD 0 zeroT = st from rfl, show (st :: ml).tail = ml from rfl, h4]
 simp only [Option.map_some, Nat.add_sub_cancel, em]
theorem actO_bad (hd : dd = foldA self ⟨bd, next, [], [], [], 0, false⟩ c.acts) (hr : (t, n) = reckO dd.bd self c.next) (hb : (dd.bad || n != 0) = true) : actO room self next st ml m c bd = (⟨m, 2, [], [], []⟩, st) := by
 have e : c.acts.foldl (doA self) ⟨bd, next, [], [], [], 0, false⟩ = dd := hd.symm
 unfold actO
 simp only [e, ← hr]
 rw [if_pos hb]
theorem actO_full (hd : dd = foldA self ⟨bd, next, [], [], [], 0, false⟩ c.acts) (hr : (t, n) = reckO dd.bd self c.next) (hb : (dd.bad || n != 0) = false) (hp : pputE room ml t ≠ 0) : actO room self next st ml m c bd = (⟨m, 3, [], [], []⟩, st) := by
 have e : c.acts.foldl (doA self) ⟨bd, next, [], [], [], 0, false⟩ = dd := hd.symm
 unfold actO
 simp only [e, ← hr]
 rw [if_neg (by simp [hb]), if_neg hp]
theorem actO_ok (hd : dd = foldA self ⟨bd, next, [], [], [], 0, false⟩ c.acts) (hr : (t, n) = reckO dd.bd self c.next) (hb : (dd.bad || n != 0) = false) (hp : pputE room ml t = 0) : actO room self next st ml m c bd = (⟨m, dd.fate, dd.sends, dd.spawns, dd.links⟩, t) := by
 have e : c.acts.foldl (doA self) ⟨bd, next, [], [], [], 0, false⟩ = dd := hd.symm
 unfold actO
 simp only [e, ← hr]
 rw [if_neg (by simp [hb]), if_pos hp]
end
/-- A step that does nothing. -/
theorem StepP.early {G : Nat → Prop} {w w' : World} {pb : Nat} {name : ByteArray} {room : Int} {nb u : Nat} {L : TW} {r : (TakT × Int) × List T} {e : Ending} {n : Int} (hr : r = ((zeroTak, n), tmsL L)) (he : e = .returned (.tuple #[.agg #[.int .i64 0, .int .i64 0, .string ⟨#[]⟩, .slice none 0 0, .int .i64 0, .slice none 0 0, .slice none 0 0, .slice none 0 0], .int .i64 n]))
  (hB : Below w.heap.size w w') (h : PrR G w pb name room nb u L []) : StepP G w pb name room nb r e w' := by
 subst hr
 exact ⟨[.int .i64 0, .int .i64 0, .string ⟨#[]⟩, .slice none 0 0, .int .i64 0, .slice none 0 0, .slice none 0 0, .slice none 0 0], he, zeroTak_c _ _, Keep.of hB, L, u, rfl, ((h.below hB).names (by omega)).mono fun b hb _ => .inl hb⟩
theorem StepP.fin {G : Nat → Prop} {w w' : World} {pb : Nat} {name : ByteArray} {room : Int} {nb nb' u' : Nat} {L' : TW} {r : (TakT × Int) × List T} {us : List T} {e : Ending} {tk : TakT} {cs : List Value} (hr : r = ((tk, 0), us)) (he : e = .returned (.tuple #[.agg cs.toArray, .int .i64 0])) (ht : takC (fun b => w.heap.size ≤ b) w' tk cs) (hK : Keep G w w') (hL : tmsL L' = us)
  (hP : PrR (fun b => G b ∨ w.heap.size ≤ b) w' pb name room nb' u' L' []) (hn : nb' ≤ nb + 4000) : StepP G w pb name room nb r e w' := by
 subst hr
 exact ⟨cs, he, ht, hK, L', u', hL, hP.names hn⟩
theorem keep_cut {G : Nat → Prop} {w W6 w0 W9 : World} {N : Nat} (h1 : Keep G w W6) (h2 : Below N w0 W6) (h3 : Below N w0 W9) (hN : w.heap.size ≤ N) (hs : W6.heap.size ≤ W9.heap.size) : Keep G w W9 :=
 ⟨h3.os.trans (h2.os.symm.trans h1.os), h3.tape.trans (h2.tape.symm.trans h1.tape), h3.output.trans (h2.output.symm.trans h1.output), Nat.le_trans h1.size hs, fun k hk hn => ((h3.block k (by omega)).trans (h2.block k (by omega)).symm).trans (h1.block k hk hn)⟩
theorem Keep.other {G : Nat → Prop} {w W W' : World} {g : Nat} (h : Keep G w W) (hb : Below 0 W W') (ho : ∀ b, b ≠ g → W'.heap[b]? = W.heap[b]?) (hg : w.heap.size ≤ g) : Keep G w W' :=
 ⟨hb.os.trans h.os, hb.tape.trans h.tape, hb.output.trans h.output, Nat.le_trans h.size hb.size, fun k hk hn => (ho k (by omega)).trans (h.block k hk hn)⟩
theorem szTaken : (Try.prog.info? 85).map (·.size) = some 8 := by kernel_rfl
theorem clausB_bulk {l : List Behv} {b : Behv} (hb : b ∈ l) {c : Clau} (hc : c ∈ b.clauses) : bulkL [c.state] ≤ behvsB l ∧ bulkL [c.message] ≤ behvsB l ∧ bulkL [c.next] ≤ behvsB l ∧ ∀ d ∈ c.acts, deedB d ≤ behvsB l := by
 have h1 := behvsB_mem hb
 have h2 := clausB_mem hc
 have h3 : clausB b.clauses ≤ behvB b := by unfold behvB; omega
 have h4 : clauB c = 1 + bulkL [c.state] + bulkL [c.message] + deedsB c.acts + bulkL [c.next] := rfl
 refine ⟨by omega, by omega, by omega, fun d hd => ?_⟩
 have h5 := deedsB_mem hd
 omega
end Go.Proofs.Ytedfepnekjjmnab

/-
 The small process' step, in plain words. No condition.
-/
namespace Go.Proofs.Ytedfepnekjjmnab
open Go.RowKit
set_option linter.unusedSimpArgs false
set_option linter.unusedVariables false
set_option maxRecDepth 100000

def smL : List T := [pidTm 2, numT 4, anyT, anyT]
theorem sm_checks : checkE (vT 0) = 0 ∧ checkE smMsg = 0 ∧ checkE smMail = 0 ∧ checkE (pidTm 2) = 0 ∧ checkE smWhat = 0 ∧ checkE smOut = 0 := by
 simp [checkE, smMsg, smMail, smWhat, smOut, smAdd, pidTm, tupT, wordT, numT, vT, formL_cons, formL, headB, bareB, dpL_cons, dpL, szL_cons, szL, inB, nameB, sN, sAdd', ByteArray.size, lowB, Lib.toList_data]
theorem sm_closed : closedL [pidTm 2] = true ∧ closedL [smMail] = true ∧ closedL [smOut] = true := by
 simp [smMail, smOut, pidTm, tupT, wordT, numT, closedL_cons, closedL]
theorem sm_bounds : boundB freeL = true ∧ boundB [pidTm 2, anyT, anyT, anyT] = true ∧ boundB smL = true := by
 simp [boundB, bndB, smL, freeL, anyT, pidTm, numT, checkE, formL_cons, formL, headB, bareB, dpL_cons, dpL, szL_cons, szL, inB, closedL_cons, closedL, ByteArray.size, Lib.toList_data]
theorem sm_fit1 : (fitsR (vT 0) (pidTm 2) freeL).2 = some [pidTm 2, anyT, anyT, anyT] := by
 rw [fitsR_ok sm_checks.1 sm_checks.2.2.2.1 (by rw [sm_closed.1, sm_bounds.1]; rfl)]
 show fitO (vT 0) (pidTm 2) freeL = _
 have h : fitT (vT 0) (pidTm 2) freeL = (true, freeL.set 0 (pidTm 2)) := fitT_5a (k := 0) rfl rfl (by simp [freeL]) rfl
 rw [fitO_yes (by rw [h]), h]; rfl
theorem sm_fit2 : (fitsR smMsg smMail [pidTm 2, anyT, anyT, anyT]).2 = some smL := by
 rw [fitsR_ok sm_checks.2.1 sm_checks.2.2.1 (by rw [sm_closed.2.1, sm_bounds.2.1]; rfl)]
 show fitO smMsg smMail [pidTm 2, anyT, anyT, anyT] = _
 have h1 : fitT (wordT sN) (wordT sN) [pidTm 2, anyT, anyT, anyT] = (true, [pidTm 2, anyT, anyT, anyT]) := by
  unfold fitT fitH
  rw [if_neg (by decide), if_neg (by decide), if_neg (by decide), (sameT_iff _ _).2 rfl]
 have h2 : fitT (vT 1) (numT 4) [pidTm 2, anyT, anyT, anyT] = (true, smL) := fitT_5a (k := 1) rfl rfl (by simp) rfl
 have h : fitT smMsg smMail [pidTm 2, anyT, anyT, anyT] = (true, smL) := by
  rw [fitT_4a (p := smMsg) (t := smMail) rfl rfl rfl]
  show fitL [wordT sN, vT 1] [wordT sN, numT 4] _ = _
  rw [fitL_yes (by rw [h1]), h1, fitL_yes (by rw [h2]), h2, fitL_nil]
 rw [fitO_yes (by rw [h]), h]
theorem sm_first : msFirst [smClau] (pidTm 2) 1 [smMail] = some (1, smClau, smL) := by
 have h : clFit smClau (pidTm 2) smMail = some smL := by
  unfold clFit
  show ((fitsR (vT 0) (pidTm 2) freeL).2.bind fun bd => (fitsR smMsg smMail bd).2) = _
  rw [sm_fit1]; exact sm_fit2
 unfold msFirst clFirst
 rw [h]
theorem sm_val0 : reckO smL 1 (vT 0) = (pidTm 2, 0) := by
 refine reckO_some sm_checks.1 sm_bounds.2.2 rfl (valF_some ?_ sm_checks.2.2.2.1)
 rw [valT_5 (k := 0) rfl rfl (by simp [smL])]; rfl
theorem sm_val1 : reckO smL 1 smWhat = (smOut, 0) := by
 refine reckO_some sm_checks.2.2.2.2.1 sm_bounds.2.2 rfl (valF_some ?_ sm_checks.2.2.2.2.2)
 have hw : ∀ s, valT smL 1 (wordT s) = some (wordT s) := fun s => valT_o (by simp [wordT]) (by simp [wordT]) (by simp [wordT])
 have hv : valT smL 1 (vT 1) = some (numT 4) := by rw [valT_5 (k := 1) rfl rfl (by simp [smL])]; rfl
 have hn : valT smL 1 (numT 1) = some (numT 1) := valT_o (by simp [numT]) (by simp [numT]) (by simp [numT])
 have ha : valT smL 1 smAdd = some (numT 5) := by
  rw [valT_tup rfl (by simp [isT, headIs, smAdd, tupT, wordT, sAdd', sSelf, Lib.toList_data]) (by simp [isT, headIs, smAdd, tupT, wordT, sAdd', sPut, Lib.toList_data])]
  show ((valL smL 1 [wordT sAdd', vT 1, numT 1]).bind _) = _
  rw [valL_cons, hw, valL_cons, hv, valL_cons, hn, valL_nil]
  simp [isT, headIs, smAdd, tupT, wordT, sAdd', sAdd, Lib.toList_data, sumO, sumB, sumN, numT, inB, Go.RowKit.wrap64]
 rw [valT_tup rfl (by simp [isT, headIs, smWhat, tupT, wordT, sN, sSelf, Lib.toList_data]) (by simp [isT, headIs, smWhat, tupT, wordT, sN, sPut, Lib.toList_data])]
 show ((valL smL 1 [wordT sN, smAdd]).bind _) = _
 rw [valL_cons, hw, valL_cons, ha, valL_nil]
 simp [isT, headIs, smWhat, tupT, wordT, sN, sAdd, Lib.toList_data, smOut]
theorem pput_ok {room : Int} {us : List T} {t : T} (h1 : checkE t = 0) (h2 : closedL [t] = true) (h3 : (szL us : Int) + szL [t] ≤ room) : pputE room us t = 0 := by
 have h : putE t = 0 := by unfold putE; rw [if_neg (by simp [h1]), if_neg (by simp [h2])]
 unfold pputE
 rw [if_neg (by simp [h]), if_neg (by omega)]
theorem sm_sizes : szL ([] : List T) = 0 ∧ szL [pidTm 2] = 0 ∧ szL [smMail] = 3 := by
 simp [szL, szL_cons, pidTm, smMail, tupT, wordT, numT]
theorem sm_new : newE sRelay 100 (pidTm 2) = 0 := by
 have h1 : nameB sRelay = true := by simp [nameB, sRelay, ByteArray.size, Lib.toList_data, lowB]
 unfold newE
 rw [if_neg (by simp [h1]), if_neg (by omega)]
 exact pput_ok sm_checks.2.2.2.1 sm_closed.1 (by rw [sm_sizes.1, sm_sizes.2.1]; decide)
theorem sm_del : delE 100 [pidTm 2] smMail = 0 := by
 unfold delE
 rw [if_neg (by simp)]
 exact pput_ok sm_checks.2.2.1 sm_closed.2.1 (by rw [sm_sizes.2.1, sm_sizes.2.2]; decide)
theorem sm_step : stepE [smBehv] sRelay 100 1 2 [pidTm 2, smMail] = ((⟨smMail, 0, [(2, smOut)], [], []⟩, 0), [pidTm 2]) := by
 have hn : namedI sRelay [smBehv] = ((0 : Nat) : Int) := by
  unfold namedI
  rw [if_pos (by simp [smBehv])]; rfl
 rw [stepE_some (k := 0) (j := 0) (m := smMail) (c := smClau) (bd := smL) (ml := [smMail]) (by rw [small_to']) (by omega) hn (by simp) sm_first (by simp) rfl]
 have hd : (⟨smL, 2, [(2, smOut)], [], [], 0, false⟩ : Dst) = foldA 1 ⟨smL, 2, [], [], [], 0, false⟩ smClau.acts := by
  show _ = doA 1 ⟨smL, 2, [], [], [], 0, false⟩ smDeed
  unfold doA
  rw [if_pos (by rfl)]
  have e0 : reckO smL 1 smDeed.to = (pidTm 2, 0) := sm_val0
  have e1 : reckO smL 1 smDeed.what = (smOut, 0) := sm_val1
  simp only [e0, e1]
  rfl
 rw [actO_ok hd sm_val0.symm (by rfl) (pput_ok sm_checks.2.2.2.1 sm_closed.1 (by show ((szL ([] : List T) : Nat) : Int) + _ ≤ _; rw [sm_sizes.1, sm_sizes.2.1]; decide))]
 rfl
theorem sm_bulks : bulkL [pidTm 2] ≤ 100 ∧ bulkL [smMail] ≤ 100 ∧ bulkL [smOut] ≤ 100 := by
 simp [smMail, smOut, pidTm, tupT, wordT, numT, bulkL_cons, bulkL, ByteArray.size, sN]
end Go.Proofs.Ytedfepnekjjmnab
