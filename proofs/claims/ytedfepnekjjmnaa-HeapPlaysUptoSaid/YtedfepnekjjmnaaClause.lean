/-
  code.clause: the clause that a term tells. No condition but a bound.
-/
import Derived.Deep.DeepCutAuto
import Derived.Test.YtedfepnekjjmnaaJg
import Derived.Test.YtedfepnekjjmnaaJa
namespace Go.Proofs.Ytedfepnekjjmnaa
open Go.RowKit
set_option linter.unusedSimpArgs false
set_option linter.unusedVariables false
set_option maxRecDepth 100000

/-- A row of what terms tell. -/
def TellP {X : Type} (E : El X) (f : T → Option X) (w : World) (t : T) (e : Ending) (w' : World) : Prop :=
  ∃ (x : X) (cs : List Value), e = .returned (.tuple #[.agg cs.toArray, .bool (f t).isSome]) ∧ Below w.heap.size w w' ∧ E.C (fun b => w.heap.size ≤ b) w' x cs ∧ ∀ x', f t = some x' → x' = x
def zeroClau : Clau := ⟨zeroT, zeroT, [], zeroT⟩
theorem zeroClau_c (S : Nat → Prop) (w : World) : clauC S w zeroClau [.int .i64 0, .int .i64 0, .string ⟨#[]⟩, .slice none 0 0, .int .i64 0, .int .i64 0, .string ⟨#[]⟩, .slice none 0 0, .slice none 0 0, .int .i64 0, .int .i64 0, .string ⟨#[]⟩, .slice none 0 0] :=
  ⟨none, 0, none, 0, none, 0, none, 0, rfl, zeroT_rt _ _, zeroT_rt _ _, RX.nil _ _ _, zeroT_rt _ _⟩
theorem TellP.zeroC {w w' : World} {t : T} {e : Ending} (h : clauO t = none) (he : e = .returned (.tuple #[.agg [.int .i64 0, .int .i64 0, .string ⟨#[]⟩, .slice none 0 0, .int .i64 0, .int .i64 0, .string ⟨#[]⟩, .slice none 0 0, .slice none 0 0, .int .i64 0, .int .i64 0, .string ⟨#[]⟩, .slice none 0 0].toArray, .bool false])) (hB : Below w.heap.size w w') : TellP clauE clauO w t e w' :=
  ⟨zeroClau, [.int .i64 0, .int .i64 0, .string ⟨#[]⟩, .slice none 0 0, .int .i64 0, .int .i64 0, .string ⟨#[]⟩, .slice none 0 0, .slice none 0 0, .int .i64 0, .int .i64 0, .string ⟨#[]⟩, .slice none 0 0], by rw [h]; exact he, hB, zeroClau_c _ _, fun d' h' => by rw [h] at h'; cases h'⟩
/-- What stands behind the clause's beginning. -/
def ClauCut (N : Nat) (W1 : World) (x y u : T) (s6 : Value) (wx : World) : Prop :=
  ∃ g a1 p1 a2 p2 a4 p4, s6 = .pointer (some ⟨g, 0, none⟩) ∧ N ≤ g ∧ Below N W1 wx ∧ Blk wx g [.int .i64 x.kind, .int .i64 x.n, .string x.name, .slice a1 x.args.length p1, .int .i64 y.kind, .int .i64 y.n, .string y.name, .slice a2 y.args.length p2, .slice none 0 0, .int .i64 u.kind, .int .i64 u.n, .string u.name, .slice a4 u.args.length p4] ∧
    RT (fun b => N ≤ b ∧ b ≠ g) wx x (.agg #[.int .i64 x.kind, .int .i64 x.n, .string x.name, .slice a1 x.args.length p1]) ∧ RT (fun b => N ≤ b ∧ b ≠ g) wx y (.agg #[.int .i64 y.kind, .int .i64 y.n, .string y.name, .slice a2 y.args.length p2]) ∧ RT (fun b => N ≤ b ∧ b ≠ g) wx u (.agg #[.int .i64 u.kind, .int .i64 u.n, .string u.name, .slice a4 u.args.length p4])
theorem RT.rts {S : Nat → Prop} {w : World} {t : T} {c0 c1 c2 : Value} {a : Option Addr} {n cap : Nat} (h : RT S w t (.agg #[c0, c1, c2, .slice a n cap])) : CapOk a t.args.length cap ∧ RTs S w t.args a 0 := by
  obtain ⟨a', cap', e, h1, h2⟩ := h
  simp only [Value.agg.injEq, Array.mk.injEq, List.cons.injEq, Value.slice.injEq, and_true] at e
  obtain ⟨-, -, -, rfl, -, rfl⟩ := e
  exact ⟨h1, h2⟩
theorem Blk.keep {R : Nat → Prop} {w w' : World} {B : Nat} {cs : List Value} (h : Blk w B cs) (hK : Keep R w w') (hB : ¬ R B) : Blk w' B cs :=
  ⟨Nat.lt_of_lt_of_le h.lt hK.size, fun j u hu => (hK.cell B j h.lt hB).trans (h.cell j u hu), fun o => (hK.frozen B o h.lt hB).trans (h.fr o)⟩
theorem Keep.thenB {R : Nat → Prop} {a b c : World} (h : Keep R a b) (k : Below a.heap.size b c) : Keep R a c :=
  ⟨k.os.trans h.os, k.tape.trans h.tape, k.output.trans h.output, Nat.le_trans h.size k.size, fun i hi hr => (k.block i hi).trans (h.block i hi hr)⟩
theorem Keep.cell_blk {R : Nat → Prop} {w w' : World} (h : Keep R w w') {b o : Nat} {v : Value} (hb : ¬ R b) (hv : w.cell? ⟨b, o, none⟩ = some v) : w'.cell? ⟨b, o, none⟩ = some v :=
  (h.cell b o (World.block_lt_of_cell? w _ hv) hb).trans hv

set_option maxHeartbeats 4000000 in
theorem clause_none (t : T) (S : Nat → Prop) (w : World) (v : Value) (hv : RT S w t v) (hb : bulkL [t] ≤ 274877906944) (h1 : restL sOn t = none) : Calls Try.prog 105 #[v] w (TellP clauE clauO w t) := by
  obtain ⟨a, cap, rfl, hc, hr⟩ := hv
  have HV : Hid (RT S w t _) := Lib.hid ⟨a, cap, rfl, hc, hr⟩
  clear hr hc
  have H1 := Lib.hid h1
  clear h1
  go_enter Try.func105, Try.ntmps105
  go_wp2_with fail
  obtain ⟨W0, hW0⟩ : ∃ W : World, W = (w.alloc (.cells #[.int .i64 t.kind, .int .i64 t.n, .string t.name, .slice a t.args.length cap] 29)).alloc (.cells #[.int .i64 0, .int .i64 0, .string ⟨#[]⟩, .slice none 0 0, .int .i64 0, .int .i64 0, .string ⟨#[]⟩, .slice none 0 0, .slice none 0 0, .int .i64 0, .int .i64 0, .string ⟨#[]⟩, .slice none 0 0] 122) := ⟨_, rfl⟩
  have HV0 : Hid (RT (fun b => b < w.heap.size) W0 t (.agg #[.int .i64 t.kind, .int .i64 t.n, .string t.name, .slice a t.args.length cap])) := Lib.hid (by rw [hW0]; exact ((HV.out.to (S' := fun b => b < w.heap.size) (fun _ _ h => h) fun _ _ _ => rfl).alloc _).alloc _)
  have HZ : Hid (Blk W0 (w.heap.size + 1) [.int .i64 0, .int .i64 0, .string ⟨#[]⟩, .slice none 0 0, .int .i64 0, .int .i64 0, .string ⟨#[]⟩, .slice none 0 0, .slice none 0 0, .int .i64 0, .int .i64 0, .string ⟨#[]⟩, .slice none 0 0]) := Lib.hid (by rw [hW0]; exact Blk.new _ _ _ _ (by simp))
  have HB0 : Hid (Below w.heap.size w W0) := Lib.hid (by rw [hW0]; exact (below_alloc _ _).trans ((below_alloc _ _).mono (by simp)))
  have hs0 : w.heap.size + 2 ≤ W0.heap.size := by rw [hW0]; simp
  rw [← hW0]
  clear hW0 HV
  refine (crest_c t sOn _ _ _ HV0.out (by omega)).mono ?_
  intro e W1 h
  obtain ⟨r0, rc0, rfl, hB⟩ := h.none H1.out
  have hs1 := hB.size
  have HB1 := Lib.hid hB
  clear hB h
  have HO := Lib.hid (show clauO t = none by unfold clauO; rw [H1.out])
  go_wp2_with (first | (refine store_blk 122 13 szClau _ _ rfl rfl rfl rfl rfl (HZ.out.step HB1.out) rfl rfl rfl ?_; intro W' hF hs' hBW hoth; have HF := Lib.hid hF; have HFB := Lib.hid (hBW _ _ (by omega) (HB0.out.trans (HB1.out.mono (by omega)))); have HOTH := Lib.hid hoth; clear hF hBW hoth))
  refine bodyPost_ret (results_blk Try.results105 szClau _ Try.underlying122 rfl rfl HF.out rfl) rfl (TellP.zeroC HO.out rfl HFB.out)

set_option maxHeartbeats 4000000 in
theorem clause_len (t : T) (S : Nat → Prop) (w : World) (v : Value) (hv : RT S w t v) (hb : bulkL [t] ≤ 274877906944) (l : List T) (h1 : restL sOn t = some l) (hl : l.length ≠ 4) : Calls Try.prog 105 #[v] w (TellP clauE clauO w t) := by
  obtain ⟨a, cap, rfl, hc, hr⟩ := hv
  have HV : Hid (RT S w t _) := Lib.hid ⟨a, cap, rfl, hc, hr⟩
  clear hr hc
  have H1 := Lib.hid h1
  clear h1
  go_enter Try.func105, Try.ntmps105
  go_wp2_with fail
  obtain ⟨W0, hW0⟩ : ∃ W : World, W = (w.alloc (.cells #[.int .i64 t.kind, .int .i64 t.n, .string t.name, .slice a t.args.length cap] 29)).alloc (.cells #[.int .i64 0, .int .i64 0, .string ⟨#[]⟩, .slice none 0 0, .int .i64 0, .int .i64 0, .string ⟨#[]⟩, .slice none 0 0, .slice none 0 0, .int .i64 0, .int .i64 0, .string ⟨#[]⟩, .slice none 0 0] 122) := ⟨_, rfl⟩
  have HV0 : Hid (RT (fun b => b < w.heap.size) W0 t (.agg #[.int .i64 t.kind, .int .i64 t.n, .string t.name, .slice a t.args.length cap])) := Lib.hid (by rw [hW0]; exact ((HV.out.to (S' := fun b => b < w.heap.size) (fun _ _ h => h) fun _ _ _ => rfl).alloc _).alloc _)
  have HZ : Hid (Blk W0 (w.heap.size + 1) [.int .i64 0, .int .i64 0, .string ⟨#[]⟩, .slice none 0 0, .int .i64 0, .int .i64 0, .string ⟨#[]⟩, .slice none 0 0, .slice none 0 0, .int .i64 0, .int .i64 0, .string ⟨#[]⟩, .slice none 0 0]) := Lib.hid (by rw [hW0]; exact Blk.new _ _ _ _ (by simp))
  have HB0 : Hid (Below w.heap.size w W0) := Lib.hid (by rw [hW0]; exact (below_alloc _ _).trans ((below_alloc _ _).mono (by simp)))
  have hs0 : w.heap.size + 2 ≤ W0.heap.size := by rw [hW0]; simp
  rw [← hW0]
  clear hW0 HV
  have e1 : ((l.length : Int) != 4) = true := by simp; omega
  have HN := Lib.hid hl
  clear hl
  refine (crest_c t sOn _ _ _ HV0.out (by omega)).mono ?_
  intro e W1 h
  obtain ⟨r0, rc0, rfl, hB, hr⟩ := h.yes H1.out
  have HL := Lib.hid hr
  clear hr
  have hs1 := hB.size
  have HB1 := Lib.hid hB
  clear hB h
  have HO := Lib.hid (show clauO t = none by unfold clauO; rw [H1.out]; match l, HN.out with | [], _ => rfl | [_], _ => rfl | [_, _], _ => rfl | [_, _, _], _ => rfl | [_, _, _, _], h => exact absurd rfl h | _ :: _ :: _ :: _ :: _ :: _, _ => rfl)
  go_wp2_with (first | (refine store_blk 122 13 szClau _ _ rfl rfl rfl rfl rfl (HZ.out.step HB1.out) rfl rfl rfl ?_; intro W' hF hs' hBW hoth; have HF := Lib.hid hF; have HFB := Lib.hid (hBW _ _ (by omega) (HB0.out.trans (HB1.out.mono (by omega)))); have HOTH := Lib.hid hoth; clear hF hBW hoth))
  refine bodyPost_ret (results_blk Try.results105 szClau _ Try.underlying122 rfl rfl HF.out rfl) rfl (TellP.zeroC HO.out rfl HFB.out)

set_option maxHeartbeats 4000000 in
theorem clause_kind (t : T) (S : Nat → Prop) (w : World) (v : Value) (hv : RT S w t v) (hb : bulkL [t] ≤ 274877906944) (x y z u : T) (h1 : restL sOn t = some [x, y, z, u]) (hk : z.kind ≠ 4) : Calls Try.prog 105 #[v] w (TellP clauE clauO w t) := by
  obtain ⟨a, cap, rfl, hc, hr⟩ := hv
  have HV : Hid (RT S w t _) := Lib.hid ⟨a, cap, rfl, hc, hr⟩
  clear hr hc
  have H1 := Lib.hid h1
  clear h1
  go_enter Try.func105, Try.ntmps105
  go_wp2_with fail
  obtain ⟨W0, hW0⟩ : ∃ W : World, W = (w.alloc (.cells #[.int .i64 t.kind, .int .i64 t.n, .string t.name, .slice a t.args.length cap] 29)).alloc (.cells #[.int .i64 0, .int .i64 0, .string ⟨#[]⟩, .slice none 0 0, .int .i64 0, .int .i64 0, .string ⟨#[]⟩, .slice none 0 0, .slice none 0 0, .int .i64 0, .int .i64 0, .string ⟨#[]⟩, .slice none 0 0] 122) := ⟨_, rfl⟩
  have HV0 : Hid (RT (fun b => b < w.heap.size) W0 t (.agg #[.int .i64 t.kind, .int .i64 t.n, .string t.name, .slice a t.args.length cap])) := Lib.hid (by rw [hW0]; exact ((HV.out.to (S' := fun b => b < w.heap.size) (fun _ _ h => h) fun _ _ _ => rfl).alloc _).alloc _)
  have HZ : Hid (Blk W0 (w.heap.size + 1) [.int .i64 0, .int .i64 0, .string ⟨#[]⟩, .slice none 0 0, .int .i64 0, .int .i64 0, .string ⟨#[]⟩, .slice none 0 0, .slice none 0 0, .int .i64 0, .int .i64 0, .string ⟨#[]⟩, .slice none 0 0]) := Lib.hid (by rw [hW0]; exact Blk.new _ _ _ _ (by simp))
  have HB0 : Hid (Below w.heap.size w W0) := Lib.hid (by rw [hW0]; exact (below_alloc _ _).trans ((below_alloc _ _).mono (by simp)))
  have hs0 : w.heap.size + 2 ≤ W0.heap.size := by rw [hW0]; simp
  rw [← hW0]
  clear hW0 HV
  have e1 : (z.kind != 4) = true := by simpa using hk
  have HN := Lib.hid hk
  clear hk
  refine (crest_c t sOn _ _ _ HV0.out (by omega)).mono ?_
  intro e W1 h
  obtain ⟨r0, rc0, rfl, hB, hr⟩ := h.yes H1.out
  have HL := Lib.hid hr
  clear hr
  have hs1 := hB.size
  have HB1 := Lib.hid hB
  clear hB h
  obtain ⟨bq, oq, rfl⟩ := HL.out.rts.addr (by simp)
  obtain ⟨az, pz, hsz, z0, z1, z2, z3, hrz⟩ := HL.out.rts.elem 2 (by simp)
  simp only [Nat.zero_mul, Nat.one_mul, Nat.add_zero, Nat.reduceMul, Nat.add_assoc, Nat.reduceAdd, List.getElem_cons_zero, List.getElem_cons_succ] at z0 z1 z2 z3 hrz
  have HRz := Lib.hid hrz
  clear hrz
  have HO := Lib.hid (show clauO t = none by unfold clauO; rw [H1.out]; simp only; rw [if_neg (by simpa using HN.out)])
  go_wp2_with (first | (refine store_blk 122 13 szClau _ _ rfl rfl rfl rfl rfl (HZ.out.step HB1.out) rfl rfl rfl ?_; intro W' hF hs' hBW hoth; have HF := Lib.hid hF; have HFB := Lib.hid (hBW _ _ (by omega) (HB0.out.trans (HB1.out.mono (by omega)))); have HOTH := Lib.hid hoth; clear hF hBW hoth))
  refine bodyPost_ret (results_blk Try.results105 szClau _ Try.underlying122 rfl rfl HF.out rfl) rfl (TellP.zeroC HO.out rfl HFB.out)

set_option maxHeartbeats 4000000 in
theorem clause_main (t : T) (S : Nat → Prop) (w : World) (v : Value) (hv : RT S w t v) (hb : bulkL [t] ≤ 274877906944) (x y z u : T) (h1 : restL sOn t = some [x, y, z, u]) (hk : z.kind = 4) : Calls Try.prog 105 #[v] w (TellP clauE clauO w t) := by
  obtain ⟨a, cap, rfl, hc, hr⟩ := hv
  have HV : Hid (RT S w t _) := Lib.hid ⟨a, cap, rfl, hc, hr⟩
  clear hr hc
  have H1 := Lib.hid h1
  clear h1
  go_enter Try.func105, Try.ntmps105
  go_wp2_with fail
  obtain ⟨W0, hW0⟩ : ∃ W : World, W = (w.alloc (.cells #[.int .i64 t.kind, .int .i64 t.n, .string t.name, .slice a t.args.length cap] 29)).alloc (.cells #[.int .i64 0, .int .i64 0, .string ⟨#[]⟩, .slice none 0 0, .int .i64 0, .int .i64 0, .string ⟨#[]⟩, .slice none 0 0, .slice none 0 0, .int .i64 0, .int .i64 0, .string ⟨#[]⟩, .slice none 0 0] 122) := ⟨_, rfl⟩
  have HV0 : Hid (RT (fun b => b < w.heap.size) W0 t (.agg #[.int .i64 t.kind, .int .i64 t.n, .string t.name, .slice a t.args.length cap])) := Lib.hid (by rw [hW0]; exact ((HV.out.to (S' := fun b => b < w.heap.size) (fun _ _ h => h) fun _ _ _ => rfl).alloc _).alloc _)
  have HZ : Hid (Blk W0 (w.heap.size + 1) [.int .i64 0, .int .i64 0, .string ⟨#[]⟩, .slice none 0 0, .int .i64 0, .int .i64 0, .string ⟨#[]⟩, .slice none 0 0, .slice none 0 0, .int .i64 0, .int .i64 0, .string ⟨#[]⟩, .slice none 0 0]) := Lib.hid (by rw [hW0]; exact Blk.new _ _ _ _ (by simp))
  have HB0 : Hid (Below w.heap.size w W0) := Lib.hid (by rw [hW0]; exact (below_alloc _ _).trans ((below_alloc _ _).mono (by simp)))
  have hs0 : w.heap.size + 2 ≤ W0.heap.size := by rw [hW0]; simp
  rw [← hW0]
  clear hW0 HV
  have e1 : (z.kind != 4) = false := by simpa using hk
  have HN := Lib.hid hk
  clear hk
  have hbl := (restL_some H1.out).1
  have hbx : bulkL [x, y, z, u] = bulkL [x] + (bulkL [y] + (bulkL [z] + bulkL [u])) := (by rw [show bulkL [x, y, z, u] = bulkL [x] + bulkL [y, z, u] from bulkL_append [x] [y, z, u], show bulkL [y, z, u] = bulkL [y] + bulkL [z, u] from bulkL_append [y] [z, u], show bulkL [z, u] = bulkL [z] + bulkL [u] from bulkL_append [z] [u]])
  refine (crest_c t sOn _ _ _ HV0.out (by omega)).mono ?_
  intro e W1 h
  obtain ⟨r0, rc0, rfl, hB, hr⟩ := h.yes H1.out
  have HL := Lib.hid hr
  clear hr
  have hs1 := hB.size
  have HB1 := Lib.hid hB
  clear hB h
  obtain ⟨bq, oq, rfl⟩ := HL.out.rts.addr (by simp)
  obtain ⟨ax, px, hsx, x0, x1, x2, x3, hrx⟩ := HL.out.rts.elem 0 (by simp)
  simp only [Nat.zero_mul, Nat.one_mul, Nat.add_zero, Nat.reduceMul, Nat.add_assoc, Nat.reduceAdd, List.getElem_cons_zero, List.getElem_cons_succ] at x0 x1 x2 x3 hrx
  have HRx := Lib.hid hrx
  clear hrx
  obtain ⟨ay, py, hsy, y0, y1, y2, y3, hry⟩ := HL.out.rts.elem 1 (by simp)
  simp only [Nat.zero_mul, Nat.one_mul, Nat.add_zero, Nat.reduceMul, Nat.add_assoc, Nat.reduceAdd, List.getElem_cons_zero, List.getElem_cons_succ] at y0 y1 y2 y3 hry
  have HRy := Lib.hid hry
  clear hry
  obtain ⟨az, pz, hsz, z0, z1, z2, z3, hrz⟩ := HL.out.rts.elem 2 (by simp)
  simp only [Nat.zero_mul, Nat.one_mul, Nat.add_zero, Nat.reduceMul, Nat.add_assoc, Nat.reduceAdd, List.getElem_cons_zero, List.getElem_cons_succ] at z0 z1 z2 z3 hrz
  have HRz := Lib.hid hrz
  clear hrz
  obtain ⟨au, pu, hsu, u0, u1, u2, u3, hru⟩ := HL.out.rts.elem 3 (by simp)
  simp only [Nat.zero_mul, Nat.one_mul, Nat.add_zero, Nat.reduceMul, Nat.add_assoc, Nat.reduceAdd, List.getElem_cons_zero, List.getElem_cons_succ] at u0 u1 u2 u3 hru
  have HRu := Lib.hid hru
  clear hru
  have hbq : bq < W1.heap.size := World.block_lt_of_cell? _ _ x0
  have HQ : Hid (∀ w', Below W1.heap.size W1 w' → w'.cell? ⟨bq, oq, none⟩ = some (.int .i64 x.kind) ∧ w'.cell? ⟨bq, oq + 1, none⟩ = some (.int .i64 x.n) ∧ w'.cell? ⟨bq, oq + 2, none⟩ = some (.string x.name) ∧ w'.cell? ⟨bq, oq + 3, none⟩ = some (.slice ax x.args.length px) ∧ w'.cell? ⟨bq, oq + 4, none⟩ = some (.int .i64 y.kind) ∧ w'.cell? ⟨bq, oq + 5, none⟩ = some (.int .i64 y.n) ∧ w'.cell? ⟨bq, oq + 6, none⟩ = some (.string y.name) ∧ w'.cell? ⟨bq, oq + 7, none⟩ = some (.slice ay y.args.length py) ∧ w'.cell? ⟨bq, oq + 12, none⟩ = some (.int .i64 u.kind) ∧ w'.cell? ⟨bq, oq + 13, none⟩ = some (.int .i64 u.n) ∧ w'.cell? ⟨bq, oq + 14, none⟩ = some (.string u.name) ∧ w'.cell? ⟨bq, oq + 15, none⟩ = some (.slice au u.args.length pu)) := Lib.hid fun w' h => ⟨(h.cell (p := ⟨bq, oq, none⟩) hbq).trans x0, (h.cell (p := ⟨bq, oq + 1, none⟩) hbq).trans x1, (h.cell (p := ⟨bq, oq + 2, none⟩) hbq).trans x2, (h.cell (p := ⟨bq, oq + 3, none⟩) hbq).trans x3, (h.cell (p := ⟨bq, oq + 4, none⟩) hbq).trans y0, (h.cell (p := ⟨bq, oq + 5, none⟩) hbq).trans y1, (h.cell (p := ⟨bq, oq + 6, none⟩) hbq).trans y2, (h.cell (p := ⟨bq, oq + 7, none⟩) hbq).trans y3, (h.cell (p := ⟨bq, oq + 12, none⟩) hbq).trans u0, (h.cell (p := ⟨bq, oq + 13, none⟩) hbq).trans u1, (h.cell (p := ⟨bq, oq + 14, none⟩) hbq).trans u2, (h.cell (p := ⟨bq, oq + 15, none⟩) hbq).trans u3⟩
  go_upto_region 4 with fail
  go_cut [6] (fun s6 wx => ClauCut W1.heap.size W1 x y u s6 wx)
  case first =>
    clear x0 x1 x2 x3 y0 y1 y2 y3 z0 z1 z2 z3 u0 u1 u2 u3
    refine rg_start (fun w' => w'.cell? ⟨bq, oq, none⟩ = some (.int .i64 x.kind) ∧ w'.cell? ⟨bq, oq + 1, none⟩ = some (.int .i64 x.n) ∧ w'.cell? ⟨bq, oq + 2, none⟩ = some (.string x.name) ∧ w'.cell? ⟨bq, oq + 3, none⟩ = some (.slice ax x.args.length px) ∧ w'.cell? ⟨bq, oq + 4, none⟩ = some (.int .i64 y.kind) ∧ w'.cell? ⟨bq, oq + 5, none⟩ = some (.int .i64 y.n) ∧ w'.cell? ⟨bq, oq + 6, none⟩ = some (.string y.name) ∧ w'.cell? ⟨bq, oq + 7, none⟩ = some (.slice ay y.args.length py) ∧ w'.cell? ⟨bq, oq + 12, none⟩ = some (.int .i64 u.kind) ∧ w'.cell? ⟨bq, oq + 13, none⟩ = some (.int .i64 u.n) ∧ w'.cell? ⟨bq, oq + 14, none⟩ = some (.string u.name) ∧ w'.cell? ⟨bq, oq + 15, none⟩ = some (.slice au u.args.length pu)) (by kernel_rfl) (HQ.out) ?_
    intro Wd hB hWd hWd' hHeld
    have HCWd := Lib.hid hB
    clear hB
    refine rg_take (i := 0) (v := ?_) rfl (by kernel_rfl) (by kernel_rfl) (by kernel_rfl) (by rfl) ?_ hHeld ?_
    rotate_left 1
    · intro w hSw; (try dsimp only at hSw); go_simp; try (with_reducible rfl)
    (try simp only [Act.put, List.setIfInBounds_toArray, List.set_cons_zero, List.set_cons_succ])
    refine rg_take (i := 1) (v := ?_) rfl (by kernel_rfl) (by kernel_rfl) (by kernel_rfl) (by rfl) ?_ hHeld ?_
    rotate_left 1
    · intro w hSw; (try dsimp only at hSw); go_simp; try (with_reducible rfl)
    (try simp only [Act.put, List.setIfInBounds_toArray, List.set_cons_zero, List.set_cons_succ])
    refine rg_take (i := 2) (v := ?_) rfl (by kernel_rfl) (by kernel_rfl) (by kernel_rfl) (by rfl) ?_ hHeld ?_
    rotate_left 1
    · intro w hSw; (try dsimp only at hSw); go_simp; try (with_reducible rfl)
    (try simp only [Act.put, List.setIfInBounds_toArray, List.set_cons_zero, List.set_cons_succ])
    refine rg_take (i := 4) (v := ?_) rfl (by kernel_rfl) (by kernel_rfl) (by kernel_rfl) (by rfl) ?_ hHeld ?_
    rotate_left 1
    · intro w hSw; (try dsimp only at hSw); go_simp; try (with_reducible rfl)
    (try simp only [Act.put, List.setIfInBounds_toArray, List.set_cons_zero, List.set_cons_succ])
    refine rg_take (i := 5) (v := ?_) rfl (by kernel_rfl) (by kernel_rfl) (by kernel_rfl) (by rfl) ?_ hHeld ?_
    rotate_left 1
    · intro w hSw; (try dsimp only at hSw); go_simp; try (with_reducible rfl)
    (try simp only [Act.put, List.setIfInBounds_toArray, List.set_cons_zero, List.set_cons_succ])
    refine rg_take (i := 6) (v := ?_) rfl (by kernel_rfl) (by kernel_rfl) (by kernel_rfl) (by rfl) ?_ hHeld ?_
    rotate_left 1
    · intro w hSw; (try dsimp only at hSw); go_simp; try (with_reducible rfl)
    (try simp only [Act.put, List.setIfInBounds_toArray, List.set_cons_zero, List.set_cons_succ])
    refine rg_take (i := 8) (v := ?_) rfl (by kernel_rfl) (by kernel_rfl) (by kernel_rfl) (by rfl) ?_ hHeld ?_
    rotate_left 1
    · intro w hSw; (try dsimp only at hSw); go_simp; try (with_reducible rfl)
    (try simp only [Act.put, List.setIfInBounds_toArray, List.set_cons_zero, List.set_cons_succ])
    refine rg_take (i := 9) (v := ?_) rfl (by kernel_rfl) (by kernel_rfl) (by kernel_rfl) (by rfl) ?_ hHeld ?_
    rotate_left 1
    · intro w hSw; (try dsimp only at hSw); go_simp; try (with_reducible rfl)
    (try simp only [Act.put, List.setIfInBounds_toArray, List.set_cons_zero, List.set_cons_succ])
    refine rg_take (i := 10) (v := ?_) rfl (by kernel_rfl) (by kernel_rfl) (by kernel_rfl) (by rfl) ?_ hHeld ?_
    rotate_left 1
    · intro w hSw; (try dsimp only at hSw); go_simp; try (with_reducible rfl)
    (try simp only [Act.put, List.setIfInBounds_toArray, List.set_cons_zero, List.set_cons_succ])
    refine rg_two (i := 3) (j := 13) rfl rfl (by kernel_rfl) (by rfl) (by rfl) (fun K hK => ?_) (fun K hK => ?_)
    · skip
      go_simp
      go_at_call 70
      refine (copied_c x _ _ _ (HRx.out.below HCWd.out) (by omega)).mono ?_
      rintro e wx ⟨vx, rfl, hB, bbx, qx, rfl, hc, hr⟩
      have hzwx := hB.size
      have HSx : Hid (RT (fun b => Wd.heap.size ≤ b ∧ b < wx.heap.size) wx x (.agg #[.int .i64 x.kind, .int .i64 x.n, .string x.name, .slice bbx x.args.length qx])) := Lib.hid (RT.to (S := _) ⟨bbx, qx, rfl, hc, hr⟩ (fun b hb hl => ⟨hb, hl⟩) fun _ _ _ => rfl)
      have HCwx : Hid (Below W1.heap.size W1 wx) := Lib.hid (below_step HCWd.out (by omega) hB)
      clear hB hc hr
      refine hK.out _ _ (HQ.out _ HCwx.out) (fun hHeld1 => ?_)
      clear hK K hHeld
      have hHeld := hHeld1
      clear hHeld1
      (try simp only [Act.put, List.setIfInBounds_toArray, List.set_cons_zero, List.set_cons_succ])
      refine rg_two (i := 7) (j := 13) rfl rfl (by kernel_rfl) (by rfl) (by rfl) (fun K hK => ?_) (fun K hK => ?_)
      · skip
        go_simp
        go_at_call 70
        refine (copied_c y _ _ _ (HRy.out.below HCwx.out) (by omega)).mono ?_
        rintro e wy ⟨vy, rfl, hB, bby, qy, rfl, hc, hr⟩
        have hzwy := hB.size
        have HSy : Hid (RT (fun b => wx.heap.size ≤ b ∧ b < wy.heap.size) wy y (.agg #[.int .i64 y.kind, .int .i64 y.n, .string y.name, .slice bby y.args.length qy])) := Lib.hid (RT.to (S := _) ⟨bby, qy, rfl, hc, hr⟩ (fun b hb hl => ⟨hb, hl⟩) fun _ _ _ => rfl)
        have HCwy : Hid (Below W1.heap.size W1 wy) := Lib.hid (below_step HCwx.out (by omega) hB)
        have HSx := Lib.hid (HSx.out.below hB)
        clear hB hc hr
        refine hK.out _ _ (HQ.out _ HCwy.out) (fun hHeld1 => ?_)
        clear hK K hHeld
        have hHeld := hHeld1
        clear hHeld1
        (try simp only [Act.put, List.setIfInBounds_toArray, List.set_cons_zero, List.set_cons_succ])
        refine rg_two (i := 11) (j := 13) rfl rfl (by kernel_rfl) (by rfl) (by rfl) (fun K hK => ?_) (fun K hK => ?_)
        · skip
          go_simp
          go_at_call 70
          refine (copied_c u _ _ _ (HRu.out.below HCwy.out) (by omega)).mono ?_
          rintro e wu ⟨vu, rfl, hB, bbu, qu, rfl, hc, hr⟩
          have hzwu := hB.size
          have HSu : Hid (RT (fun b => wy.heap.size ≤ b ∧ b < wu.heap.size) wu u (.agg #[.int .i64 u.kind, .int .i64 u.n, .string u.name, .slice bbu u.args.length qu])) := Lib.hid (RT.to (S := _) ⟨bbu, qu, rfl, hc, hr⟩ (fun b hb hl => ⟨hb, hl⟩) fun _ _ _ => rfl)
          have HCwu : Hid (Below W1.heap.size W1 wu) := Lib.hid (below_step HCwy.out (by omega) hB)
          have HSx := Lib.hid (HSx.out.below hB)
          have HSy := Lib.hid (HSy.out.below hB)
          clear hB hc hr
          refine hK.out _ _ (HQ.out _ HCwu.out) (fun hHeld1 => ?_)
          clear hK K hHeld
          have hHeld := hHeld1
          clear hHeld1
          (try simp only [Act.put, List.setIfInBounds_toArray, List.set_cons_zero, List.set_cons_succ])
          refine rg_take (i := 12) (v := ?_) rfl (by kernel_rfl) (by kernel_rfl) (by kernel_rfl) (by rfl) ?_ hHeld ?_
          rotate_left 1
          · intro w hSw; (try dsimp only at hSw); go_simp; try (with_reducible rfl)
          (try simp only [Act.put, List.setIfInBounds_toArray, List.set_cons_zero, List.set_cons_succ])
          refine rg_only (i := 13) rfl (by kernel_rfl) (by rfl) (fun K hK => ?_)
          go_simp
          obtain ⟨wg, hwg⟩ : ∃ W : World, W = wu.alloc (.cells #[.int .i64 0, .int .i64 0, .string ⟨#[]⟩, .slice none 0 0, .int .i64 0, .int .i64 0, .string ⟨#[]⟩, .slice none 0 0, .slice none 0 0, .int .i64 0, .int .i64 0, .string ⟨#[]⟩, .slice none 0 0] 122) := ⟨_, rfl⟩
          have HG : Hid (Blk wg wu.heap.size [.int .i64 0, .int .i64 0, .string ⟨#[]⟩, .slice none 0 0, .int .i64 0, .int .i64 0, .string ⟨#[]⟩, .slice none 0 0, .slice none 0 0, .int .i64 0, .int .i64 0, .string ⟨#[]⟩, .slice none 0 0]) := Lib.hid (by rw [hwg]; exact Blk.new _ _ _ _ rfl)
          have hB : Below wu.heap.size wu wg := by rw [hwg]; exact below_alloc _ _
          have hzwg : wu.heap.size + 1 ≤ wg.heap.size := by rw [hwg]; simp
          rw [← hwg]
          clear hwg
          have HCwg : Hid (Below W1.heap.size W1 wg) := Lib.hid (below_step HCwu.out (by omega) hB)
          have HSx := Lib.hid (HSx.out.below hB)
          have HSy := Lib.hid (HSy.out.below hB)
          have HSu := Lib.hid (HSu.out.below hB)
          clear hB
          refine hK.out _ _ (HQ.out _ HCwg.out) (fun hHeld1 => ?_)
          clear hK K hHeld
          have hHeld := hHeld1
          clear hHeld1
          (try simp only [Act.put, List.setIfInBounds_toArray, List.set_cons_zero, List.set_cons_succ])
          refine rg_only (i := 14) rfl (by kernel_rfl) (by rfl) (fun K hK => ?_)
          refine wp_store_blk 122 13 szClau _ _ rfl rfl rfl rfl HG.out rfl rfl rfl ?_
          intro W' hF hs' hBW hoth
          have HF := Lib.hid hF
          have HFB : Hid (Below W1.heap.size W1 W') := Lib.hid (hBW _ _ (by omega) HCwg.out)
          have HOTH := Lib.hid hoth
          clear hF hBW hoth
          refine hK.out _ _ (HQ.out _ HFB.out) (fun hHeld1 => ?_)
          clear hK K hHeld
          have hHeld := hHeld1
          clear hHeld1
          (try simp only [Act.put, List.setIfInBounds_toArray, List.set_cons_zero, List.set_cons_succ])
          refine rg_done (by kernel_rfl) ?_
          clear hHeld
          go_wp2_with fail
          go_meet
          exact ⟨wu.heap.size, bbx, qx, bby, qy, bbu, qu, rfl, by omega, HFB.out, HF.out, HSx.out.to (fun b hb _ => ⟨by omega, by omega⟩) fun b hb _ => HOTH.out b (by omega), HSy.out.to (fun b hb _ => ⟨by omega, by omega⟩) fun b hb _ => HOTH.out b (by omega), HSu.out.to (fun b hb _ => ⟨by omega, by omega⟩) fun b hb _ => HOTH.out b (by omega)⟩
        · skip
          go_simp
          obtain ⟨wg, hwg⟩ : ∃ W : World, W = wy.alloc (.cells #[.int .i64 0, .int .i64 0, .string ⟨#[]⟩, .slice none 0 0, .int .i64 0, .int .i64 0, .string ⟨#[]⟩, .slice none 0 0, .slice none 0 0, .int .i64 0, .int .i64 0, .string ⟨#[]⟩, .slice none 0 0] 122) := ⟨_, rfl⟩
          have HG : Hid (Blk wg wy.heap.size [.int .i64 0, .int .i64 0, .string ⟨#[]⟩, .slice none 0 0, .int .i64 0, .int .i64 0, .string ⟨#[]⟩, .slice none 0 0, .slice none 0 0, .int .i64 0, .int .i64 0, .string ⟨#[]⟩, .slice none 0 0]) := Lib.hid (by rw [hwg]; exact Blk.new _ _ _ _ rfl)
          have hB : Below wy.heap.size wy wg := by rw [hwg]; exact below_alloc _ _
          have hzwg : wy.heap.size + 1 ≤ wg.heap.size := by rw [hwg]; simp
          rw [← hwg]
          clear hwg
          have HCwg : Hid (Below W1.heap.size W1 wg) := Lib.hid (below_step HCwy.out (by omega) hB)
          have HSx := Lib.hid (HSx.out.below hB)
          have HSy := Lib.hid (HSy.out.below hB)
          clear hB
          refine hK.out _ _ (HQ.out _ HCwg.out) (fun hHeld1 => ?_)
          clear hK K hHeld
          have hHeld := hHeld1
          clear hHeld1
          (try simp only [Act.put, List.setIfInBounds_toArray, List.set_cons_zero, List.set_cons_succ])
          refine rg_only (i := 11) rfl (by kernel_rfl) (by rfl) (fun K hK => ?_)
          go_simp
          go_at_call 70
          refine (copied_c u _ _ _ (HRu.out.below HCwg.out) (by omega)).mono ?_
          rintro e wu ⟨vu, rfl, hB, bbu, qu, rfl, hc, hr⟩
          have hzwu := hB.size
          have HSu : Hid (RT (fun b => wg.heap.size ≤ b ∧ b < wu.heap.size) wu u (.agg #[.int .i64 u.kind, .int .i64 u.n, .string u.name, .slice bbu u.args.length qu])) := Lib.hid (RT.to (S := _) ⟨bbu, qu, rfl, hc, hr⟩ (fun b hb hl => ⟨hb, hl⟩) fun _ _ _ => rfl)
          have HCwu : Hid (Below W1.heap.size W1 wu) := Lib.hid (below_step HCwg.out (by omega) hB)
          have HSx := Lib.hid (HSx.out.below hB)
          have HSy := Lib.hid (HSy.out.below hB)
          have HG := Lib.hid (HG.out.step hB)
          clear hB hc hr
          refine hK.out _ _ (HQ.out _ HCwu.out) (fun hHeld1 => ?_)
          clear hK K hHeld
          have hHeld := hHeld1
          clear hHeld1
          (try simp only [Act.put, List.setIfInBounds_toArray, List.set_cons_zero, List.set_cons_succ])
          refine rg_take (i := 12) (v := ?_) rfl (by kernel_rfl) (by kernel_rfl) (by kernel_rfl) (by rfl) ?_ hHeld ?_
          rotate_left 1
          · intro w hSw; (try dsimp only at hSw); go_simp; try (with_reducible rfl)
          (try simp only [Act.put, List.setIfInBounds_toArray, List.set_cons_zero, List.set_cons_succ])
          refine rg_only (i := 14) rfl (by kernel_rfl) (by rfl) (fun K hK => ?_)
          refine wp_store_blk 122 13 szClau _ _ rfl rfl rfl rfl HG.out rfl rfl rfl ?_
          intro W' hF hs' hBW hoth
          have HF := Lib.hid hF
          have HFB : Hid (Below W1.heap.size W1 W') := Lib.hid (hBW _ _ (by omega) HCwu.out)
          have HOTH := Lib.hid hoth
          clear hF hBW hoth
          refine hK.out _ _ (HQ.out _ HFB.out) (fun hHeld1 => ?_)
          clear hK K hHeld
          have hHeld := hHeld1
          clear hHeld1
          (try simp only [Act.put, List.setIfInBounds_toArray, List.set_cons_zero, List.set_cons_succ])
          refine rg_done (by kernel_rfl) ?_
          clear hHeld
          go_wp2_with fail
          go_meet
          exact ⟨wy.heap.size, bbx, qx, bby, qy, bbu, qu, rfl, by omega, HFB.out, HF.out, HSx.out.to (fun b hb _ => ⟨by omega, by omega⟩) fun b hb _ => HOTH.out b (by omega), HSy.out.to (fun b hb _ => ⟨by omega, by omega⟩) fun b hb _ => HOTH.out b (by omega), HSu.out.to (fun b hb _ => ⟨by omega, by omega⟩) fun b hb _ => HOTH.out b (by omega)⟩
      · skip
        go_simp
        obtain ⟨wg, hwg⟩ : ∃ W : World, W = wx.alloc (.cells #[.int .i64 0, .int .i64 0, .string ⟨#[]⟩, .slice none 0 0, .int .i64 0, .int .i64 0, .string ⟨#[]⟩, .slice none 0 0, .slice none 0 0, .int .i64 0, .int .i64 0, .string ⟨#[]⟩, .slice none 0 0] 122) := ⟨_, rfl⟩
        have HG : Hid (Blk wg wx.heap.size [.int .i64 0, .int .i64 0, .string ⟨#[]⟩, .slice none 0 0, .int .i64 0, .int .i64 0, .string ⟨#[]⟩, .slice none 0 0, .slice none 0 0, .int .i64 0, .int .i64 0, .string ⟨#[]⟩, .slice none 0 0]) := Lib.hid (by rw [hwg]; exact Blk.new _ _ _ _ rfl)
        have hB : Below wx.heap.size wx wg := by rw [hwg]; exact below_alloc _ _
        have hzwg : wx.heap.size + 1 ≤ wg.heap.size := by rw [hwg]; simp
        rw [← hwg]
        clear hwg
        have HCwg : Hid (Below W1.heap.size W1 wg) := Lib.hid (below_step HCwx.out (by omega) hB)
        have HSx := Lib.hid (HSx.out.below hB)
        clear hB
        refine hK.out _ _ (HQ.out _ HCwg.out) (fun hHeld1 => ?_)
        clear hK K hHeld
        have hHeld := hHeld1
        clear hHeld1
        (try simp only [Act.put, List.setIfInBounds_toArray, List.set_cons_zero, List.set_cons_succ])
        refine rg_only (i := 7) rfl (by kernel_rfl) (by rfl) (fun K hK => ?_)
        go_simp
        go_at_call 70
        refine (copied_c y _ _ _ (HRy.out.below HCwg.out) (by omega)).mono ?_
        rintro e wy ⟨vy, rfl, hB, bby, qy, rfl, hc, hr⟩
        have hzwy := hB.size
        have HSy : Hid (RT (fun b => wg.heap.size ≤ b ∧ b < wy.heap.size) wy y (.agg #[.int .i64 y.kind, .int .i64 y.n, .string y.name, .slice bby y.args.length qy])) := Lib.hid (RT.to (S := _) ⟨bby, qy, rfl, hc, hr⟩ (fun b hb hl => ⟨hb, hl⟩) fun _ _ _ => rfl)
        have HCwy : Hid (Below W1.heap.size W1 wy) := Lib.hid (below_step HCwg.out (by omega) hB)
        have HSx := Lib.hid (HSx.out.below hB)
        have HG := Lib.hid (HG.out.step hB)
        clear hB hc hr
        refine hK.out _ _ (HQ.out _ HCwy.out) (fun hHeld1 => ?_)
        clear hK K hHeld
        have hHeld := hHeld1
        clear hHeld1
        (try simp only [Act.put, List.setIfInBounds_toArray, List.set_cons_zero, List.set_cons_succ])
        refine rg_only (i := 11) rfl (by kernel_rfl) (by rfl) (fun K hK => ?_)
        go_simp
        go_at_call 70
        refine (copied_c u _ _ _ (HRu.out.below HCwy.out) (by omega)).mono ?_
        rintro e wu ⟨vu, rfl, hB, bbu, qu, rfl, hc, hr⟩
        have hzwu := hB.size
        have HSu : Hid (RT (fun b => wy.heap.size ≤ b ∧ b < wu.heap.size) wu u (.agg #[.int .i64 u.kind, .int .i64 u.n, .string u.name, .slice bbu u.args.length qu])) := Lib.hid (RT.to (S := _) ⟨bbu, qu, rfl, hc, hr⟩ (fun b hb hl => ⟨hb, hl⟩) fun _ _ _ => rfl)
        have HCwu : Hid (Below W1.heap.size W1 wu) := Lib.hid (below_step HCwy.out (by omega) hB)
        have HSx := Lib.hid (HSx.out.below hB)
        have HG := Lib.hid (HG.out.step hB)
        have HSy := Lib.hid (HSy.out.below hB)
        clear hB hc hr
        refine hK.out _ _ (HQ.out _ HCwu.out) (fun hHeld1 => ?_)
        clear hK K hHeld
        have hHeld := hHeld1
        clear hHeld1
        (try simp only [Act.put, List.setIfInBounds_toArray, List.set_cons_zero, List.set_cons_succ])
        refine rg_take (i := 12) (v := ?_) rfl (by kernel_rfl) (by kernel_rfl) (by kernel_rfl) (by rfl) ?_ hHeld ?_
        rotate_left 1
        · intro w hSw; (try dsimp only at hSw); go_simp; try (with_reducible rfl)
        (try simp only [Act.put, List.setIfInBounds_toArray, List.set_cons_zero, List.set_cons_succ])
        refine rg_only (i := 14) rfl (by kernel_rfl) (by rfl) (fun K hK => ?_)
        refine wp_store_blk 122 13 szClau _ _ rfl rfl rfl rfl HG.out rfl rfl rfl ?_
        intro W' hF hs' hBW hoth
        have HF := Lib.hid hF
        have HFB : Hid (Below W1.heap.size W1 W') := Lib.hid (hBW _ _ (by omega) HCwu.out)
        have HOTH := Lib.hid hoth
        clear hF hBW hoth
        refine hK.out _ _ (HQ.out _ HFB.out) (fun hHeld1 => ?_)
        clear hK K hHeld
        have hHeld := hHeld1
        clear hHeld1
        (try simp only [Act.put, List.setIfInBounds_toArray, List.set_cons_zero, List.set_cons_succ])
        refine rg_done (by kernel_rfl) ?_
        clear hHeld
        go_wp2_with fail
        go_meet
        exact ⟨wx.heap.size, bbx, qx, bby, qy, bbu, qu, rfl, by omega, HFB.out, HF.out, HSx.out.to (fun b hb _ => ⟨by omega, by omega⟩) fun b hb _ => HOTH.out b (by omega), HSy.out.to (fun b hb _ => ⟨by omega, by omega⟩) fun b hb _ => HOTH.out b (by omega), HSu.out.to (fun b hb _ => ⟨by omega, by omega⟩) fun b hb _ => HOTH.out b (by omega)⟩
    · skip
      go_simp
      obtain ⟨wg, hwg⟩ : ∃ W : World, W = Wd.alloc (.cells #[.int .i64 0, .int .i64 0, .string ⟨#[]⟩, .slice none 0 0, .int .i64 0, .int .i64 0, .string ⟨#[]⟩, .slice none 0 0, .slice none 0 0, .int .i64 0, .int .i64 0, .string ⟨#[]⟩, .slice none 0 0] 122) := ⟨_, rfl⟩
      have HG : Hid (Blk wg Wd.heap.size [.int .i64 0, .int .i64 0, .string ⟨#[]⟩, .slice none 0 0, .int .i64 0, .int .i64 0, .string ⟨#[]⟩, .slice none 0 0, .slice none 0 0, .int .i64 0, .int .i64 0, .string ⟨#[]⟩, .slice none 0 0]) := Lib.hid (by rw [hwg]; exact Blk.new _ _ _ _ rfl)
      have hB : Below Wd.heap.size Wd wg := by rw [hwg]; exact below_alloc _ _
      have hzwg : Wd.heap.size + 1 ≤ wg.heap.size := by rw [hwg]; simp
      rw [← hwg]
      clear hwg
      have HCwg : Hid (Below W1.heap.size W1 wg) := Lib.hid (below_step HCWd.out (by omega) hB)
      clear hB
      refine hK.out _ _ (HQ.out _ HCwg.out) (fun hHeld1 => ?_)
      clear hK K hHeld
      have hHeld := hHeld1
      clear hHeld1
      (try simp only [Act.put, List.setIfInBounds_toArray, List.set_cons_zero, List.set_cons_succ])
      refine rg_only (i := 3) rfl (by kernel_rfl) (by rfl) (fun K hK => ?_)
      go_simp
      go_at_call 70
      refine (copied_c x _ _ _ (HRx.out.below HCwg.out) (by omega)).mono ?_
      rintro e wx ⟨vx, rfl, hB, bbx, qx, rfl, hc, hr⟩
      have hzwx := hB.size
      have HSx : Hid (RT (fun b => wg.heap.size ≤ b ∧ b < wx.heap.size) wx x (.agg #[.int .i64 x.kind, .int .i64 x.n, .string x.name, .slice bbx x.args.length qx])) := Lib.hid (RT.to (S := _) ⟨bbx, qx, rfl, hc, hr⟩ (fun b hb hl => ⟨hb, hl⟩) fun _ _ _ => rfl)
      have HCwx : Hid (Below W1.heap.size W1 wx) := Lib.hid (below_step HCwg.out (by omega) hB)
      have HG := Lib.hid (HG.out.step hB)
      clear hB hc hr
      refine hK.out _ _ (HQ.out _ HCwx.out) (fun hHeld1 => ?_)
      clear hK K hHeld
      have hHeld := hHeld1
      clear hHeld1
      (try simp only [Act.put, List.setIfInBounds_toArray, List.set_cons_zero, List.set_cons_succ])
      refine rg_only (i := 7) rfl (by kernel_rfl) (by rfl) (fun K hK => ?_)
      go_simp
      go_at_call 70
      refine (copied_c y _ _ _ (HRy.out.below HCwx.out) (by omega)).mono ?_
      rintro e wy ⟨vy, rfl, hB, bby, qy, rfl, hc, hr⟩
      have hzwy := hB.size
      have HSy : Hid (RT (fun b => wx.heap.size ≤ b ∧ b < wy.heap.size) wy y (.agg #[.int .i64 y.kind, .int .i64 y.n, .string y.name, .slice bby y.args.length qy])) := Lib.hid (RT.to (S := _) ⟨bby, qy, rfl, hc, hr⟩ (fun b hb hl => ⟨hb, hl⟩) fun _ _ _ => rfl)
      have HCwy : Hid (Below W1.heap.size W1 wy) := Lib.hid (below_step HCwx.out (by omega) hB)
      have HG := Lib.hid (HG.out.step hB)
      have HSx := Lib.hid (HSx.out.below hB)
      clear hB hc hr
      refine hK.out _ _ (HQ.out _ HCwy.out) (fun hHeld1 => ?_)
      clear hK K hHeld
      have hHeld := hHeld1
      clear hHeld1
      (try simp only [Act.put, List.setIfInBounds_toArray, List.set_cons_zero, List.set_cons_succ])
      refine rg_only (i := 11) rfl (by kernel_rfl) (by rfl) (fun K hK => ?_)
      go_simp
      go_at_call 70
      refine (copied_c u _ _ _ (HRu.out.below HCwy.out) (by omega)).mono ?_
      rintro e wu ⟨vu, rfl, hB, bbu, qu, rfl, hc, hr⟩
      have hzwu := hB.size
      have HSu : Hid (RT (fun b => wy.heap.size ≤ b ∧ b < wu.heap.size) wu u (.agg #[.int .i64 u.kind, .int .i64 u.n, .string u.name, .slice bbu u.args.length qu])) := Lib.hid (RT.to (S := _) ⟨bbu, qu, rfl, hc, hr⟩ (fun b hb hl => ⟨hb, hl⟩) fun _ _ _ => rfl)
      have HCwu : Hid (Below W1.heap.size W1 wu) := Lib.hid (below_step HCwy.out (by omega) hB)
      have HG := Lib.hid (HG.out.step hB)
      have HSx := Lib.hid (HSx.out.below hB)
      have HSy := Lib.hid (HSy.out.below hB)
      clear hB hc hr
      refine hK.out _ _ (HQ.out _ HCwu.out) (fun hHeld1 => ?_)
      clear hK K hHeld
      have hHeld := hHeld1
      clear hHeld1
      (try simp only [Act.put, List.setIfInBounds_toArray, List.set_cons_zero, List.set_cons_succ])
      refine rg_take (i := 12) (v := ?_) rfl (by kernel_rfl) (by kernel_rfl) (by kernel_rfl) (by rfl) ?_ hHeld ?_
      rotate_left 1
      · intro w hSw; (try dsimp only at hSw); go_simp; try (with_reducible rfl)
      (try simp only [Act.put, List.setIfInBounds_toArray, List.set_cons_zero, List.set_cons_succ])
      refine rg_only (i := 14) rfl (by kernel_rfl) (by rfl) (fun K hK => ?_)
      refine wp_store_blk 122 13 szClau _ _ rfl rfl rfl rfl HG.out rfl rfl rfl ?_
      intro W' hF hs' hBW hoth
      have HF := Lib.hid hF
      have HFB : Hid (Below W1.heap.size W1 W') := Lib.hid (hBW _ _ (by omega) HCwu.out)
      have HOTH := Lib.hid hoth
      clear hF hBW hoth
      refine hK.out _ _ (HQ.out _ HFB.out) (fun hHeld1 => ?_)
      clear hK K hHeld
      have hHeld := hHeld1
      clear hHeld1
      (try simp only [Act.put, List.setIfInBounds_toArray, List.set_cons_zero, List.set_cons_succ])
      refine rg_done (by kernel_rfl) ?_
      clear hHeld
      go_wp2_with fail
      go_meet
      exact ⟨Wd.heap.size, bbx, qx, bby, qy, bbu, qu, rfl, by omega, HFB.out, HF.out, HSx.out.to (fun b hb _ => ⟨by omega, by omega⟩) fun b hb _ => HOTH.out b (by omega), HSy.out.to (fun b hb _ => ⟨by omega, by omega⟩) fun b hb _ => HOTH.out b (by omega), HSu.out.to (fun b hb _ => ⟨by omega, by omega⟩) fun b hb _ => HOTH.out b (by omega)⟩
  case rest =>
    obtain ⟨g, a1, p1, a2, p2, a4, p4, rfl, hg, hB2, hG, hx, hy, hu⟩ := hcut
    have hgl := hG.lt
    have hs2 := hB2.size
    have HB2 := Lib.hid hB2
    have HG := Lib.hid hG
    have HX := Lib.hid hx
    have HY := Lib.hid hy
    have HU := Lib.hid hu
    obtain ⟨hcz, hrz⟩ := HRz.out.rts
    have HRZ := Lib.hid hrz
    have hq3 : wc.cell? ⟨bq, oq + 11, none⟩ = some (.slice az z.args.length pz) := (hB2.cell (p := ⟨bq, oq + 11, none⟩) hbq).trans z3
    have hlz := length_le_bulk z.args
    have hlz' := bulk_args z
    clear x0 x1 x2 x3 y0 y1 y2 y3 z0 z1 z2 z3 u0 u1 u2 u3 hB2 hG hx hy hu hrz
    go_wp2_with fail
    go_loopw [49] (fun i wr => ∃ (k : Nat) (ds : List Deed) (row : Value), k ≤ z.args.length ∧ i = .int .i64 k ∧ mapO deedO (z.args.take k) = some ds ∧ OwnXG deedE deedF.e (fun b => wc.heap.size ≤ b) wc.heap.size wr row ds ∧ Keep (fun b => b = g) wc wr ∧ Blk wr g [.int .i64 x.kind, .int .i64 x.n, .string x.name, .slice a1 x.args.length p1, .int .i64 y.kind, .int .i64 y.n, .string y.name, .slice a2 y.args.length p2, row, .int .i64 u.kind, .int .i64 u.n, .string u.name, .slice a4 u.args.length p4]) (fun i _ => z.args.length - (intOf i).toNat)
    case atStart => exact ⟨0, [], _, Nat.zero_le _, rfl, rfl, OwnXG.nil _ _ _ _, Keep.refl _ _, HG.out⟩
    case round =>
      obtain ⟨k, ds, row, hkl, rfl, hm, hO, hK, hGr⟩ := hrel
      have hsz := hK.size
      have hml := mapO_length hm
      have hnl : ds.length ≤ k := by rw [hml]; simp; omega
      have HM := Lib.hid hm
      have HO := Lib.hid hO
      have HK := Lib.hid hK
      have HGR := Lib.hid hGr
      have HBr : Hid (Below w.heap.size w wr) := Lib.hid ((HB0.out.trans ((HB1.out.trans (HB2.out.mono (by omega))).mono (by omega))).trans (hK.below (by omega) fun b e => by omega))
      have HZr : Hid (Blk wr (w.heap.size + 1) [.int .i64 0, .int .i64 0, .string ⟨#[]⟩, .slice none 0 0, .int .i64 0, .int .i64 0, .string ⟨#[]⟩, .slice none 0 0, .slice none 0 0, .int .i64 0, .int .i64 0, .string ⟨#[]⟩, .slice none 0 0]) := Lib.hid (((HZ.out.step HB1.out).step HB2.out).keep hK (by omega))
      clear hm hO hK hGr hml
      by_cases hlt : k < z.args.length
      · obtain ⟨bz, oz, rfl⟩ := HRZ.out.addr (by omega)
        obtain ⟨a', cap', hSb, d0, d1, d2, d3, hE⟩ := (HRZ.out.keep ((Keep.of (R := fun b => b = g) HB2.out).trans HK.out) (fun b hb => by omega)).elem k hlt
        have hbk := bulk_at hlt
        have hE := Lib.hid hE
        go_wp2_with fail
        refine (cact_c z.args[k] _ _ _ (hE.out.alloc _) (by omega)).mono ?_
        rintro e w1 ⟨d, b1, q1, b2, q2, he, hB, hr1, hr2, hd⟩
        have hs1 := hB.size
        simp only [World.size_alloc] at hs1
        have HA1 := Lib.hid hB
        have HBt : Hid (Below w.heap.size w w1) := Lib.hid (below_step (HBr.out.alloc (by omega) _) (by simp; omega) hB)
        have HZt := Lib.hid ((HZr.out.alloc (.cells #[.int .i64 z.args[k].kind, .int .i64 z.args[k].n, .string z.args[k].name, .slice a' z.args[k].args.length cap'] 29)).step hB)
        have HGt := Lib.hid ((HGR.out.alloc (.cells #[.int .i64 z.args[k].kind, .int .i64 z.args[k].n, .string z.args[k].name, .slice a' z.args[k].args.length cap'] 29)).step hB)
        have HOt := Lib.hid ((HO.out.below (below_alloc wr (.cells #[.int .i64 z.args[k].kind, .int .i64 z.args[k].n, .string z.args[k].name, .slice a' z.args[k].args.length cap'] 29))).below hB)
        have HKt := Lib.hid ((HK.out.alloc (.cells #[.int .i64 z.args[k].kind, .int .i64 z.args[k].n, .string z.args[k].name, .slice a' z.args[k].args.length cap'] 29)).then hB)
        clear d0 d1 d2 d3
        rcases hod : deedO z.args[k] with _ | dd
        · rw [hod] at he
          simp only [Option.isSome] at he
          subst he
          have HN2 : Hid (clauO t = none) := Lib.hid (by unfold clauO; rw [H1.out]; simp only; rw [mapO_bad hlt hod]; simp)
          clear hod hd hr1 hr2 hB
          go_wp2_with (first | (refine store_blk 122 13 szClau _ _ rfl rfl rfl rfl rfl (HZt.out.alloc _) rfl rfl rfl ?_; intro W' hF hs' hBW hoth; have HF := Lib.hid hF; have HFB := Lib.hid (hBW _ _ (by omega) (HBt.out.alloc (by omega) _)); have HOTH := Lib.hid hoth; clear hF hBW hoth))
          refine bodyPost_ret (results_blk Try.results105 szClau _ Try.underlying122 rfl rfl HF.out rfl) rfl (TellP.zeroC HN2.out rfl HFB.out)
        · obtain rfl := hd dd hod
          rw [hod] at he
          simp only [Option.isSome] at he
          subst he
          have HM2 : Hid (mapO deedO (z.args.take (k + 1)) = some (ds ++ [dd])) := Lib.hid (by rw [mapO_snoc _ hlt, HM.out, hod])
          have HC : Hid (deedC (fun b => wr.heap.size + 1 ≤ b) (w1.alloc (.cells #[.int .i64 dd.kind, .int .i64 dd.to.kind, .int .i64 dd.to.n, .string dd.to.name, .slice b1 dd.to.args.length q1, .int .i64 dd.what.kind, .int .i64 dd.what.n, .string dd.what.name, .slice b2 dd.what.args.length q2, .string dd.name, .int .i64 dd.var] 124)) dd [.int .i64 dd.kind, .int .i64 dd.to.kind, .int .i64 dd.to.n, .string dd.to.name, .slice b1 dd.to.args.length q1, .int .i64 dd.what.kind, .int .i64 dd.what.n, .string dd.what.name, .slice b2 dd.what.args.length q2, .string dd.name, .int .i64 dd.var]) := Lib.hid ⟨b1, q1, b2, q2, rfl, (hr1.mono (fun b hb => by simpa using hb)).alloc _, (hr2.mono (fun b hb => by simpa using hb)).alloc _⟩
          have HOB := Lib.hid HO.out.block
          have g8 := HGt.out.cell 8 _ rfl
          have gf := HGt.out.fr
          have hgl1 := HGt.out.lt
          have hgc : g < wc.heap.size := hgl
          have hfr : g ≠ w1.heap.size := by omega
          have hfr' : g ≠ w1.heap.size + 1 := by omega
          clear hod hd hr1 hr2 hB
          go_wp2_with (at_builtin; refine append_growX deedF _ _ rfl rfl rfl rfl (by simp) (HOt.out.below (below_alloc _ _)) HC.out (fun b hb hl => ⟨by omega, fun he => by have := HOB.out b he; omega⟩) rfl (by omega) (by simp; omega) ?_; intro gg cg w3 hO3 hB3 hG3 hD3; have g83 := (hB3.cell (p := ⟨g, 8, none⟩) hgc).trans ((HGt.out.alloc _).cell 8 _ rfl); have gf3 := fun o => (hB3.frozen (p := ⟨g, o, none⟩) hgc).trans ((HGt.out.alloc _).fr o); have HO3 := Lib.hid hO3; have HB3 := Lib.hid hB3; clear hO3 hB3 hG3 hD3)
          go_roundw
          case rel =>
            refine ⟨k + 1, ds ++ [dd], .slice (some ⟨gg, 0, none⟩) (ds.length + 1) cg, by omega, by go_num, HM2.out, HO3.out.setCell g 8 _ hgc (Nat.not_le.2 hgc), ?_, ?_⟩
            · exact ((HKt.out.alloc _).thenB HB3.out).setCell _ (.inl rfl)
            · exact (((HGt.out.alloc _).below HB3.out hgc).set 8 _ (by simp))
          case measure => simp [intOf]; omega
      · have hkk : k = z.args.length := by omega
        subst hkk
        obtain ⟨ar, capr, rfl, hcr⟩ := HO.out.form
        have HCL : Hid (clauO t = some ⟨x, y, ds, u⟩) := Lib.hid (by unfold clauO; rw [H1.out]; simp only; rw [if_pos (by simpa using HN.out)]; have := HM.out; rw [List.take_of_length_le (Nat.le_refl _)] at this; rw [this]; rfl)
        go_wp2_with (first | (refine load_blk 122 13 szClau _ Try.underlying122 rfl _ rfl rfl rfl HGR.out rfl ?_) | (refine store_blk 122 13 szClau _ _ rfl rfl rfl rfl rfl (HZr.out) rfl rfl rfl ?_; intro W' hF hs' hBW hoth; have HF := Lib.hid hF; have HFB := Lib.hid (hBW _ _ (by omega) (HBr.out)); have HOTH := Lib.hid hoth; clear hF hBW hoth))
        refine bodyPost_ret (results_blk Try.results105 szClau _ Try.underlying122 rfl rfl HF.out rfl) rfl ⟨⟨x, y, ds, u⟩, [.int .i64 x.kind, .int .i64 x.n, .string x.name, .slice a1 x.args.length p1, .int .i64 y.kind, .int .i64 y.n, .string y.name, .slice a2 y.args.length p2, .slice ar ds.length capr, .int .i64 u.kind, .int .i64 u.n, .string u.name, .slice a4 u.args.length p4], by rw [HCL.out]; rfl, HFB.out, ?_, fun c' h => by rw [HCL.out] at h; exact (Option.some.inj h).symm⟩
        have key : ∀ b, b ≠ w.heap.size + 1 → b < wr.heap.size → W'.heap[b]? = wr.heap[b]? := fun b hb _ => HOTH.out b hb
        refine ⟨a1, p1, a2, p2, ar, capr, a4, p4, rfl, ?_, ?_, ?_, ?_⟩
        · exact (HX.out.keep HK.out (fun b hb => hb.2)).to (fun b hb _ => by omega) fun b hb hl => key b (by omega) hl
        · exact (HY.out.keep HK.out (fun b hb => hb.2)).to (fun b hb _ => by omega) fun b hb hl => key b (by omega) hl
        · exact (HO.out.rx (fun b hb => hb)).to (fun b hb _ => by omega) (fun b hb _ => by omega) fun b hb hl => key b (by omega) hl
        · exact (HU.out.keep HK.out (fun b hb => hb.2)).to (fun b hb _ => by omega) fun b hb hl => key b (by omega) hl

theorem clause_c (t : T) (S : Nat → Prop) (w : World) (v : Value) (hv : RT S w t v) (hb : bulkL [t] ≤ 274877906944) : Calls Try.prog 105 #[v] w (TellP clauE clauO w t) := by
  cases h : restL sOn t with
  | none => exact clause_none t S w v hv hb h
  | some l =>
    by_cases hl : l.length = 4
    · obtain ⟨x, y, z, u, rfl⟩ : ∃ x y z u, l = [x, y, z, u] := (by match l, hl with | [x, y, z, u], _ => exact ⟨x, y, z, u, rfl⟩)
      by_cases hk : z.kind = 4
      · exact clause_main t S w v hv hb x y z u h hk
      · exact clause_kind t S w v hv hb x y z u h hk
    · exact clause_len t S w v hv hb l h hl
end Go.Proofs.Ytedfepnekjjmnaa
