/-
  A term stored into a row of the call's own. No condition.
-/
import Derived.Test.YtedfepnekjjmnabDoorGrow
import Derived.Laws.Rows
namespace Go.Proofs.YtedfepnekjjmnabDoor
open Go.RowKit
set_option linter.unusedSimpArgs false
set_option linter.unusedVariables false

/-- All that was there is as it was, but for the blocks of R. -/
structure Keep (R : Nat → Prop) (w w' : World) : Prop where
  os : w'.os = w.os
  tape : w'.tape = w.tape
  output : w'.output = w.output
  size : w.heap.size ≤ w'.heap.size
  block : ∀ k, k < w.heap.size → ¬ R k → w'.heap[k]? = w.heap[k]?

theorem Keep.refl (R : Nat → Prop) (w : World) : Keep R w w := ⟨rfl, rfl, rfl, Nat.le_refl _, fun _ _ _ => rfl⟩
theorem Keep.trans {R : Nat → Prop} {a b c : World} (h : Keep R a b) (k : Keep R b c) : Keep R a c :=
  ⟨k.os.trans h.os, k.tape.trans h.tape, k.output.trans h.output, Nat.le_trans h.size k.size, fun i hi hr => (k.block i (Nat.lt_of_lt_of_le hi h.size) hr).trans (h.block i hi hr)⟩
theorem Keep.of {R : Nat → Prop} {w w' : World} (h : Below w.heap.size w w') : Keep R w w' := ⟨h.os, h.tape, h.output, h.size, fun k hk _ => h.block k hk⟩
theorem Keep.then {R : Nat → Prop} {a b c : World} (h : Keep R a b) (k : Below b.heap.size b c) : Keep R a c := h.trans (Keep.of k)
theorem Keep.mono {R R' : Nat → Prop} {w w' : World} (h : Keep R w w') (hr : ∀ b, b < w.heap.size → R b → R' b) : Keep R' w w' := ⟨h.os, h.tape, h.output, h.size, fun k hk hn => h.block k hk fun e => hn (hr k hk e)⟩
theorem Keep.below {R : Nat → Prop} {w w' : World} (h : Keep R w w') {B : Nat} (hB : B ≤ w.heap.size) (hr : ∀ b, R b → B ≤ b) : Below B w w' := ⟨h.os, h.tape, h.output, h.size, fun k hk => h.block k (by omega) fun e => by have := hr k e; omega⟩
theorem Keep.drew {R : Nat → Prop} {a w : World} (h : Keep R a w) : Keep R a w.drew := ⟨h.os, h.tape, h.output, h.size, h.block⟩
theorem Keep.alloc {R : Nat → Prop} {a w : World} (h : Keep R a w) (o : Obj) : Keep R a (w.alloc o) := h.then (below_alloc w o)
/-- A store into a block of R, or into a new one. -/
theorem Keep.setCell {R : Nat → Prop} {a w : World} (h : Keep R a w) {b o : Nat} (u : Value) (hb : R b ∨ a.heap.size ≤ b) : Keep R a (w.setCell ⟨b, o, none⟩ u) :=
  ⟨h.os, h.tape, h.output, by simpa using h.size, fun k hk hn => by rw [setCell_other w b o u k (fun e => by subst e; rcases hb with hb | hb; exact hn hb; omega)]; exact h.block k hk hn⟩
theorem Keep.cell {R : Nat → Prop} {w w' : World} (h : Keep R w w') (b o : Nat) (hb : b < w.heap.size) (hr : ¬ R b) : w'.cell? ⟨b, o, none⟩ = w.cell? ⟨b, o, none⟩ := World.cell?_of_block (w := w) (h.block b hb hr)
theorem Keep.frozen {R : Nat → Prop} {w w' : World} (h : Keep R w w') (b o : Nat) (hb : b < w.heap.size) (hr : ¬ R b) : w'.frozen? ⟨b, o, none⟩ = w.frozen? ⟨b, o, none⟩ := World.frozen?_of_block (w := w) (h.block b hb hr)
theorem RT.keep {R S : Nat → Prop} {w w' : World} {t : T} {v : Value} (h : RT S w t v) (hK : Keep R w w') (hs : ∀ b, S b → ¬ R b) : RT S w' t v := h.to (fun _ h _ => h) fun b hb hl => hK.block b hl (hs b hb)
theorem RTs.keep {R S : Nat → Prop} {w w' : World} {ts : List T} {a : Option Addr} {i : Nat} (h : RTs S w ts a i) (hK : Keep R w w') (hs : ∀ b, S b → ¬ R b) : RTs S w' ts a i := h.to (fun _ h _ => h) fun b hb hl => hK.block b hl (hs b hb)
theorem RSl.keep {R S : Nat → Prop} {w w' : World} {ts : List T} {v : Value} (h : RSl S w ts v) (hK : Keep R w w') (hs : ∀ b, S b → ¬ R b) : RSl S w' ts v := h.to (fun _ h _ => h) fun b hb hl => hK.block b hl (hs b hb)

theorem CellsT.set {S : Nat → Prop} {w : World} {t : T} {a : Option Addr} {cap : Nat} (hc : CapOk a t.args.length cap) (hr : RTs S w t.args a 0) : ∀ {ts : List T} {cs : List Value} {k : Nat}, CellsT S w ts cs → k < ts.length →
    CellsT S w (ts.set k t) ((((cs.set (k * 4) (.int .i64 t.kind)).set (k * 4 + 1) (.int .i64 t.n)).set (k * 4 + 2) (.string t.name)).set (k * 4 + 3) (.slice a t.args.length cap))
  | [], _, _, _, hk => by cases hk
  | x :: ts, cs, 0, h, _ => by
    obtain ⟨a', cap', cs', rfl, h1, h2, h3⟩ := h
    exact ⟨a, cap, cs', rfl, hc, hr, h3⟩
  | x :: ts, cs, k + 1, h, hk => by
    obtain ⟨a', cap', cs', rfl, h1, h2, h3⟩ := h
    have := CellsT.set hc hr h3 (k := k) (by simpa using hk)
    refine ⟨a', cap', _, ?_, h1, h2, this⟩
    rw [show (k + 1) * 4 = k * 4 + 1 + 1 + 1 + 1 by omega]
    simp only [List.set_cons_succ]

theorem OwnG.store {P R : Nat → Prop} {base g n cap k : Nat} {w : World} {ts : List T} {t : T} {c0 c1 c2 c3 : Value} (h : OwnG P base w (.slice (some ⟨g, 0, none⟩) n cap) ts) (hk : k < ts.length) (hr : RT R w t (.agg #[c0, c1, c2, c3]))
    (hR : ∀ b, R b → b < w.heap.size → P b ∧ b ≠ g) :
    OwnG P base ((((w.setCell ⟨g, k * 4, none⟩ c0).setCell ⟨g, k * 4 + 1, none⟩ c1).setCell ⟨g, k * 4 + 2, none⟩ c2).setCell ⟨g, k * 4 + 3, none⟩ c3) (.slice (some ⟨g, 0, none⟩) n cap) (ts.set k t) := by
  obtain ⟨cs, ⟨h1, h2⟩, hC⟩ := h
  obtain ⟨a, capt, ev, hct, hrt⟩ := hr
  simp only [Value.agg.injEq, Array.mk.injEq, List.cons.injEq, and_true] at ev
  obtain ⟨rfl, rfl, rfl, rfl⟩ := ev
  rcases h2 with ⟨h2, -⟩ | ⟨g', cap', cur, ev, hg, hh, hn, hm, hcs, htk⟩
  · cases h2
  simp only [Value.slice.injEq, Option.some.injEq, Addr.mk.injEq, and_true] at ev
  obtain ⟨rfl, rfl, rfl⟩ := ev
  have e1 := heap_setCell_same w g (k * 4) cur 24 (.int .i64 t.kind) hh
  have e2 := heap_setCell_same _ g (k * 4 + 1) _ 24 (.int .i64 t.n) e1
  have e3 := heap_setCell_same _ g (k * 4 + 2) _ 24 (.string t.name) e2
  have e4 := heap_setCell_same _ g (k * 4 + 3) _ 24 (.slice a t.args.length capt) e3
  refine ⟨_, ⟨?_, .inr ⟨g, cap, _, by simp, hg, e4, ?_, hm, by simp [hcs], rfl⟩⟩, ?_⟩
  · simp only [Array.toList_setIfInBounds, List.take_set, htk, List.length_set, h1]
  · simpa using hn
  · simp only [Array.toList_setIfInBounds]
    have hl : (ts.set k t).length = ts.length := by simp
    rw [hl, List.take_set, List.take_set, List.take_set, List.take_set, htk]
    have key : ∀ b, b ≠ g → ((((w.setCell ⟨g, k * 4, none⟩ (.int .i64 t.kind)).setCell ⟨g, k * 4 + 1, none⟩ (.int .i64 t.n)).setCell ⟨g, k * 4 + 2, none⟩ (.string t.name)).setCell ⟨g, k * 4 + 3, none⟩ (.slice a t.args.length capt)).heap[b]? = w.heap[b]? := fun b hb => by
      simp only [setCell_other _ _ _ _ _ hb]
    have hne : ∀ b, (Value.slice (some ⟨g, 0, none⟩) ts.length cap).ownBlock ≠ some b → b ≠ g := fun b hb e => hb (by subst e; rfl)
    refine CellsT.set hct (hrt.to (fun b hb hl => ⟨(hR b hb hl).1, by simpa using hl, fun e => (hR b hb hl).2 (by simpa [Value.ownBlock] using e.symm)⟩) fun b hb hl => key b (hR b hb hl).2) ?_ hk
    exact hC.to (fun b hb _ => ⟨hb.1, by simpa using hb.2.1, hb.2.2⟩) fun b hb _ => key b (hne b hb.2.2)
theorem OwnG.frozen {P : Nat → Prop} {base g n cap : Nat} {w : World} {ts : List T} (h : OwnG P base w (.slice (some ⟨g, 0, none⟩) n cap) ts) (o : Nat) : w.frozen? ⟨g, o, none⟩ = false := by
  obtain ⟨cs, ⟨h1, h2⟩, hC⟩ := h
  rcases h2 with ⟨h2, -⟩ | ⟨g', cap', cur, ev, hg, hh, -⟩
  · cases h2
  simp only [Value.slice.injEq, Option.some.injEq, Addr.mk.injEq, and_true] at ev
  obtain ⟨rfl, -, -⟩ := ev
  exact frozen_of_row w g o cur 24 hh
end Go.Proofs.YtedfepnekjjmnabDoor
