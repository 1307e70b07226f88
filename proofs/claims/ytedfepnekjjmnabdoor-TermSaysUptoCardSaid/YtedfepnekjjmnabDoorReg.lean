/-
  A region that draws its order, gone through one operation at a time: each move by a law of its own. No condition.
-/
import Derived.Test.YtedfepnekjjmnabDoorBlk
import Derived.Test.YtedfepnekjjmnabDoorOwn
import Derived.Deep.RegionHeld3
namespace Go.Proofs.YtedfepnekjjmnabDoor
open Go.RowKit
set_option linter.unusedSimpArgs false
set_option linter.unusedVariables false

section
variable {P : Program} {ops : Array Oper} {Q : Exit → Act → World → Prop} {S : World → Prop} {fuel : Nat} {listed : Array Bool} {a : Act} {w : World} {i : Nat} {oi : Oper} {tl : List Oper}
theorem rg_at {ops : Array Oper} {i : Nat} {oi : Oper} {tl : List Oper} (h : ops.toList.drop i = oi :: tl) : ops[i]? = some oi := by
  have h1 : (ops.toList.drop i)[0]? = some oi := by rw [h]; rfl
  rw [List.getElem?_drop] at h1
  simpa using h1
/-- The beginning. -/
theorem rg_begin (S : World → Prop) {id : Nat} (hm : P.follows .mixedOrders = true) (hS : S w.drew) (h : S w.drew → wpAnyH P .any ops (NoPanic Q) S ops.size (Array.replicate ops.size false) a w.drew) : (Code.region id ops true).wp P Q a w :=
  wp_region_noPanic (wp_region_held hm (h hS))
/-- The beginning, the world behind the draw a letter. -/
theorem rg_start (S : World → Prop) {id : Nat} (hm : P.follows .mixedOrders = true) (hS : ∀ Wd, Below w.heap.size w Wd → S Wd)
    (h : ∀ Wd, Below w.heap.size w Wd → w.heap.size ≤ Wd.heap.size → Wd.heap.size ≤ w.heap.size → S Wd → wpAnyH P .any ops (NoPanic Q) S ops.size (Array.replicate ops.size false) a Wd) : (Code.region id ops true).wp P Q a w :=
  wp_region_noPanic (wp_region_held hm (h w.drew (Below.refl _ _).drew (Nat.le_refl _) (Nat.le_refl _) (hS _ (Below.refl _ _).drew)))
/-- An operation that only reads what S says. -/
theorem rg_take (v : Value) (hi : ops.toList.drop i = oi :: tl) (hs : Region.noSelect ops = true) (hf : Region.free .any ops listed i = true) (hr : (Region.ready .any ops listed).contains i = true)
    (hw : Region.wanted oi (yielded ops a.tmps) = true) (hy : ∀ w, S w → (execOp a.eval oi).run P w = .ok (.value v) w) (hS : S w)
    (h : wpAnyH P .any ops (NoPanic Q) S fuel (listed.setIfInBounds i true) (a.put oi.dst v) w) : wpAnyH P .any ops (NoPanic Q) S (fuel + 1) listed a w :=
  wpAnyH_take (rg_at hi) hs hf hr (fun _ _ _ h => h) (.inl ⟨hw, hy⟩) hS h
/-- One whose guard says no. -/
theorem rg_off (hi : ops.toList.drop i = oi :: tl) (hs : Region.noSelect ops = true) (hf : Region.free .any ops listed i = true) (hr : (Region.ready .any ops listed).contains i = true)
    (hw : Region.wanted oi (yielded ops a.tmps) = false) (hS : S w)
    (h : wpAnyH P .any ops (NoPanic Q) S fuel (listed.setIfInBounds i true) (a.put oi.dst undef) w) : wpAnyH P .any ops (NoPanic Q) S (fuel + 1) listed a w :=
  wpAnyH_take (rg_at hi) hs hf hr (fun _ _ _ h => h) (.inr ⟨hw, rfl⟩) hS h
/-- The one operation that may come up. -/
theorem rg_only (hi : ops.toList.drop i = oi :: tl) (hr : Region.ready .any ops listed = [i]) (hw : Region.wanted oi (yielded ops a.tmps) = true)
    (h : ∀ K : Act → World → Prop, Hid (∀ a' w', S w' → (S w' → wpAnyH P .any ops (NoPanic Q) S fuel (listed.setIfInBounds i true) a' w') → K a' w') → Oper.wp P oi a w K (NoPanic Q)) : wpAnyH P .any ops (NoPanic Q) S (fuel + 1) listed a w := by
  refine wpAnyH_all hr (by simp) fun j hj => ?_
  obtain rfl : j = i := by simpa using hj
  unfold wpOp
  simp only [rg_at hi, hw, if_true]
  exact .inl (h _ (Lib.hid fun a' w' h1 h2 => ⟨h1, h2 h1⟩))
/-- Two that may come up. -/
theorem rg_two {j : Nat} {oj : Oper} {tlj : List Oper} (hi : ops.toList.drop i = oi :: tl) (hj : ops.toList.drop j = oj :: tlj) (hr : Region.ready .any ops listed = [i, j]) (hw : Region.wanted oi (yielded ops a.tmps) = true) (hwj : Region.wanted oj (yielded ops a.tmps) = true)
    (h : ∀ K : Act → World → Prop, Hid (∀ a' w', S w' → (S w' → wpAnyH P .any ops (NoPanic Q) S fuel (listed.setIfInBounds i true) a' w') → K a' w') → Oper.wp P oi a w K (NoPanic Q))
    (h' : ∀ K : Act → World → Prop, Hid (∀ a' w', S w' → (S w' → wpAnyH P .any ops (NoPanic Q) S fuel (listed.setIfInBounds j true) a' w') → K a' w') → Oper.wp P oj a w K (NoPanic Q)) : wpAnyH P .any ops (NoPanic Q) S (fuel + 1) listed a w := by
  refine wpAnyH_all hr (by simp) fun m hm => ?_
  simp only [List.mem_cons, List.not_mem_nil, or_false] at hm
  rcases hm with rfl | rfl
  · unfold wpOp
    simp only [rg_at hi, hw, if_true]
    exact .inl (h _ (Lib.hid fun a' w' h1 h2 => ⟨h1, h2 h1⟩))
  · unfold wpOp
    simp only [rg_at hj, hwj, if_true]
    exact .inl (h' _ (Lib.hid fun a' w' h1 h2 => ⟨h1, h2 h1⟩))
theorem rg_done (hr : Region.ready .any ops listed = []) (h : Q .normal a w) : wpAnyH P .any ops (NoPanic Q) S fuel listed a w := wpAnyH_done hr (NoPanic.normal h) fuel
end
section
variable {o : Oper} {a : Act} {Q : Exit → Act → World → Prop} {K : Act → World → Prop} {w : World}
/-- 'x = v' of a struct variable. -/
theorem wp_store_blk (ty : TypeId) (k : Nat) (hi : (Tryd.prog.info? ty).map (·.size) = some k) (x y : Operand) (ho : o.op = .store ty x y) (hd : o.dst = none)
    {B : Nat} {old : List Value} {cells : Array Value} (hx : a.eval x = .pointer (some ⟨B, 0, none⟩)) (hy : a.eval y = .agg cells) (hB : Blk w B old) (hl : old.length = k) (hc : cells.size = k) (h1 : cells.toList.all (·.oneCell') = true)
    (h : ∀ w', Blk w' B cells.toList → w'.heap.size = w.heap.size → (∀ N a, N ≤ B → Below N a w → Below N a w') → (∀ b, b ≠ B → w'.heap[b]? = w.heap[b]?) → K a w') :
    Oper.wp Tryd.prog o a w K Q := by
  have hk : old.length = cells.size := by omega
  refine wp_store_mid ty x y ho B 0 cells hx hy (by rw [← hk]; exact hB.there) (by rw [hi, hc]) (by rw [← Array.all_toList]; exact h1) ?_
  rw [hd, setCells_all]
  have hs := setAll_heap w B cells.toList 0
  exact h _ (hB.stored _ (by simpa using hk.symm)) hs.1 (fun N a hN hb => setAll_below hb B hN _ _) hs.2
/-- 'append(s, x)', whatever the element. -/
theorem wp_growX {X : Type} {E : El X} (F : ElT E) (s x : Operand) (hgd : o.guard = none) (ho : o.op = .call { callee := .builtin .append, args := #[s, x], argTypes := #[F.sl, F.sl] })
    {P R : Nat → Prop} {base : Nat} {w0 : World} {v : Value} {xs : List X} {y : X} {c : Array Value} {g0 n : Nat} (hs : a.eval s = v) (hx : a.eval x = .slice (some ⟨g0, 0, none⟩) 1 1) (hg0 : g0 = w0.heap.size) (hown : OwnXG E F.e P base w0 v xs)
    (ht : E.C R w0 y c.toList) (hR : ∀ b, R b → b < w0.heap.size → P b ∧ v.ownBlock ≠ some b) (hnl : xs.length = n) (hn : n + 1 ≤ 274877906944) (hbase : base ≤ w0.heap.size)
    (h : ∀ g cap w', OwnXG E F.e P base w' (.slice (some ⟨g, 0, none⟩) (n + 1) cap) (xs ++ [y]) → Below base w0 w' → (w0.alloc (.cells c F.e)).grownBy w' v.ownBlock → (v.ownBlock = some g ∨ w0.heap.size < g) → K (a.put o.dst (.slice (some ⟨g, 0, none⟩) (n + 1) cap)) w') :
    Oper.wp Tryd.prog o a (w0.alloc (.cells c F.e)) K Q := by
  have h1 := step_growX (ops := #[]) (Q := Q) (W := True) F s x hgd ho hs hx hg0 hown ht hR hnl hn hbase h
  rwa [if_pos (by simp [Region.wanted, hgd])] at h1
end
end Go.Proofs.YtedfepnekjjmnabDoor
