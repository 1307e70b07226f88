/-
  A struct variable stored, read and handed back whole. No condition.
-/
import Derived.Test.YtedfepnekjjmnabDoorDeed
import Derived.Deep.MidRow
namespace Go.Proofs.YtedfepnekjjmnabDoor
open Go.RowKit
set_option linter.unusedSimpArgs false
set_option linter.unusedVariables false

theorem Blk.range {w : World} {B : Nat} {cs : List Value} (h : Blk w B cs) : w.rangeAt B 0 cs := fun j v hv => by rw [Nat.zero_add]; exact h.cell j v hv
theorem Blk.there {w : World} {B : Nat} {cs : List Value} (h : Blk w B cs) : w.there B 0 cs.length := fun j hj => by
  rw [Nat.zero_add, h.cell j cs[j] (by simp [hj])]
  exact ⟨rfl, h.fr j⟩
theorem setCells_all (w : World) (B : Nat) : ∀ (cs : List Value) (i : Nat), w.setCells B i cs = setAll w B i cs := by
  intro cs
  induction cs generalizing w with
  | nil => intro i; rfl
  | cons c cs ih => intro i; rw [setAll, ← ih]; rfl
section
variable {ops : Array Oper} {rest : List Oper} {o : Oper} {a : Act} {Q : Exit → Act → World → Prop} {w : World}
/-- 'x = v' of a struct variable. -/
theorem store_blk (ty : TypeId) (k : Nat) (hi : (Tryd.prog.info? ty).map (·.size) = some k) (x y : Operand) (hgd : o.guard = none) (ho : o.op = .store ty x y) (hd : o.dst = none)
    {B : Nat} {old : List Value} {cells : Array Value} (hx : a.eval x = .pointer (some ⟨B, 0, none⟩)) (hy : a.eval y = .agg cells) (hB : Blk w B old) (hl : old.length = k) (hc : cells.size = k) (h1 : cells.toList.all (·.oneCell') = true)
    (h : ∀ w', Blk w' B cells.toList → w'.heap.size = w.heap.size → (∀ N a, N ≤ B → Below N a w → Below N a w') → (∀ b, b ≠ B → w'.heap[b]? = w.heap[b]?) → wpList Tryd.prog ops Q rest a w') :
    wpList Tryd.prog ops Q (o :: rest) a w := by
  have hk : old.length = cells.size := by omega
  refine wpList_store_mid hgd ty x y ho B 0 cells hx hy (by rw [← hk]; exact hB.there) (by rw [hi, hc]) (by rw [← Array.all_toList]; exact h1) ?_
  rw [hd, setCells_all]
  have hs := setAll_heap w B cells.toList 0
  exact h _ (hB.stored _ (by simpa using hk.symm)) hs.1 (fun N a hN hb => setAll_below hb B hN _ _) hs.2
/-- The same at a step of a region that draws its order. -/
theorem step_store_blk {K : Act → World → Prop} {E : Prop} (ty : TypeId) (k : Nat) (hi : (Tryd.prog.info? ty).map (·.size) = some k) (x y : Operand) (hgd : o.guard = none) (ho : o.op = .store ty x y) (hd : o.dst = none)
    {B : Nat} {old : List Value} {cells : Array Value} (hx : a.eval x = .pointer (some ⟨B, 0, none⟩)) (hy : a.eval y = .agg cells) (hB : Blk w B old) (hl : old.length = k) (hc : cells.size = k) (h1 : cells.toList.all (·.oneCell') = true)
    (h : ∀ w', Blk w' B cells.toList → w'.heap.size = w.heap.size → (∀ N a, N ≤ B → Below N a w → Below N a w') → (∀ b, b ≠ B → w'.heap[b]? = w.heap[b]?) → K a w') :
    if Region.wanted o (yielded ops a.tmps) = true then Oper.wp Tryd.prog o a w K Q else E := by
  have hk : old.length = cells.size := by omega
  have hw : Region.wanted o (yielded ops a.tmps) = true := by simp [Region.wanted, hgd]
  rw [if_pos hw]
  refine wp_store_mid ty x y ho B 0 cells hx hy (by rw [← hk]; exact hB.there) (by rw [hi, hc]) (by rw [← Array.all_toList]; exact h1) ?_
  rw [hd, setCells_all]
  have hs := setAll_heap w B cells.toList 0
  exact h _ (hB.stored _ (by simpa using hk.symm)) hs.1 (fun N a hN hb => setAll_below hb B hN _ _) hs.2
/-- 'x' of a struct variable, whole. -/
theorem load_blk (ty : TypeId) (k : Nat) (hi : (Tryd.prog.info? ty).map (·.size) = some k) (d : TypeDesc) (hu : Tryd.prog.underlying ty = some d) (hr : d.isRow = true) (x : Operand) (hgd : o.guard = none) (ho : o.op = .load ty x)
    {B : Nat} {cs : List Value} (hx : a.eval x = .pointer (some ⟨B, 0, none⟩)) (hB : Blk w B cs) (hl : cs.length = k)
    (h : wpList Tryd.prog ops Q rest (a.put o.dst (.agg cs.toArray)) w) : wpList Tryd.prog ops Q (o :: rest) a w :=
  wpList_load_mid hgd ty x ho B 0 hx cs d hB.range hu hr (by rw [hi, hl]) h
end
/-- A struct and something else, handed back. -/
theorem results_blk {fn : Func} {t s : Tmp} {ty k : Nat} (h : fn.results = #[.cell t ty, .tmp s]) (hi : (Tryd.prog.info? ty).map (·.size) = some k) (d : TypeDesc) (hu : Tryd.prog.underlying ty = some d) (hr : d.isRow = true)
    {tmps : Array Value} {w : World} {B : Nat} {cs : List Value} (hx : tmps.getD t undef = .pointer (some ⟨B, 0, none⟩)) (hB : Blk w B cs) (hl : cs.length = k) :
    (results fn tmps).run Tryd.prog w = .ok (.tuple #[.agg cs.toArray, tmps.getD s undef]) w := by
  have h1 := run_loadVar_mid (P := Tryd.prog) w B 0 ty cs d hB.range hu hr (by rw [hi, hl])
  have h2 : (asAddr (tmps.getD t undef)).run Tryd.prog w = .ok ⟨B, 0, none⟩ w := by rw [hx]; rfl
  simp only [Array.getD_eq_getD_getElem?] at h2 ⊢
  simp [results, h, h1, h2]
theorem szDeed : (Tryd.prog.info? 76).map (·.size) = some 11 := by kernel_rfl
theorem szClau : (Tryd.prog.info? 79).map (·.size) = some 13 := by kernel_rfl
theorem szBeh : (Tryd.prog.info? 62).map (·.size) = some 2 := by kernel_rfl
theorem szTerm : (Tryd.prog.info? 24).map (·.size) = some 4 := by kernel_rfl
end Go.Proofs.YtedfepnekjjmnabDoor
