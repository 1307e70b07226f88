/-
  Contracts and plain laws, joined: RepP RowG Zeros. Conditions stand in each.
-/
import Derived.Lib.AppendZerosOnto
import Derived.Test.YtedfepnekjjmnabJc
import Derived.Test.YtedfepnekjjmnabHeap2
/-
  What a word stands for in a heap: plain words.
-/
namespace Go.Proofs.Ytedfepnekjjmnab
open Go.RowKit
set_option linter.unusedSimpArgs false
set_option linter.unusedVariables false

/-- Words that stand for terms. -/
def RepL (H : HS) : List T → List Wrd → Prop
  | [], xs => xs = []
  | ⟨k, n, s, l⟩ :: ts, xs => ∃ x r, xs = x :: r ∧
      (if k = 4 then n = 0 ∧ s = ⟨#[]⟩ ∧ ∃ i : Nat, x = ⟨4, i⟩ ∧ H.ws[i]? = some ⟨0, l.length⟩ ∧ i + 1 + l.length ≤ H.ws.length ∧ RepL H l (partsL H i l.length)
       else if k = 2 then n = 0 ∧ l = [] ∧ ∃ i : Nat, x = ⟨2, i⟩ ∧ H.names[i]? = some s
       else (k = 1 ∨ k = 3) ∧ s = ⟨#[]⟩ ∧ l = [] ∧ x = ⟨k, n⟩) ∧ RepL H ts r
def Rep (H : HS) (t : T) (x : Wrd) : Prop :=
  if t.kind = 4 then t.n = 0 ∧ t.name = ⟨#[]⟩ ∧ ∃ i : Nat, x = ⟨4, i⟩ ∧ H.ws[i]? = some ⟨0, t.args.length⟩ ∧ i + 1 + t.args.length ≤ H.ws.length ∧ RepL H t.args (partsL H i t.args.length)
  else if t.kind = 2 then t.n = 0 ∧ t.args = [] ∧ ∃ i : Nat, x = ⟨2, i⟩ ∧ H.names[i]? = some t.name
  else (t.kind = 1 ∨ t.kind = 3) ∧ t.name = ⟨#[]⟩ ∧ t.args = [] ∧ x = ⟨t.kind, t.n⟩
theorem RepL_nil (H : HS) (xs : List Wrd) : RepL H [] xs ↔ xs = [] := by rw [RepL]
theorem RepL_cons (H : HS) (t : T) (ts : List T) (xs : List Wrd) : RepL H (t :: ts) xs ↔ ∃ x r, xs = x :: r ∧ Rep H t x ∧ RepL H ts r := by
  obtain ⟨k, n, s, l⟩ := t; rw [RepL]; rfl
theorem RepL.length {H : HS} : ∀ {ts : List T} {xs : List Wrd}, RepL H ts xs → xs.length = ts.length
  | [], xs, h => by rw [RepL_nil] at h; rw [h]; rfl
  | t :: ts, xs, h => by
    obtain ⟨x, r, rfl, -, h2⟩ := (RepL_cons H t ts xs).1 h
    simp [h2.length]
theorem RepL.at {H : HS} : ∀ {ts : List T} {xs : List Wrd}, RepL H ts xs → ∀ i (h1 : i < ts.length) (h2 : i < xs.length), Rep H ts[i] xs[i]
  | [], xs, h, i, h1, h2 => by cases h1
  | t :: ts, xs, h, i, h1, h2 => by
    obtain ⟨x, r, rfl, h3, h4⟩ := (RepL_cons H t ts xs).1 h
    cases i with
    | zero => exact h3
    | succ i => exact h4.at i (by simpa using h1) (by simpa using h2)
theorem RepL.of {H : HS} : ∀ {ts : List T} {xs : List Wrd}, xs.length = ts.length → (∀ i (h1 : i < ts.length) (h2 : i < xs.length), Rep H ts[i] xs[i]) → RepL H ts xs
  | [], xs, hl, _ => by rw [RepL_nil]; exact List.eq_nil_of_length_eq_zero hl
  | t :: ts, [], hl, _ => by simp at hl
  | t :: ts, x :: xs, hl, h => (RepL_cons H t ts (x :: xs)).2 ⟨x, xs, rfl, h 0 (by simp) (by simp), RepL.of (by simpa using hl) fun i h1 h2 => h (i + 1) (by simpa using h1) (by simpa using h2)⟩
/-- A word that stands for a term stands. -/
theorem Rep.kinds {H : HS} {t : T} {x : Wrd} (h : Rep H t x) : x.kind = t.kind := by
  unfold Rep at h
  split at h
  · rename_i hk; obtain ⟨-, -, i, rfl, -⟩ := h; exact hk.symm
  · split at h
    · rename_i hk; obtain ⟨-, -, i, rfl, -⟩ := h; exact hk.symm
    · obtain ⟨-, -, -, rfl⟩ := h; rfl
theorem Rep.tup {H : HS} {t : T} {x : Wrd} (h : Rep H t x) (hk : t.kind = 4) : t.n = 0 ∧ t.name = ⟨#[]⟩ ∧ ∃ i : Nat, x = ⟨4, i⟩ ∧ H.ws[i]? = some ⟨0, t.args.length⟩ ∧ i + 1 + t.args.length ≤ H.ws.length ∧ RepL H t.args (partsL H i t.args.length) := by
  unfold Rep at h; rwa [if_pos hk] at h
theorem Rep.atom {H : HS} {t : T} {x : Wrd} (h : Rep H t x) (hk : t.kind = 2) : t.n = 0 ∧ t.args = [] ∧ ∃ i : Nat, x = ⟨2, i⟩ ∧ H.names[i]? = some t.name := by
  unfold Rep at h; rwa [if_neg (by omega), if_pos hk] at h
theorem Rep.leaf {H : HS} {t : T} {x : Wrd} (h : Rep H t x) (h4 : t.kind ≠ 4) (h2 : t.kind ≠ 2) : (t.kind = 1 ∨ t.kind = 3) ∧ t.name = ⟨#[]⟩ ∧ t.args = [] ∧ x = ⟨t.kind, t.n⟩ := by
  unfold Rep at h; rwa [if_neg h4, if_neg h2] at h
end Go.Proofs.Ytedfepnekjjmnab

/-
  Rows of terms of one's own, more laws: written out, stored beside, grown at a drawn step; a struct read out of the midst of a row. No condition.
-/
namespace Go.Proofs.Ytedfepnekjjmnab
open Go.RowKit
set_option linter.unusedSimpArgs false
set_option linter.unusedVariables false

theorem OwnG.store1 {P : Nat → Prop} {base : Nat} {w : World} {v : Value} {ts : List T} (h : OwnG P base w v ts) (B o : Nat) (u : Value) (hB : v.ownBlock ≠ some B) (hP : ¬ P B) : OwnG P base (w.setCell ⟨B, o, none⟩ u) v ts :=
  h.to (by simp) fun b hb _ => setCell_other w B o u b fun e => by
    subst e
    rcases hb with hb | hb
    · exact hP hb
    · exact hB hb
theorem OwnG.lit {P S : Nat → Prop} {base : Nat} {w : World} {ts : List T} {cs : List Value} (h : CellsT S w ts cs) (hS : ∀ b, S b → b < w.heap.size → P b) (hb : base ≤ w.heap.size) {n : Nat} (hn : ts.length = n) (hm : n ≤ 1099511627776) {B : Nat} (hB : B = w.heap.size) :
    OwnG P base (w.alloc (.cells cs.toArray 24)) (.slice (some ⟨B, 0, none⟩) n n) ts := by
  subst hn hB
  have h1 := World.ownsRow_lit (e := 24) (size := 4) (base := base) w cs.toArray ts.length hb (by unfold maxLen; omega) (by simpa using h.length)
  refine ⟨cs, by simpa using h1, ?_⟩
  exact ((h.to (S' := fun b => P b ∧ b < w.heap.size + 1 ∧ b ≠ w.heap.size) (fun b hb hl => ⟨hS b hb hl, by omega, by omega⟩) fun b _ hl => Below.heap_alloc _ _ _ hl).to (fun b hb _ => ⟨hb.1, by simpa using hb.2.1, fun e => hb.2.2 (by simpa [Value.ownBlock] using e.symm)⟩) fun _ _ _ => rfl)
theorem CellsT.tup {S : Nat → Prop} {w : World} {l : List T} {a : Option Addr} {n cap : Nat} {ts : List T} {cs : List Value} (ht : RT S w (tupT l) (.agg #[.int .i64 4, .int .i64 0, .string ⟨#[]⟩, .slice a n cap])) (h : CellsT S w ts cs) : CellsT S w (tupT l :: ts) (.int .i64 4 :: .int .i64 0 :: .string ⟨#[]⟩ :: .slice a n cap :: cs) := by
  obtain ⟨a', cap', e, h1, h2⟩ := ht
  simp only [tupT, Value.agg.injEq, Array.mk.injEq, List.cons.injEq, Value.slice.injEq, and_true, true_and] at e
  obtain ⟨rfl, rfl, rfl⟩ := e
  exact ⟨_, _, cs, rfl, h1, h2, h⟩
theorem Blk.heap {w w' : World} {B : Nat} {cs : List Value} (h : Blk w B cs) (he : w'.heap[B]? = w.heap[B]?) : Blk w' B cs := by
  have hlt : B < w'.heap.size := by
    have h1 : w.heap[B]? = some (w.heap[B]'h.lt) := Array.getElem?_eq_getElem h.lt
    rw [h1] at he
    exact (Array.getElem?_eq_some_iff.1 he).1
  exact ⟨hlt, fun j u hu => (World.cell?_of_block (w := w) (a := ⟨B, j, none⟩) he).trans (h.cell j u hu), fun o => (World.frozen?_of_block (w := w) (a := ⟨B, o, none⟩) he).trans (h.fr o)⟩
section
variable {ops : Array Oper} {rest : List Oper} {o : Oper} {a : Act} {Q : Exit → Act → World → Prop} {K : Act → World → Prop} {w : World}
theorem load_at (ty : TypeId) (k : Nat) (hi : (Try.prog.info? ty).map (·.size) = some k) (d : TypeDesc) (hu : Try.prog.underlying ty = some d) (hr : d.isRow = true) (x : Operand) (hgd : o.guard = none) (ho : o.op = .load ty x)
    {b off : Nat} {cs : List Value} (hx : a.eval x = .pointer (some ⟨b, off, none⟩)) (hR : w.rangeAt b off cs) (hl : cs.length = k)
    (h : wpList Try.prog ops Q rest (a.put o.dst (.agg cs.toArray)) w) : wpList Try.prog ops Q (o :: rest) a w :=
  wpList_load_mid hgd ty x ho b off hx cs d hR hu hr (by rw [hi, hl]) h
theorem step_grow2 {K : Act → World → Prop} {E : Prop} (s x : Operand) (hgd : o.guard = none) (ho : o.op = .call { callee := .builtin .append, args := #[s, x], argTypes := #[22, 22] })
    {P R : Nat → Prop} {base : Nat} {w0 : World} {v : Value} {ts : List T} {t : T} {c0 c1 c2 c3 : Value} {g0 n : Nat} (hs : a.eval s = v) (hx : a.eval x = .slice (some ⟨g0, 0, none⟩) 1 1) (hg0 : g0 = w0.heap.size) (hown : OwnG P base w0 v ts)
    (ht : RT R w0 t (.agg #[c0, c1, c2, c3])) (hR : ∀ b, R b → b < w0.heap.size → P b ∧ v.ownBlock ≠ some b) (hnl : ts.length = n) (hn : n + 1 ≤ 1099511627776) (hbase : base ≤ w0.heap.size)
    (h : ∀ g cap w', OwnG P base w' (.slice (some ⟨g, 0, none⟩) (n + 1) cap) (ts ++ [t]) → (w0.alloc (.cells #[c0, c1, c2, c3] 24)).grownBy w' v.ownBlock → Below base w0 w' → (v.ownBlock = some g ∨ w0.heap.size < g) → K (a.put o.dst (.slice (some ⟨g, 0, none⟩) (n + 1) cap)) w') :
    if Region.wanted o (yielded ops a.tmps) = true then Oper.wp Try.prog o a (w0.alloc (.cells #[c0, c1, c2, c3] 24)) K Q else E := by
  subst hg0 hnl
  have hlt := hown.block
  obtain ⟨i, hi, hz0, hz1, hz2⟩ := info_parts info24
  have hown1 : OwnT (fun b => P b ∧ b < w0.heap.size ∧ v.ownBlock ≠ some b) base (w0.alloc (.cells #[c0, c1, c2, c3] 24)) v ts := OwnT.to hown (Nat.le_refl _) (fun _ h _ => h) fun b _ hb => Below.heap_alloc _ _ _ hb
  have hl := (ht.to (S' := fun b => P b ∧ b < w0.heap.size ∧ v.ownBlock ≠ some b) (fun b hb hl => ⟨(hR b hb hl).1, hl, (hR b hb hl).2⟩) fun _ _ _ => rfl).one 24
  obtain ⟨cs, ho1, hC⟩ := hown1
  obtain ⟨au, cap, ds, e, hcap, hD, hj⟩ := hl
  simp only [Value.slice.injEq] at e
  obtain ⟨rfl, -, rfl⟩ := e
  refine step_append_lies _ hgd s x 22 ho base 24 i _ 4 56 Try.underlying22 hi hz0 hz1 hz2 rfl (by decide) v _ cs hs ho1 ⟨w0.heap.size, 0, none⟩ 1 1 ds hx (by simpa using hD.length) ?_ hD.oneCell (by decide) (by unfold maxLen; omega) (by omega) (by simp; omega) _ rfl ?_
  · intro j u' hu
    obtain ⟨b, o', e, _, hc⟩ := hj j u' hu
    simp only [Option.some.injEq] at e
    rw [e]
    unfold Addr.add
    split
    · rename_i h0; subst h0; exact hc
    · exact hc
  · intro g cap w' h1 h2 h3 h4
    have h2s := h2.size
    simp only [World.size_alloc] at h2s h3
    have hblk : ∀ b, (P b ∧ b < w0.heap.size ∧ v.ownBlock ≠ some b) → b < (w0.alloc (.cells #[c0, c1, c2, c3] 24)).heap.size → w'.heap[b]? = (w0.alloc (.cells #[c0, c1, c2, c3] 24)).heap[b]? := fun b hb hlt => h2.block b hlt (fun e => hb.2.2 e.symm)
    have hO : OwnT (fun b => P b ∧ b < w0.heap.size ∧ v.ownBlock ≠ some b) base w' (.slice (some ⟨g, 0, none⟩) (ts.length + 1) cap) (ts ++ [t]) := ⟨cs ++ ds, by simpa using h1, (hC.to (fun _ h _ => h) hblk).append (hD.to (fun _ h _ => h) hblk)⟩
    refine h g cap w' (hO.to (Nat.le_refl _) (fun b hb _ => ⟨hb.1, by have := hb.2.1; omega, fun e => ?_⟩) fun _ _ _ => rfl) h2 ?_ ?_
    · simp only [Value.ownBlock, Option.some.injEq] at e
      subst e
      rcases h3 with h5 | h5
      · exact hb.2.2 h5
      · have := hb.2.1; omega
    · exact grown_below ((Below.refl _ _).alloc hbase _) h2 (by simp; omega) fun b hb => (hlt b hb).1
    · rcases h3 with h5 | h5
      · exact .inl h5
      · exact .inr (by omega)
theorem wp_grow (s x : Operand) (hgd : o.guard = none) (ho : o.op = .call { callee := .builtin .append, args := #[s, x], argTypes := #[22, 22] })
    {P R : Nat → Prop} {base : Nat} {w0 : World} {v : Value} {ts : List T} {t : T} {c0 c1 c2 c3 : Value} {g0 n : Nat} (hs : a.eval s = v) (hx : a.eval x = .slice (some ⟨g0, 0, none⟩) 1 1) (hg0 : g0 = w0.heap.size) (hown : OwnG P base w0 v ts)
    (ht : RT R w0 t (.agg #[c0, c1, c2, c3])) (hR : ∀ b, R b → b < w0.heap.size → P b ∧ v.ownBlock ≠ some b) (hnl : ts.length = n) (hn : n + 1 ≤ 1099511627776) (hbase : base ≤ w0.heap.size)
    (h : ∀ g cap w', OwnG P base w' (.slice (some ⟨g, 0, none⟩) (n + 1) cap) (ts ++ [t]) → (w0.alloc (.cells #[c0, c1, c2, c3] 24)).grownBy w' v.ownBlock → Below base w0 w' → (v.ownBlock = some g ∨ w0.heap.size < g) → K (a.put o.dst (.slice (some ⟨g, 0, none⟩) (n + 1) cap)) w') :
    Oper.wp Try.prog o a (w0.alloc (.cells #[c0, c1, c2, c3] 24)) K Q := by
  have h1 := step_grow2 (ops := #[]) (Q := Q) (E := True) s x hgd ho hs hx hg0 hown ht hR hnl hn hbase h
  rwa [if_pos (by simp [Region.wanted, hgd])] at h1
end
end Go.Proofs.Ytedfepnekjjmnab

/-
  'append(words, make([]Word, n)...)' on a row of the call's own. No condition but a bound.
-/
namespace Go.Proofs.Ytedfepnekjjmnab
open Go.RowKit
set_option linter.unusedSimpArgs false
set_option linter.unusedVariables false

theorem zeros_eq (n : Nat) : (Builtin.zeroCells #[.int .i64 0, .int .i64 0] n).toList = List.replicate (n * 2) (.int .i64 0) := by
  rw [List.eq_replicate_iff]
  refine ⟨by simp [Builtin.zeroCells], fun b hb => ?_⟩
  unfold Builtin.zeroCells at hb
  rw [Array.toList_map, List.mem_map] at hb
  obtain ⟨i, -, rfl⟩ := hb
  show (#[Value.int .i64 0, Value.int .i64 0] : Array Value)[i % 2]! = _
  rcases Nat.mod_two_eq_zero_or_one i with h | h <;> rw [h] <;> rfl
theorem zeros_size (n : Nat) : (Builtin.zeroCells #[.int .i64 0, .int .i64 0] n).size = n * 2 := by simp [Builtin.zeroCells]
theorem cells_zeros (S : Nat → Prop) (w : World) (n : Nat) : CellsX wrdE S w (List.replicate n ⟨0, 0⟩) (List.replicate (n * 2) (.int .i64 0)) := by
  induction n with
  | zero => rfl
  | succ n ih => exact ⟨[.int .i64 0, .int .i64 0], _, by rw [show (n + 1) * 2 = n * 2 + 1 + 1 by omega]; rfl, rfl, ih⟩
theorem owns_app {w : World} {v : Value} {l m : List Wrd} {cs : List Value} (S : Nat → Prop) (h : w.ownsRow 0 31 2 v (l ++ m).length cs) (hC : CellsX wrdE S w (l ++ m) cs) : OwnW w v (l ++ m) := by
  refine ⟨cs, h, ?_⟩
  clear h
  generalize l ++ m = k at hC ⊢
  induction k generalizing cs with
  | nil => exact hC
  | cons x k ih => obtain ⟨c, cs', rfl, h1, h2⟩ := hC; exact ⟨c, cs', rfl, h1, ih h2⟩
theorem cellsW {S S' : Nat → Prop} {w w' : World} {l : List Wrd} {cs : List Value} (hC : CellsX wrdE S w l cs) : CellsX wrdE S' w' l cs := by
  induction l generalizing cs with
  | nil => exact hC
  | cons x k ih => obtain ⟨c, cs', rfl, h1, h2⟩ := hC; exact ⟨c, cs', rfl, h1, ih h2⟩
theorem infoWord : (Try.prog.info? 31).map (fun i => (i.zero, i.size, i.bytes)) = some (some (.agg #[.int .i64 0, .int .i64 0]), 2, 16) := by kernel_rfl

theorem run_append_zeros (w : World) (ty : TypeId) (v : Value) (l : List Wrd) (n : Nat) (hown : OwnW w v l) (hn : l.length + n ≤ 137438953472) :
    ∃ a cap w', (Builtin.append_ #[37, 3] ty #[v, .int .i64 n]).run Try.prog w = .ok (.slice a (l.length + n) cap) w' ∧ OwnW w' (.slice a (l.length + n) cap) (l ++ List.replicate n ⟨0, 0⟩) ∧ w.grownBy w' v.ownBlock ∧
      (∀ b, (Value.slice a (l.length + n) cap).ownBlock = some b → v.ownBlock = some b ∨ w.heap.size ≤ b) := by
  obtain ⟨i, hi, hz, his, hib⟩ := info_parts infoWord
  obtain ⟨cs, hrow, hC⟩ := hown
  have hlen : (l ++ List.replicate n (⟨0, 0⟩ : Wrd)).length = l.length + n := by simp
  have hcl : cs.length = l.length * 2 := hC.length
  have hw : IntKind.i64.wrap (n : Int) = n := by rw [IntKind.wrap_i64]; omega
  have hneg : ¬ ((n : Int) < 0) := by omega
  have hw0 : IntKind.i64.wrap 0 = 0 := by decide
  have h48i : ¬ (281474976710656 < (n : Int) * (i.bytes : Int)) := by rw [hib]; omega
  rcases hrow.2 with ⟨rfl, h0⟩ | ⟨g, cap, cur, rfl, hbg, hg, hnc, hcm, hcs, htake⟩
  · have hl0 : l = [] := List.eq_nil_of_length_eq_zero h0
    subst hl0
    have hcs0 : cs = [] := List.eq_nil_of_length_eq_zero (by simpa using hcl)
    subst hcs0
    by_cases hn0 : n = 0
    · subst hn0
      refine ⟨none, 0, w, ?_, OwnXG.nil _ _ _ _, ⟨rfl, rfl, rfl, Nat.le_refl _, fun _ _ _ => rfl⟩, fun b hb => .inl hb⟩
      simp [Builtin.append_, run_underlying Try.underlying37, run_underlying Try.underlying3, sizeOf, typeInfo, hi, asInt, asIntOf, hw0]
    · have hr := Lib.run_append_nil_zeros (P := Try.prog) w 37 3 ty 31 i _ .i64 .i64 Try.underlying37 Try.underlying3 hi hz n (by omega) (by rw [his]; omega) (by omega) (by rw [hib]; omega)
      have hge := grownCap_ge w n 0 31
      have hcm : grownCap w n 0 31 ≤ maxLen := grownCap_le_maxLen w n 0 31 (by unfold maxLen; omega)
      refine ⟨some ⟨w.heap.size, 0, none⟩, grownCap w n 0 31, w.drew.alloc (.cells (Builtin.zeroCells #[.int .i64 0, .int .i64 0] n ++ Builtin.zeroCells #[.int .i64 0, .int .i64 0] (grownCap w n 0 31 - n)) 31), by simpa [Value.cells] using hr, ?_, ⟨rfl, rfl, rfl, by simp, fun k hk _ => heap_alloc_old w.drew _ hk⟩, fun b hb => .inr ?_⟩
      · refine owns_app (fun _ => True) (cs := List.replicate (n * 2) (.int .i64 0)) ?_ (by simpa using cells_zeros _ _ n)
        refine ⟨by simp, .inr ⟨w.heap.size, _, _, by simp, Nat.zero_le _, heap_alloc_new w.drew _, by simpa using hge, hcm, ?_, ?_⟩⟩
        · simp only [Array.size_append, zeros_size]; omega
        · simp only [Array.toList_append, zeros_eq]
          rw [List.take_left' (by simp)]
      · simp only [Value.ownBlock, Option.some.injEq] at hb; omega
  · have hcs : cur.size = cap * 2 := hcs
    have htake : cur.toList.take (l.length * 2) = cs := htake
    by_cases hroom : l.length + n ≤ cap
    · have hst := run_storeCells_at Try.prog g (l.length * 2) 31 (List.replicate (n * 2) (Value.int .i64 0)) 0 cur w hg (by rw [List.length_replicate]; omega) (by intro u hu; rw [List.eq_of_mem_replicate hu]; rfl)
      simp only [Nat.add_zero, List.length_replicate] at hst
      refine ⟨some ⟨g, 0, none⟩, cap, w.setRow g (cur.toList.take (l.length * 2) ++ List.replicate (n * 2) (Value.int .i64 0) ++ cur.toList.drop (l.length * 2 + n * 2)).toArray, ?_, ?_, ⟨rfl, rfl, rfl, by simp, fun k _ hk => setRow_other w g k _ (fun e => hk (by simp [Value.ownBlock, e]))⟩, fun b hb => .inl hb⟩
      · by_cases hn0 : n = 0
        · subst hn0
          simp [Builtin.append_, run_underlying Try.underlying37, run_underlying Try.underlying3, sizeOf, typeInfo, hi, his, asInt, asIntOf, hw0, hnc, storeCells]
          rw [setRow_self w g cur 31 (0, 0) hg]
        · have hns : ¬ (n * i.size = 0) := by rw [his]; omega
          have hz' : (Builtin.zeroCells (Value.agg #[.int .i64 0, .int .i64 0]).cells n).toList = List.replicate (n * 2) (.int .i64 0) := zeros_eq n
          have h16 : ¬ (281474976710656 < (n : Int) * 16) := by omega
          have hn2 : ¬ (n * 2 = 0) := by omega
          simp [Builtin.append_, run_underlying Try.underlying37, run_underlying Try.underlying3, sizeOf, typeInfo, zeroValue, hi, hz, his, hib, asInt, asIntOf, hw, hneg, h16, hn2, hn0, hroom, Addr.add_lit, hz', hst]
      · refine owns_app (fun _ => True) (cs := cs ++ List.replicate (n * 2) (.int .i64 0)) ?_ ((cellsW hC).append (cells_zeros _ _ n))
        refine ⟨by simp [hcl]; omega, .inr ⟨g, cap, _, by simp, Nat.zero_le _, setRow_heap w g cur _ 31 _ hg, by simpa using hroom, hcm, ?_, ?_⟩⟩
        · simp only [List.size_toArray, List.length_append, List.length_take, List.length_drop, Array.length_toList, List.length_replicate]; omega
        · rw [htake, List.take_left' (by simp [hcl]; omega)]
    · have holds : ∀ j u, cs[j]? = some u → w.drew.cell? ((⟨g, 0, none⟩ : Addr).add j) = some u := fun j u hu => hrow.cells (g := g) rfl j u hu
      have hf := run_firstCells_some (P := Try.prog) w.drew i.size l.length ⟨g, 0, none⟩ l.length cap cs (by rw [hcl, his]) holds
      have hr := Lib.run_append_grow_zeros (P := Try.prog) w 37 3 ty 31 i _ .i64 .i64 Try.underlying37 Try.underlying3 hi hz (some ⟨g, 0, none⟩) l.length cap cs hf n (by omega) (by rw [his]; omega) (by omega) (by omega) (by rw [hib]; omega) (growslice_fits (by omega) (by rw [hib]; omega))
      have hge := grownCap_ge w (l.length + n) cap 31
      have hcm' : grownCap w (l.length + n) cap 31 ≤ maxLen := grownCap_le_maxLen w (l.length + n) cap 31 (by unfold maxLen; omega)
      refine ⟨some ⟨w.heap.size, 0, none⟩, grownCap w (l.length + n) cap 31, w.drew.alloc (.cells (cs.toArray ++ Builtin.zeroCells #[.int .i64 0, .int .i64 0] n ++ Builtin.zeroCells #[.int .i64 0, .int .i64 0] (grownCap w (l.length + n) cap 31 - (l.length + n))) 31), by simpa [Value.cells] using hr, ?_, ⟨rfl, rfl, rfl, by simp, fun k hk _ => heap_alloc_old w.drew _ hk⟩, fun b hb => .inr ?_⟩
      · refine owns_app (fun _ => True) (cs := cs ++ List.replicate (n * 2) (.int .i64 0)) ?_ ((cellsW hC).append (cells_zeros _ _ n))
        refine ⟨by simp [hcl]; omega, .inr ⟨w.heap.size, _, _, by simp, Nat.zero_le _, heap_alloc_new w.drew _, by simpa using hge, hcm', ?_, ?_⟩⟩
        · simp only [Array.size_append, zeros_size, List.size_toArray, hcl]; omega
        · simp only [Array.toList_append, zeros_eq]
          rw [List.take_left' (by simp [hcl]; omega)]
      · simp only [Value.ownBlock, Option.some.injEq] at hb; omega
end Go.Proofs.Ytedfepnekjjmnab
