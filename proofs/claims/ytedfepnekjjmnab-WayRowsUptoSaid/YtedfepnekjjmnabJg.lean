/-
  Calls of ways as data, how they lie; what holds between the calls of WayRows. Plain facts. No condition.
-/
import Derived.Test.YtedfepnekjjmnabJf
import Derived.Test.YtedfepnekjjmnabWayTake
import Derived.Test.YtedfepnekjjmnabWaySend
import Derived.Test.YtedfepnekjjmnabJb
namespace Go.Proofs.Ytedfepnekjjmnab
open Go.RowKit Go.Maps
set_option linter.unusedSimpArgs false
set_option linter.unusedVariables false
set_option maxRecDepth 100000

structure WC where
  kind : Int
  a : Int
  c : Int
  t : T
def wcB (x : WC) : Nat := 1 + bulkL [x.t]
def wcsB : List WC → Nat
  | [] => 0
  | x :: l => wcB x + wcsB l
theorem wcsB_len (l : List WC) : l.length ≤ wcsB l := by
  induction l with
  | nil => simp [wcsB]
  | cons d l ih => simp only [wcsB, wcB, List.length_cons]; omega
theorem wcsB_mem {l : List WC} {d : WC} (h : d ∈ l) : wcB d ≤ wcsB l := by
  induction l with
  | nil => cases h
  | cons e l ih =>
    rcases List.mem_cons.1 h with rfl | h
    · simp only [wcsB]; omega
    · have := ih h; simp only [wcsB]; omega
def wcC (S : Nat → Prop) (w : World) (x : WC) (cs : List Value) : Prop :=
  ∃ ad cap, cs = [.int .i64 x.kind, .int .i64 x.a, .int .i64 x.c, .int .i64 x.t.kind, .int .i64 x.t.n, .string x.t.name, .slice ad x.t.args.length cap] ∧ wf64 x.a ∧ wf64 x.c ∧
    RT S w x.t (.agg #[.int .i64 x.t.kind, .int .i64 x.t.n, .string x.t.name, .slice ad x.t.args.length cap])
def wcE : El WC where
  k := 7
  C := wcC
  len := by rintro S w x cs ⟨ad, cap, rfl, -⟩; rfl
  one := by rintro S w x cs ⟨ad, cap, rfl, -⟩; simp [Value.oneCell']
  «to» := by rintro S S' w w' x cs ⟨ad, cap, rfl, h1, h2, h3⟩ hs hc; exact ⟨ad, cap, rfl, h1, h2, h3.to hs hc⟩
def wcF : ElT wcE where
  e := 61
  sl := 50
  bytes := 80
  z := .agg #[.int .i64 0, .int .i64 0, .int .i64 0, .int .i64 0, .int .i64 0, .string ⟨#[]⟩, .slice none 0 0]
  hund := Try.underlying50
  info := by kernel_rfl
  hzs := rfl
  hk := by decide
  hb := by decide
theorem szWC : (Try.prog.info? 61).map (·.size) = some 7 := by kernel_rfl
theorem listF_mem {A : List Ent} (hn : (keyE A).Nodup) {q : Ent} (hq : q ∈ A) : listF A q.1 = q.2.2 := by
  obtain ⟨X, Y, rfl⟩ := List.append_of_mem hq
  obtain ⟨k, v, l⟩ := q
  exact listF_mid (nodup_mid hn).1
theorem MapE.len {w : World} {b n c : Nat} {A : List Ent} (h : MapE w b n A) (hl : ∀ m, (listF A m).length ≤ c) : ∀ q ∈ A, q.2.2.length ≤ c := fun q hq => by
  rw [← listF_mem h.nd hq]; exact hl q.1
/-- k calls on: bounds. -/
structure WInv (k : Nat) (A1 A2 A3 : List Ent) : Prop where
  iv : InvW A1 A2 A3
  l20 : ∀ m, (listF A1 m).length ≤ 20
  lk : ∀ m, (listF A2 m).length ≤ k
  bk : ∀ m, ∀ t ∈ listF A2 m, bulkL [t] ≤ 1048576
theorem WInv.start : WInv 0 [] [] [] := ⟨InvW.start, fun m => by simp [listF, entF], fun m => by simp [listF, entF], fun m t h => by simp [listF, entF] at h⟩
theorem WInv.up {k : Nat} {A1 A2 A3 : List Ent} (h : WInv k A1 A2 A3) : WInv (k + 1) A1 A2 A3 := ⟨h.iv, h.l20, fun m => by have := h.lk m; omega, h.bk⟩
theorem WInv.send {k : Nat} {A1 A2 A3 B1 B2 : List Ent} {m : Int × Int} {t : T} (h : WInv k A1 A2 A3) (h1 : SentTo A1 m t B1) (h2 : SentTo A2 m t B2) (hl : (listF A1 m).length ≠ 20) (hb : bulkL [t] ≤ 1048576) : WInv (k + 1) B1 B2 A3 := by
  refine ⟨h.iv.send h1 h2, fun x => ?_, fun x => ?_, fun x u hu => ?_⟩
  · rw [h1.list]
    have := h.l20 x
    by_cases e : x = m
    · rw [if_pos e, List.length_append]; have := h.l20 m; simp; omega
    · rw [if_neg e]; exact this
  · rw [h2.list]
    have := h.lk x
    by_cases e : x = m
    · rw [if_pos e, List.length_append]; have := h.lk m; simp; omega
    · rw [if_neg e]; omega
  · rw [h2.list] at hu
    by_cases e : x = m
    · rw [if_pos e] at hu
      rcases List.mem_append.1 hu with hu | hu
      · exact h.bk m u hu
      · rw [List.mem_singleton.1 hu]; exact hb
    · rw [if_neg e] at hu; exact h.bk x u hu
theorem WInv.take {k : Nat} {A1 A2 A3 B1 B3 : List Ent} {m : Int × Int} {t : T} (h : WInv k A1 A2 A3) (h1 : TookTo A1 m t B1) (h3 : SentTo A3 m t B3) : WInv (k + 1) B1 A2 B3 := by
  refine ⟨h.iv.take h1 h3, fun x => ?_, fun x => by have := h.lk x; omega, h.bk⟩
  obtain ⟨e1, e2⟩ := h1.list
  by_cases e : x = m
  · have := h.l20 m; rw [e1] at this; rw [e]; simp at this; omega
  · rw [e2 x e]; exact h.l20 x
theorem WInv.mem1 {k : Nat} {A1 A2 A3 : List Ent} (h : WInv k A1 A2 A3) (m : Int × Int) : ∀ t ∈ listF A1 m, bulkL [t] ≤ 1048576 := fun t ht => h.bk m t (by rw [h.iv.ls]; exact List.mem_append.2 (.inr ht))
theorem WInv.len3 {k : Nat} {A1 A2 A3 : List Ent} (h : WInv k A1 A2 A3) (m : Int × Int) : (listF A3 m).length ≤ k := by
  have := h.lk m; rw [h.iv.ls, List.length_append] at this; omega
theorem bulk_le {c : Nat} : ∀ {l : List T}, (∀ t ∈ l, bulkL [t] ≤ c) → bulkL l ≤ l.length * c
  | [], _ => by simp [bulkL]
  | t :: l, h => by
    have h1 := bulk_le (l := l) fun u hu => h u (List.mem_cons_of_mem _ hu)
    have h2 := h t (List.mem_cons_self ..)
    have h3 := bulkL_append [t] l
    rw [List.singleton_append] at h3
    rw [h3, List.length_cons, Nat.succ_mul]; omega
/-- The blocks of the ways and of the two maps. -/
def WF4 (B bm m2 m3 : Nat) : Nat → Prop := fun b => b = B ∨ b = bm ∨ b = m2 ∨ b = m3
/-- Between two calls of WayRows. -/
def WR (P0 : Nat → Prop) (w0 : World) (B bm m2 m3 k : Nat) (w : World) : Prop :=
  ∃ (P : Nat → Prop) (A1 A2 A3 : List Ent) (n1 n2 n3 : Nat), (∀ b, P0 b → P b) ∧ RQ P (WF4 B bm m2 m3) w0 [] w (rowsE A1 ++ (rowsE A2 ++ rowsE A3)) ∧ MapE w bm n1 A1 ∧ MapE w m2 n2 A2 ∧ MapE w m3 n3 A3 ∧ Blk w B [.map (some bm)] ∧ WInv k A1 A2 A3 ∧ n1 ≤ k + 5 ∧ n2 ≤ k ∧ n3 ≤ k
theorem rot2 {α : Type _} (a b c : List α) : (a ++ (b ++ c)).Perm (b ++ (c ++ a)) := by
  rw [← List.append_assoc b c a]; exact List.perm_append_comm
theorem rot3 {α : Type _} (a b c : List α) : (a ++ (b ++ c)).Perm (c ++ (a ++ b)) := by
  rw [← List.append_assoc a b c]; exact List.perm_append_comm
theorem sendE_ok {A : List Ent} {a c : Int} {t : T} (h : sendE A a c t = 0) : (listF A (a, c)).length ≠ 20 := by
  unfold sendE at h
  intro e
  split at h
  · cases h
  · split at h
    · exact absurd h (by assumption)
    · split at h
      · cases h
      · first | (rw [if_pos e] at h; cases h) | cases h
theorem TookTo.mem {A A' : List Ent} {k : Int × Int} {t : T} (h : TookTo A k t A') : t ∈ listF A k := by
  rw [h.list.1]; exact List.mem_cons_self ..
/-! ### Rows out of what is owned -/
theorem RX.rsl {R S : Nat → Prop} {w : World} {ts : List T} {v : Value} (h : RX termE R S w ts v) : RSl (fun b => R b ∨ S b) w ts v := by
  obtain ⟨a, cap, cs, rfl, h1, h2, h3⟩ := h
  exact RSl2.rsl ⟨a, cap, cs, rfl, h1, cells_termE.1 h2, h3⟩
theorem RTs.pre {S : Nat → Prop} {w : World} {a : Option Addr} : ∀ {xs ys : List T} {i : Nat}, RTs S w (xs ++ ys) a i → RTs S w xs a i
  | [], _, _, _ => by simp [RTs]
  | x :: xs, ys, i, h => by
    rw [List.cons_append, RTs_cons] at h
    rw [RTs_cons]
    exact ⟨h.1, RTs.pre h.2⟩
theorem entF_listF {A : List Ent} {k : Int × Int} {v : Value} {l : List T} (h : entF A k = some (v, l)) : listF A k = l ∧ rawF A k.1 k.2 = some v := by
  refine ⟨by unfold listF; rw [h]; rfl, ?_⟩
  show (entF A (k.1, k.2)).map (·.1) = _
  rw [show ((k.1, k.2) : Int × Int) = k from rfl, h]; rfl
/-- The row at a pair, as it lies. -/
theorem RQ.rowAt {P F : Nat → Prop} {w0 w : World} {bs : List (Nat × List Value)} {A : List Ent} {rs : List Rw} (h : RQ P F w0 bs w (rowsE A ++ rs)) (k : Int × Int) :
    ∃ a cap, (rawF A k.1 k.2).getD (.slice none 0 0) = .slice a (listF A k).length cap ∧ RSl (fun b => b < w.heap.size) w (listF A k) (.slice a (listF A k).length cap) ∧ ((listF A k) ≠ [] → ∃ g o, a = some ⟨g, o, none⟩) := by
  cases he : entF A k with
  | none =>
    have e1 : listF A k = [] := by unfold listF; rw [he]; rfl
    have e2 : rawF A k.1 k.2 = none := by
      show (entF A (k.1, k.2)).map (·.1) = _
      rw [show ((k.1, k.2) : Int × Int) = k from rfl, he]; rfl
    rw [e1, e2]
    exact ⟨none, 0, rfl, ⟨none, 0, rfl, ⟨Nat.le_refl _, fun _ => rfl⟩, by simp [RTs]⟩, fun h => absurd rfl h⟩
  | some y =>
    obtain ⟨v, l⟩ := y
    obtain ⟨e1, e2⟩ := entF_listF he
    obtain ⟨X, Y, rfl, -⟩ := entF_some he
    have hmr : rT v l ∈ rowsE (X ++ (k, v, l) :: Y) ++ rs := by simp [rowsE]
    have h1 : RX termE (fun b => v.ownBlock = some b) P w l v := h.rx hmr
    rw [e1, e2]
    obtain ⟨a, cap, h2, -⟩ := h1.form
    subst h2
    refine ⟨a, cap, rfl, (h1.rsl).to (fun b _ hl => hl) fun _ _ _ => rfl, fun hne => ?_⟩
    obtain ⟨g, o, e⟩ := h1.addr (by decide) (List.length_pos_iff.2 hne)
    exact ⟨g, o, e⟩
theorem Below.grown0 {w w' : World} (h : Below w.heap.size w w') : w.grownBy w' none := ⟨h.os, h.tape, h.output, h.size, fun k hk _ => h.block k hk⟩
theorem below0 {w w' : World} (h : w.grownBy w' none) : Below w.heap.size w w' := ⟨h.os, h.tape, h.output, h.size, fun k hk => h.block k hk (by simp)⟩
/-! ### The maps' steps in a plain region -/
section
variable {ops : Array Oper} {rest : List Oper} {o : Oper} {a : Act} {Q : Exit → Act → World → Prop} {w : World}
theorem mapEntryQ (m x : Operand) (hg : o.guard = none) (hop : o.op = Op.mapEntry 59 m x) {mv xv v : Value} {w1 : World} (hm : a.eval m = mv) (hx : a.eval x = xv) (hrun : (Instr.mapEntry 59 mv xv).run Try.prog w = .ok v w1) (hK : wpList Try.prog ops Q rest (a.put o.dst v) w1) : wpList Try.prog ops Q (o :: rest) a w :=
  wpList_plain hg fun _ hK' => wp_mapEntryQ m x hop hm hx hrun (hK' _ _ hK)
theorem entryStoreQ (m x y : Operand) (hg : o.guard = none) (hop : o.op = Op.entryStore 59 m x y) {mv xv yv : Value} {w1 : World} (hm : a.eval m = mv) (hx : a.eval x = xv) (hy : a.eval y = yv) (hrun : (Instr.entryStore 59 mv xv yv).run Try.prog w = .ok () w1) (hK : wpList Try.prog ops Q rest (a.put o.dst undef) w1) : wpList Try.prog ops Q (o :: rest) a w :=
  wpList_plain hg fun _ hK' => wp_entryStoreQ m x y hop hm hx hy hrun (hK' _ _ hK)
end
end Go.Proofs.Ytedfepnekjjmnab
