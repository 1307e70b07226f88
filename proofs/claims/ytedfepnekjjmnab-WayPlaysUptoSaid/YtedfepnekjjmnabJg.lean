/-
  Contracts and plain laws, joined: WayE MapG OpenQ OpenW EqualQ PlayP. Conditions stand in each.
-/
import Derived.DeepKeys
import Derived.Test.YtedfepnekjjmnabJf
import Derived.Test.YtedfepnekjjmnabWayTake
import Derived.Test.YtedfepnekjjmnabWaySend
import Derived.Test.YtedfepnekjjmnabJb
import Derived.Test.YtedfepnekjjmnabJc
/-
  Calls of ways as data, how they lie; what holds between the calls of WayRows. Plain facts. No condition.
-/
namespace Go.Proofs.Ytedfepnekjjmnab
open Go.RowKit Go.Maps
set_option linter.unusedSimpArgs false
set_option linter.unusedVariables false
set_option maxRecDepth 100000

structure WC where
  kind : Int
  a : Int
  c : Int
  t : T
def wcB (x : WC) : Nat := 1 + bulkL [x.t]
def wcsB : List WC → Nat
  | [] => 0
  | x :: l => wcB x + wcsB l
theorem wcsB_len (l : List WC) : l.length ≤ wcsB l := by
  induction l with
  | nil => simp [wcsB]
  | cons d l ih => simp only [wcsB, wcB, List.length_cons]; omega
theorem wcsB_mem {l : List WC} {d : WC} (h : d ∈ l) : wcB d ≤ wcsB l := by
  induction l with
  | nil => cases h
  | cons e l ih =>
    rcases List.mem_cons.1 h with rfl | h
    · simp only [wcsB]; omega
    · have := ih h; simp only [wcsB]; omega
def wcC (S : Nat → Prop) (w : World) (x : WC) (cs : List Value) : Prop :=
  ∃ ad cap, cs = [.int .i64 x.kind, .int .i64 x.a, .int .i64 x.c, .int .i64 x.t.kind, .int .i64 x.t.n, .string x.t.name, .slice ad x.t.args.length cap] ∧ wf64 x.a ∧ wf64 x.c ∧
    RT S w x.t (.agg #[.int .i64 x.t.kind, .int .i64 x.t.n, .string x.t.name, .slice ad x.t.args.length cap])
def wcE : El WC where
  k := 7
  C := wcC
  len := by rintro S w x cs ⟨ad, cap, rfl, -⟩; rfl
  one := by rintro S w x cs ⟨ad, cap, rfl, -⟩; simp [Value.oneCell']
  «to» := by rintro S S' w w' x cs ⟨ad, cap, rfl, h1, h2, h3⟩ hs hc; exact ⟨ad, cap, rfl, h1, h2, h3.to hs hc⟩
def wcF : ElT wcE where
  e := 61
  sl := 50
  bytes := 80
  z := .agg #[.int .i64 0, .int .i64 0, .int .i64 0, .int .i64 0, .int .i64 0, .string ⟨#[]⟩, .slice none 0 0]
  hund := Try.underlying50
  info := by kernel_rfl
  hzs := rfl
  hk := by decide
  hb := by decide
theorem szWC : (Try.prog.info? 61).map (·.size) = some 7 := by kernel_rfl
theorem listF_mem {A : List Ent} (hn : (keyE A).Nodup) {q : Ent} (hq : q ∈ A) : listF A q.1 = q.2.2 := by
  obtain ⟨X, Y, rfl⟩ := List.append_of_mem hq
  obtain ⟨k, v, l⟩ := q
  exact listF_mid (nodup_mid hn).1
theorem MapE.len {w : World} {b n c : Nat} {A : List Ent} (h : MapE w b n A) (hl : ∀ m, (listF A m).length ≤ c) : ∀ q ∈ A, q.2.2.length ≤ c := fun q hq => by
  rw [← listF_mem h.nd hq]; exact hl q.1
/-- k calls on: bounds. -/
structure WInv (k : Nat) (A1 A2 A3 : List Ent) : Prop where
  iv : InvW A1 A2 A3
  l20 : ∀ m, (listF A1 m).length ≤ 20
  lk : ∀ m, (listF A2 m).length ≤ k
  bk : ∀ m, ∀ t ∈ listF A2 m, bulkL [t] ≤ 1048576
theorem WInv.start : WInv 0 [] [] [] := ⟨InvW.start, fun m => by simp [listF, entF], fun m => by simp [listF, entF], fun m t h => by simp [listF, entF] at h⟩
theorem WInv.up {k : Nat} {A1 A2 A3 : List Ent} (h : WInv k A1 A2 A3) : WInv (k + 1) A1 A2 A3 := ⟨h.iv, h.l20, fun m => by have := h.lk m; omega, h.bk⟩
theorem WInv.send {k : Nat} {A1 A2 A3 B1 B2 : List Ent} {m : Int × Int} {t : T} (h : WInv k A1 A2 A3) (h1 : SentTo A1 m t B1) (h2 : SentTo A2 m t B2) (hl : (listF A1 m).length ≠ 20) (hb : bulkL [t] ≤ 1048576) : WInv (k + 1) B1 B2 A3 := by
  refine ⟨h.iv.send h1 h2, fun x => ?_, fun x => ?_, fun x u hu => ?_⟩
  · rw [h1.list]
    have := h.l20 x
    by_cases e : x = m
    · rw [if_pos e, List.length_append]; have := h.l20 m; simp; omega
    · rw [if_neg e]; exact this
  · rw [h2.list]
    have := h.lk x
    by_cases e : x = m
    · rw [if_pos e, List.length_append]; have := h.lk m; simp; omega
    · rw [if_neg e]; omega
  · rw [h2.list] at hu
    by_cases e : x = m
    · rw [if_pos e] at hu
      rcases List.mem_append.1 hu with hu | hu
      · exact h.bk m u hu
      · rw [List.mem_singleton.1 hu]; exact hb
    · rw [if_neg e] at hu; exact h.bk x u hu
theorem WInv.take {k : Nat} {A1 A2 A3 B1 B3 : List Ent} {m : Int × Int} {t : T} (h : WInv k A1 A2 A3) (h1 : TookTo A1 m t B1) (h3 : SentTo A3 m t B3) : WInv (k + 1) B1 A2 B3 := by
  refine ⟨h.iv.take h1 h3, fun x => ?_, fun x => by have := h.lk x; omega, h.bk⟩
  obtain ⟨e1, e2⟩ := h1.list
  by_cases e : x = m
  · have := h.l20 m; rw [e1] at this; rw [e]; simp at this; omega
  · rw [e2 x e]; exact h.l20 x
theorem WInv.mem1 {k : Nat} {A1 A2 A3 : List Ent} (h : WInv k A1 A2 A3) (m : Int × Int) : ∀ t ∈ listF A1 m, bulkL [t] ≤ 1048576 := fun t ht => h.bk m t (by rw [h.iv.ls]; exact List.mem_append.2 (.inr ht))
theorem WInv.len3 {k : Nat} {A1 A2 A3 : List Ent} (h : WInv k A1 A2 A3) (m : Int × Int) : (listF A3 m).length ≤ k := by
  have := h.lk m; rw [h.iv.ls, List.length_append] at this; omega
theorem bulk_le {c : Nat} : ∀ {l : List T}, (∀ t ∈ l, bulkL [t] ≤ c) → bulkL l ≤ l.length * c
  | [], _ => by simp [bulkL]
  | t :: l, h => by
    have h1 := bulk_le (l := l) fun u hu => h u (List.mem_cons_of_mem _ hu)
    have h2 := h t (List.mem_cons_self ..)
    have h3 := bulkL_append [t] l
    rw [List.singleton_append] at h3
    rw [h3, List.length_cons, Nat.succ_mul]; omega
/-- The blocks of the ways and of the two maps. -/
def WF4 (B bm m2 m3 : Nat) : Nat → Prop := fun b => b = B ∨ b = bm ∨ b = m2 ∨ b = m3
/-- Between two calls of WayRows. -/
def WR (P0 : Nat → Prop) (w0 : World) (B bm m2 m3 k : Nat) (w : World) : Prop :=
  ∃ (P : Nat → Prop) (A1 A2 A3 : List Ent) (n1 n2 n3 : Nat), (∀ b, P0 b → P b) ∧ RQ P (WF4 B bm m2 m3) w0 [] w (rowsE A1 ++ (rowsE A2 ++ rowsE A3)) ∧ MapE w bm n1 A1 ∧ MapE w m2 n2 A2 ∧ MapE w m3 n3 A3 ∧ Blk w B [.map (some bm)] ∧ WInv k A1 A2 A3 ∧ n1 ≤ k + 5 ∧ n2 ≤ k ∧ n3 ≤ k
theorem rot2 {α : Type _} (a b c : List α) : (a ++ (b ++ c)).Perm (b ++ (c ++ a)) := by
  rw [← List.append_assoc b c a]; exact List.perm_append_comm
theorem rot3 {α : Type _} (a b c : List α) : (a ++ (b ++ c)).Perm (c ++ (a ++ b)) := by
  rw [← List.append_assoc a b c]; exact List.perm_append_comm
theorem sendE_ok {A : List Ent} {a c : Int} {t : T} (h : sendE A a c t = 0) : (listF A (a, c)).length ≠ 20 := by
  unfold sendE at h
  intro e
  split at h
  · cases h
  · split at h
    · exact absurd h (by assumption)
    · split at h
      · cases h
      · first | (rw [if_pos e] at h; cases h) | cases h
theorem TookTo.mem {A A' : List Ent} {k : Int × Int} {t : T} (h : TookTo A k t A') : t ∈ listF A k := by
  rw [h.list.1]; exact List.mem_cons_self ..
/-! ### Rows out of what is owned -/
theorem RX.rsl {R S : Nat → Prop} {w : World} {ts : List T} {v : Value} (h : RX termE R S w ts v) : RSl (fun b => R b ∨ S b) w ts v := by
  obtain ⟨a, cap, cs, rfl, h1, h2, h3⟩ := h
  exact RSl2.rsl ⟨a, cap, cs, rfl, h1, cells_termE.1 h2, h3⟩
theorem RTs.pre {S : Nat → Prop} {w : World} {a : Option Addr} : ∀ {xs ys : List T} {i : Nat}, RTs S w (xs ++ ys) a i → RTs S w xs a i
  | [], _, _, _ => by simp [RTs]
  | x :: xs, ys, i, h => by
    rw [List.cons_append, RTs_cons] at h
    rw [RTs_cons]
    exact ⟨h.1, RTs.pre h.2⟩
theorem entF_listF {A : List Ent} {k : Int × Int} {v : Value} {l : List T} (h : entF A k = some (v, l)) : listF A k = l ∧ rawF A k.1 k.2 = some v := by
  refine ⟨by unfold listF; rw [h]; rfl, ?_⟩
  show (entF A (k.1, k.2)).map (·.1) = _
  rw [show ((k.1, k.2) : Int × Int) = k from rfl, h]; rfl
/-- The row at a pair, as it lies. -/
theorem RQ.rowAt {P F : Nat → Prop} {w0 w : World} {bs : List (Nat × List Value)} {A : List Ent} {rs : List Rw} (h : RQ P F w0 bs w (rowsE A ++ rs)) (k : Int × Int) :
    ∃ a cap, (rawF A k.1 k.2).getD (.slice none 0 0) = .slice a (listF A k).length cap ∧ RSl (fun b => b < w.heap.size) w (listF A k) (.slice a (listF A k).length cap) ∧ ((listF A k) ≠ [] → ∃ g o, a = some ⟨g, o, none⟩) := by
  cases he : entF A k with
  | none =>
    have e1 : listF A k = [] := by unfold listF; rw [he]; rfl
    have e2 : rawF A k.1 k.2 = none := by
      show (entF A (k.1, k.2)).map (·.1) = _
      rw [show ((k.1, k.2) : Int × Int) = k from rfl, he]; rfl
    rw [e1, e2]
    exact ⟨none, 0, rfl, ⟨none, 0, rfl, ⟨Nat.le_refl _, fun _ => rfl⟩, by simp [RTs]⟩, fun h => absurd rfl h⟩
  | some y =>
    obtain ⟨v, l⟩ := y
    obtain ⟨e1, e2⟩ := entF_listF he
    obtain ⟨X, Y, rfl, -⟩ := entF_some he
    have hmr : rT v l ∈ rowsE (X ++ (k, v, l) :: Y) ++ rs := by simp [rowsE]
    have h1 : RX termE (fun b => v.ownBlock = some b) P w l v := h.rx hmr
    rw [e1, e2]
    obtain ⟨a, cap, h2, -⟩ := h1.form
    subst h2
    refine ⟨a, cap, rfl, (h1.rsl).to (fun b _ hl => hl) fun _ _ _ => rfl, fun hne => ?_⟩
    obtain ⟨g, o, e⟩ := h1.addr (by decide) (List.length_pos_iff.2 hne)
    exact ⟨g, o, e⟩
theorem Below.grown0 {w w' : World} (h : Below w.heap.size w w') : w.grownBy w' none := ⟨h.os, h.tape, h.output, h.size, fun k hk _ => h.block k hk⟩
theorem below0 {w w' : World} (h : w.grownBy w' none) : Below w.heap.size w w' := ⟨h.os, h.tape, h.output, h.size, fun k hk => h.block k hk (by simp)⟩
/-! ### The maps' steps in a plain region -/
section
variable {ops : Array Oper} {rest : List Oper} {o : Oper} {a : Act} {Q : Exit → Act → World → Prop} {w : World}
theorem mapEntryQ (m x : Operand) (hg : o.guard = none) (hop : o.op = Op.mapEntry 59 m x) {mv xv v : Value} {w1 : World} (hm : a.eval m = mv) (hx : a.eval x = xv) (hrun : (Instr.mapEntry 59 mv xv).run Try.prog w = .ok v w1) (hK : wpList Try.prog ops Q rest (a.put o.dst v) w1) : wpList Try.prog ops Q (o :: rest) a w :=
  wpList_plain hg fun _ hK' => wp_mapEntryQ m x hop hm hx hrun (hK' _ _ hK)
theorem entryStoreQ (m x y : Operand) (hg : o.guard = none) (hop : o.op = Op.entryStore 59 m x y) {mv xv yv : Value} {w1 : World} (hm : a.eval m = mv) (hx : a.eval x = xv) (hy : a.eval y = yv) (hrun : (Instr.entryStore 59 mv xv yv).run Try.prog w = .ok () w1) (hK : wpList Try.prog ops Q rest (a.put o.dst undef) w1) : wpList Try.prog ops Q (o :: rest) a w :=
  wpList_plain hg fun _ hK' => wp_entryStoreQ m x y hop hm hx hy hrun (hK' _ _ hK)
end
end Go.Proofs.Ytedfepnekjjmnab

/-
  The reference's ways: a map whose entries may be empty lists; what a send and a take make of it. No condition.
-/
namespace Go.Proofs.Ytedfepnekjjmnab
open Go.RowKit Go.Maps
set_option linter.unusedSimpArgs false
set_option linter.unusedVariables false
set_option maxRecDepth 100000

structure MapG (w : World) (b n : Nat) (A : List Ent) : Prop where
  mp : ∃ D, MapF w b n D (rawF A) ∧ Maps.size D = A.length
  nd : (keyE A).Nodup
  wf : ∀ q ∈ A, wf64 q.1.1 ∧ wf64 q.1.2
theorem MapG.toQ {w w' : World} {b n : Nat} {A : List Ent} (h : MapG w b n A) (he : w'.heap[b]? = w.heap[b]?) : MapG w' b n A := by
  obtain ⟨⟨D, h1, h2⟩, h3, h4⟩ := h
  exact ⟨⟨D, h1.toQ he, h2⟩, h3, h4⟩
theorem MapG.newQ (w : World) : MapG (w.alloc (.map #[] 0)) w.heap.size 0 [] := ⟨⟨_, MapF.newQ w, rfl⟩, by simp [keyE], by simp⟩
theorem MapG.lookQ {w : World} {b n : Nat} {A : List Ent} (h : MapG w b n A) {a c : Int} (ha : wf64 a) (hc : wf64 c) : (Instr.lookup 59 (.map (some b)) (pk a c) false).run Try.prog w = .ok ((rawF A a c).getD (.slice none 0 0)) w := by
  obtain ⟨⟨D, h1, -⟩, -⟩ := h
  exact h1.lookQ ha hc
theorem MapG.entryMid {w : World} {b n : Nat} {X Y : List Ent} {k : Int × Int} {v : Value} {l : List T} (h : MapG w b n (X ++ (k, v, l) :: Y)) (hn : n < maxLen) :
    ∃ (st : Nat) (w1 : World), (Instr.mapEntry 59 (.map (some b)) (pk k.1 k.2)).run Try.prog w = .ok (.tuple #[v, goInt st]) w1 ∧ w.grownBy w1 (some b) ∧ w1.heap.size = w.heap.size ∧
      ∀ (w2 : World) (v' : Value) (l' : List T), w2.heap[b]? = w1.heap[b]? → ∃ w3, (Instr.entryStore 59 (.map (some b)) (goInt st) v').run Try.prog w2 = .ok () w3 ∧ MapG w3 b (n + 1) (X ++ (k, v', l') :: Y) ∧ w2.grownBy w3 (some b) ∧ w3.heap.size = w2.heap.size := by
  obtain ⟨⟨D, h1, h2⟩, h3, h4⟩ := h
  obtain ⟨hX, hY, -⟩ := nodup_mid h3
  have hw := h4 (k, v, l) (by simp)
  obtain ⟨st, w1, hr, hg, hs, hb⟩ := h1.entryQ hn hw.1 hw.2
  rw [rawF_at hX] at hr hb
  refine ⟨st, w1, hr, hg, hs, fun w2 v' l' he => ?_⟩
  obtain ⟨w3, D', hr3, hm3, hg3, hs3, hz⟩ := hb w2 v' he
  rw [← rawF_mid (v' := v') (l' := l') hX] at hm3
  refine ⟨w3, hr3, ⟨⟨D', hm3, by rw [hz, h2]; simp⟩, by rw [keyE_app] at h3 ⊢; exact h3, fun q hq => ?_⟩, hg3, hs3⟩
  rcases List.mem_append.1 hq with hq | hq
  · exact h4 q (by simp [hq])
  · rcases List.mem_cons.1 hq with rfl | hq
    · exact hw
    · exact h4 q (by simp [hq])
theorem MapG.entryNew {w : World} {b n : Nat} {A : List Ent} {k : Int × Int} (h : MapG w b n A) (hk : k ∉ keyE A) (ha : wf64 k.1) (hc : wf64 k.2) (hn : n < maxLen) :
    ∃ (st : Nat) (w1 : World), (Instr.mapEntry 59 (.map (some b)) (pk k.1 k.2)).run Try.prog w = .ok (.tuple #[.slice none 0 0, goInt st]) w1 ∧ w.grownBy w1 (some b) ∧ w1.heap.size = w.heap.size ∧
      ∀ (w2 : World) (v' : Value) (l' : List T), w2.heap[b]? = w1.heap[b]? → ∃ w3, (Instr.entryStore 59 (.map (some b)) (goInt st) v').run Try.prog w2 = .ok () w3 ∧ MapG w3 b (n + 1) ((k, v', l') :: A) ∧ w2.grownBy w3 (some b) ∧ w3.heap.size = w2.heap.size := by
  obtain ⟨⟨D, h1, h2⟩, h3, h4⟩ := h
  obtain ⟨st, w1, hr, hg, hs, hb⟩ := h1.entryQ hn ha hc
  rw [rawF_new hk] at hr hb
  refine ⟨st, w1, hr, hg, hs, fun w2 v' l' he => ?_⟩
  obtain ⟨w3, D', hr3, hm3, hg3, hs3, hz⟩ := hb w2 v' he
  rw [← rawF_cons k v' l'] at hm3
  refine ⟨w3, hr3, ⟨⟨D', hm3, by rw [hz, h2]; simp⟩, List.nodup_cons.2 ⟨hk, h3⟩, fun q hq => ?_⟩, hg3, hs3⟩
  rcases List.mem_cons.1 hq with rfl | hq
  · exact ⟨ha, hc⟩
  · exact h4 q hq
/-- 'm[k] = v' at a pair that is there. -/
theorem MapG.updQ {w : World} {b n : Nat} {X Y : List Ent} {k : Int × Int} {v : Value} {l : List T} (h : MapG w b n (X ++ (k, v, l) :: Y)) (hn : n < maxLen) (v' : Value) (l' : List T) :
    ∃ w1, (Instr.mapUpdate 59 (.map (some b)) (pk k.1 k.2) v').run Try.prog w = .ok () w1 ∧ w.grownBy w1 (some b) ∧ MapG w1 b (n + 1) (X ++ (k, v', l') :: Y) := by
  obtain ⟨⟨D, h1, h2⟩, h3, h4⟩ := h
  obtain ⟨hX, hY, hXY⟩ := nodup_mid h3
  have hw := h4 (k, v, l) (by simp)
  obtain ⟨w1, D1, hr, hm1, hg, hz⟩ := h1.storeQ hn hw.1 hw.2 v'
  rw [rawF_at hX] at hz
  rw [← rawF_mid (v' := v') (l' := l') hX] at hm1
  refine ⟨w1, hr, hg, ⟨⟨D1, hm1, by rw [hz, h2]; simp⟩, by rw [keyE_app] at h3 ⊢; exact h3, fun q hq => ?_⟩⟩
  rcases List.mem_append.1 hq with hq | hq
  · exact h4 q (by simp [hq])
  · rcases List.mem_cons.1 hq with rfl | hq
    · exact hw
    · exact h4 q (by simp [hq])
/-- As 'send_split', of such a map. -/
theorem send_splitG {F : Nat → Prop} {w0 w : World} {rs : List Rw} {A : List Ent} {bm n : Nat} {a c : Int} (t : T) (hm : MapG w bm n A) (hn : n < maxLen) (ha : wf64 a) (hc : wf64 c) :
    ∃ (l1 l2 : List Rw) (v0 : Value) (l0 : List T) (A' : Value → List Ent), (∀ P bs w', RQ P F w0 bs w' (rowsE A ++ rs) → RQ P F w0 bs w' (l1 ++ rT v0 l0 :: l2)) ∧ (∀ v', SentTo A (a, c) t (A' v')) ∧ (∀ v', rowsE (A' v') ++ rs = l1 ++ rT v' (l0 ++ [t]) :: l2) ∧ l0 = listF A (a, c) ∧
      ∀ w' : World, w'.heap[bm]? = w.heap[bm]? → ∃ (st : Nat) (w1 : World), (Instr.mapEntry 59 (.map (some bm)) (.agg #[.int .i64 a, .int .i64 c])).run Try.prog w' = .ok (.tuple #[v0, goInt st]) w1 ∧ w'.grownBy w1 (some bm) ∧ w1.heap.size = w'.heap.size ∧
        ∀ (w2 : World) (v' : Value), w2.heap[bm]? = w1.heap[bm]? → ∃ w3, (Instr.entryStore 59 (.map (some bm)) (goInt st) v').run Try.prog w2 = .ok () w3 ∧ MapG w3 bm (n + 1) (A' v') ∧ w2.grownBy w3 (some bm) ∧ w3.heap.size = w2.heap.size := by
  cases he : entF A (a, c) with
  | some y =>
    obtain ⟨X, Y, rfl, hX⟩ := entF_some he
    obtain ⟨v, l⟩ := y
    refine ⟨rowsE X, rowsE Y ++ rs, v, l, fun v' => X ++ ((a, c), v', l ++ [t]) :: Y, fun P bs w' h => ?_, fun v' => .inl ⟨X, Y, v, v', l, rfl, hX, rfl⟩, fun v' => ?_, (listF_mid hX).symm, fun w' hw => ?_⟩
    · have e : rowsE (X ++ ((a, c), v, l) :: Y) ++ rs = rowsE X ++ rT v l :: (rowsE Y ++ rs) := by simp [rowsE]
      rwa [e] at h
    · simp [rowsE]
    · obtain ⟨st, w1, h1, h2, h3, h4⟩ := (hm.toQ hw).entryMid hn
      exact ⟨st, w1, h1, h2, h3, fun w2 v' h5 => h4 w2 v' (l ++ [t]) h5⟩
  | none =>
    have hk : (a, c) ∉ keyE A := fun hmem => by
      obtain ⟨q, hq, e⟩ := List.mem_map.1 hmem
      obtain ⟨X, Y, rfl⟩ := List.append_of_mem hq
      obtain ⟨k, y⟩ := q
      obtain rfl : k = (a, c) := e
      rw [entF_mid (nodup_mid hm.nd).1] at he
      cases he
    refine ⟨[], rowsE A ++ rs, .slice none 0 0, [], fun v' => ((a, c), v', [t]) :: A, fun P bs w' h => h.nil termF, fun v' => .inr ⟨hk, v', rfl⟩, fun v' => rfl, (listF_none hk).symm, fun w' hw => ?_⟩
    obtain ⟨st, w1, h1, h2, h3, h4⟩ := (hm.toQ hw).entryNew (k := (a, c)) hk ha hc hn
    exact ⟨st, w1, h1, h2, h3, fun w2 v' h5 => h4 w2 v' [t] h5⟩
/-- The reference's entries behind a take of the first: the list may be empty. -/
def TailTo (A : List Ent) (k : Int × Int) (A' : List Ent) : Prop := ∃ X Y v v' t l, A = X ++ (k, v, t :: l) :: Y ∧ k ∉ keyE X ∧ A' = X ++ (k, v', l) :: Y
theorem TailTo.list {A A' : List Ent} {k : Int × Int} (h : TailTo A k A') : listF A' k = (listF A k).tail ∧ ∀ m, m ≠ k → listF A' m = listF A m := by
  obtain ⟨X, Y, v, v', t, l, rfl, hX, rfl⟩ := h
  refine ⟨by rw [listF_mid hX, listF_mid hX]; rfl, fun m hm => ?_⟩
  unfold listF
  rw [entF_other (y := (v', l)) (y' := (v, t :: l)) hm]
/-! ### What holds between the calls of WayPlays -/
/-- A1: the ways'; A2: the reference's. -/
structure PInv (A1 A2 : List Ent) : Prop where
  ls : ∀ m, listF A2 m = listF A1 m
  l20 : ∀ m, (listF A1 m).length ≤ 20
  bk : ∀ m, ∀ t ∈ listF A1 m, bulkL [t] ≤ 1048576
  ky : ∀ m ∈ keyE A1, 1 ≤ m.1 ∧ m.1 ≤ 99 ∧ 1 ≤ m.2 ∧ m.2 ≤ 99
theorem PInv.start : PInv [] [] := ⟨fun m => rfl, fun m => by simp [listF, entF], fun m t h => by simp [listF, entF] at h, fun m h => by simp [keyE] at h⟩
theorem PInv.send {A1 A2 B1 B2 : List Ent} {m : Int × Int} {t : T} (h : PInv A1 A2) (h1 : SentTo A1 m t B1) (h2 : SentTo A2 m t B2) (hl : (listF A1 m).length ≠ 20) (hb : bulkL [t] ≤ 1048576) (hm : 1 ≤ m.1 ∧ m.1 ≤ 99 ∧ 1 ≤ m.2 ∧ m.2 ≤ 99) : PInv B1 B2 := by
  refine ⟨fun x => ?_, fun x => ?_, fun x u hu => ?_, fun x hx => ?_⟩
  · rw [h1.list, h2.list, h.ls, h.ls]
  · rw [h1.list]
    have := h.l20 x
    by_cases e : x = m
    · rw [if_pos e, List.length_append]; have := h.l20 m; simp; omega
    · rw [if_neg e]; exact this
  · rw [h1.list] at hu
    by_cases e : x = m
    · rw [if_pos e] at hu
      rcases List.mem_append.1 hu with hu | hu
      · exact h.bk m u hu
      · rw [List.mem_singleton.1 hu]; exact hb
    · rw [if_neg e] at hu; exact h.bk x u hu
  · rcases h1.keys.2.2 x hx with rfl | hx
    · exact hm
    · exact h.ky x hx
theorem TookTo.keys {A A' : List Ent} {k : Int × Int} {t : T} (h : TookTo A k t A') : ∀ m ∈ keyE A', m ∈ keyE A := by
  obtain ⟨X, Y, v, l, rfl, hX, hY, h⟩ := h
  rcases h with ⟨rfl, rfl⟩ | ⟨hl, v', rfl⟩
  · intro m hm; rw [keyE_app] at hm ⊢; rcases List.mem_append.1 hm with hm | hm
    · exact List.mem_append.2 (.inl hm)
    · exact List.mem_append.2 (.inr (List.mem_cons_of_mem _ hm))
  · intro m hm; rw [keyE_app] at hm ⊢; exact hm
theorem PInv.take {A1 A2 B1 B2 : List Ent} {m : Int × Int} {t : T} (h : PInv A1 A2) (h1 : TookTo A1 m t B1) (h2 : TailTo A2 m B2) : PInv B1 B2 := by
  obtain ⟨e1, e2⟩ := h1.list
  obtain ⟨e3, e4⟩ := h2.list
  have hsub : ∀ x u, u ∈ listF B1 x → u ∈ listF A1 x := fun x u hu => by
    by_cases e : x = m
    · rw [e] at hu ⊢; rw [e1]; exact List.mem_cons_of_mem _ hu
    · rw [e2 x e] at hu; exact hu
  refine ⟨fun x => ?_, fun x => ?_, fun x u hu => h.bk x u (hsub x u hu), fun x hx => h.ky x (h1.keys x hx)⟩
  · by_cases e : x = m
    · rw [e, e3, h.ls, e1]; rfl
    · rw [e4 x e, e2 x e, h.ls]
  · by_cases e : x = m
    · have := h.l20 m; rw [e1] at this; rw [e]; simp at this; omega
    · rw [e2 x e]; exact h.l20 x
theorem MapE.mem_key {w : World} {b n : Nat} {A : List Ent} (h : MapE w b n A) (m : Int × Int) : m ∈ keyE A ↔ listF A m ≠ [] := by
  constructor
  · intro hm
    obtain ⟨q, hq, e⟩ := List.mem_map.1 hm
    rw [← e, listF_mem h.nd hq]
    exact (h.wf q hq).2.2
  · intro hne
    exact Classical.byContradiction fun hn => hne (listF_none hn)
end Go.Proofs.Ytedfepnekjjmnab

/-
  clerkref.NewSystem, (*System).Open; slices.Equal of pairs. No condition but a bound.
-/
namespace Go.Proofs.Ytedfepnekjjmnab
open Go.RowKit Go.Maps
set_option linter.unusedSimpArgs false
set_option linter.unusedVariables false
set_option maxRecDepth 100000

/-! ### Pairs as elements -/
def pairE : El (Int × Int) where
  k := 2
  C := fun _ _ x cs => cs = [.int .i64 x.1, .int .i64 x.2]
  len := by rintro S w x cs rfl; rfl
  one := by rintro S w x cs rfl; simp [Value.oneCell']
  «to» := by rintro S S' w w' x cs rfl _ _; rfl
def pairF : ElT pairE where
  e := 62
  sl := 57
  bytes := 16
  z := .agg #[.int .i64 0, .int .i64 0]
  hund := Try.underlying57
  info := infoIPair
  hzs := rfl
  hk := by decide
  hb := by decide
theorem cells_fl2 {S : Nat → Prop} {w : World} : ∀ (ks : List (Int × Int)), CellsX pairE S w ks (fl2 ks)
  | [] => rfl
  | x :: ks => ⟨_, _, rfl, rfl, cells_fl2 ks⟩
theorem cells_fl2_eq {S : Nat → Prop} {w : World} : ∀ {ks : List (Int × Int)} {cs : List Value}, CellsX pairE S w ks cs → cs = fl2 ks
  | [], cs, h => h
  | x :: ks, cs, h => by
    obtain ⟨c, cs', rfl, h1, h2⟩ := h
    rw [cells_fl2_eq h2, show c = [.int .i64 x.1, .int .i64 x.2] from h1]; rfl
theorem RX.fl2 {base : Nat} {w : World} {v : Value} {ks : List (Int × Int)} (h : w.ownsRow base 62 2 v ks.length (fl2 ks)) : RX pairE (fun b => base ≤ b) (fun _ => False) w ks v := by
  have h1 : OwnX pairE 62 (fun _ => False) base w v ks := ⟨_, h, cells_fl2 ks⟩
  exact h1.rx.mono (fun b hb => (h1.block b hb).1) fun _ h => h
/-! ### NewSystem -/
set_option maxHeartbeats 1000000 in
theorem newsys_c (w : World) : Calls Try.prog 28 #[.slice none 0 0, .int .i64 0] w fun e w' => ∃ (g m p q : Nat), e = .returned (.pointer (some ⟨g, 0, none⟩)) ∧ Below w.heap.size w w' ∧ w.heap.size ≤ m ∧ m < g ∧ g < w'.heap.size ∧ MapG w' m 0 [] ∧ Blk w' g [.slice none 0 0, .int .i64 0, .int .i64 0, .map (some p), .map (some m), .map (some q), .slice none 0 0] := by
  have hmm := @run_makeMap Try.prog
  obtain ⟨W1, hW1⟩ : ∃ W, W = w.alloc (.map #[] 0) := ⟨_, rfl⟩
  obtain ⟨W2, hW2⟩ : ∃ W, W = W1.alloc (.map #[] 0) := ⟨_, rfl⟩
  obtain ⟨W3, hW3⟩ : ∃ W, W = W2.alloc (.map #[] 0) := ⟨_, rfl⟩
  obtain ⟨W4, hW4⟩ : ∃ W, W = W3.alloc (.cells #[.slice none 0 0, .int .i64 0, .int .i64 0, .map (some w.heap.size), .map (some W1.heap.size), .map (some W2.heap.size), .slice none 0 0] 73) := ⟨_, rfl⟩
  have HW : Hid (W4 = (((w.alloc (.map #[] 0)).alloc (.map #[] 0)).alloc (.map #[] 0)).alloc (.cells #[.slice none 0 0, .int .i64 0, .int .i64 0, .map (some w.heap.size), .map (some (w.heap.size + 1)), .map (some (w.heap.size + 1 + 1)), .slice none 0 0] 73)) := Lib.hid (by rw [hW4, hW3, hW2, hW1]; simp)
  have s1 : W1.heap.size = w.heap.size + 1 := by rw [hW1]; simp
  have s2 : W2.heap.size = W1.heap.size + 1 := by rw [hW2]; simp
  have s3 : W3.heap.size = W2.heap.size + 1 := by rw [hW3]; simp
  have s4 : W4.heap.size = W3.heap.size + 1 := by rw [hW4]; simp
  have hM : MapG W4 W1.heap.size 0 [] := by
    have h2 : MapG W2 W1.heap.size 0 [] := by rw [hW2]; exact MapG.newQ W1
    have h3 : MapG W3 W1.heap.size 0 [] := h2.toQ (by rw [hW3]; exact Below.heap_alloc _ _ _ (by omega))
    exact h3.toQ (by rw [hW4]; exact Below.heap_alloc _ _ _ (by omega))
  have hB : Below w.heap.size w W4 := by
    rw [hW4, hW3, hW2, hW1]
    exact (((below_alloc _ _).alloc (by simp) _).alloc (by simp; omega) _).alloc (by simp; omega) _
  have hK : Blk W4 W3.heap.size [.slice none 0 0, .int .i64 0, .int .i64 0, .map (some w.heap.size), .map (some W1.heap.size), .map (some W2.heap.size), .slice none 0 0] := by rw [hW4]; exact Blk.new _ _ _ _ rfl
  have HE : Hid (∃ (g m p q : Nat), Ending.returned (.pointer (some ⟨w.heap.size + 1 + 1 + 1, 0, none⟩)) = .returned (.pointer (some ⟨g, 0, none⟩)) ∧ Below w.heap.size w W4 ∧ w.heap.size ≤ m ∧ m < g ∧ g < W4.heap.size ∧ MapG W4 m 0 [] ∧ Blk W4 g [.slice none 0 0, .int .i64 0, .int .i64 0, .map (some p), .map (some m), .map (some q), .slice none 0 0]) :=
    Lib.hid ⟨W3.heap.size, W1.heap.size, w.heap.size, W2.heap.size, by rw [s3, s2, s1], hB, by omega, by omega, by omega, hM, hK⟩
  clear hW1 hW2 hW3 hW4 s1 s2 s3 s4 hM hB hK
  go_enter Try.func28, Try.ntmps28
  go_wp2_with fail
  go_ret
  rw [← HW.out]
  exact HE.out
/-! ### Open: all pairs, in order -/
def grid (n : Nat) : List (Int × Int) := (List.range n).map fun i => (((i / 99 : Nat) : Int) + 1, ((i % 99 : Nat) : Int) + 1)
def openL (A : List Ent) (n : Nat) : List (Int × Int) := (grid n).filter fun m => !(listF A m).isEmpty
theorem openL_zero (A : List Ent) : openL A 0 = [] := rfl
theorem openL_succ (A : List Ent) (a b : Nat) (hb : b < 99) : openL A (a * 99 + b + 1) = openL A (a * 99 + b) ++ (if listF A ((a : Int) + 1, (b : Int) + 1) = [] then [] else [((a : Int) + 1, (b : Int) + 1)]) := by
  have e1 : (a * 99 + b) / 99 = a := by omega
  have e2 : (a * 99 + b) % 99 = b := by omega
  unfold openL grid
  rw [List.range_succ, List.map_append, List.filter_append]
  congr 1
  simp only [List.map_cons, List.map_nil, e1, e2]
  by_cases h : listF A ((a : Int) + 1, (b : Int) + 1) = []
  · rw [if_pos h]; simp [h]
  · rw [if_neg h]
    simp [h]
theorem openL_len (A : List Ent) (n : Nat) : (openL A n).length ≤ n := by
  unfold openL grid
  exact Nat.le_trans (List.length_filter_le _ _) (by simp)
theorem openL_sorted (A : List Ent) (n : Nat) : (openL A n).Pairwise ltP := by
  refine List.Pairwise.filter _ ?_
  unfold grid
  rw [List.pairwise_map]
  refine List.Pairwise.imp ?_ (List.pairwise_lt_range (n := n))
  intro i j hij
  unfold ltP
  simp only
  have h1 := Nat.div_add_mod i 99
  have h2 := Nat.div_add_mod j 99
  have h3 := Nat.mod_lt i (show 99 > 0 by decide)
  have h4 := Nat.mod_lt j (show 99 > 0 by decide)
  omega
theorem openL_mem (A : List Ent) (x : Int × Int) : x ∈ openL A 9801 ↔ (1 ≤ x.1 ∧ x.1 ≤ 99 ∧ 1 ≤ x.2 ∧ x.2 ≤ 99) ∧ listF A x ≠ [] := by
  unfold openL grid
  rw [List.mem_filter, List.mem_map]
  constructor
  · rintro ⟨⟨i, hi, rfl⟩, h⟩
    have hi' := List.mem_range.1 hi
    refine ⟨by simp only; omega, by simpa using h⟩
  · rintro ⟨⟨h1, h2, h3, h4⟩, hne⟩
    refine ⟨⟨((x.1 - 1) * 99 + (x.2 - 1)).toNat, List.mem_range.2 (by omega), Prod.ext ?_ ?_⟩, by simpa using hne⟩
    · simp only; omega
    · simp only; omega
/-- Two rising lists with the same members are one. -/
theorem rising_eq {l m : List (Int × Int)} (hl : l.Pairwise ltP) (hm : m.Pairwise ltP) (h : ∀ x, x ∈ l ↔ x ∈ m) : l = m := by
  have nd : ∀ {l : List (Int × Int)}, l.Pairwise ltP → l.Nodup := fun hl => hl.imp fun {a b} h e => by unfold ltP at h; rw [e] at h; omega
  refine List.Perm.eq_of_pairwise (le := ltP) (fun a b _ _ h1 h2 => ?_) hl hm ((List.perm_ext_iff_of_nodup (nd hl) (nd hm)).2 h)
  unfold ltP at h1 h2
  omega
end Go.Proofs.Ytedfepnekjjmnab

/-
  (*System).Open, slices.Equal of pairs: the walks. No condition but a bound.
-/
namespace Go.Proofs.Ytedfepnekjjmnab
open Go.RowKit Go.Maps
set_option linter.unusedSimpArgs false
set_option linter.unusedVariables false
set_option maxRecDepth 100000

abbrev rP (v : Value) (l : List (Int × Int)) : Rw := ⟨Int × Int, pairE, pairF, v, l⟩
theorem wf_k {k : Nat} (h1 : 1 ≤ k) (h2 : k ≤ 99) : wf64 (k : Int) := pidW_wf (a := (k : Int)) (by unfold pidW; simp; omega)
set_option maxHeartbeats 4000000 in
theorem ropen_c (S m n p q : Nat) (A : List Ent) (w : World) (hB : Blk w S [.slice none 0 0, .int .i64 0, .int .i64 0, .map (some p), .map (some m), .map (some q), .slice none 0 0]) (hm : MapG w m n A) (hml : m < w.heap.size) (hf : ∀ k : Int × Int, ∃ x cap, (rawF A k.1 k.2).getD (.slice none 0 0) = .slice x (listF A k).length cap) :
    Calls Try.prog 31 #[.pointer (some ⟨S, 0, none⟩)] w fun e w' => ∃ v, e = .returned v ∧ RQ (fun _ => False) (fun _ => False) w [] w' [rP v (openL A 9801)] := by
  have HB := Lib.hid hB
  have HM := Lib.hid hm
  have HF := Lib.hid hf
  have HS0 : Hid (RQ (fun _ => False) (fun _ => False) w [] w [rP (.slice none 0 0) []]) := Lib.hid ((RQ.start (fun _ => False) w (fun _ h => h.elim)).nil pairF)
  clear hB hm hf
  go_enter Try.func31, Try.ntmps31
  go_wp2_with fail
  go_loopw [3, 4] (fun s3 s4 wr => ∃ k : Nat, 1 ≤ k ∧ k ≤ 100 ∧ s4 = .int .i64 k ∧ RQ (fun _ => False) (fun _ => False) w [] wr [rP s3 (openL A ((k - 1) * 99))]) (fun _ s4 _ => 100 - (intOf s4).toNat)
  case atStart => exact ⟨1, by omega, by omega, rfl, HS0.out⟩
  case round =>
    obtain ⟨k, hk1, hk2, rfl, hR⟩ := hrel
    have HR := Lib.hid hR
    clear hR
    by_cases hk : k ≤ 99
    · have hki : (k : Int) ≤ 99 := by omega
      go_wp2_with fail
      go_loopw [3, 5] (fun s3 s5 wr => ∃ j : Nat, 1 ≤ j ∧ j ≤ 100 ∧ s5 = .int .i64 j ∧ RQ (fun _ => False) (fun _ => False) w [] wr [rP s3 (openL A ((k - 1) * 99 + (j - 1)))]) (fun _ s5 _ => 100 - (intOf s5).toNat)
      case atStart => exact ⟨1, by omega, by omega, rfl, HR.out⟩
      case round =>
        obtain ⟨j, hj1, hj2, rfl, hR2⟩ := hrel
        obtain ⟨wq, rfl⟩ : ∃ wq : World, wq = wr := ⟨_, rfl⟩
        by_cases hj : j ≤ 99
        · have hji : (j : Int) ≤ 99 := by omega
          have hsucc := openL_succ A (k - 1) (j - 1) (by omega)
          have ek : (((k - 1 : Nat) : Int) + 1, ((j - 1 : Nat) : Int) + 1) = ((k : Int), (j : Int)) := Prod.ext (by simp only; omega) (by simp only; omega)
          rw [ek] at hsucc
          have hnn : (k - 1) * 99 + (j - 1) + 1 = (k - 1) * 99 + (j + 1 - 1) := by omega
          rw [hnn] at hsucc
          obtain ⟨x, cap, hx⟩ := HF.out ((k : Int), (j : Int))
          have hlk := (HM.out.toQ (hR2.bel.block m hml)).lookQ (wf_k hk1 hk) (wf_k hj1 hj)
          rw [hx] at hlk
          unfold pk at hlk
          have y4 := (HB.out.step hR2.bel).cell 4 _ rfl
          have HR2 := Lib.hid hR2
          have HSU := Lib.hid hsucc
          have hol := openL_len A ((k - 1) * 99 + (j - 1))
          have hol2 : (k - 1) * 99 + (j - 1) ≤ 10000 := by omega
          clear hR2 hx hsucc ek hnn
          by_cases hl : listF A ((k : Int), (j : Int)) = []
          · have hl0 : (listF A ((k : Int), (j : Int))).length = 0 := by rw [hl]; rfl
            rw [hl0] at hlk
            have HL := Lib.hid hl
            clear hl hl0
            go_wp2_with fail
            go_roundw
            case rel => exact ⟨j + 1, by omega, by omega, by go_num, by rw [HSU.out, if_pos HL.out, List.append_nil]; exact HR2.out⟩
            case measure => simp [intOf]; omega
          · have hl0 : (0 : Int) < ((listF A ((k : Int), (j : Int))).length : Int) := by have := List.length_pos_iff.2 hl; omega
            obtain ⟨L, hL⟩ : ∃ L, L = (listF A ((k : Int), (j : Int))).length := ⟨_, rfl⟩
            rw [← hL] at hlk hl0
            have HL := Lib.hid hl
            obtain ⟨Wb, hWb⟩ : ∃ W : World, W = wq.alloc (.cells #[.int .i64 (k : Int), .int .i64 (j : Int)] 62) := ⟨_, rfl⟩
            obtain ⟨gz, hgz⟩ : ∃ g, g = wq.heap.size := ⟨_, rfl⟩
            have HSb : Hid (RQ (fun _ => False) (fun _ => False) w [(gz, [.int .i64 (k : Int), .int .i64 (j : Int)])] Wb [rP u3 (openL A ((k - 1) * 99 + (j - 1)))]) := Lib.hid (by rw [hWb]; exact HR2.out.alloc #[.int .i64 (k : Int), .int .i64 (j : Int)] _ hgz)
            have HWB := Lib.hid hWb
            have HGZ := Lib.hid hgz
            clear hl hL hWb hgz
            go_wp2_with (rw [← HWB.out, ← HGZ.out]; refine append_growQ _ _ rfl pairF rfl [] [] (v := u3) (xs := openL A ((k - 1) * 99 + (j - 1))) (y := ((k : Int), (j : Int))) (g0 := gz) (c := [.int .i64 (k : Int), .int .i64 (j : Int)]) (by rfl) (by rfl) HSb.out (List.mem_cons_self ..) rfl rfl (by omega) ?_; intro gn on cn wn hz hzg; have HZ := Lib.hid (hz.sub (bs' := []) (by simp)); clear hz hzg)
            go_roundw
            case rel => exact ⟨j + 1, by omega, by omega, by go_num, by rw [HSU.out, if_neg HL.out]; exact HZ.out⟩
            case measure => simp [intOf]; omega
        · have hji : ¬ (j : Int) ≤ 99 := by omega
          obtain rfl : j = 100 := by omega
          have HR2 := Lib.hid hR2
          clear hR2
          go_wp2_with fail
          go_roundw
          case rel => exact ⟨k + 1, by omega, by omega, by go_num, by rw [show (k + 1 - 1) * 99 = (k - 1) * 99 + (100 - 1) by omega]; exact HR2.out⟩
          case measure => simp [intOf]; omega
    · have hki : ¬ (k : Int) ≤ 99 := by omega
      obtain rfl : k = 100 := by omega
      go_wp2_with fail
      go_ret
      exact ⟨_, rfl, HR.out⟩
end Go.Proofs.Ytedfepnekjjmnab

/-
  slices.Equal of two like rows of pairs. No condition but a bound.
-/
namespace Go.Proofs.Ytedfepnekjjmnab
open Go.RowKit Go.Maps
set_option linter.unusedSimpArgs false
set_option linter.unusedVariables false
set_option maxRecDepth 100000

theorem eq_pair {a b : Int} (ha : wf64 a) (hb : wf64 b) (w : World) : (Op.equalIn 10000 62 (.agg #[.int .i64 a, .int .i64 b]) (.agg #[.int .i64 a, .int .i64 b])).run Try.prog w = .ok true w := by
  obtain ⟨kl, hk⟩ := pk_key a b ha hb
  unfold keyOf at hk
  rw [Try.underlying62] at hk
  simp only at hk
  split at hk
  · rename_i hc
    have hc2 := (Bool.and_eq_true_iff.1 hc).2
    obtain ⟨ls, hl, -⟩ := Option.map_eq_some_iff.1 hk
    obtain ⟨r, hr, hiff⟩ := run_equalIn_deep (P := Try.prog) 9998 2 62 (by kernel_rfl) w _ _ (pk a b) (pk a b) ls ls hc2 hc2 hl hl
    rw [hiff.2 rfl] at hr
    exact hr
  · cases hk
set_option maxHeartbeats 4000000 in
theorem equalQ_c (R1 S1 R2 S2 : Nat → Prop) (ks : List (Int × Int)) (u v : Value) (w : World) (hu : RX pairE R1 S1 w ks u) (hv : RX pairE R2 S2 w ks v) (hl : ks.length ≤ 1099511627776) (hwf : ∀ x ∈ ks, wf64 x.1 ∧ wf64 x.2) :
    Calls Try.prog 30 #[u, v] w fun e w' => e = .returned (.bool true) ∧ Below w.heap.size w w' := by
  obtain ⟨a1, c1, rfl, hc1⟩ := hu.form
  obtain ⟨a2, c2, rfl, hc2⟩ := hv.form
  have HU := Lib.hid hu
  have HV := Lib.hid hv
  clear hu hv hc1 hc2
  go_enter Try.func30, Try.ntmps30
  go_wp2_with fail
  go_loopw [13] (fun i wr => ∃ k : Nat, k ≤ ks.length ∧ i = .int .i64 k ∧ Below w.heap.size w wr) (fun i _ => ks.length - (intOf i).toNat)
  case atStart => exact ⟨0, Nat.zero_le _, rfl, Below.refl _ _⟩
  case round =>
    obtain ⟨k, hk, rfl, hB⟩ := hrel
    have HB := Lib.hid hB
    clear hB
    by_cases hlt : k < ks.length
    · have hlti : (k : Int) < (ks.length : Int) := by omega
      obtain ⟨b1, o1, rfl⟩ := HU.out.addr (by decide) (by omega)
      obtain ⟨b2, o2, rfl⟩ := HV.out.addr (by decide) (by omega)
      obtain ⟨cs1, hC1, hcell1⟩ := HU.out.elem k hlt
      obtain ⟨cs2, hC2, hcell2⟩ := HV.out.elem k hlt
      obtain ⟨x, hx⟩ : ∃ x, x = ks[k] := ⟨_, rfl⟩
      have hwx := hwf _ (List.getElem_mem hlt)
      rw [← hx] at hC1 hC2 hwx
      have heq := fun w' => eq_pair hwx.1 hwx.2 w'
      obtain rfl : cs1 = [.int .i64 x.1, .int .i64 x.2] := hC1
      obtain rfl : cs2 = [.int .i64 x.1, .int .i64 x.2] := hC2
      have HQ : Hid (∀ w' : World, Below w.heap.size w w' → w'.cell? ⟨b1, o1 + k * 2, none⟩ = some (.int .i64 x.1) ∧ w'.cell? ⟨b1, o1 + k * 2 + 1, none⟩ = some (.int .i64 x.2) ∧ w'.cell? ⟨b2, o2 + k * 2, none⟩ = some (.int .i64 x.1) ∧ w'.cell? ⟨b2, o2 + k * 2 + 1, none⟩ = some (.int .i64 x.2)) := Lib.hid fun w' h => by
        have q1 := (hcell1 0 _ rfl).2
        have q2 := (hcell1 1 _ rfl).2
        have q3 := (hcell2 0 _ rfl).2
        have q4 := (hcell2 1 _ rfl).2
        exact ⟨(h.cell (World.block_lt_of_cell? w _ q1)).trans q1, (h.cell (World.block_lt_of_cell? w _ q2)).trans q2, (h.cell (World.block_lt_of_cell? w _ q3)).trans q3, (h.cell (World.block_lt_of_cell? w _ q4)).trans q4⟩
      clear hcell1 hcell2 hx
      go_upto_region 6 with fail
      refine rg_start (fun w' => w'.cell? ⟨b1, o1 + k * 2, none⟩ = some (.int .i64 x.1) ∧ w'.cell? ⟨b1, o1 + k * 2 + 1, none⟩ = some (.int .i64 x.2) ∧ w'.cell? ⟨b2, o2 + k * 2, none⟩ = some (.int .i64 x.1) ∧ w'.cell? ⟨b2, o2 + k * 2 + 1, none⟩ = some (.int .i64 x.2)) (by as_aux_lemma => kernel_rfl) (fun Wd h => HQ.out _ (below_step HB.out HB.out.size h)) ?_
      intro wz0 hB0 hWd hWd' hHeld
      have HB0 := Lib.hid (below_step HB.out HB.out.size hB0)
      clear hB0
      refine rg_take (i := 0) (v := ?_) rfl (by as_aux_lemma => kernel_rfl) (by as_aux_lemma => kernel_rfl) (by as_aux_lemma => kernel_rfl) (by rfl) ?_ hHeld ?_
      rotate_left 1
      · intro w hSw; (try dsimp only at hSw); go_simp; try (with_reducible rfl)
      (try simp only [Act.put, List.setIfInBounds_toArray, List.set_cons_zero, List.set_cons_succ])
      refine rg_take (i := 1) (v := ?_) rfl (by as_aux_lemma => kernel_rfl) (by as_aux_lemma => kernel_rfl) (by as_aux_lemma => kernel_rfl) (by rfl) ?_ hHeld ?_
      rotate_left 1
      · intro w hSw; (try dsimp only at hSw); go_simp; try (with_reducible rfl)
      (try simp only [Act.put, List.setIfInBounds_toArray, List.set_cons_zero, List.set_cons_succ])
      refine rg_take (i := 2) (v := ?_) rfl (by as_aux_lemma => kernel_rfl) (by as_aux_lemma => kernel_rfl) (by as_aux_lemma => kernel_rfl) (by rfl) ?_ hHeld ?_
      rotate_left 1
      · intro w hSw; (try dsimp only at hSw); go_simp; try (with_reducible rfl)
      (try simp only [Act.put, List.setIfInBounds_toArray, List.set_cons_zero, List.set_cons_succ])
      refine rg_take (i := 3) (v := ?_) rfl (by as_aux_lemma => kernel_rfl) (by as_aux_lemma => kernel_rfl) (by as_aux_lemma => kernel_rfl) (by rfl) ?_ hHeld ?_
      rotate_left 1
      · intro w hSw; (try dsimp only at hSw); go_simp; try (with_reducible rfl)
      (try simp only [Act.put, List.setIfInBounds_toArray, List.set_cons_zero, List.set_cons_succ])
      refine rg_take (i := 4) (v := ?_) rfl (by as_aux_lemma => kernel_rfl) (by as_aux_lemma => kernel_rfl) (by as_aux_lemma => kernel_rfl) (by rfl) ?_ hHeld ?_
      rotate_left 1
      · intro w hSw; (try dsimp only at hSw); go_simp; try (with_reducible rfl)
      (try simp only [Act.put, List.setIfInBounds_toArray, List.set_cons_zero, List.set_cons_succ])
      refine rg_take (i := 5) (v := ?_) rfl (by as_aux_lemma => kernel_rfl) (by as_aux_lemma => kernel_rfl) (by as_aux_lemma => kernel_rfl) (by rfl) ?_ hHeld ?_
      rotate_left 1
      · intro w hSw; (try dsimp only at hSw); go_simp; try (with_reducible rfl)
      (try simp only [Act.put, List.setIfInBounds_toArray, List.set_cons_zero, List.set_cons_succ])
      refine rg_take (i := 6) (v := ?_) rfl (by as_aux_lemma => kernel_rfl) (by as_aux_lemma => kernel_rfl) (by as_aux_lemma => kernel_rfl) (by rfl) ?_ hHeld ?_
      rotate_left 1
      · intro w hSw; (try dsimp only at hSw); go_simp; try (with_reducible rfl)
      (try simp only [Act.put, List.setIfInBounds_toArray, List.set_cons_zero, List.set_cons_succ])
      refine rg_take (i := 7) (v := ?_) rfl (by as_aux_lemma => kernel_rfl) (by as_aux_lemma => kernel_rfl) (by as_aux_lemma => kernel_rfl) (by rfl) ?_ hHeld ?_
      rotate_left 1
      · intro w hSw; (try dsimp only at hSw); go_simp; try (with_reducible rfl)
      (try simp only [Act.put, List.setIfInBounds_toArray, List.set_cons_zero, List.set_cons_succ])
      refine rg_take (i := 8) (v := ?_) rfl (by as_aux_lemma => kernel_rfl) (by as_aux_lemma => kernel_rfl) (by as_aux_lemma => kernel_rfl) (by rfl) ?_ hHeld ?_
      rotate_left 1
      · intro w hSw; (try dsimp only at hSw); go_simp; (try rw [heq]); try (with_reducible rfl)
      (try simp only [Act.put, List.setIfInBounds_toArray, List.set_cons_zero, List.set_cons_succ])
      refine rg_done (by as_aux_lemma => kernel_rfl) ?_
      clear hHeld
      go_wp2_with fail
      go_roundw
      case rel => exact ⟨k + 1, by omega, by go_num, HB0.out⟩
      case measure => simp [intOf]; omega
    · have hlti : ¬ (k : Int) < (ks.length : Int) := by omega
      go_wp2_with fail
      go_ret
      exact ⟨rfl, HB.out⟩
end Go.Proofs.Ytedfepnekjjmnab

/-
  WayPlays: what stands between two calls. Plain facts. No condition.
-/
namespace Go.Proofs.Ytedfepnekjjmnab
open Go.RowKit Go.Maps
set_option linter.unusedSimpArgs false
set_option linter.unusedVariables false
set_option maxRecDepth 100000

theorem inB_pid (a : Int) : inB a 1 99 = pidW a := rfl
theorem sendE_put {a c : Int} {t : T} (h : ¬ (pidW a = false ∨ pidW c = false)) (hp : putE t = 0) (A : List Ent) : sendE A a c t = if (listF A (a, c)).length = 20 then 2 else 0 := by
  unfold putE at hp
  unfold sendE
  rw [if_neg h]
  by_cases h1 : checkE t = 0
  · rw [if_neg (by rw [h1]; simp)] at hp ⊢
    by_cases h2 : closedL [t] = false
    · rw [if_pos h2] at hp; cases hp
    · rw [if_neg h2]
  · rw [if_pos h1] at hp; exact absurd hp h1
theorem sendE_bad {a c : Int} {t : T} (h : ¬ (pidW a = false ∨ pidW c = false)) (hp : putE t ≠ 0) (A : List Ent) : sendE A a c t = putE t := by
  unfold putE at hp ⊢
  unfold sendE
  rw [if_neg h]
  by_cases h1 : checkE t = 0
  · rw [if_neg (by rw [h1]; simp)] at hp ⊢
    by_cases h2 : closedL [t] = false
    · rw [if_pos h2, if_neg (by rw [h1]; simp), if_pos h2]
    · rw [if_neg h2] at hp; exact absurd rfl hp
  · rw [if_pos h1, if_pos h1]
theorem sendE_pid {A : List Ent} {a c : Int} {t : T} (h : sendE A a c t = 0) : 1 ≤ a ∧ a ≤ 99 ∧ 1 ≤ c ∧ c ≤ 99 := by
  unfold sendE at h
  split at h
  · cases h
  · rename_i hn
    unfold pidW at hn
    simp at hn
    omega
/-- Between two calls of WayPlays. -/
def WP (bs : List (Nat × List Value)) (P0 : Nat → Prop) (w0 : World) (B bm g m p q k : Nat) (w : World) : Prop :=
  ∃ (P : Nat → Prop) (A1 A2 : List Ent) (n1 n2 : Nat), (∀ b, P0 b → P b) ∧ RQ P (WF4 B bm g m) w0 bs w (rowsE A1 ++ rowsE A2) ∧ MapE w bm n1 A1 ∧ MapG w m n2 A2 ∧ Blk w B [.map (some bm)] ∧
    Blk w g [.slice none 0 0, .int .i64 0, .int .i64 0, .map (some p), .map (some m), .map (some q), .slice none 0 0] ∧ PInv A1 A2 ∧ n1 ≤ k ∧ n2 ≤ k
/-- What All answers is what Open answers. -/
theorem all_open {w : World} {b n : Nat} {A1 A2 : List Ent} (hm : MapE w b n A1) (hI : PInv A1 A2) {ts : List (Int × Int)} (hs : ts.Pairwise ltP) (ht : ∀ x, x ∈ ts ↔ x ∈ keyE A1) : ts = openL A2 9801 :=
  rising_eq hs (openL_sorted A2 9801) fun x => by
    rw [ht, openL_mem, hI.ls]
    constructor
    · intro h; exact ⟨hI.ky x h, (hm.mem_key x).1 h⟩
    · intro h; exact (hm.mem_key x).2 h.2
theorem openL_wf (A : List Ent) : ∀ x ∈ openL A 9801, wf64 x.1 ∧ wf64 x.2 := fun x hx => by
  obtain ⟨⟨h1, h2, h3, h4⟩, -⟩ := (openL_mem A x).1 hx
  exact ⟨pidW_wf (by unfold pidW; simp; omega), pidW_wf (by unfold pidW; simp; omega)⟩
end Go.Proofs.Ytedfepnekjjmnab
