/-
  way.Take. No condition but a bound.
-/
import Derived.Test.YtedfepnekjjmnabJf
import Derived.Test.YtedfepnekjjmnabJe
namespace Go.Proofs.Ytedfepnekjjmnab
open Go.RowKit Go.Maps
set_option linter.unusedSimpArgs false
set_option linter.unusedVariables false
set_option maxRecDepth 100000

section
variable {o : Oper} {q : Act} {Q : Exit → Act → World → Prop} {K : Act → World → Prop} {w : World}
theorem wp_mapUpdateQ (m x y : Operand) (hop : o.op = Op.mapUpdate 59 m x y) {mv xv yv : Value} {w1 : World} (hm : q.eval m = mv) (hx : q.eval x = xv) (hy : q.eval y = yv) (hrun : (Instr.mapUpdate 59 mv xv yv).run Try.prog w = .ok () w1) (hK : K (q.put o.dst undef) w1) : Oper.wp Try.prog o q w K Q := by
  unfold Oper.wp
  simp [execOp, hop, hm, hx, hy, hrun, Result.andThen]
  exact hK
theorem wp_deleteQ (s x : Operand) (ho : o.op = .call { callee := .builtin .delete, args := #[s, x], argTypes := #[59, 62] }) {sv xv v : Value} {w1 : World} (hs : q.eval s = sv) (hx : q.eval x = xv) (hr : (Builtin.delete_ #[59, 62] o.type #[sv, xv]).run Try.prog w = .ok v w1) (hK : K (q.put o.dst v) w1) : Oper.wp Try.prog o q w K Q := by
  unfold Oper.wp execOp
  simp only [ho, resolve, invoke, builtin, Sem.run_bind, Sem.run_pure, Result.andThen_ok, List.map_toArray, List.map_cons, List.map_nil, hs, hx, hr]
  exact hK
end
def WTakeP (P F : Nat → Prop) (w0 : World) (bs : List (Nat × List Value)) (w : World) (rs : List Rw) (A : List Ent) (bm n : Nat) (a c : Int) (e : Ending) (w' : World) : Prop :=
  w.heap.size ≤ w'.heap.size ∧ (∀ b, F b → b ≠ bm → w'.heap[b]? = w.heap[b]?) ∧
    ((listF A (a, c) = [] ∧ e = .returned (.tuple #[.agg #[.int .i64 0, .int .i64 0, .string ⟨#[]⟩, .slice none 0 0], .int .i64 4]) ∧ RQ P F w0 bs w' (rowsE A ++ rs) ∧ MapE w' bm n A) ∨
     (∃ t A' v, TookTo A (a, c) t A' ∧ e = .returned (.tuple #[v, .int .i64 0]) ∧ RT P w' t v ∧ RQ P F w0 bs w' (rowsE A' ++ rs) ∧ MapE w' bm (n + 1) A'))

set_option maxHeartbeats 8000000 in
theorem wtake_c (P F : Nat → Prop) (w0 : World) (bs : List (Nat × List Value)) (w : World) (rs : List Rw) (A : List Ent) (B bm n : Nat) (a c : Int) (hR : RQ P F w0 bs w (rowsE A ++ rs)) (hm : MapE w bm n A) (hB : Blk w B [.map (some bm)]) (fm : F bm) (fB : F B) (hne : B ≠ bm)
    (hn : n < 1000000) (ha : wf64 a) (hc : wf64 c) (hL : ∀ q ∈ A, q.2.2.length ≤ 20) :
    Calls Try.prog 25 #[.pointer (some ⟨B, 0, none⟩), .int .i64 a, .int .i64 c] w (WTakeP P F w0 bs w rs A bm n a c) := by
  obtain ⟨W0, hW0⟩ : ∃ W : World, W = w.alloc (.cells #[.int .i64 0, .int .i64 0, .string ⟨#[]⟩, .slice none 0 0] 24) := ⟨_, rfl⟩
  obtain ⟨g6, hg6⟩ : ∃ g, g = w.heap.size := ⟨_, rfl⟩
  have HS0 : Hid (RQ P F w0 ((g6, [.int .i64 0, .int .i64 0, .string ⟨#[]⟩, .slice none 0 0]) :: bs) W0 (rowsE A ++ rs)) := Lib.hid (by rw [hW0]; exact hR.alloc #[.int .i64 0, .int .i64 0, .string ⟨#[]⟩, .slice none 0 0] _ hg6)
  have HB0 : Hid (Below w.heap.size w W0) := Lib.hid (by rw [hW0]; exact below_alloc _ _)
  have HR := Lib.hid hR
  have HM := Lib.hid hm
  have HBB := Lib.hid hB
  have HW0 := Lib.hid hW0
  have HG6 := Lib.hid hg6
  have hs0 := HB0.out.size
  clear hR hm hB hW0 hg6
  go_enter Try.func25, Try.ntmps25
  go_upto_region 1 with fail
  rw [← HW0.out, ← HG6.out]
  go_upto_region 2 with fail
  obtain ⟨W1, hW1⟩ : ∃ W : World, W = W0.alloc (.cells #[.int .i64 a, .int .i64 c] 62) := ⟨_, rfl⟩
  obtain ⟨g8, hg8⟩ : ∃ g, g = W0.heap.size := ⟨_, rfl⟩
  have HS1 : Hid (RQ P F w0 ((g8, [.int .i64 a, .int .i64 c]) :: (g6, [.int .i64 0, .int .i64 0, .string ⟨#[]⟩, .slice none 0 0]) :: bs) W1 (rowsE A ++ rs)) := Lib.hid (by rw [hW1]; exact HS0.out.alloc #[.int .i64 a, .int .i64 c] _ hg8)
  have HB1 : Hid (Below w.heap.size w W1) := Lib.hid (by rw [hW1]; exact below_step HB0.out (by omega) (below_alloc _ _))
  rw [← hW1, ← hg8]
  clear hW1 hg8
  have hs1 := HB1.out.size
  have hbm := (HR.out.fh bm fm).2.1
  have hBl := (HR.out.fh B fB).2.1
  have HG : Hid ((∀ p ∈ bs, p.1 < g6) ∧ (∀ b, P b → b < g6) ∧ (∀ b, F b → b < g6) ∧ w0.heap.size ≤ g6) := Lib.hid ⟨fun p hp => by rw [HG6.out]; exact (HR.out.bk p hp).1.lt, fun b hb => by rw [HG6.out]; exact (HR.out.pb b hb).1, fun b hb => by rw [HG6.out]; exact (HR.out.fh b hb).2.1, by rw [HG6.out]; exact HR.out.bel.size⟩
  have HLK : Hid (∀ w' : World, w'.heap[bm]? = w.heap[bm]? → (Instr.lookup 59 (.map (some bm)) (.agg #[.int .i64 a, .int .i64 c]) false).run Try.prog w' = .ok ((rawF A a c).getD (.slice none 0 0)) w') := Lib.hid fun w' e => (HM.out.toQ e).lookQ ha hc
  have HQ2 : Hid (∀ w' : World, RQ P F w0 ((g8, [.int .i64 a, .int .i64 c]) :: (g6, [.int .i64 0, .int .i64 0, .string ⟨#[]⟩, .slice none 0 0]) :: bs) w' (rowsE A ++ rs) → Below W1.heap.size W1 w' → w'.heap[bm]? = w.heap[bm]? ∧ w'.cell? ⟨B, 0, none⟩ = some (.map (some bm)) ∧ w'.cell? ⟨g8, 0, none⟩ = some (.int .i64 a) ∧ w'.cell? ⟨g8, 1, none⟩ = some (.int .i64 c)) := Lib.hid fun w' h h2 => ⟨(h2.block _ (by omega)).trans (HB1.out.block _ hbm), ((HBB.out.step HB1.out).step h2).cell 0 _ rfl, h.cell (List.mem_cons_self ..) 0 _ rfl, h.cell (List.mem_cons_self ..) 1 _ rfl⟩
  have HQ5 : Hid (∀ (w' : World) (rows : List Rw), RQ P F w0 ((g8, [.int .i64 a, .int .i64 c]) :: (g6, [.int .i64 0, .int .i64 0, .string ⟨#[]⟩, .slice none 0 0]) :: bs) w' rows → Blk w' B [.map (some bm)] → w'.cell? ⟨B, 0, none⟩ = some (.map (some bm)) ∧ w'.cell? ⟨g8, 0, none⟩ = some (.int .i64 a) ∧ w'.cell? ⟨g8, 1, none⟩ = some (.int .i64 c)) := Lib.hid fun w' rows h hbk => ⟨hbk.cell 0 _ rfl, h.cell (List.mem_cons_self ..) 0 _ rfl, h.cell (List.mem_cons_self ..) 1 _ rfl⟩
  cases he : entF A (a, c) with
  | none =>
    have e0 : (rawF A a c).getD (.slice none 0 0) = .slice none 0 0 := by unfold rawF; rw [he]; rfl
    have e1 : listF A (a, c) = [] := by unfold listF; rw [he]; rfl
    rw [e0] at HLK
    clear e0
    refine rg_start (fun w' => w'.heap[bm]? = w.heap[bm]? ∧ w'.cell? ⟨B, 0, none⟩ = some (.map (some bm)) ∧ w'.cell? ⟨g8, 0, none⟩ = some (.int .i64 a) ∧ w'.cell? ⟨g8, 1, none⟩ = some (.int .i64 c)) (by as_aux_lemma => kernel_rfl) (fun Wd h => HQ2.out _ (HS1.out.below h) h) ?_
    intro Wd hB hWd hWd' hHeld
    have HSd := Lib.hid (HS1.out.below hB)
    have HBd := Lib.hid hB
    clear hB
    refine rg_take (i := 0) (v := ?_) rfl (by as_aux_lemma => kernel_rfl) (by as_aux_lemma => kernel_rfl) (by as_aux_lemma => kernel_rfl) (by rfl) ?_ hHeld ?_
    rotate_left 1
    · intro w hSw; (try dsimp only at hSw); go_simp; try (with_reducible rfl)
    (try simp only [Act.put, List.setIfInBounds_toArray, List.set_cons_zero, List.set_cons_succ])
    refine rg_take (i := 1) (v := ?_) rfl (by as_aux_lemma => kernel_rfl) (by as_aux_lemma => kernel_rfl) (by as_aux_lemma => kernel_rfl) (by rfl) ?_ hHeld ?_
    rotate_left 1
    · intro w hSw; (try dsimp only at hSw); go_simp; try (with_reducible rfl)
    (try simp only [Act.put, List.setIfInBounds_toArray, List.set_cons_zero, List.set_cons_succ])
    refine rg_take (i := 2) (v := ?_) rfl (by as_aux_lemma => kernel_rfl) (by as_aux_lemma => kernel_rfl) (by as_aux_lemma => kernel_rfl) (by rfl) ?_ hHeld ?_
    rotate_left 1
    · intro w hSw; (try dsimp only at hSw); go_simp; try (with_reducible rfl)
    (try simp only [Act.put, List.setIfInBounds_toArray, List.set_cons_zero, List.set_cons_succ])
    refine rg_take (i := 3) (v := ?_) rfl (by as_aux_lemma => kernel_rfl) (by as_aux_lemma => kernel_rfl) (by as_aux_lemma => kernel_rfl) (by rfl) ?_ hHeld ?_
    rotate_left 1
    · intro w hSw; (try dsimp only at hSw); go_simp; try (with_reducible rfl)
    (try simp only [Act.put, List.setIfInBounds_toArray, List.set_cons_zero, List.set_cons_succ])
    refine rg_take (i := 4) (v := ?_) rfl (by as_aux_lemma => kernel_rfl) (by as_aux_lemma => kernel_rfl) (by as_aux_lemma => kernel_rfl) (by rfl) ?_ hHeld ?_
    rotate_left 1
    · intro w hSw; (try dsimp only at hSw); go_simp; try (with_reducible rfl)
    (try simp only [Act.put, List.setIfInBounds_toArray, List.set_cons_zero, List.set_cons_succ])
    refine rg_take (i := 5) (v := ?_) rfl (by as_aux_lemma => kernel_rfl) (by as_aux_lemma => kernel_rfl) (by as_aux_lemma => kernel_rfl) (by rfl) ?_ hHeld ?_
    rotate_left 1
    · intro w hSw; (try dsimp only at hSw); have hLK := HLK.out w hSw.1; go_simp; try (with_reducible rfl)
    (try simp only [Act.put, List.setIfInBounds_toArray, List.set_cons_zero, List.set_cons_succ])
    refine rg_take (i := 6) (v := ?_) rfl (by as_aux_lemma => kernel_rfl) (by as_aux_lemma => kernel_rfl) (by as_aux_lemma => kernel_rfl) (by rfl) ?_ hHeld ?_
    rotate_left 1
    · intro w hSw; (try dsimp only at hSw); go_simp; try (with_reducible rfl)
    (try simp only [Act.put, List.setIfInBounds_toArray, List.set_cons_zero, List.set_cons_succ])
    refine rg_done (by as_aux_lemma => kernel_rfl) ?_
    clear hHeld
    go_wp2_with (refine store_blk 24 4 szTerm _ _ rfl rfl rfl rfl rfl (HSd.out.bk _ (List.mem_cons_of_mem _ (List.mem_cons_self ..))).1 rfl rfl rfl ?_; intro W' hF hs' hBW hoth; have HF := Lib.hid hF; have HSZ := Lib.hid hs'; have HBW := Lib.hid hBW; have HOTH := Lib.hid hoth; clear hF hBW hoth hs')
    refine bodyPost_ret (results_blk Try.results25 szTerm _ Try.underlying24 rfl rfl HF.out rfl) rfl ?_
    have hdz := HBd.out.size
    have HBw : Hid (Below w.heap.size w Wd) := Lib.hid (below_step HB1.out (by omega) HBd.out)
    refine ⟨by have := HSZ.out; omega, fun b hf hn => (HOTH.out b (by have := HG.out.2.2.1 b hf; omega)).trans (HBw.out.block b (HR.out.fh b hf).2.1), .inl ⟨e1, rfl, ?_, HM.out.toQ ((HOTH.out bm (by have := HG.out.2.2.1 bm fm; omega)).trans (HBw.out.block bm hbm))⟩⟩
    exact (HSd.out.sub fun p hp => List.mem_cons_of_mem _ hp).otherQ HG.out.1 HG.out.2.1 HG.out.2.2.2 (by have := HSZ.out; omega) (HBW.out _ _ HG.out.2.2.2 HSd.out.bel) HOTH.out
  | some y =>
    obtain ⟨X, Y, rfl, hX⟩ := entF_some he
    obtain ⟨l1, l2, hl1⟩ : ∃ l1 l2 : List Rw, l1 = rowsE X ∧ l2 = rowsE Y ++ rs := ⟨_, _, rfl, rfl⟩
    obtain ⟨v, ls⟩ := y
    obtain ⟨hX', hY', -⟩ := nodup_mid HM.out.nd
    have hnil := (HM.out.wf ((a, c), v, ls) (by simp)).2.2
    cases ls with
    | nil => exact absurd rfl hnil
    | cons t l =>
      have hrw : ∀ v' l', rowsE (X ++ ((a, c), v', l') :: Y) ++ rs = l1 ++ rT v' l' :: l2 := fun v' l' => by rw [hl1.1, hl1.2]; simp [rowsE]
      have hlen := hL ((a, c), v, t :: l) (by simp)
      have hlen2 : l.length + 1 ≤ 20 := by simpa using hlen
      have hv0 : (rawF (X ++ ((a, c), v, t :: l) :: Y) a c).getD (.slice none 0 0) = v := by rw [rawF_at (k := (a, c)) hX]; rfl
      rw [hv0] at HLK
      have HTK : Hid (∀ (w' : World) (v' : Value), w'.heap[bm]? = w.heap[bm]? → ∃ w1, (Instr.mapUpdate 59 (.map (some bm)) (.agg #[.int .i64 a, .int .i64 c]) v').run Try.prog w' = .ok () w1 ∧ w'.grownBy w1 (some bm) ∧ (∀ l', l' ≠ [] → MapE w1 bm (n + 1) (X ++ ((a, c), v', l') :: Y)) ∧
        ∀ (w2 : World) (ty : TypeId), w2.heap[bm]? = w1.heap[bm]? → ∃ w3, (Builtin.delete_ #[59, 62] ty #[.map (some bm), .agg #[.int .i64 a, .int .i64 c]]).run Try.prog w2 = .ok (.tuple #[]) w3 ∧ MapE w3 bm (n + 1) (X ++ Y) ∧ w2.grownBy w3 (some bm)) := Lib.hid fun w' v' e => (HM.out.toQ e).takeQ (by unfold maxLen; omega) v'
      obtain ⟨g, o, cap, ha0, hcap0, hve, hcn, -⟩ := (by have h := HR.out; rw [hrw] at h; exact h : RQ P F w0 bs w (l1 ++ rT v (t :: l) :: l2)).headR
      subst hve
      have HS1' : Hid (RQ P F w0 ((g8, [.int .i64 a, .int .i64 c]) :: (g6, [.int .i64 0, .int .i64 0, .string ⟨#[]⟩, .slice none 0 0]) :: bs) W1 (l1 ++ rT (.slice (some ⟨g, o, none⟩) (l.length + 1) cap) (t :: l) :: l2)) := Lib.hid (by have h := HS1.out; rw [hrw] at h; exact h)
      have HS1 := HS1'
      have q0 : (((l.length + 1 : Nat) : Int) == 0) = false := by simp; omega
      have q0' : ((l.length : Int) + 1 == 0) = false := by simp; omega
      have q1 : (1 : Int) ≤ (l.length : Int) + 1 := by omega
      have q2 : (l.length : Int) + 1 ≤ cap := by omega
      have HQ2 : Hid (∀ w' : World, RQ P F w0 ((g8, [.int .i64 a, .int .i64 c]) :: (g6, [.int .i64 0, .int .i64 0, .string ⟨#[]⟩, .slice none 0 0]) :: bs) w' (l1 ++ rT (.slice (some ⟨g, o, none⟩) (l.length + 1) cap) (t :: l) :: l2) → Below W1.heap.size W1 w' → w'.heap[bm]? = w.heap[bm]? ∧ w'.cell? ⟨B, 0, none⟩ = some (.map (some bm)) ∧ w'.cell? ⟨g8, 0, none⟩ = some (.int .i64 a) ∧ w'.cell? ⟨g8, 1, none⟩ = some (.int .i64 c)) := Lib.hid fun w' h h2 => ⟨(h2.block _ (by omega)).trans (HB1.out.block _ hbm), ((HBB.out.step HB1.out).step h2).cell 0 _ rfl, h.cell (List.mem_cons_self ..) 0 _ rfl, h.cell (List.mem_cons_self ..) 1 _ rfl⟩
      clear hv0 hnil hlen hL HS1'
      refine rg_start (fun w' => w'.heap[bm]? = w.heap[bm]? ∧ w'.cell? ⟨B, 0, none⟩ = some (.map (some bm)) ∧ w'.cell? ⟨g8, 0, none⟩ = some (.int .i64 a) ∧ w'.cell? ⟨g8, 1, none⟩ = some (.int .i64 c)) (by as_aux_lemma => kernel_rfl) (fun Wd h => HQ2.out _ (HS1.out.below h) h) ?_
      intro Wd hB hWd hWd' hHeld
      have HSd := Lib.hid (HS1.out.below hB)
      have HBd := Lib.hid hB
      clear hB
      refine rg_take (i := 0) (v := ?_) rfl (by as_aux_lemma => kernel_rfl) (by as_aux_lemma => kernel_rfl) (by as_aux_lemma => kernel_rfl) (by rfl) ?_ hHeld ?_
      rotate_left 1
      · intro w hSw; (try dsimp only at hSw); go_simp; try (with_reducible rfl)
      (try simp only [Act.put, List.setIfInBounds_toArray, List.set_cons_zero, List.set_cons_succ])
      refine rg_take (i := 1) (v := ?_) rfl (by as_aux_lemma => kernel_rfl) (by as_aux_lemma => kernel_rfl) (by as_aux_lemma => kernel_rfl) (by rfl) ?_ hHeld ?_
      rotate_left 1
      · intro w hSw; (try dsimp only at hSw); go_simp; try (with_reducible rfl)
      (try simp only [Act.put, List.setIfInBounds_toArray, List.set_cons_zero, List.set_cons_succ])
      refine rg_take (i := 2) (v := ?_) rfl (by as_aux_lemma => kernel_rfl) (by as_aux_lemma => kernel_rfl) (by as_aux_lemma => kernel_rfl) (by rfl) ?_ hHeld ?_
      rotate_left 1
      · intro w hSw; (try dsimp only at hSw); go_simp; try (with_reducible rfl)
      (try simp only [Act.put, List.setIfInBounds_toArray, List.set_cons_zero, List.set_cons_succ])
      refine rg_take (i := 3) (v := ?_) rfl (by as_aux_lemma => kernel_rfl) (by as_aux_lemma => kernel_rfl) (by as_aux_lemma => kernel_rfl) (by rfl) ?_ hHeld ?_
      rotate_left 1
      · intro w hSw; (try dsimp only at hSw); go_simp; try (with_reducible rfl)
      (try simp only [Act.put, List.setIfInBounds_toArray, List.set_cons_zero, List.set_cons_succ])
      refine rg_take (i := 4) (v := ?_) rfl (by as_aux_lemma => kernel_rfl) (by as_aux_lemma => kernel_rfl) (by as_aux_lemma => kernel_rfl) (by rfl) ?_ hHeld ?_
      rotate_left 1
      · intro w hSw; (try dsimp only at hSw); go_simp; try (with_reducible rfl)
      (try simp only [Act.put, List.setIfInBounds_toArray, List.set_cons_zero, List.set_cons_succ])
      refine rg_take (i := 5) (v := ?_) rfl (by as_aux_lemma => kernel_rfl) (by as_aux_lemma => kernel_rfl) (by as_aux_lemma => kernel_rfl) (by rfl) ?_ hHeld ?_
      rotate_left 1
      · intro w hSw; (try dsimp only at hSw); have hLK := HLK.out w hSw.1; go_simp; try (with_reducible rfl)
      (try simp only [Act.put, List.setIfInBounds_toArray, List.set_cons_zero, List.set_cons_succ])
      refine rg_take (i := 6) (v := ?_) rfl (by as_aux_lemma => kernel_rfl) (by as_aux_lemma => kernel_rfl) (by as_aux_lemma => kernel_rfl) (by rfl) ?_ hHeld ?_
      rotate_left 1
      · intro w hSw; (try dsimp only at hSw); go_simp; try (with_reducible rfl)
      (try simp only [Act.put, List.setIfInBounds_toArray, List.set_cons_zero, List.set_cons_succ])
      refine rg_done (by as_aux_lemma => kernel_rfl) ?_
      clear hHeld
      have hdz := HBd.out.size
      have HBV : Hid (Below w.heap.size w Wd) := Lib.hid (below_step HB1.out (by omega) HBd.out)
      have EBd := Lib.hid (HBB.out.step HBV.out)
      by_cases hl : l = []
      · subst hl
        simp only [List.length_nil, Nat.zero_add, Int.natCast_zero, Int.zero_add] at *
        by_cases hc1 : cap = 1
        · subst hc1
          go_upto_region 5 with fail
          refine rg_start (fun w' => w'.cell? ⟨B, 0, none⟩ = some (.map (some bm)) ∧ w'.cell? ⟨g8, 0, none⟩ = some (.int .i64 a) ∧ w'.cell? ⟨g8, 1, none⟩ = some (.int .i64 c)) (by as_aux_lemma => kernel_rfl) (fun Wx h => HQ5.out _ _ (HSd.out.below h) (EBd.out.step h)) ?_
          intro wz0 hB hWd2 hWd2' hHeld
          have HZ0 := Lib.hid (HSd.out.below hB)
          have EB0 := Lib.hid (EBd.out.step hB)
          have EM0 : Hid (wz0.heap[bm]? = w.heap[bm]?) := Lib.hid ((hB.block bm (by omega)).trans (HBV.out.block bm hbm))
          have EF0 : Hid (∀ b, F b → b ≠ bm → wz0.heap[b]? = w.heap[b]?) := Lib.hid fun b hf hn => (hB.block b (by have := (HR.out.fh b hf).2.1; omega)).trans (HBV.out.block b (HR.out.fh b hf).2.1)
          clear hB
          refine rg_take (i := 0) (v := ?_) rfl (by as_aux_lemma => kernel_rfl) (by as_aux_lemma => kernel_rfl) (by as_aux_lemma => kernel_rfl) (by rfl) ?_ hHeld ?_
          rotate_left 1
          · intro w hSw; (try dsimp only at hSw); go_simp; try (with_reducible rfl)
          (try simp only [Act.put, List.setIfInBounds_toArray, List.set_cons_zero, List.set_cons_succ])
          refine rg_take (i := 1) (v := ?_) rfl (by as_aux_lemma => kernel_rfl) (by as_aux_lemma => kernel_rfl) (by as_aux_lemma => kernel_rfl) (by rfl) ?_ hHeld ?_
          rotate_left 1
          · intro w hSw; (try dsimp only at hSw); go_simp; try (with_reducible rfl)
          (try simp only [Act.put, List.setIfInBounds_toArray, List.set_cons_zero, List.set_cons_succ])
          refine rg_take (i := 2) (v := ?_) rfl (by as_aux_lemma => kernel_rfl) (by as_aux_lemma => kernel_rfl) (by as_aux_lemma => kernel_rfl) (by rfl) ?_ hHeld ?_
          rotate_left 1
          · intro w hSw; (try dsimp only at hSw); go_simp; try (with_reducible rfl)
          (try simp only [Act.put, List.setIfInBounds_toArray, List.set_cons_zero, List.set_cons_succ])
          refine rg_take (i := 3) (v := ?_) rfl (by as_aux_lemma => kernel_rfl) (by as_aux_lemma => kernel_rfl) (by as_aux_lemma => kernel_rfl) (by rfl) ?_ hHeld ?_
          rotate_left 1
          · intro w hSw; (try dsimp only at hSw); go_simp; try (with_reducible rfl)
          (try simp only [Act.put, List.setIfInBounds_toArray, List.set_cons_zero, List.set_cons_succ])
          refine rg_take (i := 4) (v := ?_) rfl (by as_aux_lemma => kernel_rfl) (by as_aux_lemma => kernel_rfl) (by as_aux_lemma => kernel_rfl) (by rfl) ?_ hHeld ?_
          rotate_left 1
          · intro w hSw; (try dsimp only at hSw); go_simp; try (with_reducible rfl)
          (try simp only [Act.put, List.setIfInBounds_toArray, List.set_cons_zero, List.set_cons_succ])
          refine rg_take (i := 5) (v := ?_) rfl (by as_aux_lemma => kernel_rfl) (by as_aux_lemma => kernel_rfl) (by as_aux_lemma => kernel_rfl) (by rfl) ?_ hHeld ?_
          rotate_left 1
          · intro w hSw; (try dsimp only at hSw); go_simp; try (with_reducible rfl)
          (try simp only [Act.put, List.setIfInBounds_toArray, List.set_cons_zero, List.set_cons_succ])
          refine rg_take (i := 6) (v := ?_) rfl (by as_aux_lemma => kernel_rfl) (by as_aux_lemma => kernel_rfl) (by as_aux_lemma => kernel_rfl) (by rfl) ?_ hHeld ?_
          rotate_left 1
          · intro w hSw; (try dsimp only at hSw); go_simp; try (with_reducible rfl)
          (try simp only [Act.put, List.setIfInBounds_toArray, List.set_cons_zero, List.set_cons_succ])
          refine rg_only (i := 7) rfl (by as_aux_lemma => kernel_rfl) (by rfl) (fun K hK => ?_)
          obtain ⟨wu, hur, hug, hum, hud⟩ := HTK.out wz0 (.slice (some ⟨g, o, none⟩) 0 0) EM0.out
          refine wp_mapUpdateQ _ _ _ rfl (by rfl) (by rfl) (by rfl) hur ?_
          have HSu := Lib.hid (HZ0.out.entry fm hug)
          have EBu := Lib.hid (EB0.out.heap (hug.block B (by omega) (fun e => hne (Option.some.inj e))))
          have EFu : Hid (∀ b, F b → b ≠ bm → wu.heap[b]? = w.heap[b]?) := Lib.hid fun b hf hn => (hug.block b (by have := (HR.out.fh b hf).2.1; omega) (fun e => hn (Option.some.inj e))).trans (EF0.out b hf hn)
          have HUM := Lib.hid hum
          have HUD := Lib.hid hud
          have hsu := hug.size
          clear hur hug hum hud
          refine hK.out _ _ (HQ5.out _ _ HSu.out EBu.out) (fun hHeld1 => ?_)
          clear hK K hHeld
          have hHeld := hHeld1
          clear hHeld1
          (try simp only [Act.put, List.setIfInBounds_toArray, List.set_cons_zero, List.set_cons_succ])
          refine rg_done (by as_aux_lemma => kernel_rfl) ?_
          clear hHeld
          go_upto_region 7 with fail
          refine rg_start (fun w' => w'.cell? ⟨B, 0, none⟩ = some (.map (some bm)) ∧ w'.cell? ⟨g8, 0, none⟩ = some (.int .i64 a) ∧ w'.cell? ⟨g8, 1, none⟩ = some (.int .i64 c)) (by as_aux_lemma => kernel_rfl) (fun Wx h => HQ5.out _ _ (HSu.out.below h) (EBu.out.step h)) ?_
          intro wy0 hB hWd3 hWd3' hHeld
          have HY0 := Lib.hid (HSu.out.below hB)
          have EBy := Lib.hid (EBu.out.step hB)
          have EMy : Hid (wy0.heap[bm]? = wu.heap[bm]?) := Lib.hid (hB.block bm (by omega))
          have EFy : Hid (∀ b, F b → b ≠ bm → wy0.heap[b]? = w.heap[b]?) := Lib.hid fun b hf hn => (hB.block b (by have := (HR.out.fh b hf).2.1; omega)).trans (EFu.out b hf hn)
          clear hB
          refine rg_take (i := 0) (v := ?_) rfl (by as_aux_lemma => kernel_rfl) (by as_aux_lemma => kernel_rfl) (by as_aux_lemma => kernel_rfl) (by rfl) ?_ hHeld ?_
          rotate_left 1
          · intro w hSw; (try dsimp only at hSw); go_simp; try (with_reducible rfl)
          (try simp only [Act.put, List.setIfInBounds_toArray, List.set_cons_zero, List.set_cons_succ])
          refine rg_take (i := 1) (v := ?_) rfl (by as_aux_lemma => kernel_rfl) (by as_aux_lemma => kernel_rfl) (by as_aux_lemma => kernel_rfl) (by rfl) ?_ hHeld ?_
          rotate_left 1
          · intro w hSw; (try dsimp only at hSw); go_simp; try (with_reducible rfl)
          (try simp only [Act.put, List.setIfInBounds_toArray, List.set_cons_zero, List.set_cons_succ])
          refine rg_take (i := 2) (v := ?_) rfl (by as_aux_lemma => kernel_rfl) (by as_aux_lemma => kernel_rfl) (by as_aux_lemma => kernel_rfl) (by rfl) ?_ hHeld ?_
          rotate_left 1
          · intro w hSw; (try dsimp only at hSw); go_simp; try (with_reducible rfl)
          (try simp only [Act.put, List.setIfInBounds_toArray, List.set_cons_zero, List.set_cons_succ])
          refine rg_take (i := 3) (v := ?_) rfl (by as_aux_lemma => kernel_rfl) (by as_aux_lemma => kernel_rfl) (by as_aux_lemma => kernel_rfl) (by rfl) ?_ hHeld ?_
          rotate_left 1
          · intro w hSw; (try dsimp only at hSw); go_simp; try (with_reducible rfl)
          (try simp only [Act.put, List.setIfInBounds_toArray, List.set_cons_zero, List.set_cons_succ])
          refine rg_take (i := 4) (v := ?_) rfl (by as_aux_lemma => kernel_rfl) (by as_aux_lemma => kernel_rfl) (by as_aux_lemma => kernel_rfl) (by rfl) ?_ hHeld ?_
          rotate_left 1
          · intro w hSw; (try dsimp only at hSw); go_simp; try (with_reducible rfl)
          (try simp only [Act.put, List.setIfInBounds_toArray, List.set_cons_zero, List.set_cons_succ])
          refine rg_only (i := 5) rfl (by as_aux_lemma => kernel_rfl) (by rfl) (fun K hK => ?_)
          obtain ⟨wx, hxr, hxm, hxg⟩ := HUD.out wy0 _ EMy.out
          refine wp_deleteQ _ _ rfl (by rfl) (by rfl) hxr ?_
          have HSx := Lib.hid (HY0.out.entry fm hxg)
          have EBx := Lib.hid (EBy.out.heap (hxg.block B (by omega) (fun e => hne (Option.some.inj e))))
          have EFx : Hid (∀ b, F b → b ≠ bm → wx.heap[b]? = w.heap[b]?) := Lib.hid fun b hf hn => (hxg.block b (by have := (HR.out.fh b hf).2.1; omega) (fun e => hn (Option.some.inj e))).trans (EFy.out b hf hn)
          have HXM := Lib.hid hxm
          have hsx := hxg.size
          clear hxr hxm hxg
          refine hK.out _ _ (HQ5.out _ _ HSx.out EBx.out) (fun hHeld1 => ?_)
          clear hK K hHeld
          have hHeld := hHeld1
          clear hHeld1
          (try simp only [Act.put, List.setIfInBounds_toArray, List.set_cons_zero, List.set_cons_succ])
          refine rg_done (by as_aux_lemma => kernel_rfl) ?_
          clear hHeld
          obtain ⟨g', o', cap', hda, hdc, hve, -, x0, x1, x2, x3, hrt⟩ := HSx.out.headR
          cases hve
          have HRT := Lib.hid hrt
          clear hrt
          go_wp2_with (refine store_blk 24 4 szTerm _ _ rfl rfl rfl rfl rfl (HSx.out.bk _ (List.mem_cons_of_mem _ (List.mem_cons_self ..))).1 rfl rfl rfl ?_; intro W' hF hs' hBW hoth; have HF := Lib.hid hF; have HSZ := Lib.hid hs'; have HBW := Lib.hid hBW; have HOTH := Lib.hid hoth; clear hF hBW hoth hs')
          refine bodyPost_ret (results_blk Try.results25 szTerm _ Try.underlying24 rfl rfl HF.out rfl) rfl ?_
          have hRQ := (HSx.out.sub fun p hp => List.mem_cons_of_mem _ hp).otherQ HG.out.1 HG.out.2.1 HG.out.2.2.2 (by have := HSZ.out; omega) (HBW.out _ _ HG.out.2.2.2 HSx.out.bel) HOTH.out
          refine ⟨by have := HSZ.out; omega, fun b hf hn => (HOTH.out b (by have := HG.out.2.2.1 b hf; omega)).trans (EFx.out b hf hn), .inr ⟨t, X ++ Y, _, ⟨X, Y, _, [], rfl, hX', hY', .inl ⟨rfl, rfl⟩⟩, rfl, HRT.out.to (fun _ h _ => h) (fun b hb _ => HOTH.out b (by have := HG.out.2.1 b hb; omega)), ?_, (HXM.out).toQ (HOTH.out bm (by have := HG.out.2.2.1 bm fm; omega))⟩⟩
          have h9 := hRQ.dropR
          rw [show rowsE (X ++ Y) ++ rs = l1 ++ l2 by rw [hl1.1, hl1.2]; simp [rowsE]]
          exact h9
        · have q3 : ¬ cap = 1 := hc1
          go_upto_region 5 with fail
          refine rg_start (fun w' => w'.cell? ⟨B, 0, none⟩ = some (.map (some bm)) ∧ w'.cell? ⟨g8, 0, none⟩ = some (.int .i64 a) ∧ w'.cell? ⟨g8, 1, none⟩ = some (.int .i64 c)) (by as_aux_lemma => kernel_rfl) (fun Wx h => HQ5.out _ _ (HSd.out.below h) (EBd.out.step h)) ?_
          intro wz0 hB hWd2 hWd2' hHeld
          have HZ0 := Lib.hid (HSd.out.below hB)
          have EB0 := Lib.hid (EBd.out.step hB)
          have EM0 : Hid (wz0.heap[bm]? = w.heap[bm]?) := Lib.hid ((hB.block bm (by omega)).trans (HBV.out.block bm hbm))
          have EF0 : Hid (∀ b, F b → b ≠ bm → wz0.heap[b]? = w.heap[b]?) := Lib.hid fun b hf hn => (hB.block b (by have := (HR.out.fh b hf).2.1; omega)).trans (HBV.out.block b (HR.out.fh b hf).2.1)
          clear hB
          refine rg_take (i := 0) (v := ?_) rfl (by as_aux_lemma => kernel_rfl) (by as_aux_lemma => kernel_rfl) (by as_aux_lemma => kernel_rfl) (by rfl) ?_ hHeld ?_
          rotate_left 1
          · intro w hSw; (try dsimp only at hSw); go_simp; try (with_reducible rfl)
          (try simp only [Act.put, List.setIfInBounds_toArray, List.set_cons_zero, List.set_cons_succ])
          refine rg_take (i := 1) (v := ?_) rfl (by as_aux_lemma => kernel_rfl) (by as_aux_lemma => kernel_rfl) (by as_aux_lemma => kernel_rfl) (by rfl) ?_ hHeld ?_
          rotate_left 1
          · intro w hSw; (try dsimp only at hSw); go_simp; try (with_reducible rfl)
          (try simp only [Act.put, List.setIfInBounds_toArray, List.set_cons_zero, List.set_cons_succ])
          refine rg_take (i := 2) (v := ?_) rfl (by as_aux_lemma => kernel_rfl) (by as_aux_lemma => kernel_rfl) (by as_aux_lemma => kernel_rfl) (by rfl) ?_ hHeld ?_
          rotate_left 1
          · intro w hSw; (try dsimp only at hSw); go_simp; try (with_reducible rfl)
          (try simp only [Act.put, List.setIfInBounds_toArray, List.set_cons_zero, List.set_cons_succ])
          refine rg_take (i := 3) (v := ?_) rfl (by as_aux_lemma => kernel_rfl) (by as_aux_lemma => kernel_rfl) (by as_aux_lemma => kernel_rfl) (by rfl) ?_ hHeld ?_
          rotate_left 1
          · intro w hSw; (try dsimp only at hSw); go_simp; try (with_reducible rfl)
          (try simp only [Act.put, List.setIfInBounds_toArray, List.set_cons_zero, List.set_cons_succ])
          refine rg_take (i := 4) (v := ?_) rfl (by as_aux_lemma => kernel_rfl) (by as_aux_lemma => kernel_rfl) (by as_aux_lemma => kernel_rfl) (by rfl) ?_ hHeld ?_
          rotate_left 1
          · intro w hSw; (try dsimp only at hSw); go_simp; try (with_reducible rfl)
          (try simp only [Act.put, List.setIfInBounds_toArray, List.set_cons_zero, List.set_cons_succ])
          refine rg_take (i := 5) (v := ?_) rfl (by as_aux_lemma => kernel_rfl) (by as_aux_lemma => kernel_rfl) (by as_aux_lemma => kernel_rfl) (by rfl) ?_ hHeld ?_
          rotate_left 1
          · intro w hSw; (try dsimp only at hSw); go_simp; try (with_reducible rfl)
          (try simp only [Act.put, List.setIfInBounds_toArray, List.set_cons_zero, List.set_cons_succ])
          refine rg_take (i := 6) (v := ?_) rfl (by as_aux_lemma => kernel_rfl) (by as_aux_lemma => kernel_rfl) (by as_aux_lemma => kernel_rfl) (by rfl) ?_ hHeld ?_
          rotate_left 1
          · intro w hSw; (try dsimp only at hSw); go_simp; try (with_reducible rfl)
          (try simp only [Act.put, List.setIfInBounds_toArray, List.set_cons_zero, List.set_cons_succ])
          refine rg_only (i := 7) rfl (by as_aux_lemma => kernel_rfl) (by rfl) (fun K hK => ?_)
          obtain ⟨wu, hur, hug, hum, hud⟩ := HTK.out wz0 (.slice (some ⟨g, o + 4, none⟩) 0 (cap - 1)) EM0.out
          refine wp_mapUpdateQ _ _ _ rfl (by rfl) (by rfl) (by rfl) hur ?_
          have HSu := Lib.hid (HZ0.out.entry fm hug)
          have EBu := Lib.hid (EB0.out.heap (hug.block B (by omega) (fun e => hne (Option.some.inj e))))
          have EFu : Hid (∀ b, F b → b ≠ bm → wu.heap[b]? = w.heap[b]?) := Lib.hid fun b hf hn => (hug.block b (by have := (HR.out.fh b hf).2.1; omega) (fun e => hn (Option.some.inj e))).trans (EF0.out b hf hn)
          have HUM := Lib.hid hum
          have HUD := Lib.hid hud
          have hsu := hug.size
          clear hur hug hum hud
          refine hK.out _ _ (HQ5.out _ _ HSu.out EBu.out) (fun hHeld1 => ?_)
          clear hK K hHeld
          have hHeld := hHeld1
          clear hHeld1
          (try simp only [Act.put, List.setIfInBounds_toArray, List.set_cons_zero, List.set_cons_succ])
          refine rg_done (by as_aux_lemma => kernel_rfl) ?_
          clear hHeld
          go_upto_region 7 with fail
          refine rg_start (fun w' => w'.cell? ⟨B, 0, none⟩ = some (.map (some bm)) ∧ w'.cell? ⟨g8, 0, none⟩ = some (.int .i64 a) ∧ w'.cell? ⟨g8, 1, none⟩ = some (.int .i64 c)) (by as_aux_lemma => kernel_rfl) (fun Wx h => HQ5.out _ _ (HSu.out.below h) (EBu.out.step h)) ?_
          intro wy0 hB hWd3 hWd3' hHeld
          have HY0 := Lib.hid (HSu.out.below hB)
          have EBy := Lib.hid (EBu.out.step hB)
          have EMy : Hid (wy0.heap[bm]? = wu.heap[bm]?) := Lib.hid (hB.block bm (by omega))
          have EFy : Hid (∀ b, F b → b ≠ bm → wy0.heap[b]? = w.heap[b]?) := Lib.hid fun b hf hn => (hB.block b (by have := (HR.out.fh b hf).2.1; omega)).trans (EFu.out b hf hn)
          clear hB
          refine rg_take (i := 0) (v := ?_) rfl (by as_aux_lemma => kernel_rfl) (by as_aux_lemma => kernel_rfl) (by as_aux_lemma => kernel_rfl) (by rfl) ?_ hHeld ?_
          rotate_left 1
          · intro w hSw; (try dsimp only at hSw); go_simp; try (with_reducible rfl)
          (try simp only [Act.put, List.setIfInBounds_toArray, List.set_cons_zero, List.set_cons_succ])
          refine rg_take (i := 1) (v := ?_) rfl (by as_aux_lemma => kernel_rfl) (by as_aux_lemma => kernel_rfl) (by as_aux_lemma => kernel_rfl) (by rfl) ?_ hHeld ?_
          rotate_left 1
          · intro w hSw; (try dsimp only at hSw); go_simp; try (with_reducible rfl)
          (try simp only [Act.put, List.setIfInBounds_toArray, List.set_cons_zero, List.set_cons_succ])
          refine rg_take (i := 2) (v := ?_) rfl (by as_aux_lemma => kernel_rfl) (by as_aux_lemma => kernel_rfl) (by as_aux_lemma => kernel_rfl) (by rfl) ?_ hHeld ?_
          rotate_left 1
          · intro w hSw; (try dsimp only at hSw); go_simp; try (with_reducible rfl)
          (try simp only [Act.put, List.setIfInBounds_toArray, List.set_cons_zero, List.set_cons_succ])
          refine rg_take (i := 3) (v := ?_) rfl (by as_aux_lemma => kernel_rfl) (by as_aux_lemma => kernel_rfl) (by as_aux_lemma => kernel_rfl) (by rfl) ?_ hHeld ?_
          rotate_left 1
          · intro w hSw; (try dsimp only at hSw); go_simp; try (with_reducible rfl)
          (try simp only [Act.put, List.setIfInBounds_toArray, List.set_cons_zero, List.set_cons_succ])
          refine rg_take (i := 4) (v := ?_) rfl (by as_aux_lemma => kernel_rfl) (by as_aux_lemma => kernel_rfl) (by as_aux_lemma => kernel_rfl) (by rfl) ?_ hHeld ?_
          rotate_left 1
          · intro w hSw; (try dsimp only at hSw); go_simp; try (with_reducible rfl)
          (try simp only [Act.put, List.setIfInBounds_toArray, List.set_cons_zero, List.set_cons_succ])
          refine rg_only (i := 5) rfl (by as_aux_lemma => kernel_rfl) (by rfl) (fun K hK => ?_)
          obtain ⟨wx, hxr, hxm, hxg⟩ := HUD.out wy0 _ EMy.out
          refine wp_deleteQ _ _ rfl (by rfl) (by rfl) hxr ?_
          have HSx := Lib.hid (HY0.out.entry fm hxg)
          have EBx := Lib.hid (EBy.out.heap (hxg.block B (by omega) (fun e => hne (Option.some.inj e))))
          have EFx : Hid (∀ b, F b → b ≠ bm → wx.heap[b]? = w.heap[b]?) := Lib.hid fun b hf hn => (hxg.block b (by have := (HR.out.fh b hf).2.1; omega) (fun e => hn (Option.some.inj e))).trans (EFy.out b hf hn)
          have HXM := Lib.hid hxm
          have hsx := hxg.size
          clear hxr hxm hxg
          refine hK.out _ _ (HQ5.out _ _ HSx.out EBx.out) (fun hHeld1 => ?_)
          clear hK K hHeld
          have hHeld := hHeld1
          clear hHeld1
          (try simp only [Act.put, List.setIfInBounds_toArray, List.set_cons_zero, List.set_cons_succ])
          refine rg_done (by as_aux_lemma => kernel_rfl) ?_
          clear hHeld
          obtain ⟨g', o', cap', hda, hdc, hve, -, x0, x1, x2, x3, hrt⟩ := HSx.out.headR
          cases hve
          have HRT := Lib.hid hrt
          clear hrt
          go_wp2_with (refine store_blk 24 4 szTerm _ _ rfl rfl rfl rfl rfl (HSx.out.bk _ (List.mem_cons_of_mem _ (List.mem_cons_self ..))).1 rfl rfl rfl ?_; intro W' hF hs' hBW hoth; have HF := Lib.hid hF; have HSZ := Lib.hid hs'; have HBW := Lib.hid hBW; have HOTH := Lib.hid hoth; clear hF hBW hoth hs')
          refine bodyPost_ret (results_blk Try.results25 szTerm _ Try.underlying24 rfl rfl HF.out rfl) rfl ?_
          have hRQ := (HSx.out.sub fun p hp => List.mem_cons_of_mem _ hp).otherQ HG.out.1 HG.out.2.1 HG.out.2.2.2 (by have := HSZ.out; omega) (HBW.out _ _ HG.out.2.2.2 HSx.out.bel) HOTH.out
          refine ⟨by have := HSZ.out; omega, fun b hf hn => (HOTH.out b (by have := HG.out.2.2.1 b hf; omega)).trans (EFx.out b hf hn), .inr ⟨t, X ++ Y, _, ⟨X, Y, _, [], rfl, hX', hY', .inl ⟨rfl, rfl⟩⟩, rfl, HRT.out.to (fun _ h _ => h) (fun b hb _ => HOTH.out b (by have := HG.out.2.1 b hb; omega)), ?_, (HXM.out).toQ (HOTH.out bm (by have := HG.out.2.2.1 bm fm; omega))⟩⟩
          have h9 := hRQ.dropR
          rw [show rowsE (X ++ Y) ++ rs = l1 ++ l2 by rw [hl1.1, hl1.2]; simp [rowsE]]
          exact h9
      · have hl0 : l.length ≠ 0 := fun e => hl (List.eq_nil_of_length_eq_zero e)
        have q3 : ¬ cap = 1 := by omega
        have d1 : ((l.length : Int) + 1 == 1) = false := by simp; omega
        go_upto_region 5 with fail
        refine rg_start (fun w' => w'.cell? ⟨B, 0, none⟩ = some (.map (some bm)) ∧ w'.cell? ⟨g8, 0, none⟩ = some (.int .i64 a) ∧ w'.cell? ⟨g8, 1, none⟩ = some (.int .i64 c)) (by as_aux_lemma => kernel_rfl) (fun Wx h => HQ5.out _ _ (HSd.out.below h) (EBd.out.step h)) ?_
        intro wz0 hB hWd2 hWd2' hHeld
        have HZ0 := Lib.hid (HSd.out.below hB)
        have EB0 := Lib.hid (EBd.out.step hB)
        have EM0 : Hid (wz0.heap[bm]? = w.heap[bm]?) := Lib.hid ((hB.block bm (by omega)).trans (HBV.out.block bm hbm))
        have EF0 : Hid (∀ b, F b → b ≠ bm → wz0.heap[b]? = w.heap[b]?) := Lib.hid fun b hf hn => (hB.block b (by have := (HR.out.fh b hf).2.1; omega)).trans (HBV.out.block b (HR.out.fh b hf).2.1)
        clear hB
        refine rg_take (i := 0) (v := ?_) rfl (by as_aux_lemma => kernel_rfl) (by as_aux_lemma => kernel_rfl) (by as_aux_lemma => kernel_rfl) (by rfl) ?_ hHeld ?_
        rotate_left 1
        · intro w hSw; (try dsimp only at hSw); go_simp; try (with_reducible rfl)
        (try simp only [Act.put, List.setIfInBounds_toArray, List.set_cons_zero, List.set_cons_succ])
        refine rg_take (i := 1) (v := ?_) rfl (by as_aux_lemma => kernel_rfl) (by as_aux_lemma => kernel_rfl) (by as_aux_lemma => kernel_rfl) (by rfl) ?_ hHeld ?_
        rotate_left 1
        · intro w hSw; (try dsimp only at hSw); go_simp; try (with_reducible rfl)
        (try simp only [Act.put, List.setIfInBounds_toArray, List.set_cons_zero, List.set_cons_succ])
        refine rg_take (i := 2) (v := ?_) rfl (by as_aux_lemma => kernel_rfl) (by as_aux_lemma => kernel_rfl) (by as_aux_lemma => kernel_rfl) (by rfl) ?_ hHeld ?_
        rotate_left 1
        · intro w hSw; (try dsimp only at hSw); go_simp; try (with_reducible rfl)
        (try simp only [Act.put, List.setIfInBounds_toArray, List.set_cons_zero, List.set_cons_succ])
        refine rg_take (i := 3) (v := ?_) rfl (by as_aux_lemma => kernel_rfl) (by as_aux_lemma => kernel_rfl) (by as_aux_lemma => kernel_rfl) (by rfl) ?_ hHeld ?_
        rotate_left 1
        · intro w hSw; (try dsimp only at hSw); go_simp; try (with_reducible rfl)
        (try simp only [Act.put, List.setIfInBounds_toArray, List.set_cons_zero, List.set_cons_succ])
        refine rg_take (i := 4) (v := ?_) rfl (by as_aux_lemma => kernel_rfl) (by as_aux_lemma => kernel_rfl) (by as_aux_lemma => kernel_rfl) (by rfl) ?_ hHeld ?_
        rotate_left 1
        · intro w hSw; (try dsimp only at hSw); go_simp; try (with_reducible rfl)
        (try simp only [Act.put, List.setIfInBounds_toArray, List.set_cons_zero, List.set_cons_succ])
        refine rg_take (i := 5) (v := ?_) rfl (by as_aux_lemma => kernel_rfl) (by as_aux_lemma => kernel_rfl) (by as_aux_lemma => kernel_rfl) (by rfl) ?_ hHeld ?_
        rotate_left 1
        · intro w hSw; (try dsimp only at hSw); go_simp; try (with_reducible rfl)
        (try simp only [Act.put, List.setIfInBounds_toArray, List.set_cons_zero, List.set_cons_succ])
        refine rg_take (i := 6) (v := ?_) rfl (by as_aux_lemma => kernel_rfl) (by as_aux_lemma => kernel_rfl) (by as_aux_lemma => kernel_rfl) (by rfl) ?_ hHeld ?_
        rotate_left 1
        · intro w hSw; (try dsimp only at hSw); go_simp; try (with_reducible rfl)
        (try simp only [Act.put, List.setIfInBounds_toArray, List.set_cons_zero, List.set_cons_succ])
        refine rg_only (i := 7) rfl (by as_aux_lemma => kernel_rfl) (by rfl) (fun K hK => ?_)
        obtain ⟨wu, hur, hug, hum, hud⟩ := HTK.out wz0 (.slice (some ⟨g, o + 4, none⟩) l.length (cap - 1)) EM0.out
        refine wp_mapUpdateQ _ _ _ rfl (by rfl) (by rfl) (by rfl) hur ?_
        have HSu := Lib.hid (HZ0.out.entry fm hug)
        have EBu := Lib.hid (EB0.out.heap (hug.block B (by omega) (fun e => hne (Option.some.inj e))))
        have EFu : Hid (∀ b, F b → b ≠ bm → wu.heap[b]? = w.heap[b]?) := Lib.hid fun b hf hn => (hug.block b (by have := (HR.out.fh b hf).2.1; omega) (fun e => hn (Option.some.inj e))).trans (EF0.out b hf hn)
        have HUM := Lib.hid hum
        have HUD := Lib.hid hud
        have hsu := hug.size
        clear hur hug hum hud
        refine hK.out _ _ (HQ5.out _ _ HSu.out EBu.out) (fun hHeld1 => ?_)
        clear hK K hHeld
        have hHeld := hHeld1
        clear hHeld1
        (try simp only [Act.put, List.setIfInBounds_toArray, List.set_cons_zero, List.set_cons_succ])
        refine rg_done (by as_aux_lemma => kernel_rfl) ?_
        clear hHeld
        obtain ⟨g', o', cap', hda, hdc, hve, -, x0, x1, x2, x3, hrt⟩ := HSu.out.headR
        cases hve
        have HRT := Lib.hid hrt
        clear hrt
        go_wp2_with (refine store_blk 24 4 szTerm _ _ rfl rfl rfl rfl rfl (HSu.out.bk _ (List.mem_cons_of_mem _ (List.mem_cons_self ..))).1 rfl rfl rfl ?_; intro W' hF hs' hBW hoth; have HF := Lib.hid hF; have HSZ := Lib.hid hs'; have HBW := Lib.hid hBW; have HOTH := Lib.hid hoth; clear hF hBW hoth hs')
        refine bodyPost_ret (results_blk Try.results25 szTerm _ Try.underlying24 rfl rfl HF.out rfl) rfl ?_
        have hRQ := (HSu.out.sub fun p hp => List.mem_cons_of_mem _ hp).otherQ HG.out.1 HG.out.2.1 HG.out.2.2.2 (by have := HSZ.out; omega) (HBW.out _ _ HG.out.2.2.2 HSu.out.bel) HOTH.out
        refine ⟨by have := HSZ.out; omega, fun b hf hn => (HOTH.out b (by have := HG.out.2.2.1 b hf; omega)).trans (EFu.out b hf hn), .inr ⟨t, X ++ ((a, c), .slice (some ⟨g, o + 4, none⟩) l.length (cap - 1), l) :: Y, _, ⟨X, Y, _, l, rfl, hX', hY', .inr ⟨hl, _, rfl⟩⟩, rfl, HRT.out.to (fun _ h _ => h) (fun b hb _ => HOTH.out b (by have := HG.out.2.1 b hb; omega)), ?_, (HUM.out l hl).toQ (HOTH.out bm (by have := HG.out.2.2.1 bm fm; omega))⟩⟩
        rw [hrw]
        exact hRQ.tailR rfl
end Go.Proofs.Ytedfepnekjjmnab
