/-
  Contracts and plain laws, joined: Heap6 Heap7 Heap8 Heap9 Heap10 PutR KeptP Kept AgainP AgainI Side AgainS. Conditions stand in each.
-/
import Derived.Test.YtedfepnekjjmnaaJh
import Derived.Test.YtedfepnekjjmnaaForm
import Derived.Test.YtedfepnekjjmnaaJb
import Derived.Test.YtedfepnekjjmnaaJc
import Derived.Test.YtedfepnekjjmnaaJe
/-
  copier.word: what it does to a word. No condition but a bound.
-/
namespace Go.Proofs.Ytedfepnekjjmnaa
open Go.RowKit
set_option linter.unusedSimpArgs false
set_option linter.unusedVariables false
set_option maxRecDepth 100000

theorem zeroInt (w : World) : (zeroValue 3).run Try.prog w = .ok (.int .i64 0) w := by
  obtain ⟨i, hi, hz, -, -⟩ := info_parts info3
  simp [zeroValue, typeInfo, hi, hz]
theorem look_some {w : World} {bm nm : Nat} {D : DataW Unit} {wt : List (Int × Int)} {n p : Int} (h : w.ownsMap Try.prog 3 (plainElem Try.prog 3) bm nm D) (hw : WentR D wt) (hn : (Lit.int .i64 n).wf = true) (hp : wtF wt n = some p) :
    (Instr.lookup 152 (.map (some bm)) (.int .i64 n) true).run Try.prog w = .ok (.tuple #[.int .i64 p, .bool true]) w := by
  obtain ⟨v, ps, hrun, hv⟩ := h.look_ok (t := 152) (e := 3) (Maps.int_keyed Try.underlying3) Try.underlying152 (zeroInt w) (zd := .lit (.int .i64 0)) (zp := []) (plainElem_int Try.underlying3 (by decide)) (Maps.keyOf_int_mk Try.underlying3 hn)
  obtain ⟨c, rfl, hc, -⟩ := plainElem_int_inv Try.underlying3 hv
  have h1 := hw n hn
  simp only [Prod.mk.injEq] at hc
  rw [(h1.2 p hp)] at hc
  have : p = c := by have := hc.1; simpa using this
  subst this
  rw [hrun, h1.1, hp]; rfl
theorem look_none {w : World} {bm nm : Nat} {D : DataW Unit} {wt : List (Int × Int)} {n : Int} (h : w.ownsMap Try.prog 3 (plainElem Try.prog 3) bm nm D) (hw : WentR D wt) (hn : (Lit.int .i64 n).wf = true) (hp : wtF wt n = none) :
    (Instr.lookup 152 (.map (some bm)) (.int .i64 n) true).run Try.prog w = .ok (.tuple #[.int .i64 0, .bool false]) w := by
  obtain ⟨v, ps, hrun, hv⟩ := h.look_ok (t := 152) (e := 3) (Maps.int_keyed Try.underlying3) Try.underlying152 (zeroInt w) (zd := .lit (.int .i64 0)) (zp := []) (plainElem_int Try.underlying3 (by decide)) (Maps.keyOf_int_mk Try.underlying3 hn)
  obtain ⟨c, rfl, hc, -⟩ := plainElem_int_inv Try.underlying3 hv
  have h1 := hw n hn
  rw [hp] at h1
  have h2 : Maps.has D (.int .i64 n) = false := h1.1
  simp only [Prod.mk.injEq] at hc
  rw [Maps.atKey_of_not_has h2] at hc
  have : (0 : Int) = c := by have := hc.1; simpa using this
  subst this
  rw [hrun, h2]
section
variable {o : Oper} {a : Act} {Q : Exit → Act → World → Prop} {K : Act → World → Prop} {w : World}
theorem wp_mapput (m x v : Operand) (hop : o.op = Op.mapUpdate 152 m x v) {bm nm : Nat} {D : DataW Unit} {wt : List (Int × Int)} {n p : Int}
    (hm : a.eval m = .map (some bm)) (hx : a.eval x = .int .i64 n) (hv : a.eval v = .int .i64 p) (h : w.ownsMap Try.prog 3 (plainElem Try.prog 3) bm nm D) (hw : WentR D wt) (hn : (Lit.int .i64 n).wf = true) (hp : (Lit.int .i64 p).wf = true) (hnm : nm < maxLen)
    (hK : ∀ w' D', w'.ownsMap Try.prog 3 (plainElem Try.prog 3) bm (nm + 1) D' → WentR D' ((n, p) :: wt) → w.grownBy w' (some bm) → K (a.put o.dst undef) w') : Oper.wp Try.prog o a w K Q := by
  obtain ⟨w', hrun, r1, r2⟩ := h.update (t := 152) (e := 3) (Maps.int_keyed Try.underlying3) Try.underlying152 hnm (key := .int .i64 n) (val := .int .i64 p) (Maps.keyOf_int_mk Try.underlying3 hn) (plainElem_int Try.underlying3 hp)
  unfold Oper.wp
  simp [execOp, hop, hm, hx, hv, hrun, Result.andThen]
  exact hK _ _ r1 (hw.put h.isMap n p) r2
end
theorem wf_small (i : Nat) (h : i < 4611686018427387904) : (Lit.int .i64 (i : Int)).wf = true := by
  simp only [Lit.wf, Bool.and_eq_true, decide_eq_true_eq]
  exact ⟨Int.le_trans (b := 0) (by decide) (by omega), Int.le_trans (b := 4611686018427387904) (by omega) (by decide)⟩
/-- What word hands back. -/
def CopP (F : Nat → Prop) (w : World) (C B nm : Nat) (r : Wrd × CS) (e : Ending) (w' : World) : Prop :=
  e = .returned (.agg #[.int .i64 r.1.kind, .int .i64 r.1.n]) ∧ Keep F w w' ∧ CopR (fun b => F b ∨ w.heap.size ≤ b) w' C B r.2 (nm + 1)
def CopM (F : Nat → Prop) (W0 : World) (C B nm : Nat) (st : CS) (wx : World) : Prop := CopR (fun b => F b ∨ W0.heap.size ≤ b) wx C B st nm ∧ Keep F W0 wx
theorem CopR.more {F : Nat → Prop} {w : World} {C B nm nm' : Nat} {st : CS} (h : CopR F w C B st nm) (hn : nm ≤ nm') : CopR F w C B st nm' := by
  obtain ⟨vto, bm, D, h⟩ := h; exact ⟨vto, bm, D, ⟨h.blk, h.row, h.mp.mono hn, h.wt, h.nt, h.nm1, h.ne, h.fc, h.ft, h.fm⟩⟩
theorem cop_end {F F0 : Nat → Prop} {w W0 W1 W' : World} {C B g nm : Nat} {st : CS} (hB0 : Below w.heap.size w W0) (hz0 : w.heap.size ≤ W0.heap.size) (hF : ∀ b, F0 b → F b ∧ b < w.heap.size) (h : CopM F0 W0 C B nm st W1) (hB : Below 0 W1 W')
    (hg : w.heap.size ≤ g) (hgW : g < W0.heap.size) (ho : ∀ b, b ≠ g → W'.heap[b]? = W1.heap[b]?) : Keep F w W' ∧ CopR (fun b => F b ∨ w.heap.size ≤ b) W' C B st nm := by
  have hz := hB.size
  have hz1 := h.2.size
  refine ⟨⟨hB.os.trans (h.2.os.trans hB0.os), hB.tape.trans (h.2.tape.trans hB0.tape), hB.output.trans (h.2.output.trans hB0.output), by omega, fun k hk hn => ?_⟩, h.1.to' hz (fun b hb => ?_) fun b hb hl => ho b ?_⟩
  · exact (ho k (by omega)).trans ((h.2.block k (by omega) fun e => hn (hF k e).1).trans (hB0.block k hk))
  · rcases hb with hb | hb
    · exact .inl (hF b hb).1
    · exact .inr (by omega)
  · rcases hb with hb | hb
    · have := (hF b hb).2; omega
    · omega

/-- The row is another one now. -/
theorem CopV.row' {F : Nat → Prop} {w w3 : World} {C B bm nm : Nat} {st : CS} {D : DataW Unit} {vto v' : Value} {l : List Wrd} (h : CopV F w C B st vto bm nm D) (hl : w.heap.size ≤ w3.heap.size)
    (hg : ∀ b, b < w.heap.size → vto.ownBlock ≠ some b → w3.heap[b]? = w.heap[b]?) (hO : OwnW w3 v' l) (hp : ∀ b, v'.ownBlock = some b → vto.ownBlock = some b ∨ w.heap.size ≤ b) :
    CopV (fun b => F b ∨ w.heap.size ≤ b) (w3.setCell ⟨C, 1, none⟩ v') C B ⟨l, st.wt⟩ v' bm nm D := by
  have hBl := h.blk.lt
  have hml := h.mp.lt
  have hne : v'.ownBlock ≠ some C := fun e => by
    rcases hp C e with h1 | h1
    · exact h.nt h1
    · omega
  have hnm : v'.ownBlock ≠ some bm := fun e => by
    rcases hp bm e with h1 | h1
    · exact h.ne h1
    · omega
  have hb := hg C hBl h.nt
  have hblk : Blk w3 C [.pointer (some ⟨B, 0, none⟩), vto, .map (some bm)] := ⟨by omega, fun j u hu => (World.cell?_of_block (w := w) (a := ⟨C, j, none⟩) hb).trans (h.blk.cell j u hu), fun o => (World.frozen?_of_block (w := w) (a := ⟨C, o, none⟩) hb).trans (h.blk.fr o)⟩
  have hset : ∀ b, b ≠ C → (w3.setCell ⟨C, 1, none⟩ v').heap[b]? = w3.heap[b]? := fun b hb => setCell_other w3 C 1 v' b hb
  have hO2 : OwnW (w3.setCell ⟨C, 1, none⟩ v') v' l := OwnW.to hO (by simp) fun b hb => hset b fun e => hne (by rw [← e]; exact hb)
  exact ⟨hblk.set 1 v' (by simp), hO2, ownsMap_block h.mp ((hset bm h.nm1).trans (hg bm hml h.ne)), h.wt, hne, h.nm1, hnm, .inl h.fc, fun b hb => (hp b hb).imp (h.ft b) id, .inl h.fm⟩

set_option maxHeartbeats 8000000 in
theorem cop_word (H : HS) (st : CS) (x : Wrd) (F G : Nat → Prop) (w : World) (C B nm : Nat) (room : Int) (hC : CopR F w C B st nm) (hR : HeapR G w B room H) (hH : HeadsOk H) (hd : ∀ b, F b → ¬ G b) (hx : x.kind = 4 → (headN H x.n).isSome = true)
    (hl : H.ws.length ≤ 4294967296) (ht : st.tw.length ≤ 17179869184) (hnm : nm ≤ 17179869184) :
    Calls Try.prog 111 #[.pointer (some ⟨C, 0, none⟩), .agg #[.int .i64 x.kind, .int .i64 x.n]] w (CopP F w C B nm (wordC H st x)) := by
  obtain ⟨W0, hW0⟩ : ∃ W : World, W = (w.alloc (.cells #[.int .i64 x.kind, .int .i64 x.n] 69)).alloc (.cells #[.int .i64 0, .int .i64 0] 69) := ⟨_, rfl⟩
  have HX3 : Hid (Blk W0 w.heap.size [.int .i64 x.kind, .int .i64 x.n]) := Lib.hid (by rw [hW0]; exact (Blk.new _ _ _ _ rfl).alloc _)
  have HX4 : Hid (Blk W0 (w.heap.size + 1) [.int .i64 0, .int .i64 0]) := Lib.hid (by rw [hW0]; exact Blk.new _ _ _ _ (by simp))
  have HB0 : Hid (Below w.heap.size w W0) := Lib.hid (by rw [hW0]; exact (below_alloc _ _).trans ((below_alloc _ _).mono (by simp)))
  have hs0 : W0.heap.size = w.heap.size + 2 := by rw [hW0]; simp
  have hs0a : w.heap.size + 2 ≤ W0.heap.size := by omega
  have hs0b : W0.heap.size ≤ w.heap.size + 2 := by omega
  have hs0c : w.heap.size ≤ W0.heap.size := by omega
  obtain ⟨F0, hF0⟩ : ∃ F0 : Nat → Prop, F0 = fun b => F b ∧ b < w.heap.size := ⟨_, rfl⟩
  have HF1 : Hid (∀ b, F0 b → F b ∧ b < w.heap.size) := Lib.hid (fun b hb => by rw [hF0] at hb; exact hb)
  have HC0 : Hid (CopR F0 W0 C B st nm) := Lib.hid (by rw [hF0]; exact hC.low.below HB0.out)
  have HR0 : Hid (HeapR (fun b => G b ∧ b < w.heap.size) W0 B room H) := Lib.hid (hR.low.below HB0.out)
  have HD : Hid (∀ b, F0 b → ¬ G b) := Lib.hid (fun b hb => hd b (HF1.out b hb).1)
  have HW0 := Lib.hid hW0
  have HH := Lib.hid hH
  clear hC hR hH hd hW0 hF0 hs0
  by_cases hk : x.kind = 4
  · have hkb : (x.kind != 4) = false := by simp [hk]
    obtain ⟨nH, hnH⟩ := Option.isSome_iff_exists.1 (hx hk)
    obtain ⟨i, k, hi, hxi, rfl, hwi, hik⟩ := headN_some HH.out hnH
    have hwf : (Lit.int .i64 x.n).wf = true := by rw [hxi]; exact wf_small i (by omega)
    obtain ⟨vto, bm, D, hV⟩ := HC0.out
    obtain ⟨at0, ct0, rfl⟩ := hV.row.form
    have HV := Lib.hid hV
    have HWF := Lib.hid hwf
    have hC0 := hV.blk.lt
    have hbm0 := hV.mp.lt
    have HQ : Hid (∀ w' : World, Below W0.heap.size W0 w' → w'.heap[bm]? = W0.heap[bm]? ∧ w'.cell? ⟨C, 2, none⟩ = some (.map (some bm)) ∧ w'.cell? ⟨w.heap.size, 1, none⟩ = some (.int .i64 x.n)) := Lib.hid fun w' h => ⟨h.block bm hbm0, (HV.out.blk.step h).cell 2 _ rfl, (HX3.out.step h).cell 1 _ rfl⟩
    have HWI := Lib.hid hwi
    have HXI := Lib.hid hxi
    have HNH := Lib.hid hnH
    have HK := Lib.hid hk
    clear hV hwf hwi hxi hnH hk hx
    cases hp : wtF st.wt x.n with
    | some p =>
      have HA := Lib.hid (wordC_old (H := H) HK.out hp)
      have HLK : Hid (∀ w' : World, w'.heap[bm]? = W0.heap[bm]? → (Instr.lookup 152 (.map (some bm)) (.int .i64 x.n) true).run Try.prog w' = .ok (.tuple #[.int .i64 p, .bool true]) w') := Lib.hid fun w' e => look_some (ownsMap_block HV.out.mp e) HV.out.wt HWF.out hp
      clear hp
      go_enter Try.func111, Try.ntmps111
      go_upto_region 1 with fail
      rw [← HW0.out]
      have y0 := HX3.out.cell 0 _ rfl
      go_upto_region 3 with fail
      clear y0
      refine rg_start (fun w' => w'.heap[bm]? = W0.heap[bm]? ∧ w'.cell? ⟨C, 2, none⟩ = some (.map (some bm)) ∧ w'.cell? ⟨w.heap.size, 1, none⟩ = some (.int .i64 x.n)) (by as_aux_lemma => kernel_rfl) (fun Wd h => HQ.out _ h) ?_
      intro Wd hB hWd hWd' hHeld
      have HBd := Lib.hid hB
      clear hB
      refine rg_take (i := 0) (v := ?_) rfl (by as_aux_lemma => kernel_rfl) (by as_aux_lemma => kernel_rfl) (by as_aux_lemma => kernel_rfl) (by rfl) ?_ hHeld ?_
      rotate_left 1
      · intro w hSw; (try dsimp only at hSw); go_simp; try (with_reducible rfl)
      (try simp only [Act.put, List.setIfInBounds_toArray, List.set_cons_zero, List.set_cons_succ])
      refine rg_take (i := 1) (v := ?_) rfl (by as_aux_lemma => kernel_rfl) (by as_aux_lemma => kernel_rfl) (by as_aux_lemma => kernel_rfl) (by rfl) ?_ hHeld ?_
      rotate_left 1
      · intro w hSw; (try dsimp only at hSw); go_simp; try (with_reducible rfl)
      (try simp only [Act.put, List.setIfInBounds_toArray, List.set_cons_zero, List.set_cons_succ])
      refine rg_take (i := 2) (v := ?_) rfl (by as_aux_lemma => kernel_rfl) (by as_aux_lemma => kernel_rfl) (by as_aux_lemma => kernel_rfl) (by rfl) ?_ hHeld ?_
      rotate_left 1
      · intro w hSw; (try dsimp only at hSw); go_simp; try (with_reducible rfl)
      (try simp only [Act.put, List.setIfInBounds_toArray, List.set_cons_zero, List.set_cons_succ])
      refine rg_take (i := 3) (v := ?_) rfl (by as_aux_lemma => kernel_rfl) (by as_aux_lemma => kernel_rfl) (by as_aux_lemma => kernel_rfl) (by rfl) ?_ hHeld ?_
      rotate_left 1
      · intro w hSw; (try dsimp only at hSw); go_simp; try (with_reducible rfl)
      (try simp only [Act.put, List.setIfInBounds_toArray, List.set_cons_zero, List.set_cons_succ])
      refine rg_take (i := 4) (v := ?_) rfl (by as_aux_lemma => kernel_rfl) (by as_aux_lemma => kernel_rfl) (by as_aux_lemma => kernel_rfl) (by rfl) ?_ hHeld ?_
      rotate_left 1
      · intro w hSw; (try dsimp only at hSw); go_simp; try (with_reducible rfl)
      (try simp only [Act.put, List.setIfInBounds_toArray, List.set_cons_zero, List.set_cons_succ])
      refine rg_take (i := 5) (v := ?_) rfl (by as_aux_lemma => kernel_rfl) (by as_aux_lemma => kernel_rfl) (by as_aux_lemma => kernel_rfl) (by rfl) ?_ hHeld ?_
      rotate_left 1
      · intro w hSw; (try dsimp only at hSw); go_simp; try (with_reducible rfl)
      (try simp only [Act.put, List.setIfInBounds_toArray, List.set_cons_zero, List.set_cons_succ])
      refine rg_take (i := 6) (v := ?_) rfl (by as_aux_lemma => kernel_rfl) (by as_aux_lemma => kernel_rfl) (by as_aux_lemma => kernel_rfl) (by rfl) ?_ hHeld ?_
      rotate_left 1
      · intro w hSw; (try dsimp only at hSw); have hLK := HLK.out w hSw.1; go_simp; try (with_reducible rfl)
      (try simp only [Act.put, List.setIfInBounds_toArray, List.set_cons_zero, List.set_cons_succ])
      refine rg_take (i := 7) (v := ?_) rfl (by as_aux_lemma => kernel_rfl) (by as_aux_lemma => kernel_rfl) (by as_aux_lemma => kernel_rfl) (by rfl) ?_ hHeld ?_
      rotate_left 1
      · intro w hSw; (try dsimp only at hSw); go_simp; try (with_reducible rfl)
      (try simp only [Act.put, List.setIfInBounds_toArray, List.set_cons_zero, List.set_cons_succ])
      refine rg_take (i := 8) (v := ?_) rfl (by as_aux_lemma => kernel_rfl) (by as_aux_lemma => kernel_rfl) (by as_aux_lemma => kernel_rfl) (by rfl) ?_ hHeld ?_
      rotate_left 1
      · intro w hSw; (try dsimp only at hSw); go_simp; try (with_reducible rfl)
      (try simp only [Act.put, List.setIfInBounds_toArray, List.set_cons_zero, List.set_cons_succ])
      refine rg_take (i := 9) (v := ?_) rfl (by as_aux_lemma => kernel_rfl) (by as_aux_lemma => kernel_rfl) (by as_aux_lemma => kernel_rfl) (by rfl) ?_ hHeld ?_
      rotate_left 1
      · intro w hSw; (try dsimp only at hSw); go_simp; try (with_reducible rfl)
      (try simp only [Act.put, List.setIfInBounds_toArray, List.set_cons_zero, List.set_cons_succ])
      refine rg_take (i := 10) (v := ?_) rfl (by as_aux_lemma => kernel_rfl) (by as_aux_lemma => kernel_rfl) (by as_aux_lemma => kernel_rfl) (by rfl) ?_ hHeld ?_
      rotate_left 1
      · intro w hSw; (try dsimp only at hSw); go_simp; try (with_reducible rfl)
      (try simp only [Act.put, List.setIfInBounds_toArray, List.set_cons_zero, List.set_cons_succ])
      refine rg_take (i := 11) (v := ?_) rfl (by as_aux_lemma => kernel_rfl) (by as_aux_lemma => kernel_rfl) (by as_aux_lemma => kernel_rfl) (by rfl) ?_ hHeld ?_
      rotate_left 1
      · intro w hSw; (try dsimp only at hSw); go_simp; try (with_reducible rfl)
      (try simp only [Act.put, List.setIfInBounds_toArray, List.set_cons_zero, List.set_cons_succ])
      refine rg_done (by as_aux_lemma => kernel_rfl) ?_
      clear hHeld
      have HX4d := Lib.hid (HX4.out.step HBd.out)
      go_wp2_with (refine store_blk 69 2 szWord _ _ rfl rfl rfl rfl rfl HX4d.out rfl rfl rfl ?_; intro W' hF hs' hBW hoth; have HF := Lib.hid hF; have HSZ := Lib.hid hs'; have HBW := Lib.hid hBW; have HOTH := Lib.hid hoth; clear hF hBW hoth hs')
      refine bodyPost_ret (result_blk Try.results111 szWord _ Try.underlying69 rfl rfl HF.out rfl) rfl ⟨?_, ?_⟩
      · rw [HA.out]; try rfl
      · rw [HA.out]
        exact cop_end HB0.out hs0c HF1.out ⟨((HC0.out.below HBd.out).mono (fun b hb => .inl hb)).more (by omega), Keep.of HBd.out⟩ (HBW.out 0 _ (by omega) (Below.refl _ _)) (by omega) (by omega) HOTH.out
    | none =>
      have HA := Lib.hid (wordC_new HK.out hp HXI.out HNH.out)
      have HLK : Hid (∀ w' : World, w'.heap[bm]? = W0.heap[bm]? → (Instr.lookup 152 (.map (some bm)) (.int .i64 x.n) true).run Try.prog w' = .ok (.tuple #[.int .i64 0, .bool false]) w') := Lib.hid fun w' e => look_none (ownsMap_block HV.out.mp e) HV.out.wt HWF.out hp
      have hpl : (partsL H i k).length = k := by unfold partsL; rw [List.length_take, List.length_drop]; omega
      have HPL := Lib.hid hpl
      clear hp hpl
      go_enter Try.func111, Try.ntmps111
      go_upto_region 1 with fail
      rw [← HW0.out]
      have y0 := HX3.out.cell 0 _ rfl
      go_upto_region 3 with fail
      clear y0
      refine rg_start (fun w' => w'.heap[bm]? = W0.heap[bm]? ∧ w'.cell? ⟨C, 2, none⟩ = some (.map (some bm)) ∧ w'.cell? ⟨w.heap.size, 1, none⟩ = some (.int .i64 x.n)) (by as_aux_lemma => kernel_rfl) (fun Wd h => HQ.out _ h) ?_
      intro Wd hB hWd hWd' hHeld
      have HBd := Lib.hid hB
      clear hB
      refine rg_take (i := 0) (v := ?_) rfl (by as_aux_lemma => kernel_rfl) (by as_aux_lemma => kernel_rfl) (by as_aux_lemma => kernel_rfl) (by rfl) ?_ hHeld ?_
      rotate_left 1
      · intro w hSw; (try dsimp only at hSw); go_simp; try (with_reducible rfl)
      (try simp only [Act.put, List.setIfInBounds_toArray, List.set_cons_zero, List.set_cons_succ])
      refine rg_take (i := 1) (v := ?_) rfl (by as_aux_lemma => kernel_rfl) (by as_aux_lemma => kernel_rfl) (by as_aux_lemma => kernel_rfl) (by rfl) ?_ hHeld ?_
      rotate_left 1
      · intro w hSw; (try dsimp only at hSw); go_simp; try (with_reducible rfl)
      (try simp only [Act.put, List.setIfInBounds_toArray, List.set_cons_zero, List.set_cons_succ])
      refine rg_take (i := 2) (v := ?_) rfl (by as_aux_lemma => kernel_rfl) (by as_aux_lemma => kernel_rfl) (by as_aux_lemma => kernel_rfl) (by rfl) ?_ hHeld ?_
      rotate_left 1
      · intro w hSw; (try dsimp only at hSw); go_simp; try (with_reducible rfl)
      (try simp only [Act.put, List.setIfInBounds_toArray, List.set_cons_zero, List.set_cons_succ])
      refine rg_take (i := 3) (v := ?_) rfl (by as_aux_lemma => kernel_rfl) (by as_aux_lemma => kernel_rfl) (by as_aux_lemma => kernel_rfl) (by rfl) ?_ hHeld ?_
      rotate_left 1
      · intro w hSw; (try dsimp only at hSw); go_simp; try (with_reducible rfl)
      (try simp only [Act.put, List.setIfInBounds_toArray, List.set_cons_zero, List.set_cons_succ])
      refine rg_take (i := 4) (v := ?_) rfl (by as_aux_lemma => kernel_rfl) (by as_aux_lemma => kernel_rfl) (by as_aux_lemma => kernel_rfl) (by rfl) ?_ hHeld ?_
      rotate_left 1
      · intro w hSw; (try dsimp only at hSw); go_simp; try (with_reducible rfl)
      (try simp only [Act.put, List.setIfInBounds_toArray, List.set_cons_zero, List.set_cons_succ])
      refine rg_take (i := 5) (v := ?_) rfl (by as_aux_lemma => kernel_rfl) (by as_aux_lemma => kernel_rfl) (by as_aux_lemma => kernel_rfl) (by rfl) ?_ hHeld ?_
      rotate_left 1
      · intro w hSw; (try dsimp only at hSw); go_simp; try (with_reducible rfl)
      (try simp only [Act.put, List.setIfInBounds_toArray, List.set_cons_zero, List.set_cons_succ])
      refine rg_take (i := 6) (v := ?_) rfl (by as_aux_lemma => kernel_rfl) (by as_aux_lemma => kernel_rfl) (by as_aux_lemma => kernel_rfl) (by rfl) ?_ hHeld ?_
      rotate_left 1
      · intro w hSw; (try dsimp only at hSw); have hLK := HLK.out w hSw.1; go_simp; try (with_reducible rfl)
      (try simp only [Act.put, List.setIfInBounds_toArray, List.set_cons_zero, List.set_cons_succ])
      refine rg_take (i := 7) (v := ?_) rfl (by as_aux_lemma => kernel_rfl) (by as_aux_lemma => kernel_rfl) (by as_aux_lemma => kernel_rfl) (by rfl) ?_ hHeld ?_
      rotate_left 1
      · intro w hSw; (try dsimp only at hSw); go_simp; try (with_reducible rfl)
      (try simp only [Act.put, List.setIfInBounds_toArray, List.set_cons_zero, List.set_cons_succ])
      refine rg_take (i := 8) (v := ?_) rfl (by as_aux_lemma => kernel_rfl) (by as_aux_lemma => kernel_rfl) (by as_aux_lemma => kernel_rfl) (by rfl) ?_ hHeld ?_
      rotate_left 1
      · intro w hSw; (try dsimp only at hSw); go_simp; try (with_reducible rfl)
      (try simp only [Act.put, List.setIfInBounds_toArray, List.set_cons_zero, List.set_cons_succ])
      refine rg_take (i := 9) (v := ?_) rfl (by as_aux_lemma => kernel_rfl) (by as_aux_lemma => kernel_rfl) (by as_aux_lemma => kernel_rfl) (by rfl) ?_ hHeld ?_
      rotate_left 1
      · intro w hSw; (try dsimp only at hSw); go_simp; try (with_reducible rfl)
      (try simp only [Act.put, List.setIfInBounds_toArray, List.set_cons_zero, List.set_cons_succ])
      refine rg_take (i := 10) (v := ?_) rfl (by as_aux_lemma => kernel_rfl) (by as_aux_lemma => kernel_rfl) (by as_aux_lemma => kernel_rfl) (by rfl) ?_ hHeld ?_
      rotate_left 1
      · intro w hSw; (try dsimp only at hSw); go_simp; try (with_reducible rfl)
      (try simp only [Act.put, List.setIfInBounds_toArray, List.set_cons_zero, List.set_cons_succ])
      refine rg_take (i := 11) (v := ?_) rfl (by as_aux_lemma => kernel_rfl) (by as_aux_lemma => kernel_rfl) (by as_aux_lemma => kernel_rfl) (by rfl) ?_ hHeld ?_
      rotate_left 1
      · intro w hSw; (try dsimp only at hSw); go_simp; try (with_reducible rfl)
      (try simp only [Act.put, List.setIfInBounds_toArray, List.set_cons_zero, List.set_cons_succ])
      refine rg_done (by as_aux_lemma => kernel_rfl) ?_
      clear hHeld
      obtain ⟨V0, rfl⟩ : ∃ V0 : World, V0 = Wd := ⟨_, rfl⟩
      have HB00 := Lib.hid HBd.out
      have HV00 := Lib.hid (HV.out.to' (F' := F0) hWd (fun _ h => h) fun b _ hb => HBd.out.block b hb)
      have HX30 := Lib.hid (HX3.out.step HBd.out)
      have HX40 := Lib.hid (HX4.out.step HBd.out)
      have c1 := HV00.out.blk.cell 1 _ rfl
      have HQ6 : Hid (∀ w' : World, w'.heap[C]? = V0.heap[C]? → w'.heap[w.heap.size]? = V0.heap[w.heap.size]? → w'.cell? ⟨C, 2, none⟩ = some (.map (some bm)) ∧ w'.cell? ⟨w.heap.size, 1, none⟩ = some (.int .i64 x.n)) := Lib.hid fun w' e1 e2 => ⟨(World.cell?_of_block (w := V0) (a := ⟨C, 2, none⟩) e1).trans (HV00.out.blk.cell 2 _ rfl), (World.cell?_of_block (w := V0) (a := ⟨w.heap.size, 1, none⟩) e2).trans (HX30.out.cell 1 _ rfl)⟩
      go_upto_region 6 with fail
      refine rg_start (fun w' => w'.cell? ⟨C, 2, none⟩ = some (.map (some bm)) ∧ w'.cell? ⟨w.heap.size, 1, none⟩ = some (.int .i64 x.n)) (by as_aux_lemma => kernel_rfl) (fun Wd h => HQ6.out _ (h.block _ (by omega)) (h.block _ (by omega))) ?_
      intro Wd hB hWd hWd' hHeld
      have EC0 : Hid (Wd.heap[C]? = V0.heap[C]?) := Lib.hid (hB.block _ (by omega))
      have E30 : Hid (Wd.heap[w.heap.size]? = V0.heap[w.heap.size]?) := Lib.hid (hB.block _ (by omega))
      have EM0 : Hid (Wd.heap[bm]? = V0.heap[bm]?) := Lib.hid (hB.block _ (by omega))
      have HB6 := Lib.hid hB
      clear hB
      refine rg_take (i := 0) (v := ?_) rfl (by as_aux_lemma => kernel_rfl) (by as_aux_lemma => kernel_rfl) (by as_aux_lemma => kernel_rfl) (by rfl) ?_ hHeld ?_
      rotate_left 1
      · intro w hSw; (try dsimp only at hSw); go_simp; try (with_reducible rfl)
      (try simp only [Act.put, List.setIfInBounds_toArray, List.set_cons_zero, List.set_cons_succ])
      refine rg_take (i := 1) (v := ?_) rfl (by as_aux_lemma => kernel_rfl) (by as_aux_lemma => kernel_rfl) (by as_aux_lemma => kernel_rfl) (by rfl) ?_ hHeld ?_
      rotate_left 1
      · intro w hSw; (try dsimp only at hSw); go_simp; try (with_reducible rfl)
      (try simp only [Act.put, List.setIfInBounds_toArray, List.set_cons_zero, List.set_cons_succ])
      refine rg_take (i := 2) (v := ?_) rfl (by as_aux_lemma => kernel_rfl) (by as_aux_lemma => kernel_rfl) (by as_aux_lemma => kernel_rfl) (by rfl) ?_ hHeld ?_
      rotate_left 1
      · intro w hSw; (try dsimp only at hSw); go_simp; try (with_reducible rfl)
      (try simp only [Act.put, List.setIfInBounds_toArray, List.set_cons_zero, List.set_cons_succ])
      refine rg_take (i := 3) (v := ?_) rfl (by as_aux_lemma => kernel_rfl) (by as_aux_lemma => kernel_rfl) (by as_aux_lemma => kernel_rfl) (by rfl) ?_ hHeld ?_
      rotate_left 1
      · intro w hSw; (try dsimp only at hSw); go_simp; try (with_reducible rfl)
      (try simp only [Act.put, List.setIfInBounds_toArray, List.set_cons_zero, List.set_cons_succ])
      refine rg_take (i := 4) (v := ?_) rfl (by as_aux_lemma => kernel_rfl) (by as_aux_lemma => kernel_rfl) (by as_aux_lemma => kernel_rfl) (by rfl) ?_ hHeld ?_
      rotate_left 1
      · intro w hSw; (try dsimp only at hSw); go_simp; try (with_reducible rfl)
      (try simp only [Act.put, List.setIfInBounds_toArray, List.set_cons_zero, List.set_cons_succ])
      refine rg_take (i := 5) (v := ?_) rfl (by as_aux_lemma => kernel_rfl) (by as_aux_lemma => kernel_rfl) (by as_aux_lemma => kernel_rfl) (by rfl) ?_ hHeld ?_
      rotate_left 1
      · intro w hSw; (try dsimp only at hSw); go_simp; try (with_reducible rfl)
      (try simp only [Act.put, List.setIfInBounds_toArray, List.set_cons_zero, List.set_cons_succ])
      refine rg_take (i := 6) (v := ?_) rfl (by as_aux_lemma => kernel_rfl) (by as_aux_lemma => kernel_rfl) (by as_aux_lemma => kernel_rfl) (by rfl) ?_ hHeld ?_
      rotate_left 1
      · intro w hSw; (try dsimp only at hSw); go_simp; try (with_reducible rfl)
      (try simp only [Act.put, List.setIfInBounds_toArray, List.set_cons_zero, List.set_cons_succ])
      refine rg_only (i := 7) rfl (by as_aux_lemma => kernel_rfl) (by rfl) (fun K hK => ?_)
      refine wp_mapput _ _ _ rfl (by rfl) (by rfl) (by rfl) (ownsMap_block HV.out.mp (EM0.out.trans (HB00.out.block bm hbm0))) HV.out.wt HWF.out (wf_small st.tw.length (by omega)) (by unfold maxLen; omega) ?_
      intro w6 D6 hM6 hW6 hG6
      have hs6 := hG6.size
      have EC6 : Hid (w6.heap[C]? = V0.heap[C]?) := Lib.hid ((hG6.block C (by omega) (fun e => HV.out.nm1 (Option.some.inj e).symm)).trans EC0.out)
      have E36 : Hid (w6.heap[w.heap.size]? = V0.heap[w.heap.size]?) := Lib.hid ((hG6.block w.heap.size (by omega) (fun e => by have := (HF1.out _ HV.out.fm).2; have := Option.some.inj e; omega)).trans E30.out)
      have HM6 := Lib.hid hM6
      have HWN6 := Lib.hid hW6
      have E46 : Hid (w6.heap[w.heap.size + 1]? = V0.heap[w.heap.size + 1]?) := Lib.hid ((hG6.block _ (by omega) (fun e => by have := (HF1.out _ HV.out.fm).2; have := Option.some.inj e; omega)).trans (HB6.out.block _ (by omega)))
      have HG6 := Lib.hid hG6
      clear hM6 hW6 hG6
      refine hK.out _ _ (HQ6.out _ EC6.out E36.out) (fun hHeld1 => ?_)
      clear hK K hHeld
      have hHeld := hHeld1
      clear hHeld1
      (try simp only [Act.put, List.setIfInBounds_toArray, List.set_cons_zero, List.set_cons_succ])
      refine rg_done (by as_aux_lemma => kernel_rfl) ?_
      clear hHeld
      clear c1
      have HV6 : Hid (CopV F0 w6 C B ⟨st.tw, (x.n, (st.tw.length : Int)) :: st.wt⟩ (.slice at0 st.tw.length ct0) bm (nm + 1) D6) := Lib.hid ⟨⟨by omega, fun j u hu => (World.cell?_of_block (w := V0) (a := ⟨C, j, none⟩) EC6.out).trans (HV00.out.blk.cell j u hu), fun o => (World.frozen?_of_block (w := V0) (a := ⟨C, o, none⟩) EC6.out).trans (HV00.out.blk.fr o)⟩, OwnW.to HV00.out.row (by omega) (fun b hb => (HG6.out.block b (by have := (HV00.out.row.block b hb).2; omega) (fun e => HV00.out.ne (by rw [hb, e]))).trans (HB6.out.block b (HV00.out.row.block b hb).2)), HM6.out, HWN6.out, HV00.out.nt, HV00.out.nm1, HV00.out.ne, HV00.out.fc, HV00.out.ft, HV00.out.fm⟩
      have HR6 : Hid (HeapR (fun b => G b ∧ b < w.heap.size) w6 B room H) := Lib.hid (HR0.out.to (by omega) (fun _ h => h) fun b hb hl => ((HG6.out.block b (by omega) (fun e => HD.out b (by have e1 := Option.some.inj e; first | (rw [e1]; exact HV00.out.fm) | (rw [← e1]; exact HV00.out.fm)) hb.1)).trans (HB6.out.block b (by omega))).trans (HB00.out.block b hl))
      have HQ7 : Hid (∀ w' : World, w'.heap[C]? = w6.heap[C]? → w'.heap[w.heap.size]? = w6.heap[w.heap.size]? → w'.cell? ⟨C, 0, none⟩ = some (.pointer (some ⟨B, 0, none⟩)) ∧ w'.cell? ⟨w.heap.size, 1, none⟩ = some (.int .i64 x.n)) := Lib.hid fun w' e1 e2 => ⟨(World.cell?_of_block (w := w6) (a := ⟨C, 0, none⟩) e1).trans (HV6.out.blk.cell 0 _ rfl), (World.cell?_of_block (w := V0) (a := ⟨w.heap.size, 1, none⟩) (e2.trans E36.out)).trans (HX30.out.cell 1 _ rfl)⟩
      go_upto_region 7 with fail
      refine rg_start (fun w' => w'.cell? ⟨C, 0, none⟩ = some (.pointer (some ⟨B, 0, none⟩)) ∧ w'.cell? ⟨w.heap.size, 1, none⟩ = some (.int .i64 x.n)) (by as_aux_lemma => kernel_rfl) (fun Wd h => HQ7.out _ (h.block _ (by omega)) (h.block _ (by omega))) ?_
      intro Wd hB hWd hWd' hHeld
      have HB6d := Lib.hid hB
      have HRd := Lib.hid (HR6.out.below hB)
      clear hB
      refine rg_take (i := 0) (v := ?_) rfl (by as_aux_lemma => kernel_rfl) (by as_aux_lemma => kernel_rfl) (by as_aux_lemma => kernel_rfl) (by rfl) ?_ hHeld ?_
      rotate_left 1
      · intro w hSw; (try dsimp only at hSw); go_simp; try (with_reducible rfl)
      (try simp only [Act.put, List.setIfInBounds_toArray, List.set_cons_zero, List.set_cons_succ])
      refine rg_take (i := 1) (v := ?_) rfl (by as_aux_lemma => kernel_rfl) (by as_aux_lemma => kernel_rfl) (by as_aux_lemma => kernel_rfl) (by rfl) ?_ hHeld ?_
      rotate_left 1
      · intro w hSw; (try dsimp only at hSw); go_simp; try (with_reducible rfl)
      (try simp only [Act.put, List.setIfInBounds_toArray, List.set_cons_zero, List.set_cons_succ])
      refine rg_take (i := 2) (v := ?_) rfl (by as_aux_lemma => kernel_rfl) (by as_aux_lemma => kernel_rfl) (by as_aux_lemma => kernel_rfl) (by rfl) ?_ hHeld ?_
      rotate_left 1
      · intro w hSw; (try dsimp only at hSw); go_simp; try (with_reducible rfl)
      (try simp only [Act.put, List.setIfInBounds_toArray, List.set_cons_zero, List.set_cons_succ])
      refine rg_take (i := 3) (v := ?_) rfl (by as_aux_lemma => kernel_rfl) (by as_aux_lemma => kernel_rfl) (by as_aux_lemma => kernel_rfl) (by rfl) ?_ hHeld ?_
      rotate_left 1
      · intro w hSw; (try dsimp only at hSw); go_simp; try (with_reducible rfl)
      (try simp only [Act.put, List.setIfInBounds_toArray, List.set_cons_zero, List.set_cons_succ])
      refine rg_take (i := 4) (v := ?_) rfl (by as_aux_lemma => kernel_rfl) (by as_aux_lemma => kernel_rfl) (by as_aux_lemma => kernel_rfl) (by rfl) ?_ hHeld ?_
      rotate_left 1
      · intro w hSw; (try dsimp only at hSw); go_simp; try (with_reducible rfl)
      (try simp only [Act.put, List.setIfInBounds_toArray, List.set_cons_zero, List.set_cons_succ])
      refine rg_take (i := 5) (v := ?_) rfl (by as_aux_lemma => kernel_rfl) (by as_aux_lemma => kernel_rfl) (by as_aux_lemma => kernel_rfl) (by rfl) ?_ hHeld ?_
      rotate_left 1
      · intro w hSw; (try dsimp only at hSw); go_simp; try (with_reducible rfl)
      (try simp only [Act.put, List.setIfInBounds_toArray, List.set_cons_zero, List.set_cons_succ])
      refine rg_only (i := 6) rfl (by as_aux_lemma => kernel_rfl) (by rfl) (fun K hK => ?_)
      go_simp
      go_at_call 112
      have hc := hparts_yes _ Wd B room H i k HRd.out hi HWI.out hik (by omega)
      rw [← HXI.out] at hc
      refine hc.mono ?_
      rintro e w7 ⟨pa, pc, he, hB, hP⟩
      rw [HPL.out] at he hP
      subst he
      have hs7 := hB.size
      have HB7 := Lib.hid hB
      have HP7 := Lib.hid hP
      have HBB : Hid (Below w6.heap.size w6 w7) := Lib.hid (below_step HB6d.out (by omega) hB)
      clear hB hP hc
      refine hK.out _ _ (HQ7.out _ (HBB.out.block _ (by omega)) (HBB.out.block _ (by omega))) (fun hHeld1 => ?_)
      clear hK K hHeld
      have hHeld := hHeld1
      clear hHeld1
      (try simp only [Act.put, List.setIfInBounds_toArray, List.set_cons_zero, List.set_cons_succ])
      refine rg_take (i := 7) (v := ?_) rfl (by as_aux_lemma => kernel_rfl) (by as_aux_lemma => kernel_rfl) (by as_aux_lemma => kernel_rfl) (by rfl) ?_ hHeld ?_
      rotate_left 1
      · intro w hSw; (try dsimp only at hSw); go_simp; try (with_reducible rfl)
      (try simp only [Act.put, List.setIfInBounds_toArray, List.set_cons_zero, List.set_cons_succ])
      refine rg_take (i := 8) (v := ?_) rfl (by as_aux_lemma => kernel_rfl) (by as_aux_lemma => kernel_rfl) (by as_aux_lemma => kernel_rfl) (by rfl) ?_ hHeld ?_
      rotate_left 1
      · intro w hSw; (try dsimp only at hSw); go_simp; try (with_reducible rfl)
      (try simp only [Act.put, List.setIfInBounds_toArray, List.set_cons_zero, List.set_cons_succ])
      refine rg_take (i := 9) (v := ?_) rfl (by as_aux_lemma => kernel_rfl) (by as_aux_lemma => kernel_rfl) (by as_aux_lemma => kernel_rfl) (by rfl) ?_ hHeld ?_
      rotate_left 1
      · intro w hSw; (try dsimp only at hSw); go_simp; try (with_reducible rfl)
      (try simp only [Act.put, List.setIfInBounds_toArray, List.set_cons_zero, List.set_cons_succ])
      refine rg_take (i := 10) (v := ?_) rfl (by as_aux_lemma => kernel_rfl) (by as_aux_lemma => kernel_rfl) (by as_aux_lemma => kernel_rfl) (by rfl) ?_ hHeld ?_
      rotate_left 1
      · intro w hSw; (try dsimp only at hSw); go_simp; try (with_reducible rfl)
      (try simp only [Act.put, List.setIfInBounds_toArray, List.set_cons_zero, List.set_cons_succ])
      refine rg_take (i := 11) (v := ?_) rfl (by as_aux_lemma => kernel_rfl) (by as_aux_lemma => kernel_rfl) (by as_aux_lemma => kernel_rfl) (by rfl) ?_ hHeld ?_
      rotate_left 1
      · intro w hSw; (try dsimp only at hSw); go_simp; try (with_reducible rfl)
      (try simp only [Act.put, List.setIfInBounds_toArray, List.set_cons_zero, List.set_cons_succ])
      refine rg_done (by as_aux_lemma => kernel_rfl) ?_
      clear hHeld
      obtain ⟨V7, rfl⟩ : ∃ V7 : World, V7 = w7 := ⟨_, rfl⟩
      have HV7 := Lib.hid (HV6.out.to' (F' := F0) (by have := HBB.out.size; omega) (fun _ h => h) fun b _ hb => HBB.out.block b hb)
      have c1 := HV7.out.blk.cell 1 _ rfl
      have cf := HV7.out.blk.fr
      have hCw := (HF1.out _ HV7.out.fc).2
      go_wp2_with (first | (at_builtin; first | (refine append_growX (o := ⟨some 56, _, _, _, _, _⟩) wrdF (v := .slice at0 st.tw.length ct0) (y := ⟨0, k⟩) (g0 := V7.heap.size) _ _ rfl rfl (by rfl) (by rfl) rfl (show OwnXG wrdE wrdF.e (fun _ => True) 0 V7 (.slice at0 st.tw.length ct0) st.tw from HV7.out.row) (R := fun _ => False) rfl (fun b hb => hb.elim) rfl (by omega) (by omega) ?_; intro g1 c1' w8 hO8 hB8 hG8 hD8; have hs8 := hB8.size; have HO8 := Lib.hid hO8; have HB8 := Lib.hid hB8; have HG8 := Lib.hid hG8; have HD8 := Lib.hid hD8; have HP8 := Lib.hid (RX.wto HP7.out (w' := w8) fun b hb hl => (hG8.block b (by simp; omega) (fun e => HD.out b (HV7.out.ft b e.symm) hb.1)).trans (Below.heap_alloc _ _ _ hl)); clear hO8 hB8 hG8 hD8) | (refine wpList_growWs (o := ⟨some 58, _, _, _, _, _⟩) (v := .slice (some ⟨g1, 0, none⟩) (st.tw.length + 1) c1') (u := .slice pa k pc) _ _ rfl rfl (by rfl) (by rfl) (show OwnW w8 _ (st.tw ++ [⟨0, (k : Int)⟩]) from HO8.out) HP8.out (by rw [HPL.out]; simp; omega) ?_; intro v9 w9 hO9 hG9 hP9; have hs9 := hG9.size; have EC9 : Hid (w9.heap[C]? = V7.heap[C]?) := Lib.hid ((hG9.block C (by omega) (fun e => by have e1 : C = g1 := Option.some.inj e; have hd8 := HD8.out; rcases hd8 with h | h; exact HV7.out.nt (by rw [e1]; exact h); omega)).trans ((HG8.out.block C (by simp; omega) (fun e => HV7.out.nt e.symm)).trans (Below.heap_alloc _ _ _ (by omega)))); have c19 := (World.cell?_of_block (w := V7) (a := ⟨C, 1, none⟩) EC9.out).trans c1; have cf9 := (fun o => (World.frozen?_of_block (w := V7) (a := ⟨C, o, none⟩) EC9.out).trans (cf o)); obtain ⟨a9, n9, cp9, rfl⟩ : ∃ a n c, v9 = Value.slice a n c := (by obtain ⟨a, c, h⟩ := OwnW.form hO9; exact ⟨a, _, c, h⟩); have EX9 : Hid (w9.heap[w.heap.size + 1]? = V0.heap[w.heap.size + 1]?) := Lib.hid ((hG9.block _ (by omega) (fun e => by have e1 : w.heap.size + 1 = g1 := Option.some.inj e; have hd8 := HD8.out; rcases hd8 with h | h; (have h2 := (HF1.out _ (HV7.out.ft g1 h)).2; omega); omega)).trans ((HG8.out.block _ (by simp; omega) (fun e => by have h2 := (HF1.out _ (HV7.out.ft _ e.symm)).2; omega)).trans ((Below.heap_alloc _ _ _ (by omega)).trans ((HBB.out.block _ (by omega)).trans E46.out)))); have HO9 := Lib.hid hO9; have HG9 := Lib.hid hG9; have HP9 := Lib.hid hP9; clear hO9 hG9 hP9)) | (have hX9 : Blk (w9.setCell ⟨C, 1, none⟩ (Value.slice a9 n9 cp9)) (w.heap.size + 1) [.int .i64 0, .int .i64 0] := Blk.heap HX40.out ((setCell_other w9 C 1 (Value.slice a9 n9 cp9) _ (by omega)).trans EX9.out); (refine store_blk 69 2 szWord _ _ rfl rfl rfl rfl rfl hX9 rfl rfl rfl ?_; intro W' hF hs' hBW hoth; have HF := Lib.hid hF; have HSZ := Lib.hid hs'; have HBW := Lib.hid hBW; have HOTH := Lib.hid hoth; clear hF hBW hoth hs')))
      have hz9 : V7.heap.size ≤ w9.heap.size := by omega
      have hz7 : W0.heap.size ≤ V7.heap.size := by omega
      have hown7 : ∀ b, (Value.slice at0 st.tw.length ct0).ownBlock = some b → F0 b := HV7.out.ft
      have hg1 : ∀ b, b < V7.heap.size → (Value.slice at0 st.tw.length ct0).ownBlock ≠ some b → w9.heap[b]? = V7.heap[b]? := fun b hb hne => (HG9.out.block b (by omega) (fun e => by have e1 : b = g1 := Option.some.inj e; have hd8 := HD8.out; rcases hd8 with h | h; exact hne (by rw [e1]; exact h); omega)).trans ((HG8.out.block b (by simp; omega) (fun e => hne e.symm)).trans (Below.heap_alloc _ _ _ hb))
      have hrow : OwnW w9 (Value.slice a9 n9 cp9) (st.tw ++ (⟨0, (k : Int)⟩ :: partsL H i k)) := by have h9 := HO9.out; rw [List.append_assoc] at h9; exact h9
      have hpr : ∀ b, (Value.slice a9 n9 cp9).ownBlock = some b → (Value.slice at0 st.tw.length ct0).ownBlock = some b ∨ V7.heap.size ≤ b := fun b hb => by
        rcases HP9.out b hb with h | h
        · have e1 : g1 = b := Option.some.inj h
          subst e1
          exact HD8.out.imp id fun h => by omega
        · exact .inr (by omega)
      have hcv := HV7.out.row' (w3 := w9) (v' := Value.slice a9 n9 cp9) hz9 hg1 hrow hpr
      have hkp : Keep F0 W0 (w9.setCell ⟨C, 1, none⟩ (Value.slice a9 n9 cp9)) := by
        have k6 : Keep F0 W0 w6 := ⟨HG6.out.os.trans (HB6.out.os.trans HB00.out.os), HG6.out.tape.trans (HB6.out.tape.trans HB00.out.tape), HG6.out.output.trans (HB6.out.output.trans HB00.out.output), by omega, fun b hb hn => (HG6.out.block b (by omega) (fun e => hn (by have e1 := Option.some.inj e; rw [e1]; exact HV00.out.fm))).trans ((HB6.out.block b (by omega)).trans (HB00.out.block b hb))⟩
        have k7 : Keep F0 W0 V7 := k6.then HBB.out
        have k9 : Keep F0 W0 w9 := ⟨HG9.out.os.trans (HG8.out.os.trans k7.os), HG9.out.tape.trans (HG8.out.tape.trans k7.tape), HG9.out.output.trans (HG8.out.output.trans k7.output), by omega, fun b hb hn => (hg1 b (by omega) (fun e => hn (hown7 b e))).trans (k7.block b hb hn)⟩
        exact k9.setCell _ (.inl HV7.out.fc)
      refine bodyPost_ret (result_blk Try.results111 szWord _ Try.underlying69 rfl rfl HF.out rfl) rfl ⟨?_, ?_⟩
      · rw [HA.out]; try rfl
      · rw [HA.out]
        exact cop_end HB0.out hs0c HF1.out ⟨⟨_, _, _, CopV.to' hcv (Nat.le_refl _) (fun b hb => hb.imp id fun h => by omega) fun _ _ _ => rfl⟩, hkp⟩ (HBW.out 0 _ (by omega) (Below.refl _ _)) (by omega) (by omega) HOTH.out
  · have HA := Lib.hid (wordC_no (H := H) (st := st) hk)
    have hkb : (x.kind != 4) = true := by simpa using hk
    clear hk
    go_enter Try.func111, Try.ntmps111
    go_upto_region 1 with fail
    rw [← HW0.out]
    have y0 := HX3.out.cell 0 _ rfl
    have y1 := HX3.out.cell 1 _ rfl
    go_wp2_with (refine store_blk 69 2 szWord _ _ rfl rfl rfl rfl rfl HX4.out rfl rfl rfl ?_; intro W' hF hs' hBW hoth; have HF := Lib.hid hF; have HSZ := Lib.hid hs'; have HBW := Lib.hid hBW; have HOTH := Lib.hid hoth; clear hF hBW hoth hs')
    refine bodyPost_ret (result_blk Try.results111 szWord _ Try.underlying69 rfl rfl HF.out rfl) rfl ⟨?_, ?_⟩
    · rw [HA.out]; try rfl
    · rw [HA.out]
      exact cop_end HB0.out hs0c HF1.out ⟨(HC0.out.mono (fun b hb => .inl hb)).more (by omega), Keep.refl _ _⟩ (HBW.out 0 _ (by omega) (Below.refl _ _)) (by omega) (by omega) HOTH.out
end Go.Proofs.Ytedfepnekjjmnaa

/-
  heap.copied: what a collection makes. No condition but a bound.
-/
namespace Go.Proofs.Ytedfepnekjjmnaa
open Go.RowKit
set_option linter.unusedSimpArgs false
set_option linter.unusedVariables false
set_option maxRecDepth 100000

/-- What copied answers. -/
def CopiedP (w : World) (H : HS) (rs : List Wrd) (e : Ending) (w' : World) : Prop := ∃ v1 v2 tw out ks, e = .returned (.tuple #[v1, v2]) ∧ Below w.heap.size w w' ∧ Col H rs ks tw out ∧ OwnW w' v1 tw ∧ OwnW w' v2 out ∧
  (∀ b, v1.ownBlock = some b → w.heap.size ≤ b ∧ v2.ownBlock ≠ some b) ∧ ∀ b, v2.ownBlock = some b → w.heap.size ≤ b
/-- The next root. -/
theorem ChInv.next {H : HS} {rs : List Wrd} {ks : List Nat} {st : CS} {k : Nat} (hk : k < rs.length) (h : ChInv H ks 0 st) (hK : ∀ x ∈ rs.take k, Kn ks x) (hR : ∀ i ∈ ks, Reach H rs i) (hg : GoodW H rs[k]) :
    ∃ ks', ChInv H ks' 0 (wordC H st rs[k]).2 ∧ (rs.take (k + 1)).map (fwd H ks') = (rs.take k).map (fwd H ks) ++ [(wordC H st rs[k]).1] ∧ (∀ x ∈ rs.take (k + 1), Kn ks' x) ∧ ∀ i ∈ ks', Reach H rs i := by
  obtain ⟨l, h1, h2, h3, h4⟩ := h.word hg
  refine ⟨ks ++ l, h1, ?_, ?_, ?_⟩
  · rw [take_snoc' rs k hk, List.map_append, h2, List.map_cons, List.map_nil]
    congr 1
    exact List.map_congr_left fun x hx => fwd_app (hK x hx) l
  · intro x hx
    rw [take_snoc' rs k hk] at hx
    rcases List.mem_append.1 hx with hx | hx
    · exact (hK x hx).app l
    · rw [List.mem_singleton.1 hx]; exact h3
  · intro i hi
    rcases List.mem_append.1 hi with hi | hi
    · exact hR i hi
    · exact Reach.root i (by rw [← h4 i hi]; exact List.getElem_mem hk)
/-- The next word of the new heap. -/
theorem ChInv.scan {H : HS} (hW : WF H) {rs : List Wrd} {ks : List Nat} {st : CS} {s : Nat} (h : ChInv H ks s st) (hs : s < st.tw.length) (hK : ∀ x ∈ rs, Kn ks x) (hR : ∀ i ∈ ks, Reach H rs i) :
    ∃ ks', ChInv H ks' (s + 1) (stepC H st s) ∧ rs.map (fwd H ks') = rs.map (fwd H ks) ∧ (∀ x ∈ rs, Kn ks' x) ∧ (∀ i ∈ ks', Reach H rs i) ∧ GoodW H (st.tw.getD s ⟨0, 0⟩) := by
  rw [h.len] at hs
  have hg := h.good hW _ (List.getElem_mem hs)
  obtain ⟨l, h1, h2⟩ := h.step hs hg
  refine ⟨ks ++ l, h1, List.map_congr_left fun x hx => fwd_app (hK x hx) l, fun x hx => (hK x hx).app l, fun i hi => ?_, by rw [h.at hs]; exact hg⟩
  rcases List.mem_append.1 hi with hi | hi
  · exact hR i hi
  · have h3 := h2 i hi
    have h4 := List.getElem_mem hs
    rw [h3] at h4
    unfold raw at h4
    obtain ⟨j, hj, h5⟩ := List.mem_flatMap.1 h4
    unfold blkL at h5
    rcases List.mem_cons.1 h5 with h5 | h5
    · exact absurd (congrArg Wrd.kind h5) (show ¬ ((4 : Int) = 0) by decide)
    · exact Reach.part j i (hR j hj) h5
theorem GoodW.head {H : HS} {x : Wrd} (h : GoodW H x) (e : x.kind = 4) : (headN H x.n).isSome = true := by
  obtain ⟨i, k, h1, h2⟩ := h e; rw [h1, h2.headN]; rfl
theorem CopV.set {F : Nat → Prop} {w : World} {C B bm nm : Nat} {st : CS} {D : DataW Unit} {g n cap i : Nat} (h : CopV F w C B st (.slice (some ⟨g, 0, none⟩) n cap) bm nm D) (hi : i < st.tw.length) (x : Wrd) :
    CopV F ((w.setCell ⟨g, i * 2, none⟩ (.int .i64 x.kind)).setCell ⟨g, i * 2 + 1, none⟩ (.int .i64 x.n)) C B ⟨st.tw.set i x, st.wt⟩ (.slice (some ⟨g, 0, none⟩) n cap) bm nm D := by
  have hb : ∀ b, b ≠ g → ((w.setCell ⟨g, i * 2, none⟩ (.int .i64 x.kind)).setCell ⟨g, i * 2 + 1, none⟩ (.int .i64 x.n)).heap[b]? = w.heap[b]? := fun b hb => by rw [setCell_other _ _ _ _ _ hb, setCell_other _ _ _ _ _ hb]
  have hsz : ((w.setCell ⟨g, i * 2, none⟩ (.int .i64 x.kind)).setCell ⟨g, i * 2 + 1, none⟩ (.int .i64 x.n)).heap.size = w.heap.size := by simp
  have he := hb C (fun e => h.nt (by rw [e]; rfl))
  have he2 := hb bm (fun e => h.ne (by rw [e]; rfl))
  exact ⟨h.blk.heap he, h.row.set hi x, ownsMap_block h.mp he2, h.wt, h.nt, h.nm1, h.ne, h.fc, h.ft, h.fm⟩
/-- A collection under way: xs the roots that were copied. -/
def CL (w : World) (H : HS) (rs xs : List Wrd) (C B s nm : Nat) (vo : Value) (wr : World) : Prop := ∃ FC ks st, CopR FC wr C B st nm ∧ ChInv H ks s st ∧ OwnW wr vo (xs.map (fwd H ks)) ∧ (∀ x ∈ xs, Kn ks x) ∧ (∀ i ∈ ks, Reach H rs i) ∧ Below w.heap.size w wr ∧
  (∀ b, FC b → w.heap.size ≤ b ∧ vo.ownBlock ≠ some b) ∧ ∀ b, vo.ownBlock = some b → w.heap.size ≤ b
theorem CL.start {H : HS} {rs : List Wrd} {w : World} {B : Nat} :
    CL w H rs [] (w.heap.size + 1) B 0 0 (.slice none 0 0) ((w.alloc (.map #[] 0)).alloc (.cells #[.pointer (some ⟨B, 0, none⟩), .slice none 0 0, .map (some w.heap.size)] 154)) := by
  refine ⟨fun b => w.heap.size ≤ b, [], ⟨[], []⟩, ⟨.slice none 0 0, w.heap.size, .map [], ?_, ?_, ?_, WentR.nil, by simp [Value.ownBlock], by omega, by simp [Value.ownBlock], by omega, by simp [Value.ownBlock], Nat.le_refl _⟩, ChInv.nil H, ?_, by simp, by simp, (below_alloc _ _).trans ((below_alloc _ _).mono (by simp)), fun b hb => ⟨hb, by simp [Value.ownBlock]⟩, by simp [Value.ownBlock]⟩
  · exact Blk.new _ _ _ _ (by simp)
  · exact OwnXG.nil _ _ _ _
  · exact ownsMap_block (World.ownsMap_made w _ _ _) (Below.heap_alloc _ _ _ (by simp))
  · exact OwnXG.nil _ _ _ _

set_option maxHeartbeats 8000000 in
theorem hcopied_c (H : HS) (rs : List Wrd) (G R S : Nat → Prop) (w : World) (B : Nat) (room : Int) (v : Value) (hR : HeapR G w B room H) (hW : WF H) (hv : RX wrdE R S w rs v) (hg : ∀ x ∈ rs, GoodW H x) (hl : H.ws.length ≤ 4294967296) (hr : rs.length ≤ 4294967296) :
    Calls Try.prog 87 #[.pointer (some ⟨B, 0, none⟩), v] w (CopiedP w H rs) := by
  obtain ⟨a, cap, cs, rfl, hcap, hC, hj⟩ := hv
  obtain ⟨W1, hW1⟩ : ∃ W : World, W = (w.alloc (.map #[] 0)).alloc (.cells #[.pointer (some ⟨B, 0, none⟩), .slice none 0 0, .map (some w.heap.size)] 154) := ⟨_, rfl⟩
  have HCL : Hid (CL w H rs [] (w.heap.size + 1) B 0 0 (.slice none 0 0) W1) := Lib.hid (by rw [hW1]; exact CL.start)
  have HV : Hid (RX wrdE R S w rs (.slice a rs.length cap)) := Lib.hid ⟨a, cap, cs, rfl, hcap, hC, hj⟩
  have HR : Hid (HeapR (fun b => G b ∧ b < w.heap.size) w B room H) := Lib.hid hR.low
  have HW := Lib.hid hW
  have HG := Lib.hid hg
  have HW1 := Lib.hid hW1
  obtain ⟨C, hCe⟩ : ∃ C, C = w.heap.size + 1 := ⟨_, rfl⟩
  rw [← hCe] at HCL
  have HCe := Lib.hid hCe
  clear hW hg hC hj hcap hR hW1 hCe
  have hmm := @run_makeMap Try.prog
  go_enter Try.func87, Try.ntmps87
  go_upto_region 3 with fail
  clear hmm
  rw [← HW1.out, ← HCe.out]
  go_wp2_with fail
  go_loopw [7, 18] (fun s7 i wr => ∃ k : Nat, k ≤ rs.length ∧ i = .int .i64 k ∧ CL w H rs (rs.take k) C B 0 k s7 wr) (fun _ i _ => rs.length - (intOf i).toNat)
  case atStart => exact ⟨0, Nat.zero_le _, rfl, by rw [List.take_zero]; exact HCL.out⟩
  case round =>
    obtain ⟨k, hkl, rfl, FC, ks, st, hC, hI, hO, hK, hRc, hB, hF, hOB⟩ := hrel
    obtain ⟨wq, rfl⟩ : ∃ wq : World, wq = wr := ⟨_, rfl⟩
    obtain ⟨ar, cr, hrow⟩ := hO.form
    have hlk : ((rs.take k).map (fwd H ks)).length = k := by rw [List.length_map, List.length_take]; omega
    rw [hlk] at hrow
    subst hrow
    have hsq := hB.size
    have HPq : Hid (RX wrdE R S wq rs (.slice a rs.length cap)) := Lib.hid (RX.wto HV.out fun b _ hb => hB.block b hb)
    have HRq : Hid (HeapR (fun b => G b ∧ b < w.heap.size) wq B room H) := Lib.hid (HR.out.below hB)
    have htl := hI.le HW.out
    have HC := Lib.hid hC
    have HI := Lib.hid hI
    have HO := Lib.hid hO
    have HK := Lib.hid hK
    have HRc := Lib.hid hRc
    have HB := Lib.hid hB
    have HF := Lib.hid hF
    have HOB := Lib.hid hOB
    clear hC hI hO hK hRc hB hF hOB hlk
    by_cases hlt : k < rs.length
    · obtain ⟨pb, po, rfl⟩ := HPq.out.addr (by decide) (by omega)
      obtain ⟨-, d0, d1⟩ := HPq.out.wrd k hlt
      obtain ⟨y, hy⟩ : ∃ y, y = rs[k] := ⟨_, rfl⟩
      rw [← hy] at d0 d1
      have HGY : Hid (GoodW H y) := Lib.hid (by rw [hy]; exact HG.out _ (List.getElem_mem hlt))
      have HY := Lib.hid hy
      clear hy
      go_upto_region 6 with fail
      obtain ⟨W9, hW9⟩ : ∃ W : World, W = wq.alloc (.cells #[.int .i64 y.kind, .int .i64 y.n] 69) := ⟨_, rfl⟩
      obtain ⟨g9, hg9⟩ : ∃ g, g = wq.heap.size := ⟨_, rfl⟩
      have HX9 : Hid (Blk W9 g9 [.int .i64 y.kind, .int .i64 y.n]) := Lib.hid (by rw [hW9]; exact Blk.new _ _ _ _ hg9)
      have HB9 : Hid (Below wq.heap.size wq W9) := Lib.hid (by rw [hW9]; exact below_alloc _ _)
      have hs9 : wq.heap.size + 1 ≤ W9.heap.size := by rw [hW9]; simp
      have HR9 := Lib.hid (HRq.out.below HB9.out)
      have HC9 := Lib.hid (HC.out.low.below HB9.out)
      rw [← hW9, ← hg9]
      have y0 := HX9.out.cell 0 _ rfl
      have y1 := HX9.out.cell 1 _ rfl
      clear hW9 hg9 d0 d1
      go_wp2_with fail
      refine (cop_word H st y _ _ W9 C B k room HC9.out HR9.out HW.out.heads (fun b h1 h2 => by have := (HF.out b h1.1).1; omega) (fun e => HGY.out.head e) hl (by omega) (by omega)).mono ?_
      rintro e w2 ⟨rfl, hK2, hC2⟩
      obtain ⟨z, hz⟩ : ∃ z, z = wordC H st y := ⟨_, rfl⟩
      rw [← hz] at hC2
      rw [← hz]
      have hs2 := hK2.size
      have HZ := Lib.hid hz
      have HK2 := Lib.hid hK2
      have HC2 := Lib.hid hC2.low
      have HO2 : Hid (OwnW w2 (.slice ar k cr) ((rs.take k).map (fwd H ks))) := Lib.hid (OwnW.to HO.out (by omega) fun b hb => (hK2.block b (by have := (HO.out.block b hb).2; omega) (fun e => (HF.out b e.1).2 hb)).trans (HB9.out.block b (HO.out.block b hb).2))
      have hlm : ((rs.take k).map (fwd H ks)).length = k := by rw [List.length_map, List.length_take]; omega
      have HLM := Lib.hid hlm
      clear hz hK2 hC2 y0 y1 hlm
      go_wp2_with (at_builtin; (refine append_growX wrdF (v := .slice ar k cr) (y := z.1) (g0 := w2.heap.size) (n := k) _ _ rfl rfl (by rfl) (by rfl) rfl (show OwnXG wrdE wrdF.e (fun _ => True) 0 w2 (.slice ar k cr) ((rs.take k).map (fwd H ks)) from HO2.out) (R := fun _ => False) rfl (fun b hb => hb.elim) HLM.out (by omega) (by omega) ?_); intro g1 c1' w8 hO8 hB8 hG8 hD8; have hs8 := hB8.size; have HO8 := Lib.hid hO8; have HB8 := Lib.hid hB8; have HG8 := Lib.hid hG8; have HD8 := Lib.hid hD8; clear hO8 hB8 hG8 hD8)
      have u1 : IntKind.i64.wrap ((k : Int) + 1) = ((k + 1 : Nat) : Int) := by rw [IntKind.wrap_i64]; omega
      have hgw : ∀ b, b < w2.heap.size → (Value.slice ar k cr).ownBlock ≠ some b → w8.heap[b]? = w2.heap[b]? := fun b hb hn => (HG8.out.block b (by simp; omega) (fun e => hn e.symm)).trans (Below.heap_alloc _ _ _ hb)
      have hfin : CL w H rs (rs.take (k + 1)) C B 0 (k + 1) (.slice (some ⟨g1, 0, none⟩) (k + 1) c1') w8 := by
        have hyy : y = rs[k] := HY.out
        have hg := HGY.out
        have hz := HZ.out
        subst hyy
        obtain ⟨ks', n1, n2, n3, n4⟩ := HI.out.next hlt HK.out HRc.out hg
        rw [← hz] at n1 n2
        have hown : ∀ b, (Value.slice ar k cr).ownBlock = some b → w.heap.size ≤ b ∧ b < wq.heap.size := fun b hb => ⟨HOB.out b hb, (HO.out.block b hb).2⟩
        refine ⟨fun b => ((FC b ∧ b < wq.heap.size) ∨ W9.heap.size ≤ b) ∧ b < w2.heap.size, ks', z.2, HC2.out.to' (by omega) (fun b hb => hb) (fun b hb hl => hgw b hl fun e => ?_), n1, by rw [n2]; exact HO8.out, n3, n4, ?_, ?_, ?_⟩
        · have h1 := hown b e
          rcases hb.1 with h | h
          · exact (HF.out b h.1).2 e
          · omega
        · have b2 : Below w.heap.size w w2 := (HB.out.trans (HB9.out.mono (by omega))).trans (HK2.out.below (by omega) fun b hb => (HF.out b hb.1).1)
          exact b2.trans ⟨HB8.out.os, HB8.out.tape, HB8.out.output, hs8, fun b hb => hgw b (by omega) fun e => by have := (hown b e).1; omega⟩
        · intro b hb
          refine ⟨?_, fun e => ?_⟩
          · rcases hb.1 with h | h
            · exact (HF.out b h.1).1
            · omega
          · have e1 : g1 = b := Option.some.inj e
            subst e1
            rcases HD8.out with h | h
            · have h1 := hown _ h
              rcases hb.1 with h2 | h2
              · exact (HF.out _ h2.1).2 h
              · omega
            · have := hb.2; omega
        · intro b e
          have e1 : g1 = b := Option.some.inj e
          subst e1
          rcases HD8.out with h | h
          · exact (hown _ h).1
          · omega
      exact ⟨⟨k + 1, by omega, rfl, hfin⟩, by simp [intOf]; omega⟩
    · have hkk : k = rs.length := by omega
      subst hkk
      have HCL2 : Hid (CL w H rs rs C B 0 rs.length (.slice ar rs.length cr) wq) := Lib.hid ⟨FC, ks, st, HC.out, HI.out, by have := HO.out; rw [List.take_length] at this; exact this, by have := HK.out; rw [List.take_length] at this; exact this, HRc.out, HB.out, HF.out, HOB.out⟩
      go_upto_region 8 with fail
      obtain ⟨W5, rfl⟩ : ∃ W5 : World, W5 = wq := ⟨_, rfl⟩
      clear HC HI HO HK HRc HB HF HOB htl hlt HCL
      go_wp2_with fail
      go_loopw [10] (fun i wr => ∃ s : Nat, i = .int .i64 s ∧ CL w H rs rs C B s (rs.length + s) (.slice ar rs.length cr) wr) (fun i _ => H.ws.length - (intOf i).toNat)
      case atStart => exact ⟨0, rfl, HCL2.out⟩
      case round =>
        obtain ⟨s, rfl, FC, ks, st, hC, hI, hO, hK, hRc, hB, hF, hOB⟩ := hrel
        obtain ⟨wq, rfl⟩ : ∃ wq : World, wq = wr := ⟨_, rfl⟩
        obtain ⟨vto, bm, D, hV⟩ := hC
        have hsq := hB.size
        have htl := hI.le HW.out
        have hsl : s ≤ st.tw.length := by rw [hI.len]; exact hI.sle
        have HRq : Hid (HeapR (fun b => G b ∧ b < w.heap.size) wq B room H) := Lib.hid (HR.out.below hB)
        have HI := Lib.hid hI
        have HO := Lib.hid hO
        have HK := Lib.hid hK
        have HRc := Lib.hid hRc
        have HB := Lib.hid hB
        have HF := Lib.hid hF
        have HOB := Lib.hid hOB
        clear hI hO hK hRc hB hF hOB
        by_cases hlt : s < st.tw.length
        · obtain ⟨gt, ct, rfl⟩ := hV.row.form0 (by omega)
          have c1 := hV.blk.cell 1 _ rfl
          obtain ⟨d, d0, d1⟩ := (hV.row.rx).wrd s hlt
          have HV2 := Lib.hid hV
          clear hV
          obtain ⟨y, hy⟩ : ∃ y, y = st.tw[s] := ⟨_, rfl⟩
          rw [← hy] at d0 d1
          simp only [Nat.zero_add] at d0 d1
          obtain ⟨ks', n1, n2, n3, n4, n5⟩ := HI.out.scan HW.out hlt HK.out HRc.out
          have hgd : st.tw.getD s ⟨0, 0⟩ = y := by rw [List.getD_eq_getElem?_getD, List.getElem?_eq_getElem hlt, hy]; rfl
          rw [hgd] at n5
          have hstep : stepC H st s = ⟨(wordC H st y).2.tw.set s (wordC H st y).1, (wordC H st y).2.wt⟩ := by unfold stepC; rw [hgd]
          rw [hstep] at n1
          have hown : ∀ b, (Value.slice ar rs.length cr).ownBlock = some b → w.heap.size ≤ b ∧ b < wq.heap.size := fun b hb => ⟨HOB.out b hb, (HO.out.block b hb).2⟩
          have HY := Lib.hid hy
          have HN1 := Lib.hid n1
          have HN2 := Lib.hid n2
          have HN3 := Lib.hid n3
          have HN4 := Lib.hid n4
          have HN5 := Lib.hid n5
          have HOWN := Lib.hid hown
          clear hy n1 n2 n3 n4 n5 hgd hstep hown
          go_wp2_with fail
          refine (cop_word H st y FC _ wq C B (rs.length + s) room ⟨_, _, _, HV2.out⟩ HRq.out HW.out.heads (fun b h1 h2 => by have := (HF.out b h1).1; omega) (fun e => HN5.out.head e) hl (by omega) (by omega)).mono ?_
          rintro e w2 ⟨rfl, hK2, hC2⟩
          obtain ⟨z, hz⟩ : ∃ z, z = wordC H st y := ⟨_, rfl⟩
          rw [← hz] at hC2 HN1
          rw [← hz]
          have hs2 := hK2.size
          obtain ⟨F2, hF2⟩ : ∃ F2 : Nat → Prop, F2 = fun b => (FC b ∨ wq.heap.size ≤ b) ∧ b < w2.heap.size := ⟨_, rfl⟩
          have hC3 := hC2.low
          rw [← hF2] at hC3
          obtain ⟨v2, bm2, D2, hV2⟩ := hC3
          have hsz : s < z.2.tw.length := by have h1 := HN1.out.len; have h2 := HN1.out.sle; simp only [List.length_set] at h1; omega
          have hszl : z.2.tw.length ≤ H.ws.length := by have h1 := HN1.out.le HW.out; simpa using h1
          obtain ⟨g2, c2, rfl⟩ := hV2.row.form0 (by omega)
          have HF2 := Lib.hid hF2
          have HSZ := Lib.hid hsz
          have HVz := Lib.hid hV2
          have HK2 := Lib.hid hK2
          have HZ := Lib.hid hz
          have hg2F : F2 g2 := hV2.ft g2 rfl
          have hg2l : g2 < w2.heap.size := by rw [hF2] at hg2F; exact hg2F.2
          have hg2w : w.heap.size ≤ g2 := by
            rw [hF2] at hg2F
            rcases hg2F.1 with h | h
            · exact (HF.out _ h).1
            · omega
          have hg2o : (Value.slice ar rs.length cr).ownBlock ≠ some g2 := fun e => by
            rw [hF2] at hg2F
            rcases hg2F.1 with h | h
            · exact (HF.out _ h).2 e
            · have := (HOWN.out _ e).2; omega
          have hCg2 : C ≠ g2 := fun e => hV2.nt (by rw [e]; rfl)
          have hCl2 := hV2.blk.lt
          have HG2O := Lib.hid hg2o
          clear c1 d0 d1 hz hK2 hC2 hV2 hF2 hg2F hg2o
          go_upto_region 12 with fail
          obtain ⟨W9, hW9⟩ : ∃ W : World, W = w2.alloc (.cells #[.int .i64 z.1.kind, .int .i64 z.1.n] 69) := ⟨_, rfl⟩
          obtain ⟨g9, hg9⟩ : ∃ g, g = w2.heap.size := ⟨_, rfl⟩
          have HX9 : Hid (Blk W9 g9 [.int .i64 z.1.kind, .int .i64 z.1.n]) := Lib.hid (by rw [hW9]; exact Blk.new _ _ _ _ hg9)
          have HB9 : Hid (Below w2.heap.size w2 W9) := Lib.hid (by rw [hW9]; exact below_alloc _ _)
          have hs9 : w2.heap.size + 1 ≤ W9.heap.size := by rw [hW9]; simp
          have hg9a : w2.heap.size ≤ g9 := by omega
          have hg9b : g9 ≤ w2.heap.size := by omega
          have hg9g2 : g9 ≠ g2 := by omega
          have HV9 := Lib.hid (HVz.out.to' (w' := W9) (F' := F2) (by omega) (fun _ h => h) fun b _ hb => HB9.out.block b hb)
          have HQ12 : Hid (∀ w' : World, w'.heap[C]? = W9.heap[C]? → w'.heap[g9]? = W9.heap[g9]? → w'.cell? ⟨C, 1, none⟩ = some (.slice (some ⟨g2, 0, none⟩) z.2.tw.length c2) ∧ w'.cell? ⟨g9, 0, none⟩ = some (.int .i64 z.1.kind) ∧ w'.cell? ⟨g9, 1, none⟩ = some (.int .i64 z.1.n)) := Lib.hid fun w' e1 e2 => ⟨(World.cell?_of_block (w := W9) (a := ⟨C, 1, none⟩) e1).trans (HV9.out.blk.cell 1 _ rfl), (World.cell?_of_block (w := W9) (a := ⟨g9, 0, none⟩) e2).trans (HX9.out.cell 0 _ rfl), (World.cell?_of_block (w := W9) (a := ⟨g9, 1, none⟩) e2).trans (HX9.out.cell 1 _ rfl)⟩
          have HEND : Hid (∀ Wd w10 : World, Below W9.heap.size W9 Wd → Keep (fun b => b = g2) Wd w10 → CopV F2 w10 C B ⟨z.2.tw.set s z.1, z.2.wt⟩ (.slice (some ⟨g2, 0, none⟩) z.2.tw.length c2) bm2 (rs.length + s + 1) D2 → CL w H rs rs C B (s + 1) (rs.length + (s + 1)) (.slice ar rs.length cr) w10) := Lib.hid (by
            intro Wd w10 hBd hK10 hV10
            have hd1 := hBd.size
            have hd2 := hK10.size
            refine ⟨F2, ks', _, ⟨_, _, _, hV10⟩, HN1.out, ?_, HN3.out, HN4.out, ?_, ?_, HOB.out⟩
            · rw [HN2.out]
              refine OwnW.to HO.out (by omega) fun b hb => ?_
              have hb2 := (HOWN.out b hb).2
              exact (hK10.block b (by omega) (fun e => HG2O.out (by rw [← e]; exact hb))).trans ((hBd.block b (by omega)).trans ((HB9.out.block b (by omega)).trans (HK2.out.block b hb2 fun e => (HF.out b e).2 hb)))
            · have b2 : Below w.heap.size w W9 := (HB.out.trans (HK2.out.below (by omega) fun b hb => (HF.out b hb).1)).trans (HB9.out.mono (by omega))
              exact (b2.trans (hBd.mono (by omega))).trans (hK10.below (by omega) fun b hb => by omega)
            · intro b hb
              rw [HF2.out] at hb
              rcases hb.1 with h | h
              · exact HF.out b h
              · exact ⟨by omega, fun e => by have := (HOWN.out b e).2; omega⟩)
          rw [← hW9, ← hg9]
          clear hW9 hg9
          refine rg_start (fun w' => w'.cell? ⟨C, 1, none⟩ = some (.slice (some ⟨g2, 0, none⟩) z.2.tw.length c2) ∧ w'.cell? ⟨g9, 0, none⟩ = some (.int .i64 z.1.kind) ∧ w'.cell? ⟨g9, 1, none⟩ = some (.int .i64 z.1.n)) (by as_aux_lemma => kernel_rfl) (fun Wd h => HQ12.out _ (h.block _ (by omega)) (h.block _ (by omega))) ?_
          intro Wd hB hWd hWd' hHeld
          have ECd : Hid (Wd.heap[C]? = W9.heap[C]?) := Lib.hid (hB.block _ (by omega))
          have E9d : Hid (Wd.heap[g9]? = W9.heap[g9]?) := Lib.hid (hB.block _ (by omega))
          have HBd := Lib.hid hB
          have HVd := Lib.hid (HV9.out.to' hWd (fun _ h => h) fun b _ hb => hB.block b hb)
          clear hB
          refine rg_take (i := 0) (v := ?_) rfl (by as_aux_lemma => kernel_rfl) (by as_aux_lemma => kernel_rfl) (by as_aux_lemma => kernel_rfl) (by rfl) ?_ hHeld ?_
          rotate_left 1
          · intro w hSw; (try dsimp only at hSw); go_simp; try (with_reducible rfl)
          (try simp only [Act.put, List.setIfInBounds_toArray, List.set_cons_zero, List.set_cons_succ])
          refine rg_take (i := 1) (v := ?_) rfl (by as_aux_lemma => kernel_rfl) (by as_aux_lemma => kernel_rfl) (by as_aux_lemma => kernel_rfl) (by rfl) ?_ hHeld ?_
          rotate_left 1
          · intro w hSw; (try dsimp only at hSw); go_simp; try (with_reducible rfl)
          (try simp only [Act.put, List.setIfInBounds_toArray, List.set_cons_zero, List.set_cons_succ])
          refine rg_take (i := 2) (v := ?_) rfl (by as_aux_lemma => kernel_rfl) (by as_aux_lemma => kernel_rfl) (by as_aux_lemma => kernel_rfl) (by rfl) ?_ hHeld ?_
          rotate_left 1
          · intro w hSw; (try dsimp only at hSw); go_simp; try (with_reducible rfl)
          (try simp only [Act.put, List.setIfInBounds_toArray, List.set_cons_zero, List.set_cons_succ])
          refine rg_take (i := 3) (v := ?_) rfl (by as_aux_lemma => kernel_rfl) (by as_aux_lemma => kernel_rfl) (by as_aux_lemma => kernel_rfl) (by rfl) ?_ hHeld ?_
          rotate_left 1
          · intro w hSw; (try dsimp only at hSw); go_simp; try (with_reducible rfl)
          (try simp only [Act.put, List.setIfInBounds_toArray, List.set_cons_zero, List.set_cons_succ])
          refine rg_take (i := 4) (v := ?_) rfl (by as_aux_lemma => kernel_rfl) (by as_aux_lemma => kernel_rfl) (by as_aux_lemma => kernel_rfl) (by rfl) ?_ hHeld ?_
          rotate_left 1
          · intro w hSw; (try dsimp only at hSw); go_simp; try (with_reducible rfl)
          (try simp only [Act.put, List.setIfInBounds_toArray, List.set_cons_zero, List.set_cons_succ])
          refine rg_take (i := 5) (v := ?_) rfl (by as_aux_lemma => kernel_rfl) (by as_aux_lemma => kernel_rfl) (by as_aux_lemma => kernel_rfl) (by rfl) ?_ hHeld ?_
          rotate_left 1
          · intro w hSw; (try dsimp only at hSw); go_simp; try (with_reducible rfl)
          (try simp only [Act.put, List.setIfInBounds_toArray, List.set_cons_zero, List.set_cons_succ])
          refine rg_take (i := 6) (v := ?_) rfl (by as_aux_lemma => kernel_rfl) (by as_aux_lemma => kernel_rfl) (by as_aux_lemma => kernel_rfl) (by rfl) ?_ hHeld ?_
          rotate_left 1
          · intro w hSw; (try dsimp only at hSw); go_simp; try (with_reducible rfl)
          (try simp only [Act.put, List.setIfInBounds_toArray, List.set_cons_zero, List.set_cons_succ])
          refine rg_only (i := 7) rfl (by as_aux_lemma => kernel_rfl) (by rfl) (fun K hK => ?_)
          refine wp_store_mid 69 _ _ rfl g2 (s * 2) #[.int .i64 z.1.kind, .int .i64 z.1.n] (by rfl) (by rfl) (HVd.out.row.there (by omega)) (by rw [szWord]; rfl) (by simp [Value.oneCell']) ?_
          obtain ⟨w10, hw10⟩ : ∃ w10 : World, w10 = (Wd.setCell ⟨g2, s * 2, none⟩ (.int .i64 z.1.kind)).setCell ⟨g2, s * 2 + 1, none⟩ (.int .i64 z.1.n) := ⟨_, rfl⟩
          have hcell10 : ∀ b, b ≠ g2 → w10.heap[b]? = Wd.heap[b]? := fun b hb => by rw [hw10, setCell_other _ _ _ _ _ hb, setCell_other _ _ _ _ _ hb]
          have hz10 : w10.heap.size = Wd.heap.size := by rw [hw10]; simp
          have hz10a : Wd.heap.size ≤ w10.heap.size := by omega
          have HV10 : Hid (CopV F2 w10 C B ⟨z.2.tw.set s z.1, z.2.wt⟩ (.slice (some ⟨g2, 0, none⟩) z.2.tw.length c2) bm2 (rs.length + s + 1) D2) := Lib.hid (by rw [hw10]; exact HVd.out.set HSZ.out z.1)
          have HK10 : Hid (Keep (fun b => b = g2) Wd w10) := Lib.hid (by rw [hw10]; exact Keep.setCell (R := fun b => b = g2) (Keep.setCell (R := fun b => b = g2) (Keep.refl _ _) _ (.inl (show g2 = g2 from rfl))) _ (.inl (show g2 = g2 from rfl)))
          show K _ ((Wd.setCell ⟨g2, s * 2, none⟩ (.int .i64 z.1.kind)).setCell ⟨g2, s * 2 + 1, none⟩ (.int .i64 z.1.n))
          rw [← hw10]
          clear hw10 hz10
          refine hK.out _ _ (HQ12.out _ ((hcell10 C hCg2).trans ECd.out) ((hcell10 g9 hg9g2).trans E9d.out)) (fun hHeld1 => ?_)
          clear hK K hHeld
          have hHeld := hHeld1
          clear hHeld1
          (try simp only [Act.put, List.setIfInBounds_toArray, List.set_cons_zero, List.set_cons_succ])
          refine rg_done (by as_aux_lemma => kernel_rfl) ?_
          clear hHeld
          clear hcell10
          go_wp2_with fail
          go_roundw
          case rel => exact ⟨s + 1, by go_num, HEND.out Wd w10 HBd.out HK10.out HV10.out⟩
          case measure => simp [intOf]; omega
        · obtain ⟨at0, ct0, rfl⟩ := hV.row.form
          have c1 := hV.blk.cell 1 _ rfl
          have HV2 := Lib.hid hV
          have HKF : Hid (Col H rs ks st.tw (rs.map (fwd H ks))) := Lib.hid (HI.out.col (by omega) rfl HK.out HRc.out)
          clear hV
          go_wp2_with fail
          go_ret2
          exact ⟨_, _, _, _, ks, rfl, HB.out, HKF.out, HV2.out.row, HO.out, fun b hb => HF.out b (HV2.out.ft b hb), HOB.out⟩
end Go.Proofs.Ytedfepnekjjmnaa

/-
  heap.all: whether all words stand for something. No condition but a bound.
-/
namespace Go.Proofs.Ytedfepnekjjmnaa
open Go.RowKit
set_option linter.unusedSimpArgs false
set_option linter.unusedVariables false
set_option maxRecDepth 100000

set_option maxHeartbeats 400000 in
theorem indexFuncW (p : Wrd → Bool) (R S : Nat → Prop) (ts : List Wrd) (w : World) (v c : Value) (hv : RX wrdE R S w ts v) (hlen : ts.length ≤ 1099511627776)
    (hf : ∀ x ∈ ts, ∀ W : World, Below w.heap.size w W → Calls Try.prog 110 #[.agg #[.int .i64 x.kind, .int .i64 x.n], c] W fun e w' => e = .returned (.bool (p x)) ∧ Below W.heap.size W w') :
    Calls Try.prog 122 #[v, .func (.func 110) #[] #[c]] w fun e w' => e = .returned (.int .i64 (idxI p ts 0)) ∧ Below w.heap.size w w' := by
  obtain ⟨a, cap, cs, rfl, hcap, hC, hj⟩ := hv
  have HV : Hid (RX wrdE R S w ts (.slice a ts.length cap)) := Lib.hid ⟨a, cap, cs, rfl, hcap, hC, hj⟩
  have HF := Lib.hid hf; clear hf hC hj hcap
  go_enter Try.func122, Try.ntmps122
  go_wp2_with fail
  go_loopw [8] (fun i wr => ∃ k : Nat, k ≤ ts.length ∧ i = .int .i64 k ∧ (ts.take k).any p = false ∧ Below w.heap.size w wr) (fun i _ => ts.length - (intOf i).toNat)
  case atStart => exact ⟨0, Nat.zero_le _, rfl, rfl, Below.refl _ _⟩
  case round =>
    obtain ⟨k, hkl, rfl, hany, hB⟩ := hrel
    have HA := Lib.hid hany; clear hany
    have hsz' := hB.size
    by_cases hlt : k < ts.length
    · obtain ⟨b, o, rfl⟩ := HV.out.addr (by decide) (by omega)
      obtain ⟨-, d0, d1⟩ := (RX.wto HV.out fun b _ hl => hB.block b hl).wrd k hlt
      have HS := Lib.hid (any_take_succ p ts k hlt)
      go_wp2_with fail
      refine (HF.out _ (List.getElem_mem hlt) _ hB).mono ?_
      cases hp : p ts[k]
      · have HP := Lib.hid hp; clear hp
        rintro e w1 ⟨rfl, hB1⟩
        go_wp2_with fail
        go_roundw
        case rel => exact ⟨k + 1, by omega, by go_num, by rw [HS.out, HA.out, HP.out]; rfl, below_step hB (by omega) hB1⟩
        case measure => simp [intOf]; omega
      · have HP := Lib.hid hp; clear hp
        rintro e w1 ⟨rfl, hB1⟩
        go_wp2_with fail
        go_ret
        exact ⟨ret_int (by rw [idxI_take p ts k 0 hlt HA.out HP.out]; omega), below_step hB (by omega) hB1⟩
    · have hkk : k = ts.length := by omega
      subst hkk
      go_wp2_with fail
      go_ret
      exact ⟨ret_int (by rw [idxI_none p ts 0 (by simpa using HA.out)]), hB⟩

set_option maxHeartbeats 400000 in
theorem containsFuncW (p : Wrd → Bool) (R S : Nat → Prop) (ts : List Wrd) (w : World) (v c : Value) (hv : RX wrdE R S w ts v) (hlen : ts.length ≤ 1099511627776)
    (hf : ∀ x ∈ ts, ∀ W : World, Below w.heap.size w W → Calls Try.prog 110 #[.agg #[.int .i64 x.kind, .int .i64 x.n], c] W fun e w' => e = .returned (.bool (p x)) ∧ Below W.heap.size W w') :
    Calls Try.prog 109 #[v, .func (.func 110) #[] #[c]] w fun e w' => e = .returned (.bool (ts.any p)) ∧ Below w.heap.size w w' := by
  have HF := Lib.hid hf; clear hf
  have HV := Lib.hid hv; clear hv
  go_enter Try.func109, Try.ntmps109
  go_wp2_with fail
  refine (indexFuncW p R S ts _ v c HV.out hlen HF.out).mono ?_
  rintro e w1 ⟨rfl, hB1⟩
  go_wp2_with fail
  go_ret
  exact ⟨ret_bool (idxI_any p ts 0 (by omega)), hB1⟩

set_option maxHeartbeats 400000 in
theorem hall1_c (F : Nat → Prop) (w : World) (B : Nat) (room : Int) (H : HS) (x : Wrd) (g : Nat) (hc : w.cell? ⟨g, 0, none⟩ = some (.pointer (some ⟨B, 0, none⟩))) (hR : HeapR F w B room H) (hH : HeadsOk H) (hl : H.ws.length ≤ 137438953472) :
    Calls Try.prog 110 #[.agg #[.int .i64 x.kind, .int .i64 x.n], .pointer (some ⟨g, 0, none⟩)] w fun e w' => e = .returned (.bool (!standsB H x)) ∧ Below w.heap.size w w' := by
  have hgl := World.block_lt_of_cell? w _ hc
  go_enter Try.func110, Try.ntmps110
  go_wp2_with fail
  refine (hstands_c F _ B room H x (hR.below (below_alloc _ _)) hH hl).mono ?_
  rintro e w1 ⟨rfl, hB1⟩
  go_wp2_with fail
  go_ret
  exact ⟨rfl, (below_alloc _ _).trans (hB1.mono (by simp))⟩

set_option maxHeartbeats 400000 in
theorem hall_c (F R S : Nat → Prop) (w : World) (B : Nat) (room : Int) (H : HS) (ts : List Wrd) (v : Value) (hv : RX wrdE R S w ts v) (hlen : ts.length ≤ 1099511627776) (hR : HeapR F w B room H) (hH : HeadsOk H) (hl : H.ws.length ≤ 137438953472) :
    Calls Try.prog 86 #[.pointer (some ⟨B, 0, none⟩), v] w fun e w' => e = .returned (.bool (ts.all (standsB H))) ∧ Below w.heap.size w w' := by
  have hmf : ∀ (fn : Fn) (first cap : Array Value) (w : World), (Instr.makeFunc fn first cap).run Try.prog w = .ok (.func fn first cap) w := fun _ _ _ _ => rfl
  have HV := Lib.hid hv; clear hv
  obtain ⟨W0, hW0⟩ : ∃ W : World, W = w.alloc (.cells #[.pointer (some ⟨B, 0, none⟩)] 64) := ⟨_, rfl⟩
  have HB0 : Hid (Below w.heap.size w W0) := Lib.hid (by rw [hW0]; exact below_alloc _ _)
  have HX0 : Hid (Blk W0 w.heap.size [.pointer (some ⟨B, 0, none⟩)]) := Lib.hid (by rw [hW0]; exact Blk.new _ _ _ _ rfl)
  have hs0 := HB0.out.size
  have HR0 := Lib.hid (hR.below HB0.out)
  have HW0 := Lib.hid hW0
  clear hR hW0
  go_enter Try.func86, Try.ntmps86
  go_upto_region 1 with fail
  rw [← HW0.out]
  go_wp2_with fail
  refine (containsFuncW (fun x => !standsB H x) R S ts W0 v _ (RX.wto HV.out fun b _ hb => HB0.out.block b hb) hlen (fun x _ W hB => hall1_c F W B room H x w.heap.size ((HX0.out.step hB).cell 0 _ rfl) (HR0.out.below hB) hH hl)).mono ?_
  rintro e w1 ⟨rfl, hB1⟩
  go_wp2_with fail
  go_ret
  exact ⟨ret_bool (by rw [List.all_eq_not_any_not]), HB0.out.trans (hB1.mono (by omega))⟩
end Go.Proofs.Ytedfepnekjjmnaa

/-
  heap.Live, heap.Collect. No condition but a bound.
-/
namespace Go.Proofs.Ytedfepnekjjmnaa
open Go.RowKit
set_option linter.unusedSimpArgs false
set_option linter.unusedVariables false
set_option maxRecDepth 100000

theorem stands_good {H : HS} (hH : HeadsOk H) {x : Wrd} (h : standsB H x = true) : GoodW H x := fun e => by
  unfold standsB at h
  rw [if_neg (by omega), if_neg (by omega), if_neg (by omega), if_pos e] at h
  obtain ⟨n, hn⟩ := Option.isSome_iff_exists.1 h
  obtain ⟨i, k, hi, h1, rfl, h2, h3⟩ := headN_some hH hn
  exact ⟨i, k, h1, by rw [List.getElem?_eq_getElem hi, h2], h3⟩
theorem Rep.good {H : HS} {t : T} {x : Wrd} (h : Rep H t x) : GoodW H x := fun e => by
  have hk := h.kinds
  obtain ⟨-, -, i, rfl, h1, h2, -⟩ := h.tup (by omega)
  exact ⟨i, _, rfl, h1, h2⟩
def LeafOk (t : T) : Prop := (t.kind = 1 → -1099511627776 ≤ t.n ∧ t.n ≤ 1099511627776) ∧ (t.kind = 3 → 1 ≤ t.n ∧ t.n ≤ 99)
theorem Rep.stands {H : HS} {t : T} {x : Wrd} (h : Rep H t x) (hb : LeafOk t) : standsB H x = true := by
  have hk := h.kinds
  unfold standsB
  by_cases h4 : t.kind = 4
  · rw [if_neg (by omega), if_neg (by omega), if_neg (by omega), if_pos (by omega)]
    obtain ⟨i, k, h1, h2⟩ := h.good (by omega)
    rw [h1, h2.headN]; rfl
  · by_cases h2 : t.kind = 2
    · rw [if_neg (by omega), if_neg (by omega), if_pos (by omega)]
      obtain ⟨-, -, i, rfl, h1⟩ := h.atom h2
      have := (List.getElem?_eq_some_iff.1 h1).1
      simp; omega
    · obtain ⟨h1, -, -, hx⟩ := h.leaf h4 h2
      have hn : x.n = t.n := by rw [hx]
      rcases h1 with h1 | h1
      · have := hb.1 h1
        rw [if_pos (by omega), hn]; simp; omega
      · have := hb.2 h1
        rw [if_neg (by omega), if_pos (by omega), hn]; simp; omega

/-- What Live answers. -/
def LiveP (w : World) (H : HS) (rs : List Wrd) (e : Ending) (w' : World) : Prop := ∃ tw out ks, e = .returned (.tuple #[.int .i64 (tw.length : Nat), .int .i64 0]) ∧ Below w.heap.size w w' ∧ Col H rs ks tw out
set_option maxHeartbeats 1000000 in
theorem hlive_c (F R S : Nat → Prop) (w : World) (B : Nat) (room : Int) (H : HS) (ts : List Wrd) (v : Value) (hv : RX wrdE R S w ts v) (hlen : ts.length ≤ 4294967296) (hR : HeapR F w B room H) (hW : WF H) (hl : H.ws.length ≤ 4294967296) (hs : ∀ x ∈ ts, standsB H x = true) :
    Calls Try.prog 52 #[.pointer (some ⟨B, 0, none⟩), v] w (LiveP w H ts) := by
  have hall : ts.all (standsB H) = true := List.all_eq_true.2 hs
  have hgood : ∀ x ∈ ts, GoodW H x := fun x hx => stands_good hW.heads (hs x hx)
  have HA := Lib.hid hall
  have HG := Lib.hid hgood
  have HV := Lib.hid hv
  have HR := Lib.hid hR
  have HW := Lib.hid hW
  clear hall hgood hv hR hW hs
  go_enter Try.func52, Try.ntmps52
  go_wp2_with fail
  refine (hall_c F R S w B room H ts v HV.out (by omega) HR.out HW.out.heads (by omega)).mono ?_
  rintro e w1 ⟨rfl, hB1⟩
  rw [HA.out]
  have hs1 := hB1.size
  have HB1 := Lib.hid hB1
  clear hB1
  go_wp2_with fail
  refine (hcopied_c H ts F R S w1 B room v (HR.out.below HB1.out) HW.out (RX.wto HV.out fun b _ hb => HB1.out.block b hb) HG.out hl hlen).mono ?_
  rintro e w2 ⟨v1, v2, tw, out, ks, rfl, hB2, hCol, hO1, hO2, h1, h2⟩
  obtain ⟨a1, c1, rfl⟩ := hO1.form
  have HCol := Lib.hid hCol
  have HB2 := Lib.hid hB2
  clear hCol hB2 hO1 hO2 h1 h2
  go_wp2_with fail
  go_ret2
  exact ⟨tw, out, ks, rfl, HB1.out.trans (HB2.out.mono (by omega)), HCol.out⟩

/-- What Collect answers. -/
def CollectP (F : Nat → Prop) (w : World) (B : Nat) (room : Int) (H : HS) (rs : List Wrd) (e : Ending) (w' : World) : Prop := ∃ v2 tw out ks, e = .returned (.tuple #[v2, .int .i64 0]) ∧ Keep F w w' ∧ Col H rs ks tw out ∧
  HeapR (fun b => F b ∨ (w.heap.size ≤ b ∧ v2.ownBlock ≠ some b)) w' B room ⟨tw, H.names⟩ ∧ OwnW w' v2 out ∧ ∀ b, v2.ownBlock = some b → w.heap.size ≤ b
set_option maxHeartbeats 1000000 in
theorem hcollect_c (F R S : Nat → Prop) (w : World) (B : Nat) (room : Int) (H : HS) (ts : List Wrd) (v : Value) (hv : RX wrdE R S w ts v) (hlen : ts.length ≤ 4294967296) (hR : HeapR F w B room H) (hW : WF H) (hl : H.ws.length ≤ 4294967296) (hs : ∀ x ∈ ts, standsB H x = true) :
    Calls Try.prog 42 #[.pointer (some ⟨B, 0, none⟩), v] w (CollectP F w B room H ts) := by
  have hall : ts.all (standsB H) = true := List.all_eq_true.2 hs
  have hgood : ∀ x ∈ ts, GoodW H x := fun x hx => stands_good hW.heads (hs x hx)
  have HA := Lib.hid hall
  have HG := Lib.hid hgood
  have HV := Lib.hid hv
  have HR := Lib.hid hR
  have HW := Lib.hid hW
  clear hall hgood hv hR hW hs
  go_enter Try.func42, Try.ntmps42
  go_wp2_with fail
  refine (hall_c F R S w B room H ts v HV.out (by omega) HR.out HW.out.heads (by omega)).mono ?_
  rintro e w1 ⟨rfl, hB1⟩
  rw [HA.out]
  have hs1 := hB1.size
  have HB1 := Lib.hid hB1
  clear hB1
  go_wp2_with fail
  refine (hcopied_c H ts F R S w1 B room v (HR.out.below HB1.out) HW.out (RX.wto HV.out fun b _ hb => HB1.out.block b hb) HG.out hl hlen).mono ?_
  rintro e w2 ⟨v1, v2, tw, out, ks, rfl, hB2, hCol, hO1, hO2, h1, h2⟩
  obtain ⟨a1, c1, rfl⟩ := hO1.form
  have hs2 := hB2.size
  have hB12 : Below w.heap.size w w2 := HB1.out.trans (hB2.mono (by omega))
  obtain ⟨vw, vn, hV⟩ := HR.out
  have hV2 := hV.below hB12
  have b1 := hV2.blk.cell 1 _ rfl
  have bf := hV2.blk.fr
  have hnb : ∀ b, v2.ownBlock = some b → b ≠ B := fun b hb e => by have := h2 b hb; have := hV.blk.lt; omega
  have hh := hV.words' (w3 := w2) (v' := .slice a1 tw.length c1) (l := tw) (by omega) (fun b hb _ => hB12.block b hb) hO1 (fun b hb => .inr (by have := (h1 b hb).1; omega))
  have HH := Lib.hid hh
  have HVV := Lib.hid hV
  have HCol := Lib.hid hCol
  have HB12 := Lib.hid hB12
  have HO2 := Lib.hid hO2
  have H1 := Lib.hid h1
  have H2 := Lib.hid h2
  have HNB := Lib.hid hnb
  clear hCol hB2 hO1 hO2 h1 h2 hV hV2 hh hB12 hnb
  go_wp2_with fail
  go_ret2
  refine ⟨v2, tw, out, ks, rfl, ?_, HCol.out, ⟨_, _, ⟨HH.out.blk, HH.out.ws, HH.out.nm, HH.out.nw, HH.out.nn, HH.out.ne, .inl HVV.out.fb, fun b hb => .inr ⟨by have := (H1.out b hb).1; omega, (H1.out b hb).2⟩, fun b hb => .inl (HVV.out.fn b hb)⟩⟩, ?_, fun b hb => by have := H2.out b hb; omega⟩
  · exact (Keep.of HB12.out).setCell _ (.inl HVV.out.fb)
  · exact OwnW.to HO2.out (by simp) fun b hb => setCell_other w2 B 1 _ b (HNB.out b hb)
end Go.Proofs.Ytedfepnekjjmnaa

/-
  heap.Get of a word that stands for a term. No condition but a bound.
-/
namespace Go.Proofs.Ytedfepnekjjmnaa
open Go.RowKit
set_option linter.unusedSimpArgs false
set_option linter.unusedVariables false
set_option maxRecDepth 100000

def HGetP (w : World) (t : T) (e : Ending) (w' : World) : Prop :=
  ∃ a cap, e = .returned (.tuple #[.agg #[.int .i64 t.kind, .int .i64 t.n, .string t.name, .slice a t.args.length cap], .int .i64 0]) ∧ Below w.heap.size w w' ∧ RT (fun b => w.heap.size ≤ b) w' t (.agg #[.int .i64 t.kind, .int .i64 t.n, .string t.name, .slice a t.args.length cap])
set_option maxHeartbeats 1000000 in
theorem hGet_c (t : T) (F : Nat → Prop) (w : World) (B : Nat) (room : Int) (H : HS) (x : Wrd) (hR : HeapR F w B room H) (hr : Rep H t x) (hb : LeafOk t) (hH : HeadsOk H) (hl : H.ws.length ≤ 137438953472) (hn : H.names.length ≤ 137438953472) :
    Calls Try.prog 44 #[.pointer (some ⟨B, 0, none⟩), .agg #[.int .i64 x.kind, .int .i64 x.n]] w (HGetP w t) := by
  obtain ⟨W0, hW0⟩ : ∃ W : World, W = (w.alloc (.cells #[.int .i64 x.kind, .int .i64 x.n] 69)).alloc (.cells #[.int .i64 0, .int .i64 0, .string ⟨#[]⟩, .slice none 0 0] 29) := ⟨_, rfl⟩
  have HX3 : Hid (Blk W0 w.heap.size [.int .i64 x.kind, .int .i64 x.n]) := Lib.hid (by rw [hW0]; exact (Blk.new _ _ _ _ rfl).alloc _)
  have HX4 : Hid (Blk W0 (w.heap.size + 1) [.int .i64 0, .int .i64 0, .string ⟨#[]⟩, .slice none 0 0]) := Lib.hid (by rw [hW0]; exact Blk.new _ _ _ _ (by simp))
  have HB0 : Hid (Below w.heap.size w W0) := Lib.hid (by rw [hW0]; exact (below_alloc _ _).trans ((below_alloc _ _).mono (by simp)))
  have hs0 : W0.heap.size = w.heap.size + 2 := by rw [hW0]; simp
  have hs0a : w.heap.size + 2 ≤ W0.heap.size := by omega
  have HR0 := Lib.hid (hR.below HB0.out)
  have HST := Lib.hid (hr.stands hb)
  have HREP := Lib.hid hr
  have HH := Lib.hid hH
  have HW0 := Lib.hid hW0
  clear hR hr hb hH hW0 hs0
  go_enter Try.func44, Try.ntmps44
  go_upto_region 1 with fail
  rw [← HW0.out]
  have y0 := HX3.out.cell 0 _ rfl
  have y1 := HX3.out.cell 1 _ rfl
  go_wp2_with fail
  refine (hstands_c F W0 B room H x HR0.out HH.out hl).mono ?_
  rintro e w1 ⟨rfl, hB⟩
  rw [HST.out]
  have hs1 := hB.size
  have HB1 := Lib.hid hB
  have HX31 := Lib.hid (HX3.out.step hB)
  have HX41 := Lib.hid (HX4.out.step hB)
  have HR1 := Lib.hid (HR0.out.below hB)
  clear hB y0 y1
  have y0 := HX31.out.cell 0 _ rfl
  have y1 := HX31.out.cell 1 _ rfl
  go_wp2_with fail
  refine (hget_c t F w1 B room H x HR1.out HREP.out hl hn).mono ?_
  rintro e w2 ⟨a, cap, rfl, hB, hT⟩
  have hs2 := hB.size
  have HB2 := Lib.hid hB
  have HT := Lib.hid hT
  have HX42 := Lib.hid (HX41.out.step hB)
  clear hB hT y0 y1
  go_wp2_with (refine store_blk 29 4 szTerm _ _ rfl rfl rfl rfl rfl HX42.out rfl rfl rfl ?_; intro W' hF hs' hBW hoth; have HF := Lib.hid hF; have HSZ := Lib.hid hs'; have HBW := Lib.hid hBW; have HOTH := Lib.hid hoth; clear hF hBW hoth hs')
  refine bodyPost_ret (results_blk Try.results44 szTerm _ Try.underlying29 rfl rfl HF.out rfl) rfl ⟨a, cap, rfl, ?_, ?_⟩
  · have h1 := HBW.out (w.heap.size) w (by omega) (HB0.out.trans ((HB1.out.mono (by omega)).trans (HB2.out.mono (by omega))))
    exact h1
  · exact RT.to HT.out (fun b hb _ => by omega) fun b hb hl => HOTH.out b (by omega)
end Go.Proofs.Ytedfepnekjjmnaa

/-
  A term that Put takes. No condition.
-/
namespace Go.Proofs.Ytedfepnekjjmnaa
open Go.RowKit
set_option linter.unusedSimpArgs false
set_option linter.unusedVariables false

theorem name_nil {s : ByteArray} (h : s.toList.isEmpty = true) : s = ⟨#[]⟩ := by
  have h1 : s.toList = [] := List.isEmpty_iff.1 h
  have h2 : s.data.toList = [] := by rw [← ByteArray.toList_eq]; exact h1
  have h3 : s.data = #[] := by rw [← Array.toList_inj]; simpa using h2
  cases s; simp only at h3; rw [h3]
theorem bare_nil {t : T} (h : bareB t = true) : t.name = ⟨#[]⟩ ∧ t.args = [] := by
  unfold bareB at h
  rw [Bool.and_eq_true] at h
  exact ⟨name_nil h.1, List.eq_nil_of_length_eq_zero (by simpa using h.2)⟩
theorem head_leaf {t : T} (h : headB t = true) : LeafOk t := by
  refine ⟨fun e => ?_, fun e => ?_⟩
  · unfold headB at h; rw [if_pos e, Bool.and_eq_true] at h
    have := h.2; simp [inB] at this; exact this
  · unfold headB at h; rw [if_neg (by omega), if_neg (by omega), if_pos e, Bool.and_eq_true] at h
    have := h.2; simp [inB] at this; exact this
theorem head_ok {t : T} (h : headB t = true) (h5 : t.kind ≠ 5) (h6 : t.kind ≠ 6) (hl : t.kind = 4 → OkL t.args) : OkT t := by
  unfold headB at h
  unfold OkT
  by_cases h4 : t.kind = 4
  · rw [if_neg (by omega), if_neg (by omega), if_neg (by omega), if_neg (by omega), if_neg (by omega), if_pos h4] at h
    rw [if_pos h4]
    simp only [Bool.and_eq_true, decide_eq_true_eq] at h
    exact ⟨h.1.1, name_nil h.1.2, hl h4⟩
  · by_cases h2 : t.kind = 2
    · rw [if_neg (by omega), if_pos h2] at h
      rw [if_neg h4, if_pos h2]
      simp only [Bool.and_eq_true, decide_eq_true_eq] at h
      exact ⟨h.1.1, List.eq_nil_of_length_eq_zero h.1.2⟩
    · rw [if_neg h4, if_neg h2]
      by_cases h1 : t.kind = 1
      · rw [if_pos h1, Bool.and_eq_true] at h
        exact ⟨.inl h1, bare_nil h.1⟩
      · rw [if_neg h1, if_neg h2] at h
        by_cases h3 : t.kind = 3
        · rw [if_pos h3, Bool.and_eq_true] at h
          exact ⟨.inr h3, bare_nil h.1⟩
        · rw [if_neg h3, if_neg h5, if_neg h6, if_neg h4] at h; cases h
theorem okL_of : ∀ (m : Nat) (ts : List T), bulkL ts ≤ m → formL ts = true → closedL ts = true → OkL ts
  | 0, ts, hb, _, _ => by
    cases ts with
    | nil => rw [OkL]; trivial
    | cons t ts => rw [bulkL_cons] at hb; omega
  | m + 1, ts, hb, hf, hc => by
    cases ts with
    | nil => rw [OkL]; trivial
    | cons t ts =>
      rw [bulkL_cons] at hb
      rw [formL_cons] at hf
      rw [closedL_cons] at hc
      simp only [Bool.and_eq_true] at hf hc
      have h5 : t.kind ≠ 5 := by simpa using hc.1.1.1
      have h6 : t.kind ≠ 6 := by simpa using hc.1.1.2
      exact (OkL_cons t ts).2 ⟨head_ok hf.1.1 h5 h6 fun _ => okL_of m t.args (by omega) hf.1.2 hc.1.2, okL_of m ts (by omega) hf.2 hc.2⟩
theorem check_ok {t : T} (h : checkE t = 0) (hc : closedL [t] = true) : OkT t ∧ LeafOk t ∧ szL [t] ≤ 200 := by
  unfold checkE at h
  by_cases hf : formL [t] = true
  · rw [if_pos hf] at h
    have h1 := okL_of _ [t] (Nat.le_refl _) hf hc
    rw [formL_cons] at hf
    simp only [Bool.and_eq_true] at hf
    by_cases hd : dpL [t] ≤ 12 ∧ szL [t] ≤ 200
    · exact ⟨((OkL_cons t []).1 h1).1, head_leaf hf.1.1, hd.2⟩
    · rw [if_neg hd] at h; omega
  · rw [if_neg hf] at h; omega
/-- What Put makes of a heap in order. -/
theorem putHO_R {H : HS} (hW : WF H) (room : Int) (t : T) : ((putHO room H t).2.1 = 0 ∧ LeafOk t ∧ PutR H t (putHO room H t).1 (putHO room H t).2.2 ∧ (putHO room H t).2.2.ws.length ≤ H.ws.length + 200 ∧ ((putHO room H t).2.2.ws.length : Int) ≤ max room H.ws.length) ∨ ((putHO room H t).2.1 ≠ 0 ∧ (putHO room H t).2.2 = H) := by
  by_cases h1 : checkE t = 0
  · by_cases h2 : closedL [t] = true
    · by_cases h3 : room < H.ws.length + szL [t]
      · rw [putHO_full h1 h2 h3]; exact .inr ⟨by show (6 : Int) ≠ 0; decide, rfl⟩
      · rw [putHO_ok h1 h2 h3]
        obtain ⟨ho, hl, hs⟩ := check_ok h1 h2
        have h4 := (putW_len H t).1
        exact .inl ⟨rfl, hl, putW_R hW ho, by show (putW H t).2.ws.length ≤ _; omega, by show ((putW H t).2.ws.length : Int) ≤ _; omega⟩
    · have h2' : closedL [t] = false := by simpa using h2
      rw [putHO_form h1 h2']; exact .inr ⟨by show (5 : Int) ≠ 0; decide, rfl⟩
  · rw [putHO_check h1]; exact .inr ⟨h1, rfl⟩
end Go.Proofs.Ytedfepnekjjmnaa

/-
  What kept's heap comes to. No condition.
-/
namespace Go.Proofs.Ytedfepnekjjmnaa
open Go.RowKit
set_option linter.unusedSimpArgs false
set_option linter.unusedVariables false

def sevenT : T := tupT [numT 7]
theorem seven_reach {H : HS} {i j : Nat} (hp : partsL H i (kN H i) = [⟨1, 7⟩]) (h : Reach H [⟨4, (i : Nat)⟩] j) : j = i := by
  induction h with
  | root j hm =>
    have h1 := congrArg Wrd.n (List.mem_singleton.1 hm)
    exact Int.ofNat.inj h1
  | part m j _ hm ih =>
    rw [ih, hp] at hm
    exact absurd (congrArg Wrd.kind (List.mem_singleton.1 hm)) (show ¬ ((4 : Int) = 1) by decide)
theorem seven_col {H : HS} {x : Wrd} {ks : List Nat} {tw out : List Wrd} (hr : Rep H sevenT x) (h : Col H [x] ks tw out) : tw.length = 2 ∧ ∃ y, out = [y] ∧ Rep ⟨tw, H.names⟩ sevenT y := by
  obtain ⟨-, -, i, rfl, h1, h2, h3⟩ := hr.tup rfl
  have hd : Hd H i 1 := ⟨h1, h2⟩
  have h3' : RepL H [numT 7] (partsL H i 1) := h3
  obtain ⟨y, r, hy, h4, h5⟩ := (RepL_cons H (numT 7) [] _).1 h3'
  rw [RepL_nil] at h5
  obtain ⟨-, -, -, h6⟩ := h4.leaf (show ¬ ((1 : Int) = 4) by decide) (show ¬ ((1 : Int) = 2) by decide)
  have hp : partsL H i (kN H i) = [⟨1, 7⟩] := by rw [hd.kN, hy, h5, h6]; rfl
  have hi : i ∈ ks := by
    obtain ⟨j, hj, he⟩ := h.rk _ (List.mem_singleton.2 rfl) rfl
    have : i = j := Int.ofNat.inj he
    exact this ▸ hj
  have hks : ks = [i] := by
    have hall : ∀ j ∈ ks, j = i := fun j hj => seven_reach hp (h.rc j hj)
    have hn := h.nd
    cases ks with
    | nil => simp at hi
    | cons a l =>
      have ha := hall a (by simp)
      cases l with
      | nil => rw [ha]
      | cons b l =>
        have hb := hall b (by simp)
        exact absurd (by rw [ha, hb]; simp : a ∈ b :: l) (List.nodup_cons.1 hn).1
  refine ⟨?_, _, h.out, h.rep _ _ hr (h.rk _ (List.mem_singleton.2 rfl))⟩
  rw [h.tw, List.length_map, raw_len ks h.hd, hks]
  simp [hd.kN]
theorem RT.low {S : Nat → Prop} {w : World} {t : T} {v : Value} (h : RT S w t v) : RT (fun b => S b ∧ b < w.heap.size) w t v := h.to (fun b h hl => ⟨h, hl⟩) fun _ _ _ => rfl
theorem putHO_len (room : Int) (H : HS) (t : T) : (putHO room H t).2.2.ws.length ≤ H.ws.length + szL [t] ∧ (putHO room H t).2.2.names.length ≤ H.names.length + bulkL [t] := by
  have h := putW_len H t
  unfold putHO
  split
  · exact ⟨by show H.ws.length ≤ _; omega, by show H.names.length ≤ _; omega⟩
  · split
    · exact ⟨by show H.ws.length ≤ _; omega, by show H.names.length ≤ _; omega⟩
    · split
      · exact ⟨by show H.ws.length ≤ _; omega, by show H.names.length ≤ _; omega⟩
      · exact ⟨by show (putW H t).2.ws.length ≤ _; omega, h.2⟩
theorem two_sz : szL [twoT] = 3 ∧ bulkL [twoT] ≤ 10 := by (simp [twoT, tupT, numT, wordT, szL_cons, szL, bulkL_cons, bulkL]; decide)
theorem seven_sz : szL [sevenT] = 2 ∧ bulkL [sevenT] ≤ 10 ∧ closedL [sevenT] = true := by (simp [sevenT, tupT, numT, szL_cons, szL, bulkL_cons, bulkL, closedL_cons, closedL]; decide)
theorem seven_check : checkE sevenT = 0 := by simp [sevenT, tupT, numT, checkE, formL_cons, formL, headB, bareB, dpL_cons, dpL, szL_cons, szL, inB]
theorem putHO_wf {H : HS} (hW : WF H) (room : Int) (t : T) : WF (putHO room H t).2.2 := by
  rcases putHO_R hW room t with ⟨-, -, h, -, -⟩ | ⟨-, h⟩
  · exact h.wf
  · rw [h]; exact hW
theorem seven_put {H : HS} (hW : WF H) (hl : H.ws.length ≤ 8) : (putHO 10 H sevenT).2.1 = 0 ∧ Rep (putHO 10 H sevenT).2.2 sevenT (putHO 10 H sevenT).1 ∧ WF (putHO 10 H sevenT).2.2 := by
  have h1 : ¬ (10 : Int) < H.ws.length + szL [sevenT] := by rw [seven_sz.1]; omega
  have h2 := putW_R hW (check_ok seven_check seven_sz.2.2).1
  rw [putHO_ok seven_check seven_sz.2.2 h1]
  exact ⟨rfl, h2.rep, h2.wf⟩
end Go.Proofs.Ytedfepnekjjmnaa

/-
  kept: the heap's first words. No condition.
-/
namespace Go.Proofs.Ytedfepnekjjmnaa
open Go.RowKit
set_option linter.unusedSimpArgs false
set_option linter.unusedVariables false
set_option maxRecDepth 100000

set_option maxHeartbeats 8000000 in
theorem kept_c (w : World) : Calls Try.prog 39 #[] w fun e w' => e = .returned (.bool true) ∧ Below w.heap.size w w' := by
  go_enter Try.func39, Try.ntmps39
  go_wp2_with fail
  refine (hnew_ok 10 w (by omega) (by omega)).mono ?_
  rintro e w1 ⟨rfl, hB1, hR1, hs1⟩
  have HB1 := Lib.hid hB1
  have HR1 := Lib.hid hR1
  have hs1a : w.heap.size + 1 ≤ w1.heap.size := by omega
  clear hB1 hR1 hs1
  go_wp2_with fail
  refine (two_c w1).mono ?_
  rintro e w2 ⟨v, rfl, hB2, hT2⟩
  have hs2 := hB2.size
  have HB2 := Lib.hid hB2
  have HT2 := Lib.hid hT2
  clear hB2 hT2
  go_wp2_with fail
  refine (hPut_c twoT _ _ w2 w.heap.size 10 ⟨[], []⟩ v (HR1.out.below HB2.out) HT2.out.low (fun b hb => ⟨hb.2, fun e => by have := hb.1; omega⟩) (by have := two_sz.2; omega) (by simp) (by simp)).mono ?_
  rintro e w3 ⟨rfl, hK3, hR3⟩
  obtain ⟨K1, hK1⟩ : ∃ K, K = putHO 10 ⟨[], []⟩ twoT := ⟨_, rfl⟩
  have hwf1 : WF K1.2.2 := by rw [hK1]; exact putHO_wf (WF.new []) _ _
  have hln1 := putHO_len 10 ⟨[], []⟩ twoT
  rw [← hK1] at hR3 hln1
  rw [← hK1]
  have hl1 : K1.2.2.ws.length ≤ 3 := by have := hln1.1; rw [two_sz.1] at this; simpa using this
  have hn1 : K1.2.2.names.length ≤ 10 := by have := hln1.2; have := two_sz.2; simp at *; omega
  have hs3 := hK3.size
  have HW1 := Lib.hid hwf1
  have HK3 := Lib.hid hK3
  have HR3 := Lib.hid hR3.low
  clear hK3 hR3 hK1 hwf1 hln1
  go_wp2_with fail
  refine (num_c _ _).mono ?_
  rintro e w4 ⟨rfl, hB4⟩
  have hs4 := hB4.size
  have HR4 := Lib.hid (HR3.out.below hB4)
  have HB4 := Lib.hid hB4
  clear hB4
  go_wp2_with fail
  refine (tuple_c _ _ _ _).mono ?_
  rintro e w5 ⟨rfl, hB5⟩
  have hs5 := hB5.size
  simp only [World.size_alloc] at hs5
  have HB5 : Hid (Below w4.heap.size w4 w5) := Lib.hid ((below_alloc _ _).trans (hB5.mono (by simp)))
  have HT5 : Hid (RT (fun b => w4.heap.size ≤ b) w5 sevenT (.agg #[.int .i64 4, .int .i64 0, .string ⟨#[]⟩, .slice (some ⟨w4.heap.size, 0, none⟩) 1 1])) := Lib.hid (by
    have hC : CellsT (fun _ => False) w4 [numT 7] [.int .i64 1, .int .i64 7, .string ⟨#[]⟩, .slice none 0 0] := ⟨none, 0, [], rfl, ⟨Nat.le_refl _, fun _ => rfl⟩, by simp [numT, RTs], rfl⟩
    refine tupT_rt ?_
    exact ((RSl2.lit hC 29).below hB5).rsl.mono fun b hb => by
      rcases hb with hb | hb
      · omega
      · exact hb.elim)
  have HR5 := Lib.hid (HR4.out.below HB5.out)
  clear hB5
  go_wp2_with fail
  refine (hPut_c sevenT _ _ w5 w.heap.size 10 K1.2.2 _ HR5.out HT5.out.low (fun b hb => ⟨hb.2, fun e => by have := hb.1; have := e.2; omega⟩) (by have := seven_sz.2.1; omega) (by omega) (by omega)).mono ?_
  rintro e w6 ⟨rfl, hK6, hR6⟩
  obtain ⟨P2, hP2⟩ : ∃ P, P = putHO 10 K1.2.2 sevenT := ⟨_, rfl⟩
  obtain ⟨q1, q2, q3⟩ := seven_put HW1.out (by omega)
  have hln2 := putHO_len 10 K1.2.2 sevenT
  rw [← hP2] at q1 q2 q3 hR6 hln2
  rw [← hP2, q1]
  have hl2 : P2.2.2.ws.length ≤ 5 := by have := hln2.1; rw [seven_sz.1] at this; omega
  have hn2 : P2.2.2.names.length ≤ 20 := by have := hln2.2; have := seven_sz.2.1; omega
  have hs6 := hK6.size
  have HK6 := Lib.hid hK6
  have HR6 := Lib.hid hR6.low
  have HQ2 := Lib.hid q2
  have HW2 := Lib.hid q3
  clear hK6 hR6 q1 q2 q3 hln2 hP2
  go_wp2_with fail
  have hRX : RX wrdE (fun b => b = w6.heap.size + 1) (fun _ => True) ((w6.alloc (.cells #[.int .i64 P2.1.kind, .int .i64 P2.1.n] 69)).alloc (.cells #[.int .i64 P2.1.kind, .int .i64 P2.1.n] 69)) [P2.1] (.slice (some ⟨w6.heap.size + 1, 0, none⟩) 1 1) :=
    ⟨_, _, [.int .i64 P2.1.kind, .int .i64 P2.1.n], rfl, ⟨Nat.le_refl _, by simp⟩, ⟨[.int .i64 P2.1.kind, .int .i64 P2.1.n], [], rfl, rfl, rfl⟩, fun j u hu => ⟨_, _, rfl, rfl, by
      rw [Nat.zero_add, show w6.heap.size + 1 = (w6.alloc (.cells #[.int .i64 P2.1.kind, .int .i64 P2.1.n] 69)).heap.size by simp, World.cell?_alloc_new]; simpa using hu⟩⟩
  have hB7 : Below w6.heap.size w6 ((w6.alloc (.cells #[.int .i64 P2.1.kind, .int .i64 P2.1.n] 69)).alloc (.cells #[.int .i64 P2.1.kind, .int .i64 P2.1.n] 69)) := (below_alloc _ _).trans ((below_alloc _ _).mono (by simp))
  have hls : LeafOk sevenT := ⟨fun e => absurd e (show ¬ ((4 : Int) = 1) by decide), fun e => absurd e (show ¬ ((4 : Int) = 3) by decide)⟩
  refine (hcollect_c _ _ _ _ w.heap.size 10 P2.2.2 [P2.1] _ hRX (by simp) (HR6.out.below hB7) HW2.out (by omega) (fun x hx => by rw [List.mem_singleton.1 hx]; exact HQ2.out.stands hls)).mono ?_
  rintro e w8 ⟨v2, tw, out, ks, rfl, hK8, hCol, hR8, hO8, hb8⟩
  obtain ⟨htw, y, hout, hy⟩ := seven_col HQ2.out hCol
  subst hout
  obtain ⟨g8, c8, rfl⟩ := hO8.form0 (by simp)
  obtain ⟨-, d0, d1⟩ := (hO8.rx).wrd 0 (by simp)
  simp only [Nat.zero_mul, Nat.add_zero, Nat.zero_add, List.getElem_cons_zero] at d0 d1
  have hs8 := hK8.size
  simp only [World.size_alloc] at hs8
  have HB7 := Lib.hid hB7
  have HK8 := Lib.hid hK8
  have HR8 := Lib.hid hR8
  have HO8 := Lib.hid hO8
  have HY := Lib.hid hy
  have HTW := Lib.hid htw
  have HLS := Lib.hid hls
  have HWF := Lib.hid (hCol.wf HW2.out P2.2.2.names)
  clear hB7 hK8 hR8 hO8 hy htw hls hCol hRX hb8
  go_wp2_with fail
  refine (hused_c _ w8 w.heap.size 10 _ HR8.out).mono ?_
  rintro e w9 ⟨rfl, rfl⟩
  rw [HTW.out]
  go_wp2_with fail
  refine (hGet_c sevenT _ w8 w.heap.size 10 _ y HR8.out HY.out HLS.out HWF.out.heads (by show tw.length ≤ _; rw [HTW.out]; omega) (by show P2.2.2.names.length ≤ _; omega)).mono ?_
  rintro e w9 ⟨a9, c9, rfl, hB9, hT9⟩
  have hs9 := hB9.size
  have HB9 := Lib.hid hB9
  have HT9 := Lib.hid hT9
  clear hB9 hT9 d0 d1
  go_upto_region 10 with fail
  obtain ⟨W10, hW10⟩ : ∃ W : World, W = w9.alloc (.cells #[.int .i64 4, .int .i64 0, .string ⟨#[]⟩, .slice a9 1 c9] 29) := ⟨_, rfl⟩
  obtain ⟨g9, hg9⟩ : ∃ g, g = w9.heap.size := ⟨_, rfl⟩
  have HX10 : Hid (Blk W10 g9 [.int .i64 4, .int .i64 0, .string ⟨#[]⟩, .slice a9 1 c9]) := Lib.hid (by rw [hW10]; exact Blk.new _ _ _ _ hg9)
  have HB10 : Hid (Below w9.heap.size w9 W10) := Lib.hid (by rw [hW10]; exact below_alloc _ _)
  have hs10 := HB10.out.size
  have hg10 : g9 < W10.heap.size := HX10.out.lt
  have HT10 : Hid (RT (fun b => w8.heap.size ≤ b) W10 sevenT (.agg #[.int .i64 4, .int .i64 0, .string ⟨#[]⟩, .slice a9 1 c9])) := Lib.hid (HT9.out.below HB10.out)
  have HQ10 : Hid (∀ w' : World, Below W10.heap.size W10 w' → w'.cell? ⟨g9, 0, none⟩ = some (.int .i64 4) ∧ w'.cell? ⟨g9, 1, none⟩ = some (.int .i64 0) ∧ w'.cell? ⟨g9, 2, none⟩ = some (.string ⟨#[]⟩) ∧ w'.cell? ⟨g9, 3, none⟩ = some (.slice a9 1 c9)) := Lib.hid fun w' h => ⟨(HX10.out.step h).cell 0 _ rfl, (HX10.out.step h).cell 1 _ rfl, (HX10.out.step h).cell 2 _ rfl, (HX10.out.step h).cell 3 _ rfl⟩
  show Code.wp _ _ _ _ (w9.alloc (.cells #[.int .i64 4, .int .i64 0, .string ⟨#[]⟩, .slice a9 1 c9] 29))
  rw [← hW10, ← hg9]
  clear hW10 hg9
  refine rg_start (fun w' => w'.cell? ⟨g9, 0, none⟩ = some (.int .i64 4) ∧ w'.cell? ⟨g9, 1, none⟩ = some (.int .i64 0) ∧ w'.cell? ⟨g9, 2, none⟩ = some (.string ⟨#[]⟩) ∧ w'.cell? ⟨g9, 3, none⟩ = some (.slice a9 1 c9)) (by as_aux_lemma => kernel_rfl) (fun Wd h => HQ10.out _ h) ?_
  intro Wd hB hWd hWd' hHeld
  have HBd := Lib.hid hB
  clear hB
  refine rg_take (i := 0) (v := ?_) rfl (by as_aux_lemma => kernel_rfl) (by as_aux_lemma => kernel_rfl) (by as_aux_lemma => kernel_rfl) (by rfl) ?_ hHeld ?_
  rotate_left 1
  · intro w hSw; (try dsimp only at hSw); go_simp; try (with_reducible rfl)
  (try simp only [Act.put, List.setIfInBounds_toArray, List.set_cons_zero, List.set_cons_succ])
  refine rg_take (i := 1) (v := ?_) rfl (by as_aux_lemma => kernel_rfl) (by as_aux_lemma => kernel_rfl) (by as_aux_lemma => kernel_rfl) (by rfl) ?_ hHeld ?_
  rotate_left 1
  · intro w hSw; (try dsimp only at hSw); go_simp; try (with_reducible rfl)
  (try simp only [Act.put, List.setIfInBounds_toArray, List.set_cons_zero, List.set_cons_succ])
  refine rg_take (i := 2) (v := ?_) rfl (by as_aux_lemma => kernel_rfl) (by as_aux_lemma => kernel_rfl) (by as_aux_lemma => kernel_rfl) (by rfl) ?_ hHeld ?_
  rotate_left 1
  · intro w hSw; (try dsimp only at hSw); go_simp; try (with_reducible rfl)
  (try simp only [Act.put, List.setIfInBounds_toArray, List.set_cons_zero, List.set_cons_succ])
  refine rg_take (i := 3) (v := ?_) rfl (by as_aux_lemma => kernel_rfl) (by as_aux_lemma => kernel_rfl) (by as_aux_lemma => kernel_rfl) (by rfl) ?_ hHeld ?_
  rotate_left 1
  · intro w hSw; (try dsimp only at hSw); go_simp; try (with_reducible rfl)
  (try simp only [Act.put, List.setIfInBounds_toArray, List.set_cons_zero, List.set_cons_succ])
  refine rg_only (i := 4) rfl (by as_aux_lemma => kernel_rfl) (by rfl) (fun K hK => ?_)
  go_simp
  go_at_call 17
  refine (num_c _ _).mono ?_
  rintro e wa ⟨rfl, hB⟩
  have hsa := hB.size
  have HBa : Hid (Below W10.heap.size W10 wa) := Lib.hid (below_step HBd.out (by omega) hB)
  clear hB
  refine hK.out _ _ (HQ10.out _ HBa.out) (fun hHeld1 => ?_)
  clear hK K hHeld
  have hHeld := hHeld1
  clear hHeld1
  (try simp only [Act.put, List.setIfInBounds_toArray, List.set_cons_zero, List.set_cons_succ])
  refine rg_only (i := 5) rfl (by as_aux_lemma => kernel_rfl) (by rfl) (fun K hK => ?_)
  refine build1 _ rfl (by rfl) ?_
  have HBb : Hid (Below W10.heap.size W10 (wa.alloc (.cells #[.int .i64 1, .int .i64 7, .string ⟨#[]⟩, .slice none 0 0] 29))) := Lib.hid (HBa.out.trans ((below_alloc _ _).mono (by omega)))
  refine hK.out _ _ (HQ10.out _ HBb.out) (fun hHeld1 => ?_)
  clear hK K hHeld
  have hHeld := hHeld1
  clear hHeld1
  (try simp only [Act.put, List.setIfInBounds_toArray, List.set_cons_zero, List.set_cons_succ])
  refine rg_only (i := 6) rfl (by as_aux_lemma => kernel_rfl) (by rfl) (fun K hK => ?_)
  go_simp
  go_at_call 30
  refine (tuple_c _ _ _ _).mono ?_
  rintro e wc ⟨rfl, hB⟩
  have hsc := hB.size
  simp only [World.size_alloc] at hsc
  have HBc : Hid (Below W10.heap.size W10 wc) := Lib.hid (below_step HBb.out (by simp; omega) hB)
  have HTc : Hid (RT (fun b => wa.heap.size ≤ b) wc sevenT (.agg #[.int .i64 4, .int .i64 0, .string ⟨#[]⟩, .slice (some ⟨wa.heap.size, 0, none⟩) 1 1])) := Lib.hid (by
    have hC : CellsT (fun _ => False) wa [numT 7] [.int .i64 1, .int .i64 7, .string ⟨#[]⟩, .slice none 0 0] := ⟨none, 0, [], rfl, ⟨Nat.le_refl _, fun _ => rfl⟩, by simp [numT, RTs], rfl⟩
    refine tupT_rt ?_
    exact ((RSl2.lit hC 29).below hB).rsl.mono fun b hb => by
      rcases hb with hb | hb
      · omega
      · exact hb.elim)
  clear hB
  refine hK.out _ _ (HQ10.out _ HBc.out) (fun hHeld1 => ?_)
  clear hK K hHeld
  have hHeld := hHeld1
  clear hHeld1
  (try simp only [Act.put, List.setIfInBounds_toArray, List.set_cons_zero, List.set_cons_succ])
  refine rg_only (i := 7) rfl (by as_aux_lemma => kernel_rfl) (by rfl) (fun K hK => ?_)
  go_simp
  go_at_call 19
  refine (same_c sevenT sevenT (fun _ => True) wc _ _ ((HT10.out.below HBc.out).mono fun _ _ => trivial) (HTc.out.mono fun _ _ => trivial) (by have := seven_sz.2.1; omega) (by have := seven_sz.2.1; omega)).mono ?_
  rintro e wd ⟨rfl, hB⟩
  have hsd := hB.size
  have HBe : Hid (Below W10.heap.size W10 wd) := Lib.hid (below_step HBc.out (by omega) hB)
  clear hB
  rw [(sameT_iff sevenT sevenT).2 rfl]
  refine hK.out _ _ (HQ10.out _ HBe.out) (fun hHeld1 => ?_)
  clear hK K hHeld
  have hHeld := hHeld1
  clear hHeld1
  (try simp only [Act.put, List.setIfInBounds_toArray, List.set_cons_zero, List.set_cons_succ])
  refine rg_take (i := 8) (v := ?_) rfl (by as_aux_lemma => kernel_rfl) (by as_aux_lemma => kernel_rfl) (by as_aux_lemma => kernel_rfl) (by rfl) ?_ hHeld ?_
  rotate_left 1
  · intro w hSw; (try dsimp only at hSw); go_simp; try (with_reducible rfl)
  (try simp only [Act.put, List.setIfInBounds_toArray, List.set_cons_zero, List.set_cons_succ])
  refine rg_take (i := 9) (v := ?_) rfl (by as_aux_lemma => kernel_rfl) (by as_aux_lemma => kernel_rfl) (by as_aux_lemma => kernel_rfl) (by rfl) ?_ hHeld ?_
  rotate_left 1
  · intro w hSw; (try dsimp only at hSw); go_simp; try (with_reducible rfl)
  (try simp only [Act.put, List.setIfInBounds_toArray, List.set_cons_zero, List.set_cons_succ])
  refine rg_done (by as_aux_lemma => kernel_rfl) ?_
  clear hHeld
  go_wp2_with fail
  go_ret
  refine ⟨rfl, ?_⟩
  have hz7 := HB7.out.size
  simp only [World.size_alloc] at hz7
  have b3 : Below w.heap.size w w3 := (HB1.out.trans (HB2.out.mono (by omega))).trans (HK3.out.below (by omega) fun b hb => by rcases hb with rfl; omega)
  have b6 : Below w.heap.size w w6 := ((b3.trans (HB4.out.mono (by omega))).trans (HB5.out.mono (by omega))).trans (HK6.out.below (by omega) fun b hb => by rcases hb with ⟨h | h, -⟩ <;> omega)
  have b8 : Below w.heap.size w w8 := (b6.trans (HB7.out.mono (by omega))).trans (HK8.out.below (by simp only [World.size_alloc]; omega) fun b hb => by rcases hb with ⟨⟨h | h, -⟩ | h, -⟩ <;> omega)
  exact ((b8.trans (HB9.out.mono (by omega))).trans (HB10.out.mono (by omega))).trans (HBe.out.mono (by omega))
end Go.Proofs.Ytedfepnekjjmnaa

/-
  HeapAgain's plain law: words and the terms that they stand for. No condition.
-/
namespace Go.Proofs.Ytedfepnekjjmnaa
open Go.RowKit
set_option linter.unusedSimpArgs false
set_option linter.unusedVariables false

/-- Words that stand for terms, one by one. -/
def Stand (H : HS) (ts : List T) (xs : List Wrd) : Prop := RepL H ts xs ∧ ∀ t ∈ ts, LeafOk t
theorem Stand.nil (H : HS) : Stand H [] [] := ⟨by rw [RepL_nil], by simp⟩
theorem Stand.length {H : HS} {ts : List T} {xs : List Wrd} (h : Stand H ts xs) : xs.length = ts.length := h.1.length
theorem RepL.map {H H' : HS} (f : Wrd → Wrd) : ∀ {ts : List T} {xs : List Wrd}, RepL H ts xs → (∀ t x, t ∈ ts → x ∈ xs → Rep H t x → Rep H' t (f x)) → RepL H' ts (xs.map f)
  | [], xs, h, _ => by rw [RepL_nil] at h ⊢; rw [h]; rfl
  | t :: ts, xs, h, hf => by
    obtain ⟨x, r, rfl, h1, h2⟩ := (RepL_cons H t ts xs).1 h
    exact (RepL_cons H' t ts _).2 ⟨f x, r.map f, rfl, hf t x (by simp) (by simp) h1, h2.map f fun u y hu hy => hf u y (by simp [hu]) (by simp [hy])⟩
theorem RepL.snoc {H : HS} {t : T} {x : Wrd} (hx : Rep H t x) : ∀ {ts : List T} {xs : List Wrd}, RepL H ts xs → RepL H (ts ++ [t]) (xs ++ [x])
  | [], xs, h => by rw [RepL_nil] at h; rw [h]; exact (RepL_cons H t [] _).2 ⟨x, [], rfl, hx, by rw [RepL_nil]⟩
  | u :: ts, xs, h => by
    obtain ⟨y, r, rfl, h1, h2⟩ := (RepL_cons H u ts xs).1 h
    exact (RepL_cons H u _ _).2 ⟨y, r ++ [x], rfl, h1, h2.snoc hx⟩
/-- A put. -/
theorem Stand.put {H : HS} (hW : WF H) {ts : List T} {xs : List Wrd} (h : Stand H ts xs) (room : Int) (t : T) :
    ((putHO room H t).2.1 = 0 ∧ Stand (putHO room H t).2.2 (ts ++ [t]) (xs ++ [(putHO room H t).1])) ∨ ((putHO room H t).2.1 ≠ 0 ∧ Stand (putHO room H t).2.2 ts xs) := by
  rcases putHO_R hW room t with ⟨h0, hl, hr, -, -⟩ | ⟨h0, hH⟩
  · refine .inl ⟨h0, ?_, fun u hu => ?_⟩
    · have h1 := h.1.map id fun u y _ _ hy => hr.old u y hy
      rw [List.map_id] at h1
      exact h1.snoc hr.rep
    · rcases List.mem_append.1 hu with hu | hu
      · exact h.2 u hu
      · rw [List.mem_singleton.1 hu]; exact hl
  · rw [hH]; exact .inr ⟨h0, h⟩
theorem Stand.at {H : HS} {ts : List T} {xs : List Wrd} (h : Stand H ts xs) (i : Nat) (h1 : i < ts.length) (h2 : i < xs.length) : Rep H ts[i] xs[i] ∧ LeafOk ts[i] := ⟨h.1.at i h1 h2, h.2 _ (List.getElem_mem h1)⟩
/-- One picked. -/
theorem Stand.pick {H : HS} {ts us : List T} {xs ys : List Wrd} (h : Stand H ts xs) (g : Stand H us ys) (i : Nat) (h1 : i < ts.length) (h2 : i < xs.length) : Stand H (us ++ [ts[i]]) (ys ++ [xs[i]]) :=
  ⟨g.1.snoc (h.at i h1 h2).1, fun u hu => by
    rcases List.mem_append.1 hu with hu | hu
    · exact g.2 u hu
    · rw [List.mem_singleton.1 hu]; exact (h.at i h1 h2).2⟩
theorem Stand.stands {H : HS} {ts : List T} {xs : List Wrd} (h : Stand H ts xs) : ∀ x ∈ xs, standsB H x = true := fun x hx => by
  obtain ⟨i, hi, rfl⟩ := List.getElem_of_mem hx
  have hl := h.length
  obtain ⟨h1, h2⟩ := h.at i (by omega) hi
  exact h1.stands h2
/-- A collection. -/
theorem Stand.col {H : HS} {ts : List T} {xs : List Wrd} {ks : List Nat} {tw out : List Wrd} (h : Stand H ts xs) (hC : Col H xs ks tw out) : Stand ⟨tw, H.names⟩ ts out := by
  refine ⟨?_, h.2⟩
  rw [hC.out]
  exact h.1.map _ fun u y _ hy hr => hC.rep u y hr (hC.rk y hy)
theorem Col.le {H : HS} (hW : WF H) {rs : List Wrd} {ks : List Nat} {tw out : List Wrd} (h : Col H rs ks tw out) : tw.length ≤ H.ws.length := by
  rw [h.tw, List.length_map]; exact raw_le hW ks h.hd h.nd
end Go.Proofs.Ytedfepnekjjmnaa

/-
  Slices of numbers, as read. No condition.
-/
namespace Go.Proofs.Ytedfepnekjjmnaa
open Go.RowKit
set_option linter.unusedSimpArgs false
set_option linter.unusedVariables false

def intE : El Int where
  k := 1
  C := fun _ _ x cs => cs = [.int .i64 x]
  len := by rintro S w x cs rfl; rfl
  one := by rintro S w x cs rfl; simp [Value.oneCell']
  «to» := by rintro S S' w w' x cs rfl _ _; rfl
theorem RX.int {R S : Nat → Prop} {w : World} {l : List Int} {b o n cap : Nat} (h : RX intE R S w l (.slice (some ⟨b, o, none⟩) n cap)) (j : Nat) (hj : j < l.length) :
    R b ∧ w.cell? ⟨b, o + j, none⟩ = some (.int .i64 l[j]) := by
  obtain ⟨c, rfl, hc⟩ := h.elem j hj
  have h0 := hc 0 _ rfl
  exact ⟨h0.1, by have := h0.2; simpa [intE] using this⟩
theorem cellsI {S S' : Nat → Prop} {w w' : World} : ∀ {l : List Int} {cs : List Value}, CellsX intE S w l cs → CellsX intE S' w' l cs
  | [], cs, h => h
  | x :: l, cs, h => by
    obtain ⟨c, cs', rfl, h1, h2⟩ := h
    exact ⟨c, cs', rfl, h1, cellsI h2⟩
theorem RX.ito {R S : Nat → Prop} {w w' : World} {l : List Int} {v : Value} (h : RX intE R S w l v) (hc : ∀ b, R b → b < w.heap.size → w'.heap[b]? = w.heap[b]?) : RX intE R S w' l v := by
  obtain ⟨a, cap, cs, rfl, hl, hC, hj⟩ := h
  refine ⟨a, cap, cs, rfl, hl, cellsI hC, fun j u hu => ?_⟩
  obtain ⟨b, o, rfl, hR, hcell⟩ := hj j u hu
  exact ⟨b, o, rfl, hR, by rw [World.cell?_of_block (w := w) (hc b hR (World.block_lt_of_cell? w _ hcell))]; exact hcell⟩
end Go.Proofs.Ytedfepnekjjmnaa

/-
  Rows of a call's own side by side, what they hold, and blocks that they leave alone: allocated, grown, kept. No condition.
-/
namespace Go.Proofs.Ytedfepnekjjmnaa
open Go.RowKit
set_option linter.unusedSimpArgs false
set_option linter.unusedVariables false

/-! ### Terms as elements -/
def termE : El T where
  k := 4
  C := fun S w t cs => ∃ a cap, cs = [.int .i64 t.kind, .int .i64 t.n, .string t.name, .slice a t.args.length cap] ∧ CapOk a t.args.length cap ∧ RTs S w t.args a 0
  len := by rintro S w x cs ⟨a, cap, rfl, -⟩; rfl
  one := by rintro S w x cs ⟨a, cap, rfl, -⟩; simp [Value.oneCell']
  «to» := by rintro S S' w w' x cs ⟨a, cap, rfl, h1, h2⟩ hs hc; exact ⟨a, cap, rfl, h1, h2.to hs hc⟩
def termF : ElT termE where
  e := 29
  sl := 27
  bytes := 56
  z := .agg #[.int .i64 0, .int .i64 0, .string ⟨#[]⟩, .slice none 0 0]
  hund := Try.underlying27
  info := info29
  hzs := rfl
  hk := by decide
  hb := by decide
theorem cells_termE {S : Nat → Prop} {w : World} : ∀ {ts : List T} {cs : List Value}, CellsX termE S w ts cs ↔ CellsT S w ts cs
  | [], cs => Iff.rfl
  | t :: ts, cs => by
    constructor
    · rintro ⟨c, cs', rfl, ⟨a, cap, rfl, h1, h2⟩, h3⟩
      exact ⟨a, cap, cs', rfl, h1, h2, cells_termE.1 h3⟩
    · rintro ⟨a, cap, cs', rfl, h1, h2, h3⟩
      exact ⟨_, cs', rfl, ⟨a, cap, rfl, h1, h2⟩, cells_termE.2 h3⟩
theorem own_termE {P : Nat → Prop} {base : Nat} {w : World} {v : Value} {ts : List T} (h : OwnXG termE termF.e P base w v ts) : OwnG P base w v ts := by
  obtain ⟨cs, h1, h2⟩ := h
  exact ⟨cs, h1, cells_termE.1 h2⟩
theorem termE_of {S : Nat → Prop} {w : World} {t : T} {c : Array Value} (h : RT S w t (.agg c)) : termE.C S w t c.toList := by
  obtain ⟨a, cap, e, h1, h2⟩ := h
  simp only [Value.agg.injEq] at e
  exact ⟨a, cap, by rw [e], h1, h2⟩

/-! ### Rows side by side -/
structure Rw where
  X : Type
  E : El X
  F : ElT E
  v : Value
  l : List X
def rW (v : Value) (l : List Wrd) : Rw := ⟨Wrd, wrdE, wrdF, v, l⟩
def rT (v : Value) (l : List T) : Rw := ⟨T, termE, termF, v, l⟩
/-- Rows of one's own (rs) since w0, that lead into P; blocks apart from them: F, and bs, which are known whole. -/
structure RS (P F : Nat → Prop) (w0 : World) (bs : List (Nat × List Value)) (w : World) (rs : List Rw) : Prop where
  bel : Below w0.heap.size w0 w
  pb : ∀ b, P b → b < w.heap.size ∧ ¬ F b ∧ ∀ r ∈ rs, r.v.ownBlock ≠ some b
  ok : ∀ r ∈ rs, OwnXG r.E r.F.e P w0.heap.size w r.v r.l
  ap : rs.Pairwise fun r s => ∀ b, r.v.ownBlock = some b → s.v.ownBlock ≠ some b
  fh : ∀ b, F b → w0.heap.size ≤ b ∧ b < w.heap.size ∧ ∀ r ∈ rs, r.v.ownBlock ≠ some b
  bk : ∀ p ∈ bs, Blk w p.1 p.2 ∧ ¬ F p.1 ∧ ∀ r ∈ rs, r.v.ownBlock ≠ some p.1
section
variable {P F : Nat → Prop} {w0 w : World} {bs : List (Nat × List Value)} {rs : List Rw}
theorem RS.start (P : Nat → Prop) (w : World) (hP : ∀ b, P b → b < w.heap.size) : RS P (fun _ => False) w [] w [] :=
  ⟨Below.refl _ _, fun b hb => ⟨hP b hb, not_false, by simp⟩, by simp, List.Pairwise.nil, fun b h => h.elim, by simp⟩
theorem RS.lt (h : RS P F w0 bs w rs) {r : Rw} (hr : r ∈ rs) (b : Nat) (hb : r.v.ownBlock = some b) : w0.heap.size ≤ b ∧ b < w.heap.size := OwnXG.block (h.ok r hr) b hb
theorem RS.sub (h : RS P F w0 bs w rs) {bs' : List (Nat × List Value)} (hs : ∀ p ∈ bs', p ∈ bs) : RS P F w0 bs' w rs := ⟨h.bel, h.pb, h.ok, h.ap, h.fh, fun p hp => h.bk p (hs p hp)⟩
theorem RS.rows (h : RS P F w0 bs w rs) {rs' : List Rw} (hs : rs'.Sublist rs) : RS P F w0 bs w rs' :=
  ⟨h.bel, fun b hb => ⟨(h.pb b hb).1, (h.pb b hb).2.1, fun r hr => (h.pb b hb).2.2 r (hs.subset hr)⟩, fun r hr => h.ok r (hs.subset hr), h.ap.sublist hs,
    fun b hb => ⟨(h.fh b hb).1, (h.fh b hb).2.1, fun r hr => (h.fh b hb).2.2 r (hs.subset hr)⟩, fun p hp => ⟨(h.bk p hp).1, (h.bk p hp).2.1, fun r hr => (h.bk p hp).2.2 r (hs.subset hr)⟩⟩
/-- Something that leaves all that is tracked as it was. -/
theorem RS.step (h : RS P F w0 bs w rs) {w' : World} {F' : Nat → Prop} (hb0 : Below w0.heap.size w0 w') (hl : w.heap.size ≤ w'.heap.size) (hF : ∀ b, F' b → (F b ∨ w.heap.size ≤ b) ∧ b < w'.heap.size) (hc : ∀ b, b < w.heap.size → ¬ F b → w'.heap[b]? = w.heap[b]?) : RS P F' w0 bs w' rs := by
  have hnF : ∀ b, b < w.heap.size → ¬ F b → ¬ F' b := fun b hb hn hf => by
    rcases (hF b hf).1 with h1 | h1
    · exact hn h1
    · omega
  refine ⟨hb0, fun b hb => ⟨by have := (h.pb b hb).1; omega, hnF b (h.pb b hb).1 (h.pb b hb).2.1, (h.pb b hb).2.2⟩, fun r hr => ?_, h.ap, fun b hb => ?_, fun p hp => ?_⟩
  · refine OwnXG.to (h.ok r hr) hl fun b hb hlt => hc b hlt fun hf => ?_
    rcases hb with hb | hb
    · exact (h.pb b hb).2.1 hf
    · exact (h.fh b hf).2.2 r hr hb
  · obtain ⟨h1, h2⟩ := hF b hb
    have hw := h.bel.size
    rcases h1 with h1 | h1
    · exact ⟨(h.fh b h1).1, h2, (h.fh b h1).2.2⟩
    · exact ⟨by omega, h2, fun r hr e => by have := (h.lt hr b e).2; omega⟩
  · obtain ⟨h1, h2, h3⟩ := h.bk p hp
    exact ⟨h1.heap (hc p.1 h1.lt h2), hnF p.1 h1.lt h2, h3⟩
theorem RS.below (h : RS P F w0 bs w rs) {w' : World} (hB : Below w.heap.size w w') : RS P F w0 bs w' rs :=
  h.step (below_step h.bel h.bel.size hB) hB.size (fun b hb => ⟨.inl hb, by have := (h.fh b hb).2.1; have := hB.size; omega⟩) fun b hb _ => hB.block b hb
theorem RS.keep (h : RS P F w0 bs w rs) {w' : World} {F' : Nat → Prop} (hK : Keep F w w') (hF : ∀ b, F' b → (F b ∨ w.heap.size ≤ b) ∧ b < w'.heap.size) : RS P F' w0 bs w' rs :=
  h.step (h.bel.trans (hK.below h.bel.size fun b hb => (h.fh b hb).1)) hK.size hF fun b hb hn => hK.block b hb hn
/-- A block is made. -/
theorem RS.alloc (h : RS P F w0 bs w rs) (c : Array Value) (e : TypeId) {g : Nat} (hg : g = w.heap.size) : RS P F w0 ((g, c.toList) :: bs) (w.alloc (.cells c e)) rs := by
  subst hg
  have h1 := h.below (below_alloc w (.cells c e))
  refine ⟨h1.bel, h1.pb, h1.ok, h1.ap, h1.fh, fun p hp => ?_⟩
  rcases List.mem_cons.1 hp with rfl | hp
  · exact ⟨Blk.new w c e _ rfl, fun hf => by have := (h.fh _ hf).2.1; omega, fun r hr e => by have := (h.lt hr _ e).2; omega⟩
  · exact h1.bk p hp
/-- A block that is known whole. -/
theorem RS.blk (h : RS P F w0 bs w rs) {g : Nat} {c : List Value} (hB : Blk w g c) (hF : ¬ F g) (hr : ∀ r ∈ rs, r.v.ownBlock ≠ some g) : RS P F w0 ((g, c) :: bs) w rs :=
  ⟨h.bel, h.pb, h.ok, h.ap, h.fh, fun p hp => by
    rcases List.mem_cons.1 hp with rfl | hp
    · exact ⟨hB, hF, hr⟩
    · exact h.bk p hp⟩
/-- A new row. -/
theorem RS.nil (h : RS P F w0 bs w rs) {X : Type} {E : El X} (Fe : ElT E) : RS P F w0 bs w (⟨X, E, Fe, .slice none 0 0, []⟩ :: rs) := by
  have hn : ∀ b, (Value.slice none 0 0).ownBlock ≠ some b := fun b => by simp [Value.ownBlock]
  refine ⟨h.bel, fun b hb => ⟨(h.pb b hb).1, (h.pb b hb).2.1, fun r hr => ?_⟩, fun r hr => ?_, List.pairwise_cons.2 ⟨fun s _ b hb => absurd hb (hn b), h.ap⟩, fun b hb => ⟨(h.fh b hb).1, (h.fh b hb).2.1, fun r hr => ?_⟩, fun p hp => ⟨(h.bk p hp).1, (h.bk p hp).2.1, fun r hr => ?_⟩⟩
  · rcases List.mem_cons.1 hr with rfl | hr
    · exact hn b
    · exact (h.pb b hb).2.2 r hr
  · rcases List.mem_cons.1 hr with rfl | hr
    · exact OwnXG.nil _ _ _ _
    · exact h.ok r hr
  · rcases List.mem_cons.1 hr with rfl | hr
    · exact hn b
    · exact (h.fh b hb).2.2 r hr
  · rcases List.mem_cons.1 hr with rfl | hr
    · exact hn _
    · exact (h.bk p hp).2.2 r hr
/-- Only the places matter. -/
theorem RS.perm (h : RS P F w0 bs w rs) {rs' : List Rw} (hp : rs.Perm rs') : RS P F w0 bs w rs' := by
  have hm : ∀ r, r ∈ rs' → r ∈ rs := fun r hr => hp.mem_iff.2 hr
  refine ⟨h.bel, fun b hb => ⟨(h.pb b hb).1, (h.pb b hb).2.1, fun r hr => (h.pb b hb).2.2 r (hm r hr)⟩, fun r hr => h.ok r (hm r hr), ?_, fun b hb => ⟨(h.fh b hb).1, (h.fh b hb).2.1, fun r hr => (h.fh b hb).2.2 r (hm r hr)⟩, fun p hp' => ⟨(h.bk p hp').1, (h.bk p hp').2.1, fun r hr => (h.bk p hp').2.2 r (hm r hr)⟩⟩
  exact hp.pairwise h.ap fun {r s} hrs b hb e => hrs b e hb
/-- One row is grown. -/
theorem RS.grown {l1 l2 : List Rw} {X : Type} {E : El X} {Fe : ElT E} {v v' : Value} {xs xs' : List X} (h : RS P F w0 bs w (l1 ++ ⟨X, E, Fe, v, xs⟩ :: l2)) {w' : World} (hg : w.grownBy w' v.ownBlock)
    (ho : OwnXG E Fe.e P w0.heap.size w' v' xs') (hv : ∀ b, v'.ownBlock = some b → v.ownBlock = some b ∨ w.heap.size ≤ b) : RS P F w0 bs w' (l1 ++ ⟨X, E, Fe, v', xs'⟩ :: l2) := by
  have hmr : (⟨X, E, Fe, v, xs⟩ : Rw) ∈ l1 ++ ⟨X, E, Fe, v, xs⟩ :: l2 := by simp
  have hmo : ∀ r, (r ∈ l1 ∨ r ∈ l2) → r ∈ l1 ++ (⟨X, E, Fe, v, xs⟩ : Rw) :: l2 := fun r hr => by
    rcases hr with hr | hr <;> simp [hr]
  have hsp : ∀ r, r ∈ l1 ++ (⟨X, E, Fe, v', xs'⟩ : Rw) :: l2 → r = ⟨X, E, Fe, v', xs'⟩ ∨ (r ∈ l1 ∨ r ∈ l2) := fun r hr => by
    rcases List.mem_append.1 hr with hr | hr
    · exact .inr (.inl hr)
    · rcases List.mem_cons.1 hr with hr | hr
      · exact .inl hr
      · exact .inr (.inr hr)
  obtain ⟨a1, a2, a3⟩ := List.pairwise_append.1 h.ap
  obtain ⟨a4, a5⟩ := List.pairwise_cons.1 a2
  have hother : ∀ r, (r ∈ l1 ∨ r ∈ l2) → ∀ b, r.v.ownBlock = some b → v.ownBlock ≠ some b := fun r hr b hb e => by
    rcases hr with hr | hr
    · exact a3 r hr _ (List.mem_cons_self ..) b hb e
    · exact a4 r hr b e hb
  have hnew : ∀ b, b < w.heap.size → v.ownBlock ≠ some b → v'.ownBlock ≠ some b := fun b hb hn e => by
    rcases hv b e with h1 | h1
    · exact hn h1
    · omega
  have hrowl := fun b hb => (h.lt hmr b hb).1
  have hsz := hg.size
  refine ⟨grown_below h.bel hg h.bel.size hrowl, fun b hb => ⟨by have := (h.pb b hb).1; omega, (h.pb b hb).2.1, fun r hr => ?_⟩, fun r hr => ?_, ?_, fun b hb => ⟨(h.fh b hb).1, by have := (h.fh b hb).2.1; omega, fun r hr => ?_⟩, fun p hp => ⟨?_, (h.bk p hp).2.1, fun r hr => ?_⟩⟩
  · rcases hsp r hr with rfl | hr
    · exact hnew b (h.pb b hb).1 ((h.pb b hb).2.2 _ hmr)
    · exact (h.pb b hb).2.2 r (hmo r hr)
  · rcases hsp r hr with rfl | hr
    · exact ho
    · refine OwnXG.to (h.ok r (hmo r hr)) hg.size fun b hb hlt => hg.block b hlt fun e => ?_
      rcases hb with hb | hb
      · exact (h.pb b hb).2.2 _ hmr e.symm
      · exact hother r hr b hb e.symm
  · refine List.pairwise_append.2 ⟨a1, List.pairwise_cons.2 ⟨fun s hs b hb e => ?_, a5⟩, fun r hr s hs b hb e => ?_⟩
    · rcases hv b hb with h1 | h1
      · exact a4 s hs b h1 e
      · have := (h.lt (hmo s (.inr hs)) b e).2; omega
    · rcases List.mem_cons.1 hs with rfl | hs
      · rcases hv b e with h1 | h1
        · exact a3 r hr _ (List.mem_cons_self ..) b hb h1
        · have := (h.lt (hmo r (.inl hr)) b hb).2; omega
      · exact a3 r hr s (List.mem_cons_of_mem _ hs) b hb e
  · rcases hsp r hr with rfl | hr
    · exact hnew b (h.fh b hb).2.1 ((h.fh b hb).2.2 _ hmr)
    · exact (h.fh b hb).2.2 r (hmo r hr)
  · have h1 := h.bk p hp
    exact h1.1.heap (hg.block p.1 h1.1.lt fun e => h1.2.2 _ hmr e.symm)
  · rcases hsp r hr with rfl | hr
    · exact hnew p.1 (h.bk p hp).1.lt ((h.bk p hp).2.2 _ hmr)
    · exact (h.bk p hp).2.2 r (hmo r hr)
/-- What stays when a row is grown. -/
theorem RS.stay {l1 l2 : List Rw} {r : Rw} (h : RS P F w0 bs w (l1 ++ r :: l2)) {w' : World} (hg : w.grownBy w' r.v.ownBlock) (b : Nat) (hb : P b ∨ F b) : w'.heap[b]? = w.heap[b]? := by
  have hmr : r ∈ l1 ++ r :: l2 := by simp
  rcases hb with hb | hb
  · exact hg.block b (h.pb b hb).1 fun e => (h.pb b hb).2.2 _ hmr e.symm
  · exact hg.block b (h.fh b hb).2.1 fun e => (h.fh b hb).2.2 _ hmr e.symm
theorem RS.stayR {l1 l2 : List Rw} {r : Rw} (h : RS P F w0 bs w (l1 ++ r :: l2)) {w' : World} (hg : w.grownBy w' r.v.ownBlock) {B : Nat} {room : Int} {H : HS} (hR : HeapR F w B room H) : HeapR F w' B room H :=
  hR.to hg.size (fun _ h => h) fun b hb _ => h.stay hg b (.inr hb)
/-- A new block doesn't touch what is tracked. -/
theorem RS.heapR {B : Nat} {room : Int} {H : HS} (h : RS P F w0 bs w rs) (hR : HeapR F w B room H) {w' : World} (hl : w.heap.size ≤ w'.heap.size) (hc : ∀ b, F b → w'.heap[b]? = w.heap[b]?) : HeapR F w' B room H := hR.to hl (fun _ h => h) fun b hb _ => hc b hb
theorem RS.rx {r : Rw} (h : RS P F w0 bs w rs) (hr : r ∈ rs) : RX r.E (fun b => r.v.ownBlock = some b) P w r.l r.v := (OwnX.rx (h.ok r hr)).mono (fun _ h => h) fun b hb => hb.1
theorem RS.own {r : Rw} (h : RS P F w0 bs w rs) (hr : r ∈ rs) : OwnXG r.E r.F.e P w0.heap.size w r.v r.l := h.ok r hr
theorem RS.cell {g : Nat} {c : List Value} (h : RS P F w0 bs w rs) (hg : (g, c) ∈ bs) (j : Nat) (u : Value) (hu : c[j]? = some u) : w.cell? ⟨g, j, none⟩ = some u := (h.bk _ hg).1.cell j u hu
end
section
variable {o : Oper} {a : Act} {Q : Exit → Act → World → Prop} {K : Act → World → Prop} {w : World}
/-- 'append(s, x)' of one element that lies in a block of its own. -/
theorem wp_growR (s x : Operand) {X : Type} {E : El X} (Fe : ElT E) (ho : o.op = .call { callee := .builtin .append, args := #[s, x], argTypes := #[Fe.sl, Fe.sl] })
    {P F : Nat → Prop} {w0 : World} {bs : List (Nat × List Value)} (l1 l2 : List Rw) {v : Value} {xs : List X} {y : X} {g0 n : Nat} {c : List Value}
    (hs : a.eval s = v) (hx : a.eval x = .slice (some ⟨g0, 0, none⟩) 1 1) (h : RS P F w0 bs w (l1 ++ ⟨X, E, Fe, v, xs⟩ :: l2)) (hg : (g0, c) ∈ bs) (ht : E.C P w y c) (hnl : xs.length = n) (hn : n + 1 ≤ 274877906944)
    (hK : ∀ g cap w', RS P F w0 bs w' (l1 ++ ⟨X, E, Fe, .slice (some ⟨g, 0, none⟩) (n + 1) cap, xs ++ [y]⟩ :: l2) → w.grownBy w' v.ownBlock → K (a.put o.dst (.slice (some ⟨g, 0, none⟩) (n + 1) cap)) w') :
    Oper.wp Try.prog o a w K Q := by
  subst hnl
  have hmr : (⟨X, E, Fe, v, xs⟩ : Rw) ∈ l1 ++ ⟨X, E, Fe, v, xs⟩ :: l2 := by simp
  obtain ⟨i, hi, hiz, his, hib⟩ := info_parts Fe.info
  have hb := Fe.hb
  have hown : OwnXG E Fe.e P w0.heap.size w v xs := h.ok _ hmr
  have hpb := h.pb
  have hbel := h.bel.size
  obtain ⟨cs, ho1, hC⟩ := hown
  have hx1 : E.C (fun b => P b ∧ b < w.heap.size ∧ v.ownBlock ≠ some b) w y c := E.to ht (fun b hb hl => ⟨hb, hl, (hpb b hb).2.2 _ hmr⟩) fun _ _ _ => rfl
  refine wp_append_lies w s x Fe.sl ho w0.heap.size Fe.e i Fe.z E.k Fe.bytes Fe.hund hi hiz his hib Fe.hzs Fe.hk v _ cs hs ho1 ⟨g0, 0, none⟩ 1 1 c hx (by rw [E.len ht]; simp) ?_ (E.one ht) (by decide) (by unfold maxLen; omega) ?_ hbel _ rfl ?_
  · intro j u hu
    have := (h.bk _ hg).1.cell j u hu
    unfold Addr.add
    split
    · rename_i h0; subst h0; exact this
    · simpa using this
  · exact Nat.le_trans (Nat.mul_le_mul hn hb) (by decide)
  · intro g cap w' h1 h2 h3 h4
    have hsz := h2.size
    have hblk : ∀ b, (P b ∧ b < w.heap.size ∧ v.ownBlock ≠ some b) → b < w.heap.size → w'.heap[b]? = w.heap[b]? := fun b hb hlt => h2.block b hlt fun e => hb.2.2 e.symm
    have hO : OwnXG E Fe.e P w0.heap.size w' (.slice (some ⟨g, 0, none⟩) (xs.length + 1) cap) (xs ++ [y]) := by
      refine ⟨cs ++ c, by simpa using h1, ?_⟩
      have hcc : CellsX E (fun b => P b ∧ b < w.heap.size ∧ v.ownBlock ≠ some b) w' (xs ++ [y]) (cs ++ c) := (hC.to (fun _ h _ => h) hblk).append (CellsX.single (E.to hx1 (fun _ h _ => h) hblk))
      refine hcc.to (fun b hb _ => ⟨hb.1, by have := hb.2.1; omega, fun e => ?_⟩) fun _ _ _ => rfl
      have e1 : g = b := by simpa [Value.ownBlock] using e
      subst e1
      rcases h3 with h5 | h5
      · exact hb.2.2 h5
      · have := hb.2.1; omega
    refine hK g cap w' (h.grown h2 hO fun b hb => ?_) h2
    have e1 : g = b := by simpa [Value.ownBlock] using hb
    subst e1
    rcases h3 with h5 | h5
    · exact .inl h5
    · exact .inr (by omega)
/-- The same in a plain region. -/
theorem append_growR {ops : Array Oper} {rest : List Oper} (s x : Operand) (hgd : o.guard = none) {X : Type} {E : El X} (Fe : ElT E) (ho : o.op = .call { callee := .builtin .append, args := #[s, x], argTypes := #[Fe.sl, Fe.sl] })
    {P F : Nat → Prop} {w0 : World} {bs : List (Nat × List Value)} (l1 l2 : List Rw) {v : Value} {xs : List X} {y : X} {g0 n : Nat} {c : List Value}
    (hs : a.eval s = v) (hx : a.eval x = .slice (some ⟨g0, 0, none⟩) 1 1) (h : RS P F w0 bs w (l1 ++ ⟨X, E, Fe, v, xs⟩ :: l2)) (hg : (g0, c) ∈ bs) (ht : E.C P w y c) (hnl : xs.length = n) (hn : n + 1 ≤ 274877906944)
    (hK : ∀ g cap w', RS P F w0 bs w' (l1 ++ ⟨X, E, Fe, .slice (some ⟨g, 0, none⟩) (n + 1) cap, xs ++ [y]⟩ :: l2) → w.grownBy w' v.ownBlock → wpList Try.prog ops Q rest (a.put o.dst (.slice (some ⟨g, 0, none⟩) (n + 1) cap)) w') :
    wpList Try.prog ops Q (o :: rest) a w :=
  wpList_plain hgd fun _ hK' => wp_growR s x Fe ho l1 l2 hs hx h hg ht hnl hn fun g cap w' h1 h2 => hK' _ _ (hK g cap w' h1 h2)
end
end Go.Proofs.Ytedfepnekjjmnaa

/-
  HeapAgain: the states of its loops. No condition.
-/
namespace Go.Proofs.Ytedfepnekjjmnaa
open Go.RowKit
set_option linter.unusedSimpArgs false
set_option linter.unusedVariables false

theorem putHO_bounds {H : HS} (hW : WF H) (hl : H.ws.length ≤ 1000) (t : T) : WF (putHO 1000 H t).2.2 ∧ (putHO 1000 H t).2.2.ws.length ≤ 1000 ∧ (putHO 1000 H t).2.2.names.length ≤ H.names.length + bulkL [t] := by
  refine ⟨putHO_wf hW _ _, ?_, (putHO_len 1000 H t).2⟩
  rcases putHO_R hW 1000 t with ⟨-, -, -, -, h⟩ | ⟨-, h⟩
  · omega
  · rw [h]; exact hl
def AgP (S : Nat → Prop) (w : World) : Nat → Prop := fun b => S b ∧ b < w.heap.size
/-- The first loop's state. -/
def AG1 (S : Nat → Prop) (w : World) (B k : Nat) (v7 v8 : Value) (wr : World) : Prop :=
  ∃ F H ts xs, RS (AgP S w) F w [] wr [rW v7 xs, rT v8 ts] ∧ HeapR F wr B 1000 H ∧ WF H ∧ Stand H ts xs ∧ xs.length ≤ k ∧ H.ws.length ≤ 1000 ∧ H.names.length ≤ k * 1048576 ∧ ∀ t ∈ ts, bulkL [t] ≤ 1048576
theorem AG1.start {S : Nat → Prop} {w w2 : World} {B : Nat} (hB : Below w.heap.size w w2) (hR : HeapR (fun b => b = B) w2 B 1000 ⟨[], []⟩) (hl : w.heap.size ≤ B) : AG1 S w B 0 (.slice none 0 0) (.slice none 0 0) w2 := by
  obtain ⟨vw, vn, hV⟩ := hR
  have hlt := hV.blk.lt
  have h0 : RS (AgP S w) (fun b => b = B) w [] w2 [] := (RS.start (AgP S w) w fun b hb => hb.2).step hB hB.size (fun b hb => ⟨.inr (by omega), by omega⟩) fun b hb _ => hB.block b hb
  exact ⟨_, _, [], [], (h0.nil termF).nil wrdF, ⟨_, _, hV⟩, WF.new [], Stand.nil _, Nat.le_refl _, by simp, by simp, by simp⟩
/-- The second loop's state. -/
def AG2 (P F : Nat → Prop) (w : World) (B k : Nat) (H : HS) (v7 v8 : Value) (xs : List Wrd) (ts : List T) (v13 v14 : Value) (wr : World) : Prop :=
  ∃ us ys, RS P F w [] wr [rW v7 xs, rT v8 ts, rW v13 ys, rT v14 us] ∧ HeapR F wr B 1000 H ∧ Stand H us ys ∧ ys.length ≤ k ∧ ∀ t ∈ us, bulkL [t] ≤ 1048576
theorem bulks_snoc {ts : List T} {t : T} (h : ∀ t ∈ ts, bulkL [t] ≤ 1048576) (ht : bulkL [t] ≤ 1048576) : ∀ u ∈ ts ++ [t], bulkL [u] ≤ 1048576 := fun u hu => by
  rcases List.mem_append.1 hu with hu | hu
  · exact h u hu
  · rw [List.mem_singleton.1 hu]; exact ht
theorem RS.form0 {P F : Nat → Prop} {w0 w : World} {bs : List (Nat × List Value)} {rs : List Rw} {r : Rw} (h : RS P F w0 bs w rs) (hr : r ∈ rs) (hl : 0 < r.l.length) : ∃ g cap, r.v = .slice (some ⟨g, 0, none⟩) r.l.length cap := by
  obtain ⟨cs, h1, -⟩ := h.ok r hr
  obtain ⟨g, cap, h2, -⟩ := h1.form hl
  exact ⟨g, cap, h2⟩
theorem RS.form {P F : Nat → Prop} {w0 w : World} {bs : List (Nat × List Value)} {rs : List Rw} {r : Rw} (h : RS P F w0 bs w rs) (hr : r ∈ rs) : ∃ a cap, r.v = .slice a r.l.length cap := by
  obtain ⟨a, cap, h1, -⟩ := (h.rx hr).form
  exact ⟨a, cap, h1⟩
theorem RS.form2 {P F : Nat → Prop} {w0 w : World} {bs : List (Nat × List Value)} {rs : List Rw} {v7 v8 : Value} {xs : List Wrd} {ts : List T} (h : RS P F w0 bs w (rW v7 xs :: rT v8 ts :: rs)) : (∃ a cap, v7 = .slice a xs.length cap) ∧ ∃ a cap, v8 = .slice a ts.length cap :=
  ⟨h.form (r := rW v7 xs) (by simp), h.form (r := rT v8 ts) (by simp)⟩
theorem RS.form4 {P F : Nat → Prop} {w0 w : World} {bs : List (Nat × List Value)} {r1 r2 : Rw} {rs : List Rw} {v7 v8 : Value} {xs : List Wrd} {ts : List T} (h : RS P F w0 bs w (r1 :: r2 :: rW v7 xs :: rT v8 ts :: rs)) : (∃ a cap, v7 = .slice a xs.length cap) ∧ ∃ a cap, v8 = .slice a ts.length cap :=
  ⟨h.form (r := rW v7 xs) (by simp), h.form (r := rT v8 ts) (by simp)⟩
theorem RS.one {P F : Nat → Prop} {w0 w : World} {bs : List (Nat × List Value)} {r1 : Rw} {rs : List Rw} (h : RS P F w0 bs w (r1 :: rs)) {b : Nat} (hb : r1.v.ownBlock = some b) {s : Rw} (hs : s ∈ rs) : s.v.ownBlock ≠ some b := (List.pairwise_cons.1 h.ap).1 s hs b hb
theorem RS.two {P F : Nat → Prop} {w0 w : World} {bs : List (Nat × List Value)} {r1 r2 : Rw} {rs : List Rw} (h : RS P F w0 bs w (r1 :: r2 :: rs)) {b : Nat} (hb : r2.v.ownBlock = some b) {s : Rw} (hs : s ∈ rs) : s.v.ownBlock ≠ some b := (List.pairwise_cons.1 (List.pairwise_cons.1 h.ap).2).1 s hs b hb
theorem RS.more {P F : Nat → Prop} {w0 w : World} {bs : List (Nat × List Value)} {r1 r2 : Rw} (h : RS P F w0 bs w [r1, r2]) : RS P F w0 bs w [r1, r2, rW (.slice none 0 0) [], rT (.slice none 0 0) []] :=
  ((h.nil termF).nil wrdF).perm (List.perm_append_comm (l₁ := [rW (.slice none 0 0) [], rT (.slice none 0 0) []]) (l₂ := [r1, r2]))
/-- A word of a row. -/
theorem RS.wrd {P F : Nat → Prop} {w0 w : World} {bs : List (Nat × List Value)} {rs : List Rw} {g n cap : Nat} {xs : List Wrd} (h : RS P F w0 bs w rs) (hr : rW (.slice (some ⟨g, 0, none⟩) n cap) xs ∈ rs) (i : Nat) (hi : i < xs.length) :
    w.cell? ⟨g, i * 2, none⟩ = some (.int .i64 xs[i].kind) ∧ w.cell? ⟨g, i * 2 + 1, none⟩ = some (.int .i64 xs[i].n) := by
  have h1 := RX.wrd (show RX wrdE _ _ w xs _ from h.rx hr) i hi
  simpa only [Nat.zero_add] using h1.2
/-- A term of a row. -/
theorem RS.term {P F : Nat → Prop} {w0 w : World} {bs : List (Nat × List Value)} {rs : List Rw} {g n cap : Nat} {ts : List T} (h : RS P F w0 bs w rs) (hr : rT (.slice (some ⟨g, 0, none⟩) n cap) ts ∈ rs) (i : Nat) (hi : i < ts.length) :
    ∃ a' cap', RT P w ts[i] (.agg #[.int .i64 ts[i].kind, .int .i64 ts[i].n, .string ts[i].name, .slice a' ts[i].args.length cap']) ∧ w.cell? ⟨g, i * 4, none⟩ = some (.int .i64 ts[i].kind) ∧ w.cell? ⟨g, i * 4 + 1, none⟩ = some (.int .i64 ts[i].n) ∧ w.cell? ⟨g, i * 4 + 2, none⟩ = some (.string ts[i].name) ∧ w.cell? ⟨g, i * 4 + 3, none⟩ = some (.slice a' ts[i].args.length cap') := by
  obtain ⟨c, ⟨a', cap', rfl, h1, h2⟩, hc⟩ := (show RX termE _ _ w ts _ from h.rx hr).elem i hi
  have k0 := (hc 0 _ rfl).2
  have k1 := (hc 1 _ rfl).2
  have k2 := (hc 2 _ rfl).2
  have k3 := (hc 3 _ rfl).2
  simp only [Nat.zero_add, Nat.add_zero] at k0 k1 k2 k3
  exact ⟨a', cap', ⟨a', cap', rfl, h1, h2⟩, k0, k1, k2, k3⟩
end Go.Proofs.Ytedfepnekjjmnaa
