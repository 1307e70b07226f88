/-
  clerklaw.grown: the nodes of a term. No condition but a bound.
-/
import Derived.Great.BuildSlice
import Derived.Test.YtedfepnekjjmnaaJk
import Derived.Test.YtedfepnekjjmnaaJc
namespace Go.Proofs.Ytedfepnekjjmnaa
open Go.RowKit
set_option linter.unusedSimpArgs false
set_option linter.unusedVariables false
set_option maxRecDepth 100000

theorem szNodeB : (Try.prog.info? 87).map (·.size) = some 2 := by kernel_rfl
def GrownR (w : World) (N : Nat → NodeD) (t : T) (e : Ending) (w' : World) : Prop :=
  Below w.heap.size w w' ∧ ∃ (o : Option Nat) (N' : Nat → NodeD), e = .returned (optr o) ∧ (∀ b, b < w.heap.size → N' b = N b) ∧ Grow1 N' t o ∧ (nd1 N' t o).Nodup ∧ ∀ b ∈ nd1 N' t o, NodeR (fun b => w.heap.size ≤ b ∧ b < w'.heap.size) w' b (N' b)
theorem RQ.sizeN' {P F : Nat → Prop} {w0 w : World} {bs : List (Nat × List Value)} {v : Value} {os : List (Option Nat)} (h : RQ P F w0 bs w [rN v os]) : ∃ a cap, v = .slice a os.length cap := by
  have ho : OwnXQ ptrE ptrF.e P w0.heap.size w v os := h.ok (rN v os) (by simp)
  obtain ⟨a, cap, h, -⟩ := ho.rx.form
  exact ⟨a, cap, h⟩
def GrownI (w : World) (nb : Nat) (N : Nat → NodeD) (l : List T) (i : Value) (wr : World) : Prop :=
  ∃ (k : Nat) (os : List (Option Nat)) (Nk : Nat → NodeD) (kv : Value) (Pk : Nat → Prop), k ≤ l.length ∧ i = .int .i64 (k : Int) ∧ GrowL Nk (l.take k) os ∧ (∀ b, b < w.heap.size → Nk b = N b) ∧ (ndL Nk (l.take k) os).Nodup ∧
    (∀ b ∈ ndL Nk (l.take k) os, NodeR Pk wr b (Nk b)) ∧ (∀ b, Pk b → nb < b) ∧ RQ Pk (fun _ => False) w [(nb, [.int .i64 (1 + (l.length : Int)), kv])] wr [rN kv os] ∧ IsC wr nb

section
variable {o : Oper} {a : Act} {Q : Exit → Act → World → Prop} {K : Act → World → Prop} {w : World}
theorem buildN1 (x0 : Operand) (ho : o.op = .buildSlice 79 1 #[(0, x0)]) {c : Option Nat} (h0 : a.eval x0 = optr c)
    (h : K (a.put o.dst (.slice (some ⟨w.heap.size, 0, none⟩) 1 1)) (w.alloc (.cells #[optr c] 82))) : Oper.wp Try.prog o a w K Q := by
  obtain ⟨i, hi, hz, hs, hb⟩ := info_parts ptrF.info
  have hs' : i.size = 1 := hs
  refine wp_buildSlice 79 82 1 _ ho #[optr c] i _ Try.underlying79 hi hz (by rw [hs']; decide) (by rw [hs']; decide) ?_ h
  rw [hs']
  have e := Great.fill_whole (s := 1) (by decide) [optr c] ((Array.range (1 * 1)).map (ptrF.z.cells[· % ptrF.z.cells.size]!)) (by simp [Value.cells, optr]) (by simp)
  simp only [Array.toList_map, List.map_cons, List.map_nil, h0]
  exact e
end
theorem IsC.set {w : World} {b : Nat} (h : IsC w b) (i : Nat) (v : Value) : IsC (w.setCell ⟨b, i, none⟩ v) b := by
  obtain ⟨cs, e, h⟩ := h
  exact ⟨_, e, heap_setCell_same w b i cs e v h⟩
theorem grown_step {w : World} {nb k : Nat} {N Nk N1 : Nat → NodeD} {l : List T} {os : List (Option Nat)} {Pk : Nat → Prop} {wr Wd w1 w4 : World} {o1 : Option Nat} {kv : Value} (hlt : k < l.length) (hG : GrowL Nk (l.take k) os) (hN0 : ∀ b, b < w.heap.size → Nk b = N b) (hND : (ndL Nk (l.take k) os).Nodup)
    (hNO : ∀ b ∈ ndL Nk (l.take k) os, NodeR Pk wr b (Nk b)) (hPK : ∀ b, Pk b → nb < b) (hw : w.heap.size ≤ wr.heap.size) (hnb : nb < wr.heap.size) (hBd : Below wr.heap.size wr Wd) (hB1 : Below Wd.heap.size Wd w1) (hN1 : ∀ b, b < Wd.heap.size → N1 b = Nk b) (hg1 : Grow1 N1 l[k] o1) (hnd1 : (nd1 N1 l[k] o1).Nodup)
    (hno1 : ∀ b ∈ nd1 N1 l[k] o1, NodeR (fun b => Wd.heap.size ≤ b ∧ b < w1.heap.size) w1 b (N1 b)) (hP4 : ∀ b, (Pk b ∨ (Wd.heap.size ≤ b ∧ b < w1.heap.size)) → b < w1.heap.size → w4.heap[b]? = w1.heap[b]?)
    (hR4 : RQ (fun b => Pk b ∨ (Wd.heap.size ≤ b ∧ b < w1.heap.size)) (fun _ => False) w [(nb, [.int .i64 (1 + (l.length : Int)), kv])] w4 [rN kv (os ++ [o1])]) (hC4 : IsC w4 nb) : GrownI w nb N l (.int .i64 ((k + 1 : Nat) : Int)) w4 := by
  have hsd := hBd.size
  have hs1 := hB1.size
  have hlow : ∀ b ∈ ndL Nk (l.take k) os, b < wr.heap.size := fun b hb => by obtain ⟨-, -, _, _, h, -⟩ := hNO b hb; exact h.lt
  obtain ⟨c1, c2⟩ := GrowL.congr _ _ (Nat.le_refl _) os hG fun b hb => hN1 b (by have := hlow b hb; omega)
  obtain ⟨d1, d2⟩ := c1.snoc hg1
  have et : l.take (k + 1) = l.take k ++ [l[k]] := take_snoc' l k hlt
  refine ⟨k + 1, os ++ [o1], N1, kv, _, hlt, rfl, by rw [et]; exact d1, fun b hb => (hN1 b (by omega)).trans (hN0 b hb), ?_, ?_, fun b hb => ?_, hR4, hC4⟩
  · rw [et, d2, c2]
    refine List.nodup_append.2 ⟨hND, hnd1, fun b hb c hc e => ?_⟩
    have h1 := hlow b hb
    have h2 := (hno1 c hc).p.1
    omega
  · rw [et, d2, c2]
    intro b hb
    rcases List.mem_append.1 hb with hb | hb
    · have h1 := hNO b hb
      rw [hN1 b (by have := hlow b hb; omega)]
      refine h1.to (fun _ h _ => .inl h) fun c hc hl => ?_
      rw [hP4 c (.inl hc) (by omega), hB1.block c (by omega), hBd.block c hl]
    · exact (hno1 b hb).to (fun _ h _ => .inr h) fun c hc hl => hP4 c (.inr hc) hl
  · rcases hb with hb | hb
    · exact hPK b hb
    · omega

theorem grown_end {w wr : World} {nb : Nat} {N Nk : Nat → NodeD} {t : T} {os : List (Option Nat)} {Pk : Nat → Prop} {kv : Value} {e : Ending} (hk : t.kind = 4) (hG : GrowL Nk t.args os) (hN0 : ∀ b, b < w.heap.size → Nk b = N b) (hND : (ndL Nk t.args os).Nodup) (hNO : ∀ b ∈ ndL Nk t.args os, NodeR Pk wr b (Nk b)) (hPK : ∀ b, Pk b → nb < b)
    (hR : RQ Pk (fun _ => False) w [(nb, [.int .i64 (1 + (t.args.length : Int)), kv])] wr [rN kv os]) (hC : IsC wr nb) (hnb : w.heap.size < nb) (he : e = .returned (ptr nb)) : GrownR w N t e wr := by
  have hBk := (hR.bk _ (List.mem_cons_self ..)).1
  obtain ⟨ak, ck, rfl⟩ := hR.sizeN'
  have hrx := hR.rx (r := rN (.slice ak os.length ck) os) (by simp)
  have hlt : ∀ b, (Value.slice ak os.length ck).ownBlock = some b → w.heap.size ≤ b ∧ b < wr.heap.size := fun b hb => hR.lt (r := rN (.slice ak os.length ck) os) (by simp) b hb
  have hnd : ∀ b ∈ ndL Nk t.args os, b ≠ nb := fun b hb e => by have := hPK b (hNO b hb).p; omega
  have e1 : ∀ b, b ≠ nb → (if b = nb then ((1 + t.args.length, os) : NodeD) else Nk b) = Nk b := fun b hb => if_neg hb
  obtain ⟨c1, c2⟩ := GrowL.congr (N' := fun b => if b = nb then ((1 + t.args.length, os) : NodeD) else Nk b) _ _ (Nat.le_refl _) os hG fun b hb => e1 b (hnd b hb)
  have e2 : (if nb = nb then ((1 + t.args.length, os) : NodeD) else Nk nb) = (1 + t.args.length, os) := if_pos rfl
  refine ⟨hR.bel, some nb, fun b => if b = nb then (1 + t.args.length, os) else Nk b, he, fun b hb => (e1 b (by omega)).trans (hN0 b hb), ⟨fun e => absurd hk e, fun _ => ⟨nb, rfl, ?_, ?_⟩⟩, ?_, ?_⟩
  · show (if nb = nb then ((1 + t.args.length, os) : NodeD) else Nk nb).1 = _
    rw [e2]
  · show GrowL _ t.args (if nb = nb then ((1 + t.args.length, os) : NodeD) else Nk nb).2
    rw [e2]; exact c1
  · show (nb :: ndL _ t.args (if nb = nb then ((1 + t.args.length, os) : NodeD) else Nk nb).2).Nodup
    rw [e2]
    show (nb :: ndL _ t.args os).Nodup
    rw [c2]
    exact List.nodup_cons.2 ⟨fun h => hnd nb h rfl, hND⟩
  · intro b hb
    have hb' : b = nb ∨ b ∈ ndL Nk t.args os := by
      have h : b ∈ nb :: ndL (fun b => if b = nb then ((1 + t.args.length, os) : NodeD) else Nk b) t.args (if nb = nb then ((1 + t.args.length, os) : NodeD) else Nk nb).2 := hb
      rw [e2] at h
      have h : b ∈ nb :: ndL (fun b => if b = nb then ((1 + t.args.length, os) : NodeD) else Nk b) t.args os := h
      rw [c2] at h
      simpa using h
    rcases hb' with rfl | hb'
    · show NodeR _ wr b (if b = b then ((1 + t.args.length, os) : NodeD) else Nk b)
      rw [if_pos rfl]
      refine ⟨⟨by omega, hBk.lt⟩, hC, ak, ck, ?_, ?_⟩
      · show Blk wr b [.int .i64 (((1 + t.args.length : Nat) : Nat) : Int), .slice ak os.length ck]
        rw [Int.natCast_add]; exact hBk
      · exact (RX.ptr hrx).mono (fun b hb => hlt b hb) fun _ h => h
    · show NodeR _ wr b (if b = nb then ((1 + t.args.length, os) : NodeD) else Nk b)
      rw [e1 b (hnd b hb')]
      exact (hNO b hb').to (fun c hc hl => ⟨by have := hPK c hc; omega, hl⟩) fun _ _ _ => rfl

set_option maxHeartbeats 8000000 in
theorem grown_c : ∀ (t : T) (S : Nat → Prop) (w : World) (v : Value) (N : Nat → NodeD), RT S w t v → bulkL [t] ≤ 4294967296 →
    Calls Try.prog 48 #[v] w (GrownR w N t) := by
  intro t
  induction t using T.ind with
  | h t ih =>
    intro S w v N hv hb
    obtain ⟨a, cap, rfl, hcap, hr⟩ := hv
    have hba := bulk_args t
    have hla := length_le_bulk t.args
    have IH := Lib.hid ih; clear ih
    have HR := Lib.hid hr; clear hr
    by_cases hk : (t.kind != 4) = true
    · go_enter Try.func48, Try.ntmps48
      go_wp2_with fail
      go_ret
      have hk4 : t.kind ≠ 4 := by simpa using hk
      exact ⟨below_alloc _ _, none, N, rfl, fun _ _ => rfl, ⟨fun _ => rfl, fun e => absurd e hk4⟩, List.nodup_nil, by simp [nd1]⟩
    · have hk4 : t.kind = 4 := by simpa using hk
      have hk' : (t.kind != 4) = false := by simpa using hk
      have HK4 := Lib.hid hk4; clear hk4 hk
      obtain ⟨W0, hW0⟩ : ∃ W : World, W = w.alloc (.cells #[.int .i64 t.kind, .int .i64 t.n, .string t.name, .slice a t.args.length cap] 29) := ⟨_, rfl⟩
      obtain ⟨nb, hnb⟩ : ∃ n, n = W0.heap.size := ⟨_, rfl⟩
      obtain ⟨W1, hW1⟩ : ∃ W : World, W = W0.alloc (.cells #[.int .i64 (1 + (t.args.length : Int)), .slice none 0 0] 87) := ⟨_, rfl⟩
      have hadd : IntKind.i64.wrap (1 + (t.args.length : Int)) = 1 + (t.args.length : Int) := by rw [IntKind.wrap_i64]; omega
      have HB0 : Hid (Below w.heap.size w W0) := Lib.hid (by rw [hW0]; exact below_alloc _ _)
      have HS0 : Hid (W0.heap.size = w.heap.size + 1) := Lib.hid (by rw [hW0]; simp)
      have HI : Hid (GrownI w nb N t.args (.int .i64 0) W1) := Lib.hid (by
        have h0 : RQ (fun _ => False) (fun _ => False) w [] W0 [] := ⟨HB0.out, by simp, by simp, List.Pairwise.nil, by simp, by simp⟩
        have h1 : RQ (fun _ => False) (fun _ => False) w [(nb, [.int .i64 (1 + (t.args.length : Int)), .slice none 0 0])] W1 [] := by rw [hW1]; exact h0.alloc #[.int .i64 (1 + (t.args.length : Int)), .slice none 0 0] _ hnb
        exact ⟨0, [], N, .slice none 0 0, fun _ => False, Nat.zero_le _, rfl, (GrowL_nil _ _).2 rfl, fun _ _ => rfl, by rw [List.take_zero, ndL_nil]; exact List.nodup_nil, by rw [List.take_zero, ndL_nil]; simp, by simp, h1.nil ptrF, by rw [hW1, hnb]; exact ⟨_, _, heap_alloc_new _ _⟩⟩)
      have HW0 := Lib.hid hW0; have HNB := Lib.hid hnb; have HW1 := Lib.hid hW1
      clear hW0 hnb hW1
      go_enter Try.func48, Try.ntmps48
      go_upto_region 3 with fail
      rw [← HW0.out]
      have b3 : W0.cell? ⟨w.heap.size, 3, none⟩ = some (.slice a t.args.length cap) := by rw [HW0.out, World.cell?_alloc_new]; rfl
      go_upto_region 4 with fail
      rw [← HW1.out, ← HNB.out]
      have b31 : W1.cell? ⟨w.heap.size, 3, none⟩ = some (.slice a t.args.length cap) := by rw [HW1.out]; exact Lib.cell?_alloc_some _ b3
      clear b3 hadd
      go_wp2_with fail
      go_loopw [18] (fun i wr => GrownI w nb N t.args i wr) (fun i _ => t.args.length - (intOf i).toNat)
      case atStart => exact HI.out
      case round =>
        obtain ⟨k, os, Nk, kv, Pk, hkl, rfl, hG, hN0, hnd, hno, hPk, hRQ, hIC⟩ := hrel
        have HG := Lib.hid hG; have HN0 := Lib.hid hN0; have HND := Lib.hid hnd; have HNO := Lib.hid hno; have HPK := Lib.hid hPk; have HRQ := Lib.hid hRQ; have HIC := Lib.hid hIC
        clear hG hN0 hnd hno hPk hRQ hIC
        have hB := HRQ.out.bel
        have hsz' := hB.size
        have hol : os.length = k := by rw [HG.out.len, List.length_take]; omega
        have HOL := Lib.hid hol; clear hol
        by_cases hlt : k < t.args.length
        · obtain ⟨b, o, rfl⟩ := HR.out.addr (by omega)
          obtain ⟨a', cap', _, c0, c1, c2, c3, hE⟩ := HR.out.elem k hlt
          have hbl := World.block_lt_of_cell? w _ c0
          have hE := hE.below hB
          have d0 := (hB.cell hbl).trans c0
          have d1 := (hB.cell (p := ⟨b, o + k * 4 + 1, none⟩) hbl).trans c1
          have d2 := (hB.cell (p := ⟨b, o + k * 4 + 2, none⟩) hbl).trans c2
          have d3 := (hB.cell (p := ⟨b, o + k * 4 + 3, none⟩) hbl).trans c3
          have hbk := bulk_at hlt
          have HE := Lib.hid hE
          clear c0 c1 c2 c3 hE hB
          obtain ⟨ak, ck, rfl⟩ := HRQ.out.sizeN'
          obtain ⟨g5, hg5⟩ : ∃ n, n = wr.heap.size := ⟨_, rfl⟩
          have HG5 := Lib.hid hg5; clear hg5
          go_wp2_with (refine store_blk 29 4 szTerm _ _ rfl rfl rfl rfl rfl (Blk.new wr _ _ _ rfl) rfl rfl rfl ?_; intro W6 hF hs6 hBW hoth; have HF := Lib.hid hF; have HSZ := Lib.hid hs6; have HBW := Lib.hid hBW; have HOTH := Lib.hid hoth; clear hF hBW hoth hs6)
          have HB6 : Hid (Below wr.heap.size wr W6) := Lib.hid (HBW.out _ _ (Nat.le_refl _) (below_alloc _ _))
          have HR6 : Hid (RQ Pk (fun _ => False) w [(nb, [.int .i64 (1 + (t.args.length : Int)), .slice ak os.length ck])] W6 [rN (.slice ak os.length ck) os]) := Lib.hid (HRQ.out.below HB6.out)
          have HE6 := Lib.hid (HE.out.below HB6.out)
          have hs6 : wr.heap.size + 1 ≤ W6.heap.size := by have := HSZ.out; simp at this; omega
          have HOG : Hid (∀ b, (Value.slice ak os.length ck).ownBlock = some b → w.heap.size ≤ b ∧ b < wr.heap.size) := Lib.hid fun b hb => HRQ.out.lt (r := rN (.slice ak os.length ck) os) (by simp) b hb
          have HNBL : Hid (nb < wr.heap.size ∧ w.heap.size < nb) := Lib.hid ⟨(HRQ.out.bk _ (List.mem_cons_self ..)).1.lt, by have := HS0.out; have := HNB.out; omega⟩
          have HNO2 : Hid ((Value.slice ak os.length ck).ownBlock ≠ some nb) := Lib.hid ((HRQ.out.bk _ (List.mem_cons_self ..)).2.2 (rN (.slice ak os.length ck) os) (by simp))
          rw [← HG5.out]
          have HQ : Hid (∀ w' : World, w'.heap[g5]? = W6.heap[g5]? → w'.cell? ⟨g5, 0, none⟩ = some (.int .i64 t.args[k].kind) ∧ w'.cell? ⟨g5, 1, none⟩ = some (.int .i64 t.args[k].n) ∧ w'.cell? ⟨g5, 2, none⟩ = some (.string t.args[k].name) ∧ w'.cell? ⟨g5, 3, none⟩ = some (.slice a' t.args[k].args.length cap')) := Lib.hid fun w' e => by
            have h := HF.out
            rw [← HG5.out] at h
            have h := h.heap e
            exact ⟨h.cell 0 _ rfl, h.cell 1 _ rfl, h.cell 2 _ rfl, h.cell 3 _ rfl⟩
          clear d0 d1 d2 d3
          refine rg_start (fun w' => w'.cell? ⟨g5, 0, none⟩ = some (.int .i64 t.args[k].kind) ∧ w'.cell? ⟨g5, 1, none⟩ = some (.int .i64 t.args[k].n) ∧ w'.cell? ⟨g5, 2, none⟩ = some (.string t.args[k].name) ∧ w'.cell? ⟨g5, 3, none⟩ = some (.slice a' t.args[k].args.length cap')) (by as_aux_lemma => kernel_rfl) (fun Wd h => HQ.out _ (h.block _ (by have := HG5.out; omega))) ?_
          intro Wd hB hWd hWd' hHeld
          have HBd := Lib.hid hB
          have HRd := Lib.hid (HR6.out.below hB)
          have HEd := Lib.hid (HE6.out.below hB)
          have Ed : Hid (Wd.heap[g5]? = W6.heap[g5]?) := Lib.hid (hB.block g5 (by have := HG5.out; omega))
          have bd := (HRd.out.bk (nb, [.int .i64 (1 + (t.args.length : Int)), .slice ak os.length ck]) (by simp)).1.cell 1 _ rfl
          clear hB
          refine rg_take (i := 0) (v := ?_) rfl (by as_aux_lemma => kernel_rfl) (by as_aux_lemma => kernel_rfl) (by as_aux_lemma => kernel_rfl) (by rfl) ?_ hHeld ?_
          rotate_left 1
          · intro w hSw; (try dsimp only at hSw); go_simp; try (with_reducible rfl)
          (try simp only [Act.put, List.setIfInBounds_toArray, List.set_cons_zero, List.set_cons_succ])
          refine rg_take (i := 1) (v := ?_) rfl (by as_aux_lemma => kernel_rfl) (by as_aux_lemma => kernel_rfl) (by as_aux_lemma => kernel_rfl) (by rfl) ?_ hHeld ?_
          rotate_left 1
          · intro w hSw; (try dsimp only at hSw); go_simp; try (with_reducible rfl)
          (try simp only [Act.put, List.setIfInBounds_toArray, List.set_cons_zero, List.set_cons_succ])
          refine rg_take (i := 2) (v := ?_) rfl (by as_aux_lemma => kernel_rfl) (by as_aux_lemma => kernel_rfl) (by as_aux_lemma => kernel_rfl) (by rfl) ?_ hHeld ?_
          rotate_left 1
          · intro w hSw; (try dsimp only at hSw); go_simp; try (with_reducible rfl)
          (try simp only [Act.put, List.setIfInBounds_toArray, List.set_cons_zero, List.set_cons_succ])
          refine rg_take (i := 3) (v := ?_) rfl (by as_aux_lemma => kernel_rfl) (by as_aux_lemma => kernel_rfl) (by as_aux_lemma => kernel_rfl) (by rfl) ?_ hHeld ?_
          rotate_left 1
          · intro w hSw; (try dsimp only at hSw); go_simp; try (with_reducible rfl)
          (try simp only [Act.put, List.setIfInBounds_toArray, List.set_cons_zero, List.set_cons_succ])
          refine rg_take (i := 5) (v := ?_) rfl (by as_aux_lemma => kernel_rfl) (by as_aux_lemma => kernel_rfl) (by as_aux_lemma => kernel_rfl) (by rfl) ?_ hHeld ?_
          rotate_left 1
          · intro w hSw; (try dsimp only at hSw); go_simp; try (with_reducible rfl)
          (try simp only [Act.put, List.setIfInBounds_toArray, List.set_cons_zero, List.set_cons_succ])
          refine rg_two (i := 4) (j := 6) rfl rfl (by as_aux_lemma => kernel_rfl) (by rfl) (by rfl) (fun K hK => ?_) (fun K hK => ?_)
          · skip
            go_simp
            skip
            refine hK.out _ _ (hHeld) (fun hHeld1 => ?_)
            clear hK K hHeld
            have hHeld := hHeld1
            clear hHeld1
            (try simp only [Act.put, List.setIfInBounds_toArray, List.set_cons_zero, List.set_cons_succ])
            refine rg_only (i := 6) rfl (by as_aux_lemma => kernel_rfl) (by rfl) (fun K hK => ?_)
            go_simp
            go_at_call 48
            refine (IH.out _ (List.getElem_mem hlt) _ _ _ Nk HEd.out (by omega)).mono ?_
            rintro e w1 ⟨hB1, o1, N1, rfl, hN1, hg1, hnd1, hno1⟩
            have HB1 := Lib.hid hB1; have HN1 := Lib.hid hN1; have HGR1 := Lib.hid hg1; have HND1 := Lib.hid hnd1; have HNO1 := Lib.hid hno1
            have HR1 := Lib.hid (HRd.out.belowP HB1.out)
            have b1 := (HR1.out.bk (nb, [.int .i64 (1 + (t.args.length : Int)), .slice ak os.length ck]) (by simp)).1.cell 1 _ rfl
            have hs1 := hB1.size
            have E1 : Hid (w1.heap[g5]? = W6.heap[g5]?) := Lib.hid ((HB1.out.block g5 (by have := HG5.out; omega)).trans Ed.out)
            clear hB1 hN1 hg1 hnd1 hno1
            refine hK.out _ _ (HQ.out _ E1.out) (fun hHeld1 => ?_)
            clear hK K hHeld
            have hHeld := hHeld1
            clear hHeld1
            (try simp only [Act.put, List.setIfInBounds_toArray, List.set_cons_zero, List.set_cons_succ])
            refine rg_only (i := 7) rfl (by as_aux_lemma => kernel_rfl) (by rfl) (fun K hK => ?_)
            refine buildN1 _ rfl (by rfl) ?_
            obtain ⟨g0, hg0⟩ : ∃ g, g = w1.heap.size := ⟨_, rfl⟩
            obtain ⟨w2, hw2⟩ : ∃ W : World, W = w1.alloc (.cells #[optr o1] 82) := ⟨_, rfl⟩
            rw [← hg0, ← hw2]
            have HR2 : Hid (RQ (fun b => Pk b ∨ (Wd.heap.size ≤ b ∧ b < w1.heap.size)) (fun _ => False) w [(g0, [optr o1]), (nb, [.int .i64 (1 + (t.args.length : Int)), .slice ak os.length ck])] w2 [rN (.slice ak os.length ck) os]) := Lib.hid (by rw [hw2]; exact HR1.out.alloc #[optr o1] _ hg0)
            have HB2 : Hid (Below w1.heap.size w1 w2) := Lib.hid (by rw [hw2]; exact below_alloc _ _)
            have b2 := (HR2.out.bk (nb, [.int .i64 (1 + (t.args.length : Int)), .slice ak os.length ck]) (by simp)).1.cell 1 _ rfl
            have hs2 := HB2.out.size
            have HG0 := Lib.hid hg0
            have E2 : Hid (w2.heap[g5]? = W6.heap[g5]?) := Lib.hid ((HB2.out.block g5 (by have := HG5.out; omega)).trans E1.out)
            clear hg0 hw2
            refine hK.out _ _ (HQ.out _ E2.out) (fun hHeld1 => ?_)
            clear hK K hHeld
            have hHeld := hHeld1
            clear hHeld1
            (try simp only [Act.put, List.setIfInBounds_toArray, List.set_cons_zero, List.set_cons_succ])
            refine rg_only (i := 8) rfl (by as_aux_lemma => kernel_rfl) (by rfl) (fun K hK => ?_)
            refine wp_growQ _ _ ptrF rfl [] [] (v := .slice ak os.length ck) (xs := os) (y := o1) (g0 := g0) (c := [optr o1]) (by rfl) (by rfl) HR2.out (by simp) rfl rfl (by have := HOL.out; omega) ?_
            intro gq oq cq w3 hR3 hg3
            have HR3 := Lib.hid hR3; have HG3 := Lib.hid hg3
            have hs3 := hg3.size
            have b3 := (HR3.out.bk (nb, [.int .i64 (1 + (t.args.length : Int)), .slice ak os.length ck]) (by simp)).1.cell 1 _ rfl
            have bf3 := (HR3.out.bk (nb, [.int .i64 (1 + (t.args.length : Int)), .slice ak os.length ck]) (by simp)).1.fr
            have E3 : Hid (w3.heap[g5]? = W6.heap[g5]?) := Lib.hid ((HG3.out.block g5 (by have := HG5.out; omega) fun e => by have := (HOG.out g5 e.symm).2; have := HG5.out; omega).trans E2.out)
            clear hR3 hg3
            refine hK.out _ _ (HQ.out _ E3.out) (fun hHeld1 => ?_)
            clear hK K hHeld
            have hHeld := hHeld1
            clear hHeld1
            (try simp only [Act.put, List.setIfInBounds_toArray, List.set_cons_zero, List.set_cons_succ])
            refine rg_take (i := 9) (v := ?_) rfl (by as_aux_lemma => kernel_rfl) (by as_aux_lemma => kernel_rfl) (by as_aux_lemma => kernel_rfl) (by rfl) ?_ hHeld ?_
            rotate_left 1
            · intro w hSw; (try dsimp only at hSw); go_simp; try (with_reducible rfl)
            (try simp only [Act.put, List.setIfInBounds_toArray, List.set_cons_zero, List.set_cons_succ])
            refine rg_take (i := 10) (v := ?_) rfl (by as_aux_lemma => kernel_rfl) (by as_aux_lemma => kernel_rfl) (by as_aux_lemma => kernel_rfl) (by rfl) ?_ hHeld ?_
            rotate_left 1
            · intro w hSw; (try dsimp only at hSw); go_simp; try (with_reducible rfl)
            (try simp only [Act.put, List.setIfInBounds_toArray, List.set_cons_zero, List.set_cons_succ])
            refine rg_only (i := 11) rfl (by as_aux_lemma => kernel_rfl) (by rfl) (fun K hK => ?_)
            go_simp
            skip
            refine hK.out _ _ (HQ.out _ ((setCell_other w3 nb 1 _ g5 (by have := HG5.out; have := HNBL.out.1; omega)).trans E3.out)) (fun hHeld1 => ?_)
            clear hK K hHeld
            have hHeld := hHeld1
            clear hHeld1
            (try simp only [Act.put, List.setIfInBounds_toArray, List.set_cons_zero, List.set_cons_succ])
            refine rg_done (by as_aux_lemma => kernel_rfl) ?_
            clear hHeld
            obtain ⟨w4, hw4⟩ : ∃ W : World, W = w3.setCell ⟨nb, 1, none⟩ (.slice (some ⟨gq, oq, none⟩) (os.length + 1) cq) := ⟨_, rfl⟩
            rw [← hw4]
            have HFIN : Hid (GrownI w nb N t.args (.int .i64 ((k + 1 : Nat) : Int)) w4) := Lib.hid (by
              have ho4 : ∀ b, b ≠ nb → w4.heap[b]? = w3.heap[b]? := fun b hb => by rw [hw4, setCell_other _ _ _ _ _ hb]
              refine grown_step (kv := .slice (some ⟨gq, oq, none⟩) (os.length + 1) cq) hlt HG.out HN0.out HND.out HNO.out HPK.out (by omega) HNBL.out.1 (below_step HB6.out (by omega) HBd.out) HB1.out HN1.out HGR1.out HND1.out HNO1.out ?_ ?_ ?_
              · intro b hb hl
                have h1 : b ≠ nb := fun e => by
                  rcases hb with hb | hb
                  · have := HPK.out b hb; omega
                  · have := HNBL.out.1; omega
                have h2 := HR2.out.pb b hb
                rw [ho4 b h1, HG3.out.block b (by omega) (fun e => h2.2.2 _ (List.mem_cons_self ..) e.symm), HB2.out.block b hl]
              · have h3 := HR3.out.sub (bs' := [(nb, [.int .i64 (1 + (t.args.length : Int)), .slice ak os.length ck])]) (by simp)
                have hb3 := (h3.bk _ (List.mem_cons_self ..)).1
                refine h3.swap (w' := w4) (by rw [hw4]; exact hb3.set 1 _ (by simp)) (by have := HNBL.out.2; omega) (fun hb => ?_) not_false (by simp) (by rw [hw4]; simp) ho4 (by rw [hw4]; exact h3.bel.setCell (show w.heap.size ≤ nb by have := HNBL.out.2; omega) _)
                rcases hb with hb | hb
                · have := HPK.out nb hb; omega
                · have := HNBL.out.1; omega
              · have hn := HNBL.out.1
                have h6 := HB6.out.size
                rw [hw4]
                exact (HIC.out.to (by rw [HG3.out.block nb (by omega) (fun e => HNO2.out e.symm), HB2.out.block nb (by omega), HB1.out.block nb (by omega), HBd.out.block nb (by omega), HB6.out.block nb (by omega)])).set 1 _)
            clear hw4
            go_wp2_with fail
            go_roundw
            case rel =>
              have h := HFIN.out
              rwa [Int.natCast_add] at h
            case measure => simp [intOf]; omega
          · skip
            go_simp
            go_at_call 48
            refine (IH.out _ (List.getElem_mem hlt) _ _ _ Nk HEd.out (by omega)).mono ?_
            rintro e w1 ⟨hB1, o1, N1, rfl, hN1, hg1, hnd1, hno1⟩
            have HB1 := Lib.hid hB1; have HN1 := Lib.hid hN1; have HGR1 := Lib.hid hg1; have HND1 := Lib.hid hnd1; have HNO1 := Lib.hid hno1
            have HR1 := Lib.hid (HRd.out.belowP HB1.out)
            have b1 := (HR1.out.bk (nb, [.int .i64 (1 + (t.args.length : Int)), .slice ak os.length ck]) (by simp)).1.cell 1 _ rfl
            have hs1 := hB1.size
            have E1 : Hid (w1.heap[g5]? = W6.heap[g5]?) := Lib.hid ((HB1.out.block g5 (by have := HG5.out; omega)).trans Ed.out)
            clear hB1 hN1 hg1 hnd1 hno1
            refine hK.out _ _ (HQ.out _ E1.out) (fun hHeld1 => ?_)
            clear hK K hHeld
            have hHeld := hHeld1
            clear hHeld1
            (try simp only [Act.put, List.setIfInBounds_toArray, List.set_cons_zero, List.set_cons_succ])
            refine rg_two (i := 4) (j := 7) rfl rfl (by as_aux_lemma => kernel_rfl) (by rfl) (by rfl) (fun K hK => ?_) (fun K hK => ?_)
            · skip
              go_simp
              skip
              refine hK.out _ _ (hHeld) (fun hHeld1 => ?_)
              clear hK K hHeld
              have hHeld := hHeld1
              clear hHeld1
              (try simp only [Act.put, List.setIfInBounds_toArray, List.set_cons_zero, List.set_cons_succ])
              refine rg_only (i := 7) rfl (by as_aux_lemma => kernel_rfl) (by rfl) (fun K hK => ?_)
              refine buildN1 _ rfl (by rfl) ?_
              obtain ⟨g0, hg0⟩ : ∃ g, g = w1.heap.size := ⟨_, rfl⟩
              obtain ⟨w2, hw2⟩ : ∃ W : World, W = w1.alloc (.cells #[optr o1] 82) := ⟨_, rfl⟩
              rw [← hg0, ← hw2]
              have HR2 : Hid (RQ (fun b => Pk b ∨ (Wd.heap.size ≤ b ∧ b < w1.heap.size)) (fun _ => False) w [(g0, [optr o1]), (nb, [.int .i64 (1 + (t.args.length : Int)), .slice ak os.length ck])] w2 [rN (.slice ak os.length ck) os]) := Lib.hid (by rw [hw2]; exact HR1.out.alloc #[optr o1] _ hg0)
              have HB2 : Hid (Below w1.heap.size w1 w2) := Lib.hid (by rw [hw2]; exact below_alloc _ _)
              have b2 := (HR2.out.bk (nb, [.int .i64 (1 + (t.args.length : Int)), .slice ak os.length ck]) (by simp)).1.cell 1 _ rfl
              have hs2 := HB2.out.size
              have HG0 := Lib.hid hg0
              have E2 : Hid (w2.heap[g5]? = W6.heap[g5]?) := Lib.hid ((HB2.out.block g5 (by have := HG5.out; omega)).trans E1.out)
              clear hg0 hw2
              refine hK.out _ _ (HQ.out _ E2.out) (fun hHeld1 => ?_)
              clear hK K hHeld
              have hHeld := hHeld1
              clear hHeld1
              (try simp only [Act.put, List.setIfInBounds_toArray, List.set_cons_zero, List.set_cons_succ])
              refine rg_only (i := 8) rfl (by as_aux_lemma => kernel_rfl) (by rfl) (fun K hK => ?_)
              refine wp_growQ _ _ ptrF rfl [] [] (v := .slice ak os.length ck) (xs := os) (y := o1) (g0 := g0) (c := [optr o1]) (by rfl) (by rfl) HR2.out (by simp) rfl rfl (by have := HOL.out; omega) ?_
              intro gq oq cq w3 hR3 hg3
              have HR3 := Lib.hid hR3; have HG3 := Lib.hid hg3
              have hs3 := hg3.size
              have b3 := (HR3.out.bk (nb, [.int .i64 (1 + (t.args.length : Int)), .slice ak os.length ck]) (by simp)).1.cell 1 _ rfl
              have bf3 := (HR3.out.bk (nb, [.int .i64 (1 + (t.args.length : Int)), .slice ak os.length ck]) (by simp)).1.fr
              have E3 : Hid (w3.heap[g5]? = W6.heap[g5]?) := Lib.hid ((HG3.out.block g5 (by have := HG5.out; omega) fun e => by have := (HOG.out g5 e.symm).2; have := HG5.out; omega).trans E2.out)
              clear hR3 hg3
              refine hK.out _ _ (HQ.out _ E3.out) (fun hHeld1 => ?_)
              clear hK K hHeld
              have hHeld := hHeld1
              clear hHeld1
              (try simp only [Act.put, List.setIfInBounds_toArray, List.set_cons_zero, List.set_cons_succ])
              refine rg_take (i := 9) (v := ?_) rfl (by as_aux_lemma => kernel_rfl) (by as_aux_lemma => kernel_rfl) (by as_aux_lemma => kernel_rfl) (by rfl) ?_ hHeld ?_
              rotate_left 1
              · intro w hSw; (try dsimp only at hSw); go_simp; try (with_reducible rfl)
              (try simp only [Act.put, List.setIfInBounds_toArray, List.set_cons_zero, List.set_cons_succ])
              refine rg_take (i := 10) (v := ?_) rfl (by as_aux_lemma => kernel_rfl) (by as_aux_lemma => kernel_rfl) (by as_aux_lemma => kernel_rfl) (by rfl) ?_ hHeld ?_
              rotate_left 1
              · intro w hSw; (try dsimp only at hSw); go_simp; try (with_reducible rfl)
              (try simp only [Act.put, List.setIfInBounds_toArray, List.set_cons_zero, List.set_cons_succ])
              refine rg_only (i := 11) rfl (by as_aux_lemma => kernel_rfl) (by rfl) (fun K hK => ?_)
              go_simp
              skip
              refine hK.out _ _ (HQ.out _ ((setCell_other w3 nb 1 _ g5 (by have := HG5.out; have := HNBL.out.1; omega)).trans E3.out)) (fun hHeld1 => ?_)
              clear hK K hHeld
              have hHeld := hHeld1
              clear hHeld1
              (try simp only [Act.put, List.setIfInBounds_toArray, List.set_cons_zero, List.set_cons_succ])
              refine rg_done (by as_aux_lemma => kernel_rfl) ?_
              clear hHeld
              obtain ⟨w4, hw4⟩ : ∃ W : World, W = w3.setCell ⟨nb, 1, none⟩ (.slice (some ⟨gq, oq, none⟩) (os.length + 1) cq) := ⟨_, rfl⟩
              rw [← hw4]
              have HFIN : Hid (GrownI w nb N t.args (.int .i64 ((k + 1 : Nat) : Int)) w4) := Lib.hid (by
                have ho4 : ∀ b, b ≠ nb → w4.heap[b]? = w3.heap[b]? := fun b hb => by rw [hw4, setCell_other _ _ _ _ _ hb]
                refine grown_step (kv := .slice (some ⟨gq, oq, none⟩) (os.length + 1) cq) hlt HG.out HN0.out HND.out HNO.out HPK.out (by omega) HNBL.out.1 (below_step HB6.out (by omega) HBd.out) HB1.out HN1.out HGR1.out HND1.out HNO1.out ?_ ?_ ?_
                · intro b hb hl
                  have h1 : b ≠ nb := fun e => by
                    rcases hb with hb | hb
                    · have := HPK.out b hb; omega
                    · have := HNBL.out.1; omega
                  have h2 := HR2.out.pb b hb
                  rw [ho4 b h1, HG3.out.block b (by omega) (fun e => h2.2.2 _ (List.mem_cons_self ..) e.symm), HB2.out.block b hl]
                · have h3 := HR3.out.sub (bs' := [(nb, [.int .i64 (1 + (t.args.length : Int)), .slice ak os.length ck])]) (by simp)
                  have hb3 := (h3.bk _ (List.mem_cons_self ..)).1
                  refine h3.swap (w' := w4) (by rw [hw4]; exact hb3.set 1 _ (by simp)) (by have := HNBL.out.2; omega) (fun hb => ?_) not_false (by simp) (by rw [hw4]; simp) ho4 (by rw [hw4]; exact h3.bel.setCell (show w.heap.size ≤ nb by have := HNBL.out.2; omega) _)
                  rcases hb with hb | hb
                  · have := HPK.out nb hb; omega
                  · have := HNBL.out.1; omega
                · have hn := HNBL.out.1
                  have h6 := HB6.out.size
                  rw [hw4]
                  exact (HIC.out.to (by rw [HG3.out.block nb (by omega) (fun e => HNO2.out e.symm), HB2.out.block nb (by omega), HB1.out.block nb (by omega), HBd.out.block nb (by omega), HB6.out.block nb (by omega)])).set 1 _)
              clear hw4
              go_wp2_with fail
              go_roundw
              case rel =>
                have h := HFIN.out
                rwa [Int.natCast_add] at h
              case measure => simp [intOf]; omega
            · skip
              refine buildN1 _ rfl (by rfl) ?_
              obtain ⟨g0, hg0⟩ : ∃ g, g = w1.heap.size := ⟨_, rfl⟩
              obtain ⟨w2, hw2⟩ : ∃ W : World, W = w1.alloc (.cells #[optr o1] 82) := ⟨_, rfl⟩
              rw [← hg0, ← hw2]
              have HR2 : Hid (RQ (fun b => Pk b ∨ (Wd.heap.size ≤ b ∧ b < w1.heap.size)) (fun _ => False) w [(g0, [optr o1]), (nb, [.int .i64 (1 + (t.args.length : Int)), .slice ak os.length ck])] w2 [rN (.slice ak os.length ck) os]) := Lib.hid (by rw [hw2]; exact HR1.out.alloc #[optr o1] _ hg0)
              have HB2 : Hid (Below w1.heap.size w1 w2) := Lib.hid (by rw [hw2]; exact below_alloc _ _)
              have b2 := (HR2.out.bk (nb, [.int .i64 (1 + (t.args.length : Int)), .slice ak os.length ck]) (by simp)).1.cell 1 _ rfl
              have hs2 := HB2.out.size
              have HG0 := Lib.hid hg0
              have E2 : Hid (w2.heap[g5]? = W6.heap[g5]?) := Lib.hid ((HB2.out.block g5 (by have := HG5.out; omega)).trans E1.out)
              clear hg0 hw2
              refine hK.out _ _ (HQ.out _ E2.out) (fun hHeld1 => ?_)
              clear hK K hHeld
              have hHeld := hHeld1
              clear hHeld1
              (try simp only [Act.put, List.setIfInBounds_toArray, List.set_cons_zero, List.set_cons_succ])
              refine rg_only (i := 4) rfl (by as_aux_lemma => kernel_rfl) (by rfl) (fun K hK => ?_)
              go_simp
              skip
              refine hK.out _ _ (hHeld) (fun hHeld1 => ?_)
              clear hK K hHeld
              have hHeld := hHeld1
              clear hHeld1
              (try simp only [Act.put, List.setIfInBounds_toArray, List.set_cons_zero, List.set_cons_succ])
              refine rg_only (i := 8) rfl (by as_aux_lemma => kernel_rfl) (by rfl) (fun K hK => ?_)
              refine wp_growQ _ _ ptrF rfl [] [] (v := .slice ak os.length ck) (xs := os) (y := o1) (g0 := g0) (c := [optr o1]) (by rfl) (by rfl) HR2.out (by simp) rfl rfl (by have := HOL.out; omega) ?_
              intro gq oq cq w3 hR3 hg3
              have HR3 := Lib.hid hR3; have HG3 := Lib.hid hg3
              have hs3 := hg3.size
              have b3 := (HR3.out.bk (nb, [.int .i64 (1 + (t.args.length : Int)), .slice ak os.length ck]) (by simp)).1.cell 1 _ rfl
              have bf3 := (HR3.out.bk (nb, [.int .i64 (1 + (t.args.length : Int)), .slice ak os.length ck]) (by simp)).1.fr
              have E3 : Hid (w3.heap[g5]? = W6.heap[g5]?) := Lib.hid ((HG3.out.block g5 (by have := HG5.out; omega) fun e => by have := (HOG.out g5 e.symm).2; have := HG5.out; omega).trans E2.out)
              clear hR3 hg3
              refine hK.out _ _ (HQ.out _ E3.out) (fun hHeld1 => ?_)
              clear hK K hHeld
              have hHeld := hHeld1
              clear hHeld1
              (try simp only [Act.put, List.setIfInBounds_toArray, List.set_cons_zero, List.set_cons_succ])
              refine rg_take (i := 9) (v := ?_) rfl (by as_aux_lemma => kernel_rfl) (by as_aux_lemma => kernel_rfl) (by as_aux_lemma => kernel_rfl) (by rfl) ?_ hHeld ?_
              rotate_left 1
              · intro w hSw; (try dsimp only at hSw); go_simp; try (with_reducible rfl)
              (try simp only [Act.put, List.setIfInBounds_toArray, List.set_cons_zero, List.set_cons_succ])
              refine rg_take (i := 10) (v := ?_) rfl (by as_aux_lemma => kernel_rfl) (by as_aux_lemma => kernel_rfl) (by as_aux_lemma => kernel_rfl) (by rfl) ?_ hHeld ?_
              rotate_left 1
              · intro w hSw; (try dsimp only at hSw); go_simp; try (with_reducible rfl)
              (try simp only [Act.put, List.setIfInBounds_toArray, List.set_cons_zero, List.set_cons_succ])
              refine rg_only (i := 11) rfl (by as_aux_lemma => kernel_rfl) (by rfl) (fun K hK => ?_)
              go_simp
              skip
              refine hK.out _ _ (HQ.out _ ((setCell_other w3 nb 1 _ g5 (by have := HG5.out; have := HNBL.out.1; omega)).trans E3.out)) (fun hHeld1 => ?_)
              clear hK K hHeld
              have hHeld := hHeld1
              clear hHeld1
              (try simp only [Act.put, List.setIfInBounds_toArray, List.set_cons_zero, List.set_cons_succ])
              refine rg_done (by as_aux_lemma => kernel_rfl) ?_
              clear hHeld
              obtain ⟨w4, hw4⟩ : ∃ W : World, W = w3.setCell ⟨nb, 1, none⟩ (.slice (some ⟨gq, oq, none⟩) (os.length + 1) cq) := ⟨_, rfl⟩
              rw [← hw4]
              have HFIN : Hid (GrownI w nb N t.args (.int .i64 ((k + 1 : Nat) : Int)) w4) := Lib.hid (by
                have ho4 : ∀ b, b ≠ nb → w4.heap[b]? = w3.heap[b]? := fun b hb => by rw [hw4, setCell_other _ _ _ _ _ hb]
                refine grown_step (kv := .slice (some ⟨gq, oq, none⟩) (os.length + 1) cq) hlt HG.out HN0.out HND.out HNO.out HPK.out (by omega) HNBL.out.1 (below_step HB6.out (by omega) HBd.out) HB1.out HN1.out HGR1.out HND1.out HNO1.out ?_ ?_ ?_
                · intro b hb hl
                  have h1 : b ≠ nb := fun e => by
                    rcases hb with hb | hb
                    · have := HPK.out b hb; omega
                    · have := HNBL.out.1; omega
                  have h2 := HR2.out.pb b hb
                  rw [ho4 b h1, HG3.out.block b (by omega) (fun e => h2.2.2 _ (List.mem_cons_self ..) e.symm), HB2.out.block b hl]
                · have h3 := HR3.out.sub (bs' := [(nb, [.int .i64 (1 + (t.args.length : Int)), .slice ak os.length ck])]) (by simp)
                  have hb3 := (h3.bk _ (List.mem_cons_self ..)).1
                  refine h3.swap (w' := w4) (by rw [hw4]; exact hb3.set 1 _ (by simp)) (by have := HNBL.out.2; omega) (fun hb => ?_) not_false (by simp) (by rw [hw4]; simp) ho4 (by rw [hw4]; exact h3.bel.setCell (show w.heap.size ≤ nb by have := HNBL.out.2; omega) _)
                  rcases hb with hb | hb
                  · have := HPK.out nb hb; omega
                  · have := HNBL.out.1; omega
                · have hn := HNBL.out.1
                  have h6 := HB6.out.size
                  rw [hw4]
                  exact (HIC.out.to (by rw [HG3.out.block nb (by omega) (fun e => HNO2.out e.symm), HB2.out.block nb (by omega), HB1.out.block nb (by omega), HBd.out.block nb (by omega), HB6.out.block nb (by omega)])).set 1 _)
              clear hw4
              go_wp2_with fail
              go_roundw
              case rel =>
                have h := HFIN.out
                rwa [Int.natCast_add] at h
              case measure => simp [intOf]; omega
        · have hkk : k = t.args.length := by omega
          subst hkk
          go_wp2_with fail
          go_ret
          rw [List.take_length] at HG HND HNO
          refine grown_end HK4.out HG.out HN0.out HND.out HNO.out HPK.out HRQ.out HIC.out ?_ rfl
          have := HS0.out; have := HNB.out; omega
end Go.Proofs.Ytedfepnekjjmnaa
