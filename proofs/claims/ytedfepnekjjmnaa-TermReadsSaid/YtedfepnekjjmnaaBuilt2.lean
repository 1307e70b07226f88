/-
  clerkref.built: the term that begins at a word, leaf or tuple. Condition: the words build one; bounds.
-/
import Derived.Test.YtedfepnekjjmnaaBuilt
import Derived.Test.YtedfepnekjjmnaaGrow
namespace Go.Proofs.Ytedfepnekjjmnaa
open Go.RowKit
set_option linter.unusedSimpArgs false
set_option linter.unusedVariables false
set_option maxRecDepth 100000

def BuiltC (ws : List ByteArray) (i : Nat) (t : T) (m : Nat) : Prop := ∀ (S : Nat → Prop) (w : World) (v : Value), RS S w ws v → (∀ b, S b → b < w.heap.size) →
  Calls Try.prog 68 #[v, .int .i64 i] w fun e w' => ∃ v', e = .returned (.tuple #[v', .int .i64 m]) ∧ Below w.heap.size w w' ∧ RT (fun b => w.heap.size ≤ b) w' t v'
/-- Terms that begin at a word, one behind the other, up to a closing bracket. -/
def Pok (ws : List ByteArray) : Nat → List T → Nat → Prop
  | i, [], j => i = j ∧ ∃ h : i < ws.length, tokB ws[i] = .cl
  | i, t :: us, j => (∃ h : i < ws.length, tokB ws[i] ≠ .cl) ∧ ∃ m, i < m ∧ m ≤ ws.length ∧ BuiltC ws i t m ∧ Pok ws m us j
theorem Pok.le {ws : List ByteArray} : ∀ {us : List T} {i j : Nat}, Pok ws i us j → i ≤ j ∧ j < ws.length
  | [], i, j, ⟨h, h', _⟩ => by omega
  | t :: us, i, j, ⟨_, m, h1, _, _, h2⟩ => by have := Pok.le h2; omega
theorem tokB_op {w : ByteArray} (h : tokB w = .op) : (w.toList == [40]) = true := by
  unfold tokB at h
  split at h
  · assumption
  split at h <;> cases h
theorem tokB_cl {w : ByteArray} (h : tokB w = .cl) : (w.toList == [40]) = false ∧ (w.toList == [41]) = true := by
  unfold tokB at h
  split at h
  · cases h
  rename_i h1
  split at h
  · rename_i h2; exact ⟨by simpa using h1, h2⟩
  · cases h
theorem tokB_ncl {w : ByteArray} (h : tokB w ≠ .cl) : (w.toList == [41]) = false := by
  cases e : (w.toList == [41])
  · rfl
  · refine absurd ?_ h
    unfold tokB
    rw [if_neg (by have := eq_of_beq e; rw [this]; decide), if_pos e]

set_option maxHeartbeats 4000000 in
theorem built_tup (ws : List ByteArray) (hl : ws.length ≤ 1048576) (i j : Nat) (us : List T) (hi : i < ws.length) (hop : tokB ws[i] = .op) (hp : Pok ws (i + 1) us j) : BuiltC ws i (tupT us) (j + 1) := by
  intro S w v hv hS
  obtain ⟨a, cap, rfl⟩ := hv.form
  obtain ⟨b, o, rfl⟩ := hv.addr (by omega)
  have HV := Lib.hid hv
  obtain ⟨hSb, hc⟩ := hv.elem i hi
  have h1 := tokB_op hop
  have hlb := hS b hSb
  have hii : (i : Int) < ws.length := by omega
  have hjl := hp.le.2
  have HP := Lib.hid hp
  have HS := Lib.hid hS
  clear hv hop hp hS
  generalize ws[i] = x at *
  have HB0 := Lib.hid ((below_alloc w (.cells #[.int .i64 0, .int .i64 0, .string ⟨#[]⟩, .slice none 0 0] 29)).alloc (by simp) (.cells #[.int .i64 4, .int .i64 0, .string ⟨#[]⟩, .slice none 0 0] 29))
  go_enter Try.func68, Try.ntmps68
  go_wp2_with fail
  go_loopw [1] (fun i wr => ∃ (k : Nat) (us1 us2 : List T) (row : Value), us = us1 ++ us2 ∧ us1.length ≤ k ∧ k ≤ j ∧ i = .int .i64 k ∧ Pok ws k us2 j ∧ OwnG (fun b => w.heap.size + 2 ≤ b) (w.heap.size + 2) wr row us1 ∧
      Below (w.heap.size + 1) ((w.alloc (.cells #[.int .i64 0, .int .i64 0, .string ⟨#[]⟩, .slice none 0 0] 29)).alloc (.cells #[.int .i64 4, .int .i64 0, .string ⟨#[]⟩, .slice none 0 0] 29)) wr ∧
      Box wr (w.heap.size + 1) (.int .i64 4) (.int .i64 0) (.string ⟨#[]⟩) row ∧ ∀ o, wr.frozen? ⟨w.heap.size + 1, o, none⟩ = false) (fun i _ => ws.length - (intOf i).toNat)
  case atStart => exact ⟨i + 1, [], us, _, rfl, Nat.zero_le _, HP.out.le.1, by go_num, HP.out, OwnG.nil _ _ _, Below.refl _ _, Box.new' _ _ _ _ _ _ _ (by simp), fun o => by go_simp⟩
  case round =>
    obtain ⟨k, us1, us2, row, hus, hkl, hkj, rfl, hP, hT, hB, ⟨f0, f1, f2, f3⟩, hf8⟩ := hrel
    have hsz := hB.size
    simp only [World.size_alloc] at hsz
    have HT := Lib.hid hT; clear hT
    have HBr : Hid (Below w.heap.size w wr) := Lib.hid (HB0.out.trans (hB.mono (by omega)))
    have HU := Lib.hid hus; clear hus
    have hkl' : k < ws.length := by omega
    obtain ⟨hSk, hck⟩ := HV.out.elem k hkl'
    have hcw : wr.cell? ⟨b, o + k, none⟩ = some (.string ws[k]) := by rw [HBr.out.cell (p := ⟨b, o + k, none⟩) hlb]; exact hck
    have hik : (k : Int) < ws.length := by omega
    cases us2 with
    | nil =>
      obtain ⟨hkj', hkl2, hcl⟩ := hP
      subst hkj'
      have h41 : (ws[k].toList == [41]) = true := (tokB_cl hcl).2
      clear hcl
      generalize ws[k] = y at *
      obtain ⟨ar, capr, hrow, hcr, hrr⟩ := HT.out.rsl (P := fun b => w.heap.size + 2 ≤ b) (fun b hb => hb)
      subst hrow
      have hrr := Lib.hid hrr
      have z4 : wr.cell? ⟨w.heap.size, 0, none⟩ = some (.int .i64 0) ∧ wr.cell? ⟨w.heap.size, 1, none⟩ = some (.int .i64 0) ∧ wr.cell? ⟨w.heap.size, 2, none⟩ = some (.string ⟨#[]⟩) ∧ wr.cell? ⟨w.heap.size, 3, none⟩ = some (.slice none 0 0) := by
        have q := fun o => hB.cell (p := ⟨w.heap.size, o, none⟩) (by show w.heap.size < _; omega)
        rw [q, q, q, q]; go_simp
      have z5 : ∀ o, wr.frozen? ⟨w.heap.size, o, none⟩ = false := fun o => by
        rw [hB.frozen (p := ⟨w.heap.size, o, none⟩) (by show w.heap.size < _; omega)]; go_simp
      obtain ⟨z0, z1, z2, z3⟩ := z4
      clear hB
      go_wp2_with fail
      refine bodyPost_ret (v := .tuple #[.agg #[.int .i64 4, .int .i64 0, .string ⟨#[]⟩, .slice ar us1.length capr], .int .i64 (k + 1)]) (by simp [results, Try.results68, go_sem, z0, z1, z2, z3]) rfl ⟨_, rfl, ?_, ?_⟩
      · repeat refine Below.setCell ?_ (by simp <;> omega) _
        exact HBr.out
      · rw [HU.out, List.append_nil]
        refine ⟨ar, capr, rfl, hcr, hrr.out.to (fun b hb _ => by omega) fun b hb _ => ?_⟩
        have hn1 : b ≠ w.heap.size := by omega
        simp only [setCell_other _ _ _ _ _ hn1]
    | cons t us2 =>
      obtain ⟨⟨hkl2, hncl⟩, m, hkm, hm, hC, hP⟩ := hP
      have h41 : (ws[k].toList == [41]) = false := tokB_ncl hncl
      have HC := Lib.hid hC
      have HP2 := Lib.hid hP
      clear hncl hC hP
      generalize ws[k] = y at *
      have HB1 := Lib.hid (below_alloc wr (.cells #[.int .i64 0, .int .i64 0, .string ⟨#[]⟩, .slice none 0 0] 29))
      go_wp2_with fail
      refine (HC.out S _ _ ((HV.out.below HBr.out).below HB1.out) (fun b hb => by have := HS.out b hb; simp; omega)).mono ?_
      rintro e w1 ⟨v1, rfl, hB1, a1, cap1, rfl, hc1, hr1⟩
      have hs1 := hB1.size
      simp only [World.size_alloc] at hs1 hr1
      have HR1 : Hid (RT (fun b => wr.heap.size + 1 ≤ b) w1 t (.agg #[.int .i64 t.kind, .int .i64 t.n, .string t.name, .slice a1 t.args.length cap1])) := Lib.hid ⟨a1, cap1, rfl, hc1, hr1⟩
      have hz3 : w.heap.size + 1 < wr.heap.size := by omega
      have HX1 : Box w1 wr.heap.size (.int .i64 0) (.int .i64 0) (.string ⟨#[]⟩) (.slice none 0 0) := (Box.new wr _ _ _ _ 29).step hB1
      have hfx : ∀ o, w1.frozen? ⟨wr.heap.size, o, none⟩ = false := fun o => by rw [hB1.frozen (p := ⟨wr.heap.size, o, none⟩) (by simp)]; go_simp
      have HB2 := Lib.hid (HB1.out.trans (hB1.mono (by simp)))
      have HT2 := Lib.hid (HT.out.below HB2.out)
      have HF1 : Box w1 (w.heap.size + 1) (.int .i64 4) (.int .i64 0) (.string ⟨#[]⟩) row := Box.step ⟨f0, f1, f2, f3⟩ HB2.out
      have hff : ∀ o, w1.frozen? ⟨w.heap.size + 1, o, none⟩ = false := fun o => (HB2.out.frozen (p := ⟨w.heap.size + 1, o, none⟩) hz3).trans (hf8 o)
      obtain ⟨x0, x1, x2, x3⟩ := HX1
      obtain ⟨y0, y1, y2, y3⟩ := HF1
      have HB := Lib.hid hB
      clear hB1 hr1 hc1 hB f0 f1 f2 f3 hf8 hck hcw hc
      have hz2 : wr.heap.size < w1.heap.size := by omega
      have hz1 : w.heap.size + 1 < w1.heap.size := by omega
      have hz4 : w.heap.size + 1 ≠ wr.heap.size := by omega
      have hz5 : wr.heap.size ≠ w.heap.size + 1 := by omega
      obtain ⟨W1, hW1⟩ : ∃ W : World, W = (((w1.setCell ⟨wr.heap.size, 0, none⟩ (.int .i64 t.kind)).setCell ⟨wr.heap.size, 1, none⟩ (.int .i64 t.n)).setCell ⟨wr.heap.size, 2, none⟩ (.string t.name)).setCell ⟨wr.heap.size, 3, none⟩ (.slice a1 t.args.length cap1) := ⟨_, rfl⟩
      have hsW : W1.heap.size = w1.heap.size := by rw [hW1]; simp
      have hoW : ∀ b, b ≠ wr.heap.size → W1.heap[b]? = w1.heap[b]? := fun b hb => by rw [hW1]; simp only [setCell_other _ _ _ _ _ hb]
      have HT3 : Hid (OwnG (fun b => w.heap.size + 2 ≤ b) (w.heap.size + 2) W1 row us1) := Lib.hid (HT.out.to (by omega) fun b _ hl => by rw [hoW b (by omega)]; exact HB2.out.block b hl)
      have HR3 : Hid (RT (fun b => wr.heap.size + 1 ≤ b) W1 t (.agg #[.int .i64 t.kind, .int .i64 t.n, .string t.name, .slice a1 t.args.length cap1])) := Lib.hid (HR1.out.to (fun _ h _ => h) fun b hb _ => hoW b (by omega))
      have HB3 : Hid (Below (w.heap.size + 1) _ W1) := Lib.hid (HB.out.trans (show Below (w.heap.size + 1) wr W1 from by have h := st4_below (o := 0) (c0 := .int .i64 t.kind) (c1 := .int .i64 t.n) (c2 := .string t.name) (c3 := .slice a1 t.args.length cap1) (HB2.out.mono (show w.heap.size + 1 ≤ wr.heap.size by omega)) (show w.heap.size + 1 ≤ wr.heap.size by omega); rw [hW1]; exact h))
      have HY3 : Hid (Box W1 (w.heap.size + 1) (.int .i64 4) (.int .i64 0) (.string ⟨#[]⟩) row) := Lib.hid (by
        have e : ∀ o, W1.cell? ⟨w.heap.size + 1, o, none⟩ = w1.cell? ⟨w.heap.size + 1, o, none⟩ := fun o => World.cell?_of_block (w := w1) (hoW _ hz4)
        exact ⟨by rw [e]; exact y0, by rw [e]; exact y1, by rw [e]; exact y2, by rw [e]; exact y3⟩)
      have HF3 : Hid (∀ o, W1.frozen? ⟨w.heap.size + 1, o, none⟩ = false) := Lib.hid fun o => (World.frozen?_of_block (w := w1) (hoW _ hz4)).trans (hff o)
      have HW1 := Lib.hid hW1
      have HOW := Lib.hid hoW
      clear hoW hW1
      have hbl := Lib.hid HT.out.block
      go_wp2_with (first | (at_builtin; rw [← HW1.out]; refine append_grow' _ _ rfl rfl rfl rfl hsW.symm HT3.out HR3.out (fun b hb hl => ⟨by omega, fun e => by have := hbl.out b e; omega⟩) (by omega) (by omega) ?_; intro v6 w6 hO6 hB6 hv6; obtain ⟨a6, c6, rfl⟩ := hO6.form; have hs6 := hB6.size; have HO6 := Lib.hid hO6; have HB6 := Lib.hid hB6; clear hO6 hB6 hv6; have g0 := (HB6.out.cell (p := ⟨w.heap.size + 1, 0, none⟩) (by show w.heap.size + 1 < _; omega)).trans HY3.out.1; have g1 := (HB6.out.cell (p := ⟨w.heap.size + 1, 1, none⟩) (by show w.heap.size + 1 < _; omega)).trans HY3.out.2.1; have g2 := (HB6.out.cell (p := ⟨w.heap.size + 1, 2, none⟩) (by show w.heap.size + 1 < _; omega)).trans HY3.out.2.2.1; have g3 := (HB6.out.cell (p := ⟨w.heap.size + 1, 3, none⟩) (by show w.heap.size + 1 < _; omega)).trans HY3.out.2.2.2; have gf : ∀ o, w6.frozen? ⟨w.heap.size + 1, o, none⟩ = false := (fun o => (HB6.out.frozen (p := ⟨w.heap.size + 1, o, none⟩) (by show w.heap.size + 1 < _; omega)).trans (HF3.out o))))
      go_roundw
      case rel =>
        have hmj := (HP2.out.le).1
        refine ⟨m, us1 ++ [t], us2, _, by rw [HU.out]; simp, by simp; omega, hmj, rfl, HP2.out, HO6.out.setCell _ _ _ (by omega) (by omega), Below.setCell (HB3.out.trans (HB6.out.mono (by omega))) (Nat.le_refl _) _, ⟨by go_simp, by go_simp, by go_simp, by go_simp⟩, fun o => by go_simp⟩
      case measure => simp [intOf]; omega

theorem bp_built (ws : List ByteArray) (hl : ws.length ≤ 1048576) (hw : ∀ x ∈ ws, 0 < x.size ∧ x.size ≤ 1048576) : ∀ {c : Bool} {l : List Tok} {us : List T} {r : List Tok}, BP c l us r → ∀ i, l = (ws.map tokB).drop i →
    (c = false → ∃ (h : i < ws.length) (t : T) (m : Nat), us = [t] ∧ tokB ws[i] ≠ .cl ∧ i < m ∧ m ≤ ws.length ∧ r = (ws.map tokB).drop m ∧ BuiltC ws i t m) ∧
    (c = true → ∃ j, Pok ws i us j ∧ r = (ws.map tokB).drop (j + 1)) := by
  have hd : ∀ (i : Nat) (k : Tok) (l : List Tok), k :: l = (ws.map tokB).drop i → ∃ h : i < ws.length, tokB ws[i] = k ∧ l = (ws.map tokB).drop (i + 1) := by
    intro i k l e
    have hi : i < ws.length := by
      rcases Nat.lt_or_ge i ws.length with h | h
      · exact h
      · rw [List.drop_eq_nil_of_le (by simpa using h)] at e; cases e
    rw [List.drop_eq_getElem_cons (by simpa using hi)] at e
    simp only [List.getElem_map, List.cons.injEq] at e
    exact ⟨hi, e.1.symm, e.2⟩
  intro c l us r h
  induction h with
  | leaf t r =>
    intro i e
    obtain ⟨hi, h1, h2⟩ := hd i _ _ e
    refine ⟨fun _ => ⟨hi, t, i + 1, rfl, by rw [h1]; simp, by omega, hi, h2, fun S w v hv hS => ?_⟩, fun h => by cases h⟩
    have hx := hw ws[i] (List.getElem_mem hi)
    exact built_leaf ws i t S w v hv hS hi hl hx.1 hx.2 h1
  | tup hb ih =>
    intro i e
    obtain ⟨hi, h1, h2⟩ := hd i _ _ e
    obtain ⟨j, hp, hr⟩ := (ih (i + 1) h2).2 rfl
    exact ⟨fun _ => ⟨hi, _, j + 1, rfl, by rw [h1]; simp, by have := hp.le; omega, hp.le.2, hr, built_tup ws hl i j _ hi h1 hp⟩, fun h => by cases h⟩
  | nil r =>
    intro i e
    obtain ⟨hi, h1, h2⟩ := hd i _ _ e
    exact ⟨(fun h => by cases h), fun _ => ⟨i, ⟨rfl, hi, h1⟩, h2⟩⟩
  | cons hb hk ih1 ih2 =>
    intro i e
    obtain ⟨hi, t, m, e1, h1, h2, h3, h4, h5⟩ := (ih1 i e).1 rfl
    simp only [List.cons.injEq, and_true] at e1
    subst e1
    obtain ⟨j, hp, hr⟩ := (ih2 m h4).2 rfl
    exact ⟨(fun h => by cases h), fun _ => ⟨j, ⟨⟨hi, h1⟩, m, h2, h3, h5, hp⟩, hr⟩⟩
theorem built_c (ws : List ByteArray) (hl : ws.length ≤ 1048576) (hw : ∀ x ∈ ws, 0 < x.size ∧ x.size ≤ 1048576) (t : T) (h : Built (ws.map tokB) t []) : ∃ m, BuiltC ws 0 t m := by
  obtain ⟨_, t', m, e, _, _, _, _, hb⟩ := (bp_built ws hl hw h 0 (by simp)).1 rfl
  simp only [List.cons.injEq, and_true] at e
  subst e
  exact ⟨m, hb⟩
end Go.Proofs.Ytedfepnekjjmnaa
