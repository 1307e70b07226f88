/-
  clerkkeep.put: what is bound, put into a pattern. Conditions: a formed pattern, four bound ones, a bound on how much there is.
-/
import Derived.Test.YtedfepnekjjmnaaBindP
import Derived.Test.YtedfepnekjjmnaaGrow
import Derived.Test.YtedfepnekjjmnaaBox
import Derived.Test.YtedfepnekjjmnaaOwn
import Derived.Deep.AppendLies
import Derived.Deep.RegionLaw
namespace Go.Proofs.Ytedfepnekjjmnaa
open Go.RowKit
set_option linter.unusedSimpArgs false
set_option linter.unusedVariables false
set_option maxRecDepth 100000

section
variable {ops : Array Oper} {o : Oper} {a : Act} {Q : Exit → Act → World → Prop}
/-- 'append(s, x)' at a step of a region that draws its order. -/
theorem step_grow {K : Act → World → Prop} {E : Prop} (s x : Operand) (hgd : o.guard = none) (ho : o.op = .call { callee := .builtin .append, args := #[s, x], argTypes := #[27, 27] })
    {P R : Nat → Prop} {base : Nat} {w0 : World} {v : Value} {ts : List T} {t : T} {c0 c1 c2 c3 : Value} {g0 n : Nat} (hs : a.eval s = v) (hx : a.eval x = .slice (some ⟨g0, 0, none⟩) 1 1) (hg0 : g0 = w0.heap.size) (hown : OwnG P base w0 v ts)
    (ht : RT R w0 t (.agg #[c0, c1, c2, c3])) (hR : ∀ b, R b → b < w0.heap.size → P b ∧ v.ownBlock ≠ some b) (hnl : ts.length = n) (hn : n + 1 ≤ 1099511627776) (hbase : base ≤ w0.heap.size)
    (h : ∀ g cap w', OwnG P base w' (.slice (some ⟨g, 0, none⟩) (n + 1) cap) (ts ++ [t]) → (w0.alloc (.cells #[c0, c1, c2, c3] 29)).grownBy w' v.ownBlock → Below base w0 w' → K (a.put o.dst (.slice (some ⟨g, 0, none⟩) (n + 1) cap)) w') :
    if Region.wanted o (yielded ops a.tmps) = true then Oper.wp Try.prog o a (w0.alloc (.cells #[c0, c1, c2, c3] 29)) K Q else E := by
  subst hg0 hnl
  have hlt := hown.block
  obtain ⟨i, hi, hz0, hz1, hz2⟩ := info_parts info29
  have hown1 : OwnT (fun b => P b ∧ b < w0.heap.size ∧ v.ownBlock ≠ some b) base (w0.alloc (.cells #[c0, c1, c2, c3] 29)) v ts := OwnT.to hown (Nat.le_refl _) (fun _ h _ => h) fun b _ hb => Below.heap_alloc _ _ _ hb
  have hl := (ht.to (S' := fun b => P b ∧ b < w0.heap.size ∧ v.ownBlock ≠ some b) (fun b hb hl => ⟨(hR b hb hl).1, hl, (hR b hb hl).2⟩) fun _ _ _ => rfl).one 29
  obtain ⟨cs, ho1, hC⟩ := hown1
  obtain ⟨au, cap, ds, e, hcap, hD, hj⟩ := hl
  simp only [Value.slice.injEq] at e
  obtain ⟨rfl, -, rfl⟩ := e
  refine step_append_lies _ hgd s x 27 ho base 29 i _ 4 56 Try.underlying27 hi hz0 hz1 hz2 rfl (by decide) v _ cs hs ho1 ⟨w0.heap.size, 0, none⟩ 1 1 ds hx (by simpa using hD.length) ?_ hD.oneCell (by decide) (by unfold maxLen; omega) (by omega) (by simp; omega) _ rfl ?_
  · intro j u' hu
    obtain ⟨b, o', e, _, hc⟩ := hj j u' hu
    simp only [Option.some.injEq] at e
    rw [e]
    unfold Addr.add
    split
    · rename_i h0; subst h0; exact hc
    · exact hc
  · intro g cap w' h1 h2 h3 h4
    have h2s := h2.size
    simp only [World.size_alloc] at h2s h3
    have hblk : ∀ b, (P b ∧ b < w0.heap.size ∧ v.ownBlock ≠ some b) → b < (w0.alloc (.cells #[c0, c1, c2, c3] 29)).heap.size → w'.heap[b]? = (w0.alloc (.cells #[c0, c1, c2, c3] 29)).heap[b]? := fun b hb hlt => h2.block b hlt (fun e => hb.2.2 e.symm)
    have hO : OwnT (fun b => P b ∧ b < w0.heap.size ∧ v.ownBlock ≠ some b) base w' (.slice (some ⟨g, 0, none⟩) (ts.length + 1) cap) (ts ++ [t]) := ⟨cs ++ ds, by simpa using h1, (hC.to (fun _ h _ => h) hblk).append (hD.to (fun _ h _ => h) hblk)⟩
    refine h g cap w' (hO.to (Nat.le_refl _) (fun b hb _ => ⟨hb.1, by have := hb.2.1; omega, fun e => ?_⟩) fun _ _ _ => rfl) h2 ?_
    · simp only [Value.ownBlock, Option.some.injEq] at e
      subst e
      rcases h3 with h5 | h5
      · exact hb.2.2 h5
      · have := hb.2.1; omega
    · exact grown_below ((Below.refl _ _).alloc hbase _) h2 (by simp; omega) fun b hb => (hlt b hb).1
end
theorem grown_box {w0 w' : World} {ob : Option Nat} {B : Nat} {c0 c1 c2 c3 : Value} (h : Box w0 B c0 c1 c2 c3) (hg : w0.grownBy w' ob) (hB : ob ≠ some B) : Box w' B c0 c1 c2 c3 := by
  have hl := h.lt
  have e : ∀ o, w'.cell? ⟨B, o, none⟩ = w0.cell? ⟨B, o, none⟩ := fun o => World.cell?_of_block (w := w0) (hg.block B hl (fun e => hB e.symm))
  exact ⟨by rw [e]; exact h.1, by rw [e]; exact h.2.1, by rw [e]; exact h.2.2.1, by rw [e]; exact h.2.2.2⟩

set_option maxHeartbeats 4000000 in
theorem kput_c (bd : List T) (hl4 : bd.length = 4) : ∀ (x : T) (S : Nat → Prop) (w : World) (v vb : Value), RT S w x v → RSl S w bd vb → (∀ b, S b → b < w.heap.size) → bulkL [x] ≤ 1099511627776 → formL [x] = true →
    Calls Try.prog 45 #[v, vb] w fun e w' => ∃ v', e = .returned v' ∧ Below w.heap.size w w' ∧ RT (fun b => S b ∨ w.heap.size ≤ b) w' (bindT bd x) v' := by
  intro x
  induction x using T.ind with
  | h x ih =>
    intro S w v vb hv hbd hS hb hf
    obtain ⟨a, cap, rfl, hcap, hr⟩ := hv
    by_cases h5 : x.kind = 5
    · obtain ⟨k, hk, hk4⟩ := form_var hf h5
      have hkl : k < bd.length := by omega
      have HV := Lib.hid (bindT_5 (b := bd) h5 hk hkl)
      obtain ⟨ab, capb, rfl, hcb, hrb⟩ := hbd
      obtain ⟨b, o, rfl⟩ := hrb.addr (by omega)
      obtain ⟨a', cap', hSb, d0, d1, d2, d3, hE⟩ := hrb.elem k hkl
      have hlb : b < w.heap.size := hS b hSb
      have hE := Lib.hid hE
      have hkb : (k : Int) < bd.length := by omega
      have hk5 : (x.kind == 5) = true := by simpa using h5
      rw [hk]
      clear hcap hr hcb hrb hk ih
      generalize bd[k] = u at *
      go_enter Try.func45, Try.ntmps45
      go_wp2_with fail
      refine bodyPost_ret (v := .agg #[.int .i64 u.kind, .int .i64 u.n, .string u.name, .slice a' u.args.length cap']) (by simp [results, Try.results45, go_sem]) rfl ⟨_, rfl, ?_, ?_⟩
      · first | done | (repeat refine Below.setCell ?_ (by simp <;> omega) _); exact (below_alloc _ _).alloc (by simp) _
      · rw [HV.out]
        refine RT.mono (S := S) ?_ fun b hb => .inl hb
        repeat refine RT.slot ?_ _ _ _ (fun b hb => by have := hS b hb; simp <;> omega)
        exact ((hE.out.alloc _).alloc _)
    · have HV := Lib.hid (bindT_o (b := bd) h5)
      have HBM := Lib.hid (bindL_map bd x.args)
      have hk5 : (x.kind == 5) = false := by simpa using h5
      have hba := bulk_args x
      have hla := length_le_bulk x.args
      have HX : Hid (RT S w x _) := Lib.hid ⟨a, cap, rfl, hcap, hr⟩
      have HR := Lib.hid hr
      have HBD := Lib.hid hbd
      have HF := Lib.hid hf
      have IH := Lib.hid ih
      have HS := Lib.hid hS
      clear ih hcap hr hbd hf h5 hS
      have HB0 := Lib.hid (((below_alloc w (.cells #[.int .i64 x.kind, .int .i64 x.n, .string x.name, .slice a x.args.length cap] 29)).alloc (by simp) (.cells #[.int .i64 0, .int .i64 0, .string ⟨#[]⟩, .slice none 0 0] 29)).alloc (by simp <;> omega) (.cells #[.int .i64 x.kind, .int .i64 x.n, .string x.name, .slice none 0 0] 29))
      go_enter Try.func45, Try.ntmps45
      go_wp2_with fail
      go_loopw [26] (fun i wr => ∃ (k : Nat) (row : Value), k ≤ x.args.length ∧ i = .int .i64 k ∧ OwnG (fun b => S b ∨ w.heap.size + 3 ≤ b) (w.heap.size + 3) wr row (bindL bd (x.args.take k)) ∧ w.heap.size + 3 ≤ wr.heap.size ∧
        Below (w.heap.size + 1 + 1) (((w.alloc (.cells #[.int .i64 x.kind, .int .i64 x.n, .string x.name, .slice a x.args.length cap] 29)).alloc (.cells #[.int .i64 0, .int .i64 0, .string ⟨#[]⟩, .slice none 0 0] 29)).alloc (.cells #[.int .i64 x.kind, .int .i64 x.n, .string x.name, .slice none 0 0] 29)) wr ∧
        Box wr (w.heap.size + 1 + 1) (.int .i64 x.kind) (.int .i64 x.n) (.string x.name) row ∧ ∀ o, wr.frozen? ⟨w.heap.size + 1 + 1, o, none⟩ = false) (fun i _ => x.args.length - (intOf i).toNat)
      case atStart => exact ⟨0, _, Nat.zero_le _, rfl, by rw [List.take_zero, bindL_nil]; exact OwnG.nil _ _ _, by simp, Below.refl _ _, Box.new' _ _ _ _ _ _ _ (by simp), fun o => by go_simp⟩
      case round =>
        obtain ⟨k, row, hkl, rfl, hT, hsz, hB, ⟨f0, f1, f2, f3⟩, hf8⟩ := hrel
        have HT := Lib.hid hT; clear hT
        have HBr : Hid (Below w.heap.size w wr) := Lib.hid (HB0.out.trans (hB.mono (by omega)))
        have hbx : wr.cell? ⟨w.heap.size, 3, none⟩ = some (.slice a x.args.length cap) := by rw [hB.cell (p := ⟨w.heap.size, 3, none⟩) (by show w.heap.size < _; omega)]; go_simp
        by_cases hlt : k < x.args.length
        · obtain ⟨b, o, rfl⟩ := HR.out.addr (by omega)
          obtain ⟨a', cap', hSb, d0, d1, d2, d3, hE⟩ := (HR.out.below HBr.out).elem k hlt
          have hE := Lib.hid hE
          have hlb : b < w.heap.size := HS.out b hSb
          have hbk := bulk_at hlt
          have HIH := Lib.hid (IH.out _ (List.getElem_mem hlt))
          have HFY := Lib.hid (form_args HF.out (List.getElem_mem hlt))
          have HSN : Hid (bindL bd (x.args.take (k + 1)) = bindL bd (x.args.take k) ++ [bindT bd x.args[k]]) := Lib.hid (by rw [take_snoc' _ k hlt, bindL_map, bindL_map, List.map_append]; rfl)
          have hbl := HT.out.block
          obtain ⟨am, cm, hvm⟩ := HT.out.form
          obtain ⟨lm, hlm⟩ : ∃ lm : Nat, lm = (bindL bd (x.args.take k)).length := ⟨_, rfl⟩
          rw [← hlm] at hvm
          subst hvm
          have hln : lm + 1 ≤ 1099511627776 := by rw [hlm, bindL_map]; simp; omega
          have HLM := Lib.hid hlm
          clear hlm
          generalize x.args[k] = y at *
          go_wp2_with fail
          have HBY := Lib.hid (Box.new wr (.int .i64 y.kind) (.int .i64 y.n) (.string y.name) (.slice a' y.args.length cap') 29)
          have HTY := Lib.hid (HT.out.alloc (.cells #[.int .i64 y.kind, .int .i64 y.n, .string y.name, .slice a' y.args.length cap'] 29))
          have HEY := Lib.hid (hE.out.alloc (.cells #[.int .i64 y.kind, .int .i64 y.n, .string y.name, .slice a' y.args.length cap'] 29))
          obtain ⟨Wc, hWc⟩ : ∃ W : World, W = wr.alloc (.cells #[.int .i64 y.kind, .int .i64 y.n, .string y.name, .slice a' y.args.length cap'] 29) := ⟨_, rfl⟩
          have hsw : Wc.heap.size = wr.heap.size + 1 := by rw [hWc]; simp
          have HBW : Hid (Below wr.heap.size wr Wc) := Lib.hid (by rw [hWc]; exact below_alloc _ _)
          rw [← hWc] at HBY HTY HEY ⊢
          clear hWc
          have hf3 : Wc.cell? ⟨w.heap.size + 1 + 1, 3, none⟩ = some (.slice am lm cm) := by rw [HBW.out.cell (p := ⟨w.heap.size + 1 + 1, 3, none⟩) (by show w.heap.size + 1 + 1 < _; omega)]; exact f3
          have hq : ∀ w', Below Wc.heap.size Wc w' → w'.cell? ⟨wr.heap.size, 0, none⟩ = some (.int .i64 y.kind) ∧ w'.cell? ⟨wr.heap.size, 1, none⟩ = some (.int .i64 y.n) ∧ w'.cell? ⟨wr.heap.size, 2, none⟩ = some (.string y.name) ∧ w'.cell? ⟨wr.heap.size, 3, none⟩ = some (.slice a' y.args.length cap') := fun w' h => HBY.out.step h
          have hne : w.heap.size + 1 + 1 ≠ wr.heap.size := by omega
          have hlw : w.heap.size + 1 + 1 < Wc.heap.size := by omega
          have hne' : wr.heap.size ≠ w.heap.size + 1 + 1 := by omega
          have hfz := fun o => (HBW.out.frozen (p := ⟨w.heap.size + 1 + 1, o, none⟩) (by show w.heap.size + 1 + 1 < _; omega)).trans (hf8 o)
          obtain ⟨y0, y1, y2, y3⟩ := HBY.out
          go_region_law
            (first
              | (go_simp; go_at_call 45; refine (HIH.out S _ _ _ (HEY.out.below (Below.refl _ _).drew) ((HBD.out.below HBr.out).below HBW.out |>.below (Below.refl _ _).drew) (fun b hb => by have := HS.out b hb; show b < Wc.heap.size; omega) (by omega) HFY.out).mono ?_; rintro e w3 ⟨v3, rfl, hB3, a3, cap3, rfl, hc3, hr3⟩; have hs3 : Wc.heap.size ≤ w3.heap.size := hB3.size; have HB3 := (Below.refl Wc.heap.size Wc).drew.trans hB3; have HR3 : Hid (RT (fun b => S b ∨ Wc.drew.heap.size ≤ b) w3 (bindT bd y) _) := Lib.hid ⟨a3, cap3, rfl, hc3, hr3⟩; have g3 := (HB3.cell (p := ⟨w.heap.size + 1 + 1, 3, none⟩) (by show w.heap.size + 1 + 1 < _; omega)).trans hf3; have hfz3 := fun o => (HB3.frozen (p := ⟨w.heap.size + 1 + 1, o, none⟩) (by show w.heap.size + 1 + 1 < _; omega)).trans (hfz o); have HT3 := Lib.hid (HTY.out.below HB3); have gl3 : w.heap.size + 1 + 1 < w3.heap.size := (by omega); have gk3 : w.heap.size + 1 + 1 ≠ w3.heap.size := (by omega); clear hc3 hr3; go_wp2_with fail)
              | (refine step_grow (w0 := w3) (v := .slice am lm cm) _ _ (by rfl) (by rfl) (by rfl) (by rfl) rfl HT3.out HR3.out (fun b hb hl => ⟨by simp only [World.size_drew] at hb; rcases hb with hb | hb; exact .inl hb; exact .inr (by omega), fun he => by have := hbl b he; simp only [World.size_drew] at hb; rcases hb with hb | hb; (have := HS.out b hb; omega); omega⟩) HLM.out.symm hln (by omega) ?_; intro gg cg w4 hO4 hG4 hB4; have hs4 := hB4.size; have g4 := (hB4.cell (p := ⟨w.heap.size + 1 + 1, 3, none⟩) (by show w.heap.size + 1 + 1 < _; omega)).trans g3; have hfz4 := fun o => (hB4.frozen (p := ⟨w.heap.size + 1 + 1, o, none⟩) (by show w.heap.size + 1 + 1 < _; omega)).trans (hfz3 o); have hY4 := grown_box ((HBY.out.step HB3).alloc (.cells #[.int .i64 (bindT bd y).kind, .int .i64 (bindT bd y).n, .string (bindT bd y).name, .slice a3 (bindT bd y).args.length cap3] 29)) hG4 (fun e => by have := hbl _ e; omega)))
          all_goals (
            have HB5 := Lib.hid (hB.trans ((HBW.out.mono (by omega)).trans ((HB3.mono (by omega)).trans (hB4.mono (by omega)))))
            have f04 := (hB4.cell (p := ⟨w.heap.size + 1 + 1, 0, none⟩) (by show w.heap.size + 1 + 1 < _; omega)).trans ((HB3.cell (p := ⟨w.heap.size + 1 + 1, 0, none⟩) (by show w.heap.size + 1 + 1 < _; omega)).trans ((HBW.out.cell (p := ⟨w.heap.size + 1 + 1, 0, none⟩) (by show w.heap.size + 1 + 1 < _; omega)).trans f0))
            have f14 := (hB4.cell (p := ⟨w.heap.size + 1 + 1, 1, none⟩) (by show w.heap.size + 1 + 1 < _; omega)).trans ((HB3.cell (p := ⟨w.heap.size + 1 + 1, 1, none⟩) (by show w.heap.size + 1 + 1 < _; omega)).trans ((HBW.out.cell (p := ⟨w.heap.size + 1 + 1, 1, none⟩) (by show w.heap.size + 1 + 1 < _; omega)).trans f1))
            have f24 := (hB4.cell (p := ⟨w.heap.size + 1 + 1, 2, none⟩) (by show w.heap.size + 1 + 1 < _; omega)).trans ((HB3.cell (p := ⟨w.heap.size + 1 + 1, 2, none⟩) (by show w.heap.size + 1 + 1 < _; omega)).trans ((HBW.out.cell (p := ⟨w.heap.size + 1 + 1, 2, none⟩) (by show w.heap.size + 1 + 1 < _; omega)).trans f2))
            have HO4 := Lib.hid hO4
            clear hO4 hG4 hB4 hB3 HB3 hq hY4 hB
            go_wp2_with fail
            go_roundw
            case rel =>
              refine ⟨k + 1, _, by omega, by go_num, by rw [HSN.out]; exact HO4.out.setCell _ _ _ (by omega) (fun hP => by rcases hP with hP | hP; (have := HS.out _ hP; omega); omega), by simp; omega, Below.setCell HB5.out (Nat.le_refl _) _, ⟨by go_simp, by go_simp, by go_simp, by go_simp⟩, fun o => by go_simp⟩
            case measure => simp [intOf]; omega)
        · have hkk : k = x.args.length := by omega
          subst hkk
          obtain ⟨ar, capr, hrow, hcr, hrr⟩ := HT.out.rsl (fun b hb => Or.inr hb)
          rw [List.take_of_length_le (Nat.le_refl _)] at hrow hcr hrr
          subst hrow
          have hrr := Lib.hid hrr
          have z4 : wr.cell? ⟨w.heap.size + 1, 0, none⟩ = some (.int .i64 0) ∧ wr.cell? ⟨w.heap.size + 1, 1, none⟩ = some (.int .i64 0) ∧ wr.cell? ⟨w.heap.size + 1, 2, none⟩ = some (.string ⟨#[]⟩) ∧ wr.cell? ⟨w.heap.size + 1, 3, none⟩ = some (.slice none 0 0) := by
            have q := fun o => hB.cell (p := ⟨w.heap.size + 1, o, none⟩) (by show w.heap.size + 1 < _; omega)
            rw [q, q, q, q]; go_simp
          have z5 : ∀ o, wr.frozen? ⟨w.heap.size + 1, o, none⟩ = false := fun o => by
            rw [hB.frozen (p := ⟨w.heap.size + 1, o, none⟩) (by show w.heap.size + 1 < _; omega)]; go_simp
          obtain ⟨z0, z1, z2, z3⟩ := z4
          have h2 : w.heap.size < wr.heap.size := by omega
          have h3 : w.heap.size + 1 < wr.heap.size := by omega
          clear hB
          go_wp2_with fail
          refine bodyPost_ret (v := .agg #[.int .i64 x.kind, .int .i64 x.n, .string x.name, .slice ar (bindL bd x.args).length capr]) (by simp [results, Try.results45, go_sem, z0, z1, z2, z3]) rfl ⟨_, rfl, ?_, ?_⟩
          · repeat refine Below.setCell ?_ (by simp <;> omega) _
            exact HBr.out
          · rw [HV.out]
            refine ⟨ar, capr, rfl, hcr, hrr.out.to (fun b hb _ => by rcases hb with hb | hb; exact .inl hb; exact .inr (by omega)) fun b hb _ => ?_⟩
            have hn1 : b ≠ w.heap.size + 1 := by rcases hb with hb | hb; (have := HS.out b hb; omega); omega
            simp only [setCell_other _ _ _ _ _ hn1]
end Go.Proofs.Ytedfepnekjjmnaa
