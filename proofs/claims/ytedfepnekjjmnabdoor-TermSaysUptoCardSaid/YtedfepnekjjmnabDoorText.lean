/-
  term.text: what it answers for a term in form. No condition but a bound, and that the table of powers lies as its initialiser lays it.
-/
import Derived.Test.YtedfepnekjjmnabDoorTextP
import Derived.Test.YtedfepnekjjmnabDoorDShelf
import Derived.Test.YtedfepnekjjmnabDoorDepth
import Derived.Test.YtedfepnekjjmnabDoorReg
import Derived.Lib.AppendIntMem
import Derived.Deep.DeepCutAuto
namespace Go.Proofs.YtedfepnekjjmnabDoor
open Go.RowKit
set_option linter.unusedSimpArgs false
set_option linter.unusedVariables false
set_option maxRecDepth 100000

/-! ### Rows of strings -/
def strE : El ByteArray where
  k := 1
  C := fun _ _ x cs => cs = [.string x]
  len := by rintro S w x cs rfl; rfl
  one := by rintro S w x cs rfl; simp [Value.oneCell']
  «to» := by rintro S S' w w' x cs rfl _ _; rfl
def strF : ElT strE where
  e := 9
  sl := 68
  bytes := 16
  z := .string ⟨#[]⟩
  hund := Tryd.underlying68
  info := by kernel_rfl
  hzs := rfl
  hk := by decide
  hb := by decide
theorem RX.str {R S : Nat → Prop} {w : World} {l : List ByteArray} {b o n cap : Nat} (h : RX strE R S w l (.slice (some ⟨b, o, none⟩) n cap)) (j : Nat) (x : ByteArray) (hj : l[j]? = some x) : w.cell? ⟨b, o + j, none⟩ = some (.string x) := by
  obtain ⟨hl, rfl⟩ := List.getElem?_eq_some_iff.1 hj
  obtain ⟨c, rfl, hc⟩ := h.elem j hl
  have := (hc 0 _ rfl).2
  simpa [strE] using this
/-! ### The table -/
def TabB (w : World) : Prop := Lib.TabBelow Tryd.prog w.heap.size w "internal/strconv.uint64pow10" .u64 Lib.pow10Tab
theorem TabB.on {w w' : World} (h : TabB w) (hB : Below w.heap.size w w') : TabB w' := fun w2 h2 => h w2 (below_step hB hB.size h2)
theorem grow_below (w : World) (k : Nat) (os : Array Obj) : Below w.heap.size w (Sort.grow (w.drewN k) os) := Lib.below_grow _ w (Nat.le_refl _) k os
theorem itoa_c (n : Int) (w : World) (h : TabB w) (h0 : -9223372036854775808 ≤ n) (h1 : n ≤ 9223372036854775807) : Calls Tryd.prog 24 #[.int .i64 n] w fun e w' => e = .returned (.string (bytes (Lib.itoa n))) ∧ Below w.heap.size w w' := by
  refine (Tryd.strconv_Itoa n h0 h1 w (Lib.TabBelow.here h)).mono ?_
  rintro e w' ⟨rfl, k, os, rfl⟩
  exact ⟨rfl, grow_below w k os⟩

/-! ### The text -/
def TextP (t : T) (w : World) (e : Ending) (w' : World) : Prop := e = .returned (.string (txT t)) ∧ Below w.heap.size w w'
set_option maxHeartbeats 4000000 in
theorem text_c : ∀ (t : T) (S : Nat → Prop) (w : World) (v : Value), RT S w t v → formL [t] = true → bulkL [t] ≤ 34359738368 → TabB w → Calls Tryd.prog 25 #[v] w (TextP t w) := by
  intro t
  induction t using T.ind with
  | h t ih =>
    intro S w v hv hf hb htab
    obtain ⟨a, cap, rfl, hcap, hr⟩ := hv
    have hba := bulk_args t
    have hla := length_le_bulk t.args
    have hln := textT_len hf
    obtain ⟨hh, hfa⟩ := form_head hf
    have hn := form_n hh
    have hkk := head_kinds hh
    have hlens := textL_len _ t.args (Nat.le_refl _) hfa
    obtain ⟨W0, hW0⟩ : ∃ W : World, W = w.alloc (.cells #[.int .i64 t.kind, .int .i64 t.n, .string t.name, .slice a t.args.length cap] 24) := ⟨_, rfl⟩
    have HX : Hid (Blk W0 w.heap.size [.int .i64 t.kind, .int .i64 t.n, .string t.name, .slice a t.args.length cap]) := Lib.hid (by rw [hW0]; exact Blk.new _ _ _ _ rfl)
    have HB0 : Hid (Below w.heap.size w W0) := Lib.hid (by rw [hW0]; exact below_alloc _ _)
    have HT0 : Hid (TabB W0) := Lib.hid (htab.on HB0.out)
    have HR : Hid (RTs S W0 t.args a 0) := Lib.hid (by rw [hW0]; exact hr.alloc _)
    have hs0 := HB0.out.size
    have HFA := Lib.hid hfa
    have IH := Lib.hid ih
    have hn1 := hn.1
    have hn2 := hn.2
    have HW0 := Lib.hid hW0
    clear ih hr hfa hf hh htab hW0 hn
    rcases hkk with hk | hk | hk | hk | hk | hk
    · have HT : Hid (txT t = bytes (Lib.itoa t.n)) := Lib.hid (by unfold txT textT; rw [if_pos hk])
      have k1 : (t.kind == 1) = true := by rw [hk]; rfl
      clear hk
      go_enter Tryd.func25, Tryd.ntmps25
      go_upto_region 1 with fail
      rw [← HW0.out]
      have y0 := HX.out.cell 0 _ rfl
      have y1 := HX.out.cell 1 _ rfl
      have y2 := HX.out.cell 2 _ rfl
      have y3 := HX.out.cell 3 _ rfl
      have hL : ¬ 9223372036854775807 < 1 + (bytes (Lib.itoa t.n)).size := by rw [bytes_size]; have := Lib.itoa_length_le t.n hn1 hn2; omega
      go_wp2_with fail
      refine (itoa_c t.n W0 HT0.out hn1 hn2).mono ?_
      rintro e w1 ⟨rfl, hB1⟩
      go_wp2_with fail
      go_ret
      exact ⟨by rw [HT.out]; rfl, below_step HB0.out hs0 hB1⟩
    · have HT : Hid (txT t = bytes t.name.data.toList) := Lib.hid (by unfold txT textT; rw [if_neg (by omega)]; rw [if_pos hk])
      have q1 : (t.kind == 1) = false := by rw [hk]; rfl
      have k1 : (t.kind == 2) = true := by rw [hk]; rfl
      clear hk
      go_enter Tryd.func25, Tryd.ntmps25
      go_upto_region 1 with fail
      rw [← HW0.out]
      have y0 := HX.out.cell 0 _ rfl
      have y1 := HX.out.cell 1 _ rfl
      have y2 := HX.out.cell 2 _ rfl
      have y3 := HX.out.cell 3 _ rfl
      go_wp2_with fail
      go_ret
      exact ⟨by rw [HT.out, bytes_of]; rfl, HB0.out⟩
    · have HT : Hid (txT t = bytes (35 :: Lib.itoa t.n)) := Lib.hid (by unfold txT textT; rw [if_neg (by omega)]; rw [if_neg (by omega)]; rw [if_pos hk])
      have q1 : (t.kind == 1) = false := by rw [hk]; rfl
      have q2 : (t.kind == 2) = false := by rw [hk]; rfl
      have k1 : (t.kind == 3) = true := by rw [hk]; rfl
      clear hk
      go_enter Tryd.func25, Tryd.ntmps25
      go_upto_region 1 with fail
      rw [← HW0.out]
      have y0 := HX.out.cell 0 _ rfl
      have y1 := HX.out.cell 1 _ rfl
      have y2 := HX.out.cell 2 _ rfl
      have y3 := HX.out.cell 3 _ rfl
      have hL : ¬ 9223372036854775807 < 1 + (bytes (Lib.itoa t.n)).size := by rw [bytes_size]; have := Lib.itoa_length_le t.n hn1 hn2; omega
      go_wp2_with fail
      refine (itoa_c t.n W0 HT0.out hn1 hn2).mono ?_
      rintro e w1 ⟨rfl, hB1⟩
      go_wp2_with fail
      go_ret
      exact ⟨by rw [HT.out]; rw [← bytes_cons]; rfl, below_step HB0.out hs0 hB1⟩
    · have HT : Hid (txT t = bytes (40 :: (Lib.join (textL t.args) [32] ++ [41]))) := Lib.hid (by unfold txT textT; rw [if_neg (by omega)]; rw [if_neg (by omega)]; rw [if_neg (by omega)]; rw [if_neg (by omega)]; rw [if_neg (by omega)]; skip)
      have q1 : (t.kind == 1) = false := by rw [hk]; rfl
      have q2 : (t.kind == 2) = false := by rw [hk]; rfl
      have q3 : (t.kind == 3) = false := by rw [hk]; rfl
      have q5 : (t.kind == 5) = false := by rw [hk]; rfl
      have q6 : (t.kind == 6) = false := by rw [hk]; rfl
      clear hk
      go_enter Tryd.func25, Tryd.ntmps25
      go_upto_region 1 with fail
      rw [← HW0.out]
      have y0 := HX.out.cell 0 _ rfl
      have y1 := HX.out.cell 1 _ rfl
      have y2 := HX.out.cell 2 _ rfl
      have y3 := HX.out.cell 3 _ rfl
      go_wp2_with fail
      go_loopw [3, 34] (fun s3 i wr => ∃ k : Nat, k ≤ t.args.length ∧ i = .int .i64 k ∧ OwnXG strE 9 (fun _ => True) 0 wr s3 ((t.args.take k).map txT) ∧ Below w.heap.size w wr ∧ Below W0.heap.size W0 wr ∧ ∀ b, s3.ownBlock = some b → W0.heap.size ≤ b) (fun _ i _ => t.args.length - (intOf i).toNat)
      case atStart => exact ⟨0, Nat.zero_le _, rfl, OwnXG.nil _ _ _ _, HB0.out, Below.refl _ _, by simp [Value.ownBlock]⟩
      case round =>
        obtain ⟨k, hkl, rfl, hO, hB, hBW, hOB⟩ := hrel
        obtain ⟨wq, rfl⟩ : ∃ wq : World, wq = wr := ⟨_, rfl⟩
        obtain ⟨ar, cr, hrow, -⟩ := hO.form
        have hlk : ((t.args.take k).map txT).length = k := by rw [List.length_map, List.length_take]; omega
        rw [hlk] at hrow
        subst hrow
        have hsq := hBW.size
        have HRq := Lib.hid (HR.out.below hBW)
        have HO := Lib.hid hO
        have HB := Lib.hid hB
        have HBW := Lib.hid hBW
        have HOB := Lib.hid hOB
        have HLK := Lib.hid hlk
        clear hO hB hBW hOB hlk y0 y1 y2 y3
        by_cases hlt : k < t.args.length
        · obtain ⟨b, o, rfl⟩ := HRq.out.addr (by omega)
          obtain ⟨a', cap', _, d0, d1, d2, d3, hE⟩ := HRq.out.elem k hlt
          have hbk := bulk_at hlt
          have HE := Lib.hid hE
          have HFX := Lib.hid (form_mem HFA.out (List.getElem_mem hlt))
          have HMEM := Lib.hid (List.getElem_mem hlt)
          obtain ⟨x, hx⟩ : ∃ x, x = t.args[k] := ⟨_, rfl⟩
          rw [← hx] at d0 d1 d2 d3 HE HFX HMEM hbk
          have HXE := Lib.hid hx
          clear hE hx
          go_wp2_with fail
          refine (IH.out x HMEM.out S _ _ (HE.out.alloc _) HFX.out (by omega) ((HT0.out.on HBW.out).on (below_alloc _ _))).mono ?_
          rintro e w1 ⟨rfl, hB1⟩
          have hs1 := hB1.size
          simp only [World.size_alloc] at hs1
          have HB1 : Hid (Below wq.heap.size wq w1) := Lib.hid ((below_alloc _ _).trans (hB1.mono (by simp)))
          have HO1 := Lib.hid (HO.out.below HB1.out)
          clear hB1 d0 d1 d2 d3
          go_wp2_with (at_builtin; (refine append_growX strF (v := .slice ar k cr) (y := txT x) (g0 := w1.heap.size) (n := k) _ _ rfl rfl (by rfl) (by rfl) rfl (show OwnXG strE strF.e (fun _ => True) 0 w1 (.slice ar k cr) ((t.args.take k).map txT) from HO1.out) (R := fun _ => False) rfl (fun b hb => hb.elim) HLK.out (by omega) (by omega) ?_); intro g1 c1' w8 hO8 hB8 hG8 hD8; have hs8 := hB8.size; have HO8 := Lib.hid hO8; have HB8 := Lib.hid hB8; have HG8 := Lib.hid hG8; have HD8 := Lib.hid hD8; clear hO8 hB8 hG8 hD8)
          have u1 : IntKind.i64.wrap ((k : Int) + 1) = ((k + 1 : Nat) : Int) := by rw [IntKind.wrap_i64]; omega
          have hgw : Below W0.heap.size W0 w8 := by
            have h1 : Below W0.heap.size W0 w1 := HBW.out.trans (HB1.out.mono hsq)
            refine h1.trans ⟨HB8.out.os, HB8.out.tape, HB8.out.output, hs8, fun b hb => (HG8.out.block b (by simp; omega) (fun e => by have := HOB.out b e.symm; omega)).trans (Below.heap_alloc _ _ _ (by omega))⟩
          have hmap : (t.args.take (k + 1)).map txT = (t.args.take k).map txT ++ [txT x] := by rw [take_snoc' t.args k hlt, List.map_append, ← HXE.out]; rfl
          refine ⟨⟨k + 1, by omega, rfl, by rw [hmap]; exact HO8.out, HB0.out.trans (hgw.mono hs0), hgw, fun b hb => ?_⟩, by simp [intOf]; omega⟩
          have e1 : g1 = b := by simpa [Value.ownBlock] using hb
          subst e1
          rcases HD8.out with h | h
          · exact HOB.out _ h
          · omega
        · have hkk : k = t.args.length := by omega
          subst hkk
          have htk : t.args.take t.args.length = t.args := List.take_of_length_le (by omega)
          have HO2 : Hid (OwnXG strE 9 (fun _ => True) 0 wq (.slice ar t.args.length cr) (t.args.map txT)) := Lib.hid (by have := HO.out; rw [htk] at this; exact this)
          have hxs : (t.args.map txT).map (·.data.toList) = textL t.args := by
            rw [textL_map, List.map_map]
            exact List.map_congr_left fun x _ => bytes_data _
          have hjl0 := join_len (textL t.args)
          have htl : (textL t.args).length = t.args.length := by rw [textL_map]; simp
          have hjl : (Lib.join (textL t.args) [32]).length ≤ Lib.lens (textL t.args) + t.args.length := by omega
          clear hjl0 htl
          have HJ : Hid (Calls Tryd.prog 44 #[.slice ar t.args.length cr, .string ⟨#[32]⟩] wq fun e w' => e = .returned (.string (bytes (Lib.join (textL t.args) [32]))) ∧ Below wq.heap.size wq w') := Lib.hid (by
            by_cases h0 : 0 < t.args.length
            · obtain ⟨cs, ho1, -⟩ := HO2.out
              obtain ⟨g, cap', e, -, hgl⟩ := ho1.form (by simp; omega)
              simp only [Value.slice.injEq] at e
              obtain ⟨rfl, -, -⟩ := e
              have hrx := OwnX.rx HO2.out
              have h1 := Tryd.strings_Join g 0 cr (t.args.map txT) ⟨#[32]⟩ wq (fun j x hj => by have := hrx.str j x hj; simpa using this) hgl (by simp; omega) (by obtain ⟨a', c', _, e', hc', _⟩ := hrx; simp only [Value.slice.injEq] at e'; obtain ⟨-, -, rfl⟩ := e'; exact hc'.1) (by rw [hxs]; show (Lib.join (textL t.args) [32]).length ≤ _; omega)
              rw [hxs] at h1
              simp only [List.length_map] at h1
              exact h1
            · have hl0 : t.args.length = 0 := by omega
              have h2 : t.args = [] := List.eq_nil_of_length_eq_zero hl0
              rw [hl0]
              refine (Tryd.strings_Join_none ar cr ⟨#[32]⟩ wq).mono ?_
              rintro e w' ⟨rfl, rfl⟩
              exact ⟨by rw [h2, show textL [] = [] by rw [textL]]; rfl, Below.refl _ _⟩)
          have hL1 : ¬ 9223372036854775807 < 1 + (bytes (Lib.join (textL t.args) [32])).size := by rw [bytes_size]; omega
          have hL2 : ¬ 9223372036854775807 < 1 + (bytes (Lib.join (textL t.args) [32])).size + 1 := by rw [bytes_size]; omega
          clear htk hxs HO2 HO HLK hjl
          go_wp2_with fail
          refine HJ.out.mono ?_
          rintro e w1 ⟨rfl, hB1⟩
          go_wp2_with fail
          go_ret
          exact ⟨by rw [HT.out]; exact text_tuple _, HB.out.trans (hB1.mono (by have := HB.out.size; omega))⟩
    · have HT : Hid (txT t = bytes (36 :: Lib.itoa t.n)) := Lib.hid (by unfold txT textT; rw [if_neg (by omega)]; rw [if_neg (by omega)]; rw [if_neg (by omega)]; rw [if_pos hk])
      have q1 : (t.kind == 1) = false := by rw [hk]; rfl
      have q2 : (t.kind == 2) = false := by rw [hk]; rfl
      have q3 : (t.kind == 3) = false := by rw [hk]; rfl
      have k1 : (t.kind == 5) = true := by rw [hk]; rfl
      clear hk
      go_enter Tryd.func25, Tryd.ntmps25
      go_upto_region 1 with fail
      rw [← HW0.out]
      have y0 := HX.out.cell 0 _ rfl
      have y1 := HX.out.cell 1 _ rfl
      have y2 := HX.out.cell 2 _ rfl
      have y3 := HX.out.cell 3 _ rfl
      have hL : ¬ 9223372036854775807 < 1 + (bytes (Lib.itoa t.n)).size := by rw [bytes_size]; have := Lib.itoa_length_le t.n hn1 hn2; omega
      go_wp2_with fail
      refine (itoa_c t.n W0 HT0.out hn1 hn2).mono ?_
      rintro e w1 ⟨rfl, hB1⟩
      go_wp2_with fail
      go_ret
      exact ⟨by rw [HT.out]; rw [← bytes_cons]; rfl, below_step HB0.out hs0 hB1⟩
    · have HT : Hid (txT t = bytes [95]) := Lib.hid (by unfold txT textT; rw [if_neg (by omega)]; rw [if_neg (by omega)]; rw [if_neg (by omega)]; rw [if_neg (by omega)]; rw [if_pos hk])
      have q1 : (t.kind == 1) = false := by rw [hk]; rfl
      have q2 : (t.kind == 2) = false := by rw [hk]; rfl
      have q3 : (t.kind == 3) = false := by rw [hk]; rfl
      have q5 : (t.kind == 5) = false := by rw [hk]; rfl
      have k1 : (t.kind == 6) = true := by rw [hk]; rfl
      clear hk
      go_enter Tryd.func25, Tryd.ntmps25
      go_upto_region 1 with fail
      rw [← HW0.out]
      have y0 := HX.out.cell 0 _ rfl
      have y1 := HX.out.cell 1 _ rfl
      have y2 := HX.out.cell 2 _ rfl
      have y3 := HX.out.cell 3 _ rfl
      go_wp2_with fail
      go_ret
      exact ⟨by rw [HT.out]; rfl, HB0.out⟩
end Go.Proofs.YtedfepnekjjmnabDoor
