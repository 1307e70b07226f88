/-
  clerkref.Text: what it answers for a term in form. No condition but a bound, and that the table of powers lies as its initialiser lays it.
-/
import Derived.Test.YtedfepnekjjmnabDoorText
namespace Go.Proofs.YtedfepnekjjmnabDoor
open Go.RowKit
set_option linter.unusedSimpArgs false
set_option linter.unusedVariables false
set_option maxRecDepth 100000

set_option maxHeartbeats 4000000 in
theorem rtext_c : ∀ (t : T) (S : Nat → Prop) (w : World) (v : Value), RT S w t v → formL [t] = true → bulkL [t] ≤ 34359738368 → TabB w → Calls Tryd.prog 7 #[v] w (TextP t w) := by
  intro t
  induction t using T.ind with
  | h t ih =>
    intro S w v hv hf hb htab
    obtain ⟨a, cap, rfl, hcap, hr⟩ := hv
    have hba := bulk_args t
    have hla := length_le_bulk t.args
    have hln := textT_len hf
    obtain ⟨hh, hfa⟩ := form_head hf
    have hn := form_n hh
    have hkk := head_kinds hh
    have hlens := textL_len _ t.args (Nat.le_refl _) hfa
    obtain ⟨W0, hW0⟩ : ∃ W : World, W = w.alloc (.cells #[.int .i64 t.kind, .int .i64 t.n, .string t.name, .slice a t.args.length cap] 24) := ⟨_, rfl⟩
    have HX : Hid (Blk W0 w.heap.size [.int .i64 t.kind, .int .i64 t.n, .string t.name, .slice a t.args.length cap]) := Lib.hid (by rw [hW0]; exact Blk.new _ _ _ _ rfl)
    have HB0 : Hid (Below w.heap.size w W0) := Lib.hid (by rw [hW0]; exact below_alloc _ _)
    have HT0 : Hid (TabB W0) := Lib.hid (htab.on HB0.out)
    have HR : Hid (RTs S W0 t.args a 0) := Lib.hid (by rw [hW0]; exact hr.alloc _)
    have hs0 := HB0.out.size
    have HFA := Lib.hid hfa
    have IH := Lib.hid ih
    have hn1 := hn.1
    have hn2 := hn.2
    have HW0 := Lib.hid hW0
    clear ih hr hfa hf hh htab hW0 hn
    rcases hkk with hk | hk | hk | hk | hk | hk
    · have HT : Hid (txT t = bytes (Lib.itoa t.n)) := Lib.hid (by unfold txT textT; rw [if_pos hk])
      have k1 : (t.kind == 1) = true := by rw [hk]; rfl
      clear hk
      go_enter Tryd.func7, Tryd.ntmps7
      go_upto_region 1 with fail
      rw [← HW0.out]
      have y0 := HX.out.cell 0 _ rfl
      have y1 := HX.out.cell 1 _ rfl
      have y2 := HX.out.cell 2 _ rfl
      have y3 := HX.out.cell 3 _ rfl
      have hL : ¬ 9223372036854775807 < 1 + (bytes (Lib.itoa t.n)).size := by rw [bytes_size]; have := Lib.itoa_length_le t.n hn1 hn2; omega
      go_wp2_with fail
      refine (itoa_c t.n W0 HT0.out hn1 hn2).mono ?_
      rintro e w1 ⟨rfl, hB1⟩
      go_wp2_with fail
      go_ret
      exact ⟨by rw [HT.out]; rfl, below_step HB0.out hs0 hB1⟩
    · have HT : Hid (txT t = bytes t.name.data.toList) := Lib.hid (by unfold txT textT; rw [if_neg (by omega)]; rw [if_pos hk])
      have q1 : (t.kind == 1) = false := by rw [hk]; rfl
      have k1 : (t.kind == 2) = true := by rw [hk]; rfl
      clear hk
      go_enter Tryd.func7, Tryd.ntmps7
      go_upto_region 1 with fail
      rw [← HW0.out]
      have y0 := HX.out.cell 0 _ rfl
      have y1 := HX.out.cell 1 _ rfl
      have y2 := HX.out.cell 2 _ rfl
      have y3 := HX.out.cell 3 _ rfl
      go_wp2_with fail
      go_ret
      exact ⟨by rw [HT.out, bytes_of]; rfl, HB0.out⟩
    · have HT : Hid (txT t = bytes (35 :: Lib.itoa t.n)) := Lib.hid (by unfold txT textT; rw [if_neg (by omega)]; rw [if_neg (by omega)]; rw [if_pos hk])
      have q1 : (t.kind == 1) = false := by rw [hk]; rfl
      have q2 : (t.kind == 2) = false := by rw [hk]; rfl
      have k1 : (t.kind == 3) = true := by rw [hk]; rfl
      clear hk
      go_enter Tryd.func7, Tryd.ntmps7
      go_upto_region 1 with fail
      rw [← HW0.out]
      have y0 := HX.out.cell 0 _ rfl
      have y1 := HX.out.cell 1 _ rfl
      have y2 := HX.out.cell 2 _ rfl
      have y3 := HX.out.cell 3 _ rfl
      have hL : ¬ 9223372036854775807 < 1 + (bytes (Lib.itoa t.n)).size := by rw [bytes_size]; have := Lib.itoa_length_le t.n hn1 hn2; omega
      go_wp2_with fail
      refine (itoa_c t.n W0 HT0.out hn1 hn2).mono ?_
      rintro e w1 ⟨rfl, hB1⟩
      go_wp2_with fail
      go_ret
      exact ⟨by rw [HT.out]; rw [← bytes_cons]; rfl, below_step HB0.out hs0 hB1⟩
    · have HT : Hid (txT t = bytes (40 :: (Lib.join (textL t.args) [32] ++ [41]))) := Lib.hid (by unfold txT textT; rw [if_neg (by omega)]; rw [if_neg (by omega)]; rw [if_neg (by omega)]; rw [if_neg (by omega)]; rw [if_neg (by omega)]; skip)
      have q1 : (t.kind == 1) = false := by rw [hk]; rfl
      have q2 : (t.kind == 2) = false := by rw [hk]; rfl
      have q3 : (t.kind == 3) = false := by rw [hk]; rfl
      have q5 : (t.kind == 5) = false := by rw [hk]; rfl
      have q6 : (t.kind == 6) = false := by rw [hk]; rfl
      clear hk
      go_enter Tryd.func7, Tryd.ntmps7
      go_upto_region 1 with fail
      rw [← HW0.out]
      have y0 := HX.out.cell 0 _ rfl
      have y1 := HX.out.cell 1 _ rfl
      have y2 := HX.out.cell 2 _ rfl
      have y3 := HX.out.cell 3 _ rfl
      go_wp2_with fail
      go_loopw [3, 4] (fun s3 i wr => ∃ k : Nat, k ≤ t.args.length ∧ i = .int .i64 k ∧ s3 = .string (bytes (partText t.args k)) ∧ Below w.heap.size w wr ∧ Below W0.heap.size W0 wr) (fun _ i _ => t.args.length - (intOf i).toNat)
      case atStart => exact ⟨0, Nat.zero_le _, rfl, by rw [partText_zero]; rfl, HB0.out, Below.refl _ _⟩
      case round =>
        obtain ⟨k, hkl, rfl, rfl, hB, hBW⟩ := hrel
        obtain ⟨wq, rfl⟩ : ∃ wq : World, wq = wr := ⟨_, rfl⟩
        have hsq := hBW.size
        have HRq := Lib.hid (HR.out.below hBW)
        have HB := Lib.hid hB
        have HBW := Lib.hid hBW
        have HXq := Lib.hid (HX.out.step hBW)
        have hpl := partText_len t.args k
        clear hB hBW y0 y1 y2 y3
        have y3 := HXq.out.cell 3 _ rfl
        by_cases hlt : k < t.args.length
        · obtain ⟨b, o, rfl⟩ := HRq.out.addr (by omega)
          obtain ⟨a', cap', _, d0, d1, d2, d3, hE⟩ := HRq.out.elem k hlt
          have hbk := bulk_at hlt
          have HE := Lib.hid hE
          have HFX := Lib.hid (form_mem HFA.out (List.getElem_mem hlt))
          have HMEM := Lib.hid (List.getElem_mem hlt)
          have hxl := textT_len HFX.out
          obtain ⟨x, hx⟩ : ∃ x, x = t.args[k] := ⟨_, rfl⟩
          rw [← hx] at d0 d1 d2 d3 HE HFX HMEM hbk hxl
          have HXE := Lib.hid hx
          clear hE hx
          by_cases h0 : 0 < k
          · have hs := partText_succ hlt h0
            rw [← HXE.out] at hs
            have HSX : Hid (bytes (partText t.args k) ++ (⟨#[32]⟩ : ByteArray) ++ txT x = bytes (partText t.args (k + 1))) := Lib.hid (by
              rw [hs, show (⟨#[32]⟩ : ByteArray) = bytes [32] from rfl, bytes_append, show txT x = bytes (textT x) from rfl, bytes_append])
            clear hs
            have hL1 : ¬ 9223372036854775807 < (bytes (partText t.args k)).size + 1 := by rw [bytes_size]; omega
            have hL2 : ¬ 9223372036854775807 < (bytes (partText t.args k)).size + 1 + (txT x).size := by rw [bytes_size, show (txT x).size = (textT x).length from bytes_size _]; omega
            go_wp2_with fail
            refine (IH.out x HMEM.out S _ _ HE.out HFX.out (by omega) (HT0.out.on HBW.out)).mono ?_
            rintro e w1 ⟨rfl, hB1⟩
            go_wp2_with fail
            go_roundw
            case rel => exact ⟨k + 1, by omega, by go_num, by rw [← HSX.out], HB.out.trans (hB1.mono (by have := HB.out.size; omega)), HBW.out.trans (hB1.mono (by omega))⟩
            case measure => simp [intOf]; omega
          · obtain rfl : k = 0 := by omega
            simp only [Nat.zero_mul, Nat.add_zero] at d0 d1 d2 d3
            have hs := partText_one hlt
            rw [← HXE.out] at hs
            have HSX : Hid (bytes (partText t.args 0) ++ txT x = bytes (partText t.args 1)) := Lib.hid (by
              rw [hs, partText_zero, show txT x = bytes (textT x) from rfl, bytes_append])
            clear hs
            have hL2 : ¬ 9223372036854775807 < (bytes (partText t.args 0)).size + (txT x).size := by rw [bytes_size, show (txT x).size = (textT x).length from bytes_size _]; omega
            go_wp2_with fail
            refine (IH.out x HMEM.out S _ _ HE.out HFX.out (by omega) (HT0.out.on HBW.out)).mono ?_
            rintro e w1 ⟨rfl, hB1⟩
            go_wp2_with fail
            go_roundw
            case rel => exact ⟨1, by omega, rfl, by rw [← HSX.out], HB.out.trans (hB1.mono (by have := HB.out.size; omega)), HBW.out.trans (hB1.mono (by omega))⟩
            case measure => simp [intOf]; omega
        · have hkk : k = t.args.length := by omega
          subst hkk
          have hL1 : ¬ 9223372036854775807 < (bytes (partText t.args t.args.length)).size + 1 := by rw [bytes_size]; omega
          go_wp2_with fail
          go_ret
          exact ⟨by rw [HT.out, partText_all, ← bytes_append]; rfl, HB.out⟩
    · have HT : Hid (txT t = bytes (36 :: Lib.itoa t.n)) := Lib.hid (by unfold txT textT; rw [if_neg (by omega)]; rw [if_neg (by omega)]; rw [if_neg (by omega)]; rw [if_pos hk])
      have q1 : (t.kind == 1) = false := by rw [hk]; rfl
      have q2 : (t.kind == 2) = false := by rw [hk]; rfl
      have q3 : (t.kind == 3) = false := by rw [hk]; rfl
      have k1 : (t.kind == 5) = true := by rw [hk]; rfl
      clear hk
      go_enter Tryd.func7, Tryd.ntmps7
      go_upto_region 1 with fail
      rw [← HW0.out]
      have y0 := HX.out.cell 0 _ rfl
      have y1 := HX.out.cell 1 _ rfl
      have y2 := HX.out.cell 2 _ rfl
      have y3 := HX.out.cell 3 _ rfl
      have hL : ¬ 9223372036854775807 < 1 + (bytes (Lib.itoa t.n)).size := by rw [bytes_size]; have := Lib.itoa_length_le t.n hn1 hn2; omega
      go_wp2_with fail
      refine (itoa_c t.n W0 HT0.out hn1 hn2).mono ?_
      rintro e w1 ⟨rfl, hB1⟩
      go_wp2_with fail
      go_ret
      exact ⟨by rw [HT.out]; rw [← bytes_cons]; rfl, below_step HB0.out hs0 hB1⟩
    · have HT : Hid (txT t = bytes [95]) := Lib.hid (by unfold txT textT; rw [if_neg (by omega)]; rw [if_neg (by omega)]; rw [if_neg (by omega)]; rw [if_neg (by omega)]; rw [if_pos hk])
      have q1 : (t.kind == 1) = false := by rw [hk]; rfl
      have q2 : (t.kind == 2) = false := by rw [hk]; rfl
      have q3 : (t.kind == 3) = false := by rw [hk]; rfl
      have q5 : (t.kind == 5) = false := by rw [hk]; rfl
      have k1 : (t.kind == 6) = true := by rw [hk]; rfl
      clear hk
      go_enter Tryd.func7, Tryd.ntmps7
      go_upto_region 1 with fail
      rw [← HW0.out]
      have y0 := HX.out.cell 0 _ rfl
      have y1 := HX.out.cell 1 _ rfl
      have y2 := HX.out.cell 2 _ rfl
      have y3 := HX.out.cell 3 _ rfl
      go_wp2_with fail
      go_ret
      exact ⟨by rw [HT.out]; rfl, HB0.out⟩
end Go.Proofs.YtedfepnekjjmnabDoor
