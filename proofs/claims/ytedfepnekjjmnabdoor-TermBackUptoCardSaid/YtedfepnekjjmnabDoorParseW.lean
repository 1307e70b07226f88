/-
  term.Parse: what it answers is what reading answers. No condition but the greatest length.
-/
import Derived.Deep.RegionLaw
import Derived.Deep.DeepCutAuto
import Derived.Test.YtedfepnekjjmnabDoorParseP
import Derived.Test.YtedfepnekjjmnabDoorJa
namespace Go.Proofs.YtedfepnekjjmnabDoor
open Go.RowKit
set_option linter.unusedSimpArgs false
set_option linter.unusedVariables false
set_option maxRecDepth 100000

set_option maxHeartbeats 20000000 in
theorem parse_c (s : ByteArray) (w : World) (hs : s.size ≤ maxLen) : Calls Tryd.prog 15 #[.string s] w (RdP s w) := by
  by_cases h2 : 2048 < s.size
  · have HA := Lib.hid (readA_large h2)
    have hi : (2048 : Int) < s.size := by omega
    unfold maxLen at hs
    clear h2
    go_enter Tryd.func15, Tryd.ntmps15
    go_wp2_with fail
    refine bodyPost_ret (v := .tuple #[.agg #[.int .i64 0, .int .i64 0, .string ⟨#[]⟩, .slice none 0 0], .int .i64 0, .int .i64 2]) (by simp [results, Tryd.results15, go_sem]) rfl (RdP.zero HA.out rfl ?_)
    first | exact below_alloc _ _ | (repeat (refine Below.setCell ?_ (by simp <;> omega) _); exact below_alloc _ _)
  · have hs2 : s.size ≤ 2048 := by omega
    have hi : (s.size : Int) ≤ 2048 := by omega
    have H2 := Lib.hid h2
    clear h2 hs
    go_enter Tryd.func15, Tryd.ntmps15
    go_wp2_with fail
    go_loopw [5, 7] (fun ov iv wr => ∃ (k : Nat) (st : List (List T)) (F : Nat → Prop) (g cap n : Nat) (rs : List Value), k ≤ s.size ∧ rs.length = n + 1 ∧ ov = .slice (some ⟨g, 0, none⟩) (n + 1) cap ∧ iv = .int .i64 k ∧ prun (toksS s (wst s k).1) 0 [[]] = .inr st ∧ Bnd s k ∧
      OpenR F (w.heap.size + 1) wr g cap rs st ∧ Below (w.heap.size + 1) (w.alloc (.cells #[.int .i64 0, .int .i64 0, .string ⟨#[]⟩, .slice none 0 0] 24)) wr) (fun _ iv _ => s.size - (intOf iv).toNat)
    case atStart => exact ⟨0, [[]], fun _ => False, w.heap.size + 1, 1, 0, [.slice none 0 0], Nat.zero_le _, rfl, rfl, rfl, rfl, (fun h => by cases h), OpenR.start' _ _ (by simp) (by simp), (Below.refl _ _).alloc (by simp) _⟩
    case round =>
      obtain ⟨k, st, F, g, cap, n, rs, hks, hrl, rfl, rfl, hP, hbn, hO, hB⟩ := hrel
      have hsz := hB.size
      simp only [World.size_alloc] at hsz
      have HP := Lib.hid hP
      have hne := prun_ne _ _ _ _ (by simp) hP
      clear hP
      obtain ⟨a, rest, rfl⟩ : ∃ a rest, st = a :: rest := by cases st with | nil => exact absurd rfl hne | cons a rest => exact ⟨a, rest, rfl⟩
      obtain ⟨r, q, rfl⟩ : ∃ r q, rs = r :: q := by cases rs with | nil => simp at hrl | cons r q => exact ⟨r, q, rfl⟩
      obtain rfl : q.length = n := by simpa using hrl
      obtain ⟨ar, capr, rfl⟩ := hO.parts.1.rsl2.form
      obtain ⟨t0, t1, t2, t3⟩ := hO.top
      have hfg := hO.frozen
      have hlg := hO.lt
      have hcap := hO.cap
      have hrest : rest.length = q.length := by have := hO.length; simpa using this.symm
      have HO := Lib.hid hO
      have HBN := Lib.hid hbn
      have HB := Lib.hid hB
      have z4 : wr.cell? ⟨w.heap.size, 0, none⟩ = some (.int .i64 0) ∧ wr.cell? ⟨w.heap.size, 1, none⟩ = some (.int .i64 0) ∧ wr.cell? ⟨w.heap.size, 2, none⟩ = some (.string ⟨#[]⟩) ∧ wr.cell? ⟨w.heap.size, 3, none⟩ = some (.slice none 0 0) := by
        have q := fun o => hB.cell (p := ⟨w.heap.size, o, none⟩) (by show w.heap.size < _; omega)
        rw [q, q, q, q]; go_simp
      have z5 : ∀ o, wr.frozen? ⟨w.heap.size, o, none⟩ = false := fun o => by
        rw [hB.frozen (p := ⟨w.heap.size, o, none⟩) (by show w.heap.size < _; omega)]; go_simp
      obtain ⟨z0, z1, z2, z3⟩ := z4
      have HBr : Hid (Below w.heap.size w wr) := Lib.hid ((below_alloc _ _).trans (hB.mono (by omega)))
      clear hO hbn hB hrl hne
      generalize hql : q.length = n at *
      have HQL := Lib.hid hql
      have hbk := stack_bulk hs2 hks HP.out
      have hnb : n ≤ 5000000 := by have := stB_length (a :: rest); simp at this; omega
      have hab : a.length ≤ 5000000 := by have := stB_mem (a := a) (st := a :: rest) (by simp); have := length_le_bulk a; omega
      have hlw : w.heap.size < wr.heap.size := by omega
      have HBK := Lib.hid hbk
      clear hql hbk
      have hshape : (n = 0 ∧ a.length = 1) ∨ (n = 0 ∧ a.length ≠ 1) ∨ 0 < n := by omega
      by_cases hlt : k < s.size
      · have hki : (k : Int) < s.size := by omega
        have hat : atN s k = s[k].toNat := by simp [atN, hlt]; rfl
        have HAT := Lib.hid hat
        clear hat
        by_cases h32 : s[k].toNat = 32
        · have d1 : (s[k].toNat : Int) = 32 := by omega
          have HE := Lib.hid (wst_space (HAT.out.trans h32))
          clear h32
          rcases hshape with ⟨hn0, ha⟩ | ⟨hn0, ha⟩ | hn0
          --<SP1
          · as_aux_lemma =>
            have e1 : ((n : Int) + 1 == 1) = true := by simp [hn0]
            have e2 : ((a.length : Int) == 1) = true := by simp [ha]
            have HN := Lib.hid hn0
            have HAL := Lib.hid ha
            clear hn0 ha
            go_wp2_with fail
            go_roundw
            case rel => exact ⟨k + 1, _, F, g, cap, n, _, by omega, by simpa using HQL.out, rfl, by go_num, by rw [HE.out]; exact HP.out, (fun h => by rw [HE.out] at h; cases h), HO.out, HB.out⟩
            case measure => simp [intOf]; omega
          --SP1>
          --<SP2
          · as_aux_lemma =>
            have e1 : ((n : Int) + 1 == 1) = true := by simp [hn0]
            have e2 : ((a.length : Int) == 1) = false := by simp; omega
            have HN := Lib.hid hn0
            clear hn0 ha
            go_wp2_with fail
            go_roundw
            case rel => exact ⟨k + 1, _, F, g, cap, n, _, by omega, by simpa using HQL.out, rfl, by go_num, by rw [HE.out]; exact HP.out, (fun h => by rw [HE.out] at h; cases h), HO.out, HB.out⟩
            case measure => simp [intOf]; omega
          --SP2>
          --<SP3
          · as_aux_lemma =>
            have e1 : ((n : Int) + 1 == 1) = false := by simp; omega
            go_wp2_with fail
            go_roundw
            case rel => exact ⟨k + 1, _, F, g, cap, n, _, by omega, by simpa using HQL.out, rfl, by go_num, by rw [HE.out]; exact HP.out, (fun h => by rw [HE.out] at h; cases h), HO.out, HB.out⟩
            case measure => simp [intOf]; omega
          --SP3>
        · have d1 : ((s[k].toNat : Int) == 32) = false := by simp; omega
          have d1' : ((s[k].toNat : Int) != 32) = true := by simp; omega
          obtain ⟨m, hm1, hm2, hm3, hm4⟩ := tok_next hlt HBN.out (by rw [HAT.out]; exact h32)
          have HBAD := Lib.hid (parse_bad H2.out hm2 hm4 hm3 HP.out)
          rcases hshape with ⟨hn0, ha⟩ | hshape
          --<FULL
          · as_aux_lemma =>
            have HA : Hid (readA s = (zeroT, (k : Int), 3)) := Lib.hid (HBAD.out (by
              have : rest = [] := List.eq_nil_of_length_eq_zero (by omega)
              rw [this]; exact pstep_full ha))
            have e1 : ((n : Int) + 1 == 1) = true := by simp [hn0]
            have e2 : ((a.length : Int) == 1) = true := by simp [ha]
            have HN := Lib.hid hn0
            have HAL := Lib.hid ha
            clear hn0 ha hm3 hm4
            go_wp2_with fail
            refine (parse1_c _ _).mono ?_
            rintro e w2 ⟨rfl, hB2⟩
            have hs2' := hB2.size
            obtain ⟨q0, q1, q2, q3⟩ := (show Box wr w.heap.size _ _ _ _ from ⟨z0, z1, z2, z3⟩).step hB2
            have q5 := fun o => (hB2.frozen (p := ⟨w.heap.size, o, none⟩) hlw).trans (z5 o)
            have HFB := Lib.hid (below_step HBr.out (by omega) hB2)
            clear hB2 z0 z1 z2 z3 z5
            go_wp2_with fail
            refine bodyPost_ret (v := .tuple #[.agg #[.int .i64 0, .int .i64 0, .string ⟨#[]⟩, .slice none 0 0], .int .i64 k, .int .i64 3]) (by simp [results, Tryd.results15, go_sem, q0, q1, q2, q3]) rfl (RdP.zero HA.out rfl ?_)
            repeat (first | (with_reducible exact HFB.out) | (refine Below.setCell ?_ (by exact Nat.le_refl _) _))
          --FULL>
          · by_cases h40 : s[k].toNat = 40
            · have HPS := Lib.hid (parse_step (m := k + 1) (by rw [wst_paren (.inl (HAT.out.trans h40))]) HP.out (by rw [tok_op hlt (HAT.out.trans h40)]; exact pstep_op (by rcases hshape with h | h; exact .inr h.2; exact .inl fun e => by rw [e] at hrest; simp at hrest; omega)))
              have HB1 : Hid (Bnd s (k + 1)) := Lib.hid fun h => by rw [wst_paren (.inl (HAT.out.trans h40))] at h; cases h
              clear d1 d1' h32 hm3 hm4
              have d1 : (s[k].toNat : Int) = 40 := by omega
              clear h40
              rcases hshape with ⟨hn0, ha⟩ | hn0
              --<OP1
              · as_aux_lemma =>
                have e1 : ((n : Int) + 1 == 1) = true := by simp [hn0]
                have e2 : ((a.length : Int) == 1) = false := by simp; omega
                have HN := Lib.hid hn0
                clear hn0 ha
                have HO1 := HO
                go_wp2_with (first | (at_builtin; refine append_open (F := F) (base := w.heap.size + 1) (w := wr) (n := n) (rs := .slice ar a.length capr :: q) (st := a :: rest) _ _ rfl rfl rfl rfl rfl HO.out (by simpa using HQL.out) (by omega) ?_; intro g6 cap6 w6 hO6 hB6; have HO6 := Lib.hid hO6; have HB6 := Lib.hid hB6; clear hO6 hB6))
                go_roundw
                case rel => exact ⟨k + 1, _, F, g6, cap6, n + 1, _, by omega, by simpa using HQL.out, rfl, by go_num, HPS.out, HB1.out, HO6.out, HB.out.trans HB6.out⟩
                case measure => simp [intOf]; omega
          --OP1>
              --<OP2
              · as_aux_lemma =>
                have e1 : ((n : Int) + 1 == 1) = false := by simp; omega
                have HO1 := HO
                go_wp2_with (first | (at_builtin; refine append_open (F := F) (base := w.heap.size + 1) (w := wr) (n := n) (rs := .slice ar a.length capr :: q) (st := a :: rest) _ _ rfl rfl rfl rfl rfl HO.out (by simpa using HQL.out) (by omega) ?_; intro g6 cap6 w6 hO6 hB6; have HO6 := Lib.hid hO6; have HB6 := Lib.hid hB6; clear hO6 hB6))
                go_roundw
                case rel => exact ⟨k + 1, _, F, g6, cap6, n + 1, _, by omega, by simpa using HQL.out, rfl, by go_num, HPS.out, HB1.out, HO6.out, HB.out.trans HB6.out⟩
                case measure => simp [intOf]; omega
          --OP2>
            · by_cases h41 : s[k].toNat = 41
              · clear d1 d1' h32 h40
                have d1 : (s[k].toNat : Int) = 41 := by omega
                have htk := tok_cl hlt (HAT.out.trans h41)
                have hwp := wst_paren (.inr (HAT.out.trans h41))
                clear HBAD hm3 hm4 hm1 hm2
                rcases hshape with ⟨hn0, ha⟩ | hn0
                --<CL1
                · as_aux_lemma =>
                  have HA : Hid (readA s = (zeroT, (k : Int), 3)) := Lib.hid (parse_bad H2.out (show k + 1 ≤ s.size by omega) (fun h => by rw [hwp] at h; cases h) (by rw [hwp]) HP.out (by
                    have : rest = [] := List.eq_nil_of_length_eq_zero (by omega)
                    rw [this, htk]; exact pstep_cl1))
                  have e1 : ((n : Int) + 1 == 1) = true := by simp [hn0]
                  have e2 : ((a.length : Int) == 1) = false := by simp; omega
                  have HN := Lib.hid hn0
                  clear hn0 ha htk hwp h41
                  go_wp2_with fail
                  refine (parse1_c _ _).mono ?_
                  rintro e w2 ⟨rfl, hB2⟩
                  have hs2' := hB2.size
                  obtain ⟨q0, q1, q2, q3⟩ := (show Box wr w.heap.size _ _ _ _ from ⟨z0, z1, z2, z3⟩).step hB2
                  have q5 := fun o => (hB2.frozen (p := ⟨w.heap.size, o, none⟩) hlw).trans (z5 o)
                  have HFB := Lib.hid (below_step HBr.out (by omega) hB2)
                  clear hB2 z0 z1 z2 z3 z5
                  go_wp2_with fail
                  refine bodyPost_ret (v := .tuple #[.agg #[.int .i64 0, .int .i64 0, .string ⟨#[]⟩, .slice none 0 0], .int .i64 k, .int .i64 3]) (by simp [results, Tryd.results15, go_sem, q0, q1, q2, q3]) rfl (RdP.zero HA.out rfl ?_)
                  repeat (first | (with_reducible exact HFB.out) | (refine Below.setCell ?_ (by exact Nat.le_refl _) _))
          --CL1>
                --<CL2
                · obtain ⟨n', rfl⟩ : ∃ n', n = n' + 1 := ⟨n - 1, by omega⟩
                  have hO := HO.out
                  obtain ⟨x, q', rfl⟩ : ∃ x q', q = x :: q' := by cases q with | nil => have := HQL.out; simp at this | cons x q' => exact ⟨x, q', rfl⟩
                  obtain ⟨b, rest', rfl⟩ : ∃ b rest', rest = b :: rest' := by cases rest with | nil => simp at hrest | cons x q' => exact ⟨x, q', rfl⟩
                  have HQ' : Hid (q'.length = n') := Lib.hid (by have := HQL.out; simpa using this)
                  obtain ⟨hO1, hR1⟩ := hO.pop (by simp)
                  obtain ⟨ax, capx, rfl⟩ := hO1.parts.1.rsl2.form
                  have HPS := Lib.hid (parse_step (m := k + 1) (by rw [hwp]) HP.out (by rw [htk]; rfl))
                  have HB1 : Hid (Bnd s (k + 1)) := Lib.hid fun h => by rw [hwp] at h; cases h
                  obtain ⟨-, -, -, p3⟩ := hO1.top
                  rw [HQ'.out] at p3
                  have t0' : wr.cell? ⟨g, (n' + 1) * 4, none⟩ = some (.int .i64 4) := t0
                  have hbb : b.length ≤ 5000000 := by have := stB_mem (a := b) (st := a :: b :: rest') (by simp); have := length_le_bulk b; have := HBK.out; omega
                  have e1 : (((n' + 1 : Nat) : Int) + 1 == 1) = false := by simp; omega
                  have e1' : ((n' : Int) + 1 + 1 == 1) = false := by simp; omega
                  have HOC := Lib.hid (hO1.to (below_alloc wr (.cells #[.int .i64 4, .int .i64 0, .string ⟨#[]⟩, .slice ar a.length capr] 24)))
                  have HRC := Lib.hid (hR1.alloc (.cells #[.int .i64 4, .int .i64 0, .string ⟨#[]⟩, .slice ar a.length capr] 24))
                  have hcn : (n' : Int) + 1 ≤ cap := by have := hcap.1; have := HQ'.out; simp at *; omega
                  have hBX := Box.new wr (.int .i64 4) (.int .i64 0) (.string ⟨#[]⟩) (.slice ar a.length capr) 24
                  have hfx := slot_frozen wr (cs := #[.int .i64 4, .int .i64 0, .string ⟨#[]⟩, .slice ar a.length capr]) (e := 24)
                  have HBC := Lib.hid (below_alloc wr (.cells #[.int .i64 4, .int .i64 0, .string ⟨#[]⟩, .slice ar a.length capr] 24))
                  have hxn : (Value.slice ax b.length capx).ownBlock ≠ some wr.heap.size := fun e => by have := (hO1.parts.block _ (by simp) _ e).2.1; omega
                  clear hO hO1 hR1 htk hwp h41 t0
                  go_wp2_with fail
                  obtain ⟨Wc, hWc⟩ : ∃ W : World, W = wr.alloc (.cells #[.int .i64 4, .int .i64 0, .string ⟨#[]⟩, .slice ar a.length capr] 24) := ⟨_, rfl⟩
                  have hsw : wr.heap.size + 1 ≤ Wc.heap.size ∧ Wc.heap.size ≤ wr.heap.size + 1 := by rw [hWc]; simp
                  have hb1 : (b.length : Int) < b.length + 1 := by omega
                  rw [← hWc] at HOC HRC hBX hfx HBC ⊢
                  clear hWc
                  have hbcc := bcell HBC.out
                  have p3 := (hbcc.1 g (n' * 4 + 3) hlg.2).trans p3
                  have hfc : ∀ o, Wc.frozen? ⟨g, o, none⟩ = false := fun o => (hbcc.2 g o hlg.2).trans (hfg o)
                  have hgc : g < Wc.heap.size := by omega
                  have hlx : wr.heap.size < Wc.heap.size := by omega
                  have HOW := Lib.hid HOC.out.own
                  obtain ⟨x0, x1, x2, x3⟩ := hBX
                  have hgx : g ≠ wr.heap.size := by omega
                  have hgx' : wr.heap.size ≠ g := by omega
                  clear hbcc z0 z1 z2 z3 z5 t0' t1 t2 t3 hfg
                  go_region_law (first | (refine step_grow' (w0 := Wc.drew) (v := .slice ax b.length capx) _ _ (by rfl) (by rfl) (by rfl) (by rfl) rfl HOW.out (zeroT_rt (fun _ => False) _) (fun b hb => hb.elim) rfl (by omega) (by simp; omega) ?_; intro gg cg w4 hO4 hG4 hD4; obtain ⟨j1, j2, j3, j4⟩ := grown_facts HOC.out hO4 hG4 hD4; obtain ⟨l0, l1, l2, al, cl, l3⟩ := hO4.lastC rfl; have lf := (fun o => OwnG.frozen hO4 o); have i0 := (World.cell?_of_block (a := ⟨g, n' * 4 + 3, none⟩) (j3 g hgc j4)).trans p3; have if0 := (fun o => (World.frozen?_of_block (a := ⟨g, o, none⟩) (j3 g hgc j4)).trans (hfc o)); have j5 := j2.symm; have i1 := (fun o => World.cell?_of_block (a := ⟨wr.heap.size, o, none⟩) (j3 wr.heap.size (by omega) hxn)); have y0 := (i1 0).trans x0; have y1 := (i1 1).trans x1; have y2 := (i1 2).trans x2; have y3 := (i1 3).trans x3; clear i1; obtain ⟨HP1, HP2⟩ := HOC.out.putted HRC.out hO4 hG4 hD4; have HP1 := Lib.hid HP1; have HP2 := Lib.hid HP2; clear hO4 hG4 hD4 j3 j4))
                  all_goals (
                    go_wp2_with fail
                    go_roundw
                    case rel =>
                      have HP1' := HP1.out
                      have HP2' := HP2.out
                      rw [HQ'.out] at HP1' HP2'
                      have HQ2 := HQ'.out
                      refine ⟨k + 1, (b ++ [tupT a]) :: rest', (fun b' => F b' ∨ (Value.slice ar a.length capr).ownBlock = some b'), g, cap, n', .slice (some ⟨gg, 0, none⟩) (b.length + 1) cg :: q', by omega, by rw [List.length_cons, HQ2], rfl, by go_num, HPS.out, HB1.out, ?_, ?_⟩
                      · (try rw [put_order _ j2])
                        with_reducible exact HP1'
                      · (try rw [put_order _ j2])
                        have HBX := HB.out.trans ((HBC.out.mono (show w.heap.size + 1 ≤ wr.heap.size by omega)).trans HP2')
                        with_reducible exact HBX
                    case measure => simp [intOf]; omega)
          --CL2>
              --<LF
              · have hsp : specB (atN s k) = false := by have := HAT.out; simp [specB]; omega
                have d2 : ((s[k].toNat : Int) == 40) = false := by simp; omega
                have d3 : ((s[k].toNat : Int) == 41) = false := by simp; omega
                have HSP := Lib.hid hsp
                have hcase : (((n : Int) + 1 == 1) = true ∧ ((a.length : Int) == 1) = false) ∨ ((n : Int) + 1 == 1) = false := by
                  rcases hshape with h | h
                  · exact .inl ⟨by simp [h.1], by simp; omega⟩
                  · exact .inr (by simp; omega)
                have HFUL : Hid (rest ≠ [] ∨ a.length ≠ 1) := Lib.hid (by rcases hshape with h | h; exact .inr h.2; exact .inl fun e => by rw [e] at hrest; simp at hrest; omega)
                clear HBAD hm1 hm2 hm3 hm4 m hsp hshape h32 h40 h41
                go_upto_region 8 with fail
                go_cut [46] (fun b wx => b = .bool false ∧ wx = wr)
                case first =>
                  rcases hcase with ⟨e1, e2⟩ | e1
                  all_goals
                    go_wp2_with fail
                    go_meet
                    exact ⟨rfl, rfl⟩
                case rest =>
                  obtain ⟨rfl, rfl⟩ := hcut
                  clear hcase
                  go_wp2_with fail
                  go_loopw [10] (fun kv wx => ∃ j : Nat, kv = .int .i64 j ∧ k ≤ j ∧ j ≤ s.size ∧ (∀ x, k ≤ x → x < j → specB (atN s x) = false) ∧ wx = wc) (fun kv _ => s.size - (intOf kv).toNat)
                  case atStart => exact ⟨k, rfl, Nat.le_refl _, by omega, fun x h1 h2 => by omega, rfl⟩
                  case round =>
                    obtain ⟨j, rfl, hkj, hjs, hall, rfl⟩ := hrel
                    have HALL := Lib.hid hall
                    clear hall
                    go_upto_region 12 with fail
                    go_cut [78] (fun b wx => b = .bool (decide (j < s.size ∧ specB (atN s j) = false)) ∧ wx = wr)
                    case first =>
                      by_cases hj : j < s.size
                      · have hji : (j : Int) < s.size := by omega
                        have hatj : atN s j = s[j].toNat := by simp [atN, hj]; rfl
                        by_cases c1 : s[j].toNat = 32
                        · have hdd : decide (j < s.size ∧ specB (atN s j) = false) = false := by rw [hatj, c1]; simp [specB]
                          have b1 : (s[j].toNat : Int) = 32 := by omega
                          clear hatj c1
                          go_wp2_with fail
                          go_meet
                          exact ⟨by rw [hdd], rfl⟩
                        have b1 : ((s[j].toNat : Int) == 32) = false := by simp; omega
                        by_cases c2 : s[j].toNat = 40
                        · have hdd : decide (j < s.size ∧ specB (atN s j) = false) = false := by rw [hatj, c2]; simp [specB]
                          have b2 : (s[j].toNat : Int) = 40 := by omega
                          clear hatj c2 c1
                          go_wp2_with fail
                          go_meet
                          exact ⟨by rw [hdd], rfl⟩
                        have b2 : ((s[j].toNat : Int) == 40) = false := by simp; omega
                        by_cases c3 : s[j].toNat = 41
                        · have hdd : decide (j < s.size ∧ specB (atN s j) = false) = false := by rw [hatj, c3]; simp [specB]
                          have b3 : (s[j].toNat : Int) = 41 := by omega
                          clear hatj c3 c2 c1
                          go_wp2_with fail
                          go_meet
                          exact ⟨by rw [hdd], rfl⟩
                        have b3 : ((s[j].toNat : Int) == 41) = false := by simp; omega
                        have hdd : decide (j < s.size ∧ specB (atN s j) = false) = true := by rw [hatj]; simp [specB, hj, c1, c2, c3]
                        have b1' : ((s[j].toNat : Int) != 32) = true := by simp; omega
                        have b2' : ((s[j].toNat : Int) != 40) = true := by simp; omega
                        have b3' : ((s[j].toNat : Int) != 41) = true := by simp; omega
                        clear hatj c3 c2 c1
                        go_wp2_with fail
                        go_meet
                        exact ⟨by rw [hdd], rfl⟩
                      · have hdd : decide (j < s.size ∧ specB (atN s j) = false) = false := by simp [hj]
                        have hji : ¬ (j : Int) < s.size := by omega
                        have hji2 : (s.size : Int) ≤ j := by omega
                        go_wp2_with fail
                        go_meet
                        exact ⟨by rw [hdd], rfl⟩
                    case rest =>
                      obtain ⟨rfl, rfl⟩ := hcut
                      by_cases hcj : j < s.size ∧ specB (atN s j) = false
                      · have hdd : decide (j < s.size ∧ specB (atN s j) = false) = true := decide_eq_true hcj
                        have HCJ := Lib.hid hcj
                        have hjl : (j : Int) < s.size := by omega
                        clear hcj
                        rw [hdd]
                        go_wp2_with fail
                        go_roundw
                        case rel =>
                          exact ⟨j + 1, by go_num, by omega, by omega, fun x h1 h2 => by
                            by_cases hx : x = j
                            · rw [hx]; exact HCJ.out.2
                            · exact HALL.out x h1 (by omega), by trivial⟩
                        case measure => simp [intOf]; omega
                      · have hdd : decide (j < s.size ∧ specB (atN s j) = false) = false := decide_eq_false hcj
                        have hkj2 : k < j := by
                          rcases Nat.lt_or_ge k j with h | h
                          · exact h
                          · exfalso
                            have e : j = k := by omega
                            subst e
                            exact hcj ⟨by omega, HSP.out⟩
                        have HW := Lib.hid (word_at HBN.out hkj2 hjs HALL.out (by
                          by_cases hjn : j < s.size
                          · right
                            cases e : specB (atN s j)
                            · exact absurd ⟨hjn, e⟩ hcj
                            · rfl
                          · left; omega))
                        have HTK := Lib.hid (tok_lf hkj2 hjs HSP.out)
                        clear hcj
                        rw [hdd]
                        go_wp2_with fail
                        have hsz2 : (wordS s (k, j)).size = j - k := by simp [wordS, ByteArray.size_extract]; omega
                        refine (leaf_c (wordS s (k, j)) _ (by omega) (by omega)).mono ?_
                        rintro e w2 ⟨lk, ln, lname, rfl, hB2, hlt2⟩
                        have hs2' := hB2.size
                        have HQ := Lib.hid ((show Box wc w.heap.size _ _ _ _ from ⟨z0, z1, z2, z3⟩).step hB2)
                        have HQ5 := Lib.hid (fun o => (hB2.frozen (p := ⟨w.heap.size, o, none⟩) hlw).trans (z5 o))
                        cases hlf : leafB (wordS s (k, j))
                        · have HA := Lib.hid (parse_bad H2.out hjs HW.out.2 HW.out.1 HP.out (by rw [HTK.out, hlf]; exact pstep_nlf))
                          have HFB := Lib.hid ((below_step HBr.out (by omega) hB2).alloc (by omega) (.cells #[.int .i64 lk, .int .i64 ln, .string lname, .slice none 0 0] 24))
                          clear hB2 hlt2 hlf z0 z1 z2 z3 z5 t0 t1 t2 t3 hfg
                          go_wp2_with fail
                          refine (parse1_c _ _).mono ?_
                          rintro e w3 ⟨rfl, hB3⟩
                          have hs3 := hB3.size
                          simp only [World.size_alloc] at hs3
                          obtain ⟨q0, q1, q2, q3⟩ := ((HQ.out.alloc (.cells #[.int .i64 lk, .int .i64 ln, .string lname, .slice none 0 0] 24)).step hB3)
                          have q5 : ∀ o, w3.frozen? ⟨w.heap.size, o, none⟩ = false := fun o => by
                            rw [hB3.frozen (p := ⟨w.heap.size, o, none⟩) (by simp; omega)]
                            have := HQ5.out o
                            have hlt : w.heap.size < w2.heap.size := by omega
                            go_simp
                          have HFB3 := Lib.hid (below_step HFB.out (by simp; omega) hB3)
                          clear hB3
                          go_wp2_with fail
                          refine bodyPost_ret (v := .tuple #[.agg #[.int .i64 0, .int .i64 0, .string ⟨#[]⟩, .slice none 0 0], .int .i64 k, .int .i64 3]) (by simp [results, Tryd.results15, go_sem, q0, q1, q2, q3]) rfl (RdP.zero HA.out rfl ?_)
                          repeat (first | (with_reducible exact HFB3.out) | (refine Below.setCell ?_ (by exact Nat.le_refl _) _))
                        · have hT := hlt2 hlf
                          have HPS := Lib.hid (parse_step (m := j) HW.out.1 HP.out (by rw [HTK.out, hlf]; exact pstep_lf HFUL.out))
                          have HRC : Hid (RT F (w2.alloc (.cells #[.int .i64 lk, .int .i64 ln, .string lname, .slice none 0 0] 24)) (leafT (wordS s (k, j))) (.agg #[.int .i64 lk, .int .i64 ln, .string lname, .slice none 0 0])) := Lib.hid (by rw [hT]; exact ⟨none, 0, rfl, ⟨Nat.le_refl _, fun _ => rfl⟩, by simp [RTs]⟩)
                          have HOC := Lib.hid ((HO.out.to hB2).to (below_alloc w2 (.cells #[.int .i64 lk, .int .i64 ln, .string lname, .slice none 0 0] 24)))
                          have hBX := Box.new w2 (.int .i64 lk) (.int .i64 ln) (.string lname) (.slice none 0 0) 24
                          have hfx := slot_frozen w2 (cs := #[.int .i64 lk, .int .i64 ln, .string lname, .slice none 0 0]) (e := 24)
                          have HBC := Lib.hid (hB2.trans ((below_alloc w2 (.cells #[.int .i64 lk, .int .i64 ln, .string lname, .slice none 0 0] 24)).mono (by omega)))
                          have hxn : (Value.slice ar a.length capr).ownBlock ≠ some w2.heap.size := fun e => by have := (HO.out.parts.block _ (by simp) _ e).2.1; omega
                          generalize leafT (wordS s (k, j)) = lt at *
                          clear hB2 hlt2 hlf hT z0 z1 z2 z3 z5 t0 t1 t2
                          go_wp2_with fail
                          obtain ⟨Wc, hWc⟩ : ∃ W : World, W = w2.alloc (.cells #[.int .i64 lk, .int .i64 ln, .string lname, .slice none 0 0] 24) := ⟨_, rfl⟩
                          have hsw : w2.heap.size + 1 ≤ Wc.heap.size ∧ Wc.heap.size ≤ w2.heap.size + 1 := by rw [hWc]; simp
                          have hb1 : (a.length : Int) < a.length + 1 := by omega
                          rw [← hWc] at HOC HRC hBX hfx HBC ⊢
                          clear hWc
                          have hbcc := bcell HBC.out
                          have p3 := (hbcc.1 g (n * 4 + 3) hlg.2).trans t3
                          have hfc : ∀ o, Wc.frozen? ⟨g, o, none⟩ = false := fun o => (hbcc.2 g o hlg.2).trans (hfg o)
                          have hgc : g < Wc.heap.size := by omega
                          have hlx : w2.heap.size < Wc.heap.size := by omega
                          have HOW := Lib.hid HOC.out.own
                          obtain ⟨x0, x1, x2, x3⟩ := hBX
                          have hgx : g ≠ w2.heap.size := by omega
                          have hgx' : w2.heap.size ≠ g := by omega
                          clear hbcc hfg t3
                          go_region_law (first | (refine step_grow' (w0 := Wc.drew) (v := .slice ar a.length capr) _ _ (by rfl) (by rfl) (by rfl) (by rfl) rfl HOW.out (zeroT_rt (fun _ => False) _) (fun b hb => hb.elim) rfl (by omega) (by simp; omega) ?_; intro gg cg w4 hO4 hG4 hD4; obtain ⟨j1, j2, j3, j4⟩ := grown_facts HOC.out hO4 hG4 hD4; obtain ⟨l0, l1, l2, al, cl, l3⟩ := hO4.lastC rfl; have lf := (fun o => OwnG.frozen hO4 o); have i0 := (World.cell?_of_block (a := ⟨g, n * 4 + 3, none⟩) (j3 g hgc j4)).trans p3; have if0 := (fun o => (World.frozen?_of_block (a := ⟨g, o, none⟩) (j3 g hgc j4)).trans (hfc o)); have j5 := j2.symm; have i1 := (fun o => World.cell?_of_block (a := ⟨w2.heap.size, o, none⟩) (j3 w2.heap.size (by omega) hxn)); have y0 := (i1 0).trans x0; have y1 := (i1 1).trans x1; have y2 := (i1 2).trans x2; have y3 := (i1 3).trans x3; clear i1; obtain ⟨HP1, HP2⟩ := HOC.out.putted HRC.out hO4 hG4 hD4; have HP1 := Lib.hid HP1; have HP2 := Lib.hid HP2; clear hO4 hG4 hD4 j3 j4))
                          all_goals (
                            go_wp2_with fail
                            go_roundw
                            case rel =>
                              have HP1' := HP1.out
                              have HP2' := HP2.out
                              rw [HQL.out] at HP1' HP2'
                              refine ⟨j, (a ++ [lt]) :: rest, F, g, cap, n, .slice (some ⟨gg, 0, none⟩) (a.length + 1) cg :: q, by omega, by rw [List.length_cons, HQL.out], rfl, by go_num, HPS.out, HW.out.2, ?_, ?_⟩
                              · (try rw [put_order _ j2])
                                with_reducible exact HP1'
                              · (try rw [put_order _ j2])
                                have HBX := HB.out.trans ((HBC.out.mono (show w.heap.size + 1 ≤ wc.heap.size by omega)).trans HP2')
                                with_reducible exact HBX
                            case measure => simp [intOf]; omega)
          --LF>
      --<END
      · as_aux_lemma =>
        have hke : k = s.size := by omega
        subst hke
        have hin : ((s.size : Nat) : Int) ≤ s.size := Int.le_refl _
        have HOPEN := Lib.hid (@readA_open s · H2.out)
        rcases Nat.lt_or_ge 0 n with hn0 | hn0
        · have HA := Lib.hid (HOPEN.out _ HP.out fun t e => by
            have : rest = [] := by simpa using (List.cons.inj e).2
            rw [this] at hrest; simp at hrest; omega)
          have e1 : (1 : Int) < n + 1 := by omega
          clear t0 t1 t2 hfg
          go_wp2_with fail
          refine (parse1_c _ _).mono ?_
          rintro e w2 ⟨rfl, hB2⟩
          have hs2' := hB2.size
          obtain ⟨q0, q1, q2, q3⟩ := (show Box wr w.heap.size _ _ _ _ from ⟨z0, z1, z2, z3⟩).step hB2
          have q5 := fun o => (hB2.frozen (p := ⟨w.heap.size, o, none⟩) hlw).trans (z5 o)
          have HFB := Lib.hid (below_step HBr.out (by omega) hB2)
          clear hB2 z0 z1 z2 z3 z5
          go_wp2_with fail
          refine bodyPost_ret (v := .tuple #[.agg #[.int .i64 0, .int .i64 0, .string ⟨#[]⟩, .slice none 0 0], .int .i64 s.size, .int .i64 3]) (by simp [results, Tryd.results15, go_sem, q0, q1, q2, q3]) rfl (RdP.zero HA.out rfl ?_)
          repeat (first | (with_reducible exact HFB.out) | (refine Below.setCell ?_ (by exact Nat.le_refl _) _))
        · obtain rfl : n = 0 := by omega
          have hre : rest = [] := List.eq_nil_of_length_eq_zero (by omega)
          subst hre
          obtain ⟨d, hd, hsi⟩ := (runs_agree _ 0 0 _ sinv_start).2 _ HP.out
          have hal : a.length = 0 ∨ a.length = 1 := by
            have h1 := hsi.1
            simp at h1
            obtain ⟨b, hb, hbl⟩ := hsi.2.1 (by omega)
            simp only [List.cons.injEq, and_true] at hb
            subst hb
            split at hbl <;> omega
          clear hd hsi d
          rcases hal with hal | hal
          · have ha0 : a = [] := List.eq_nil_of_length_eq_zero hal
            have HA := Lib.hid (HOPEN.out _ HP.out fun t e => by rw [ha0] at e; simp at e)
            have e1 : ((a.length : Int) == 0) = true := by simp [hal]
            have HAL := Lib.hid hal
            clear ha0 hal hshape
            have e0 := HAL
            clear t0 t1 t2 hfg
            go_wp2_with fail
            refine (parse1_c _ _).mono ?_
            rintro e w2 ⟨rfl, hB2⟩
            have hs2' := hB2.size
            obtain ⟨q0, q1, q2, q3⟩ := (show Box wr w.heap.size _ _ _ _ from ⟨z0, z1, z2, z3⟩).step hB2
            have q5 := fun o => (hB2.frozen (p := ⟨w.heap.size, o, none⟩) hlw).trans (z5 o)
            have HFB := Lib.hid (below_step HBr.out (by omega) hB2)
            clear hB2 z0 z1 z2 z3 z5
            go_wp2_with fail
            refine bodyPost_ret (v := .tuple #[.agg #[.int .i64 0, .int .i64 0, .string ⟨#[]⟩, .slice none 0 0], .int .i64 s.size, .int .i64 3]) (by simp [results, Tryd.results15, go_sem, q0, q1, q2, q3]) rfl (RdP.zero HA.out rfl ?_)
            repeat (first | (with_reducible exact HFB.out) | (refine Below.setCell ?_ (by exact Nat.le_refl _) _))
          · obtain ⟨t, rfl⟩ : ∃ t, a = [t] := List.length_eq_one_iff.1 hal
            clear hal hshape
            obtain ⟨gx, ox, rfl⟩ := HO.out.parts.1.rsl2.addr (by simp)
            obtain ⟨ax, capx, hgx, c0, c1, c2, c3, hrt⟩ := HO.out.parts.1.rsl2.elem 0 (by simp)
            simp only [Nat.zero_mul, Nat.add_zero, List.getElem_cons_zero] at c0 c1 c2 c3 hrt
            have HOK := Lib.hid (@readA_ok s t H2.out HP.out)
            have HNO := Lib.hid (@readA_no s t H2.out HP.out)
            have HRT := Lib.hid (hrt.alloc (.cells #[.int .i64 t.kind, .int .i64 t.n, .string t.name, .slice ax t.args.length capx] 24))
            clear hrt hgx t0 t1 t2 hfg
            go_wp2_with fail
            refine (check_c t _ _ _ HRT.out (by have := HBK.out; simp only [stB] at this; omega)).mono ?_
            rintro e w3 ⟨rfl, hB3⟩
            have hs3 := hB3.size
            simp only [World.size_alloc] at hs3
            obtain ⟨q0, q1, q2, q3⟩ := (((show Box wr w.heap.size _ _ _ _ from ⟨z0, z1, z2, z3⟩).alloc (.cells #[.int .i64 t.kind, .int .i64 t.n, .string t.name, .slice ax t.args.length capx] 24)).step hB3)
            have q5 : ∀ o, w3.frozen? ⟨w.heap.size, o, none⟩ = false := fun o => by
              rw [hB3.frozen (p := ⟨w.heap.size, o, none⟩) (by simp; omega)]
              have := z5 o
              go_simp
            obtain ⟨y0, y1, y2, y3⟩ := (Box.new wr (.int .i64 t.kind) (.int .i64 t.n) (.string t.name) (.slice ax t.args.length capx) 24).step hB3
            have HFB3 := Lib.hid (below_step (HBr.out.alloc (by omega) (.cells #[.int .i64 t.kind, .int .i64 t.n, .string t.name, .slice ax t.args.length capx] 24)) (by simp; omega) hB3)
            have HRV4 := Lib.hid (HRT.out.below hB3)
            clear hB3 z0 z1 z2 z3 z5 c0 c1 c2 c3 t3
            by_cases hck : checkE t = 0
            · have e3 : (checkE t != 0) = false := by simp [hck]
              have HA := Lib.hid (HOK.out hck)
              clear hck
              go_wp2_with fail
              refine bodyPost_ret (v := .tuple #[.agg #[.int .i64 t.kind, .int .i64 t.n, .string t.name, .slice ax t.args.length capx], .int .i64 0, .int .i64 0]) (by simp [results, Tryd.results15, go_sem, q0, q1, q2, q3]) rfl (RdP.some HA.out rfl ?_ ?_)
              · repeat (first | (with_reducible exact HFB3.out) | (refine Below.setCell ?_ (by exact Nat.le_refl _) _))
              · refine RT.mono (S := F) ?_ fun b hb => (by have := (HO.out.old b hb).1; omega)
                repeat refine RT.slot ?_ _ _ _ (fun b hb => by have := (HO.out.old b hb).1; omega)
                exact HRV4.out
            · have e3 : (checkE t != 0) = true := by simp [hck]
              have HA := Lib.hid (HNO.out hck)
              clear hck
              go_wp2_with fail
              refine bodyPost_ret (v := .tuple #[.agg #[.int .i64 0, .int .i64 0, .string ⟨#[]⟩, .slice none 0 0], .int .i64 0, .int .i64 (checkE t)]) (by simp [results, Tryd.results15, go_sem, q0, q1, q2, q3]) rfl (RdP.zero HA.out rfl ?_)
              repeat (first | (with_reducible exact HFB3.out) | (refine Below.setCell ?_ (by exact Nat.le_refl _) _))
          --END>
end Go.Proofs.YtedfepnekjjmnabDoor
