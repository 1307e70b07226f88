/-
  TermBack: the walk. Conditions: the bound, and the table of powers as its initialiser lays it.
-/
import Derived.Test.YtedfepnekjjmnabDoorJd
import Derived.Test.YtedfepnekjjmnabDoorParseW
namespace Go.Proofs.YtedfepnekjjmnabDoor
open Go.RowKit
set_option linter.unusedSimpArgs false
set_option linter.unusedVariables false
set_option maxRecDepth 100000

/-- A reading: its cells. -/
theorem RdP.form {s : ByteArray} {w w' : World} {e : Ending} (h : RdP s w e w') : ∃ a cap, e = .returned (.tuple #[.agg #[.int .i64 (readA s).1.kind, .int .i64 (readA s).1.n, .string (readA s).1.name, .slice a (readA s).1.args.length cap], .int .i64 (readA s).2.1, .int .i64 (readA s).2.2]) ∧ Below w.heap.size w w' ∧
    RT (fun b => w.heap.size ≤ b) w' (readA s).1 (.agg #[.int .i64 (readA s).1.kind, .int .i64 (readA s).1.n, .string (readA s).1.name, .slice a (readA s).1.args.length cap]) := by
  obtain ⟨v, he, hB, a, cap, rfl, hc, hr⟩ := h
  exact ⟨a, cap, he, hB, a, cap, rfl, hc, hr⟩
set_option maxHeartbeats 4000000 in
theorem kread_c (w : World) (htab : TabB w) : Calls Tryd.prog 14 #[] w fun e w' => e = .returned (.bool true) ∧ Below w.heap.size w w' := by
  have HT := Lib.hid htab
  have HRD := Lib.hid rd_read
  have HPR := Lib.hid rd_text
  have HCK := Lib.hid rd_check
  have HSZ := Lib.hid rd_size
  have hbx := rd_bulk
  clear htab
  go_enter Tryd.func14, Tryd.ntmps14
  go_wp2_with fail
  refine (two_c w).mono ?_
  rintro e w1 ⟨v, rfl, hB1, a1, c1, rfl, hc1, hr1⟩
  have hs1 := hB1.size
  have HB1 := Lib.hid hB1
  have HT1 : Hid (RT (fun b => w.heap.size ≤ b) w1 twoT _) := Lib.hid ⟨a1, c1, rfl, hc1, hr1⟩
  clear hB1 hc1 hr1
  go_wp2_with fail
  refine (tuple_c _ _ _ _).mono ?_
  rintro e w2 ⟨rfl, hB2⟩
  have hs2 := hB2.size
  simp only [World.size_alloc] at hs2
  have HR2 : Hid (RT (fun b => w.heap.size ≤ b) w2 rdT (.agg #[.int .i64 4, .int .i64 0, .string ⟨#[]⟩, .slice (some ⟨w1.heap.size, 0, none⟩) 2 2])) := Lib.hid (RT.below (sm_tup (CellsT.one HT1.out (CellsT.one (show RT _ _ (pidT 3) _ from ⟨none, 0, rfl, ⟨Nat.le_refl _, fun _ => rfl⟩, by simp [pidT, RTs]⟩) (show CellsT _ _ [] [] from rfl))) rfl hs1 rfl) hB2)
  have HB2 : Hid (Below w.heap.size w w2) := Lib.hid (HB1.out.trans (((below_alloc _ _).trans (hB2.mono (by simp))).mono hs1))
  clear hB2
  go_wp2_with fail
  refine (print_c rdT _ w2 _ HR2.out (by omega) (HT.out.on HB2.out)).mono ?_
  rw [show PrintP rdT w2 = fun e w' => e = .returned (.tuple #[.string rdOut, .int .i64 0]) ∧ Below w2.heap.size w2 w' by unfold PrintP; rw [HPR.out, HCK.out]]
  rintro e w3 ⟨rfl, hB3⟩
  have hs3 := hB3.size
  have HB3 : Hid (Below w.heap.size w w3) := Lib.hid (HB2.out.trans (hB3.mono (by omega)))
  clear hB3
  go_wp2_with fail
  refine (parse_c rdS w3 (by decide)).mono ?_
  intro e w4 hp
  obtain ⟨a4, c4, he, hB4, hT4⟩ := hp.form
  rw [HRD.out] at he hT4
  simp only at he hT4
  subst he
  have hs4 := hB4.size
  obtain ⟨W4, hW4⟩ : ∃ W : World, W = w4.alloc (.cells #[.int .i64 rdT.kind, .int .i64 rdT.n, .string rdT.name, .slice a4 rdT.args.length c4] 24) := ⟨_, rfl⟩
  obtain ⟨g4, hg4⟩ : ∃ g, g = w4.heap.size := ⟨_, rfl⟩
  have HX4 : Hid (Blk W4 g4 [.int .i64 rdT.kind, .int .i64 rdT.n, .string rdT.name, .slice a4 rdT.args.length c4]) := Lib.hid (by rw [hW4]; exact Blk.new _ _ _ _ hg4)
  have HB4 : Hid (Below w.heap.size w W4) := Lib.hid (by rw [hW4]; exact (HB3.out.trans (hB4.mono (by omega))).alloc (by omega) _)
  have HT4 : Hid (RT (fun b => w3.heap.size ≤ b) W4 rdT (.agg #[.int .i64 rdT.kind, .int .i64 rdT.n, .string rdT.name, .slice a4 rdT.args.length c4])) := Lib.hid (by rw [hW4]; exact hT4.alloc _)
  have HW4 := Lib.hid hW4
  have HG4 := Lib.hid hg4
  clear hp hB4 hT4 hW4 hg4
  go_upto_region 3 with fail
  rw [← HW4.out, ← HG4.out]
  have y0 := HX4.out.cell 0 _ rfl
  have y1 := HX4.out.cell 1 _ rfl
  have y2 := HX4.out.cell 2 _ rfl
  have y3 := HX4.out.cell 3 _ rfl
  unfold rdOut
  go_wp2_with fail
  refine (size_c rdT _ W4 _ HT4.out (by omega)).mono ?_
  rw [HSZ.out]
  rintro e w5 ⟨rfl, hB5⟩
  have HB5 : Hid (Below w.heap.size w w5) := Lib.hid (HB4.out.trans (hB5.mono HB4.out.size))
  clear hB5 y0 y1 y2 y3
  go_wp2_with fail
  go_ret
  exact ⟨rfl, HB5.out⟩
def printed (t : T) : Int := ((printS t).size : Int)
theorem printS_ok {t : T} (h : checkE t = 0) : printS t = txT t ∧ ((printS t).size : Int) = (textT t).length := by
  have : printS t = txT t := by unfold printS; rw [if_pos h]
  exact ⟨this, by rw [this, show (txT t).size = (textT t).length from bytes_size _]⟩
theorem printS_len {t : T} (h : checkE t = 0) (hb : bulkL [t] ≤ 1099511627776) : (printS t).size ≤ maxLen := by
  have h1 := textT_len (check_form0 h)
  rw [(printS_ok h).1, show (txT t).size = (textT t).length from bytes_size _]
  unfold maxLen; omega
theorem anyRead_long {t : T} (h : checkE t = 0) (hl : 2048 < (printS t).size) : readA (printS t) = (zeroT, 0, 2) := by
  rw [(printS_ok h).1] at hl ⊢
  exact read_long (by rw [show (txT t).size = (textT t).length from bytes_size _] at hl; exact hl)
theorem anyRead_short {t : T} (h : checkE t = 0) (hl : ¬ 2048 < (printS t).size) : readA (printS t) = (t, 0, 0) := by
  rw [(printS_ok h).1] at hl ⊢
  exact read_text h (by rw [show (txT t).size = (textT t).length from bytes_size _] at hl; omega)
theorem RdP.to {s : ByteArray} {w w' : World} {e : Ending} {t : T} {n m : Int} (h : RdP s w e w') (hr : readA s = (t, n, m)) : ∃ a cap, e = .returned (.tuple #[.agg #[.int .i64 t.kind, .int .i64 t.n, .string t.name, .slice a t.args.length cap], .int .i64 n, .int .i64 m]) ∧ Below w.heap.size w w' ∧
    RT (fun b => w.heap.size ≤ b) w' t (.agg #[.int .i64 t.kind, .int .i64 t.n, .string t.name, .slice a t.args.length cap]) := by
  have h1 := h.form
  rw [hr] at h1
  exact h1
theorem readA_bulk (s : ByteArray) : bulkL [(readA s).1] ≤ 1099511627776 := by
  have hz : bulkL [zeroT] ≤ 1099511627776 := by simp [zeroT, bulkL, ByteArray.size]
  unfold readA
  split
  · exact hz
  · rename_i h2
    split
    · exact hz
    · rename_i t hp
      split
      · have := stack_bulk (by omega) (Nat.le_refl _) hp
        simp only [stB] at this
        show bulkL [t] ≤ _
        omega
      · exact hz
    · exact hz
/-- From the second reading on. -/
def TbRel (w W0 : World) (g0 : Nat) (wx : World) : Prop := Below w.heap.size w wx ∧ W0.heap.size ≤ wx.heap.size ∧ ∃ cs, cs.length = 4 ∧ Blk wx g0 cs
set_option maxHeartbeats 8000000 in
theorem tback_walk (t : T) (s : ByteArray) (w : World) (vt : Value) (ht : RT (fun b => b < w.heap.size) w t vt) (hb : bulkL [t] ≤ 1048576) (hs : s.size ≤ 1048576) (htab : TabB w) :
    Calls Tryd.prog 4 #[vt, .string s] w fun e w' => e = .returned (.bool true) ∧ Below w.heap.size w w' := by
  obtain ⟨a, cap, rfl, hcap, hr⟩ := ht
  obtain ⟨W0, hW0⟩ : ∃ W : World, W = w.alloc (.cells #[.int .i64 t.kind, .int .i64 t.n, .string t.name, .slice a t.args.length cap] 24) := ⟨_, rfl⟩
  obtain ⟨g0, hg0⟩ : ∃ g, g = w.heap.size := ⟨_, rfl⟩
  have HX0 : Hid (Blk W0 g0 [.int .i64 t.kind, .int .i64 t.n, .string t.name, .slice a t.args.length cap]) := Lib.hid (by rw [hW0]; exact Blk.new _ _ _ _ hg0)
  have HB0 : Hid (Below w.heap.size w W0) := Lib.hid (by rw [hW0]; exact below_alloc _ _)
  have HTT : Hid (RT (fun b => b < w.heap.size) W0 t (.agg #[.int .i64 t.kind, .int .i64 t.n, .string t.name, .slice a t.args.length cap])) := Lib.hid (RT.below ⟨a, cap, rfl, hcap, hr⟩ HB0.out)
  have HT0 := Lib.hid (htab.on HB0.out)
  have HTAB := Lib.hid htab
  have hs0 := HB0.out.size
  have hg0l : g0 < W0.heap.size := HX0.out.lt
  have hg0w : w.heap.size ≤ g0 := by omega
  have HW0 := Lib.hid hW0
  have HG0 := Lib.hid hg0
  clear hr hcap htab hW0 hg0
  go_enter Tryd.func4, Tryd.ntmps4
  go_upto_region 1 with fail
  rw [← HW0.out, ← HG0.out]
  go_wp2_with fail
  refine (kread_c W0 HT0.out).mono ?_
  rintro e w1 ⟨rfl, hB1⟩
  have hs1 := hB1.size
  have HB1 := Lib.hid hB1
  have HX1 := Lib.hid (HX0.out.step hB1)
  have HT1 := Lib.hid (HTT.out.below hB1)
  have HTB1 := Lib.hid (HT0.out.on hB1)
  clear hB1
  have y0 := HX1.out.cell 0 _ rfl
  have y1 := HX1.out.cell 1 _ rfl
  have y2 := HX1.out.cell 2 _ rfl
  have y3 := HX1.out.cell 3 _ rfl
  go_wp2_with fail
  refine (print_c t _ w1 _ HT1.out (by omega) HTB1.out).mono ?_
  rintro e w2 ⟨rfl, hB2⟩
  obtain ⟨p, hp⟩ : ∃ p, p = printS t := ⟨_, rfl⟩
  obtain ⟨n, hn⟩ : ∃ n, n = checkE t := ⟨_, rfl⟩
  rw [← hp, ← hn]
  have hs2 := hB2.size
  have HB2 : Hid (Below W0.heap.size W0 w2) := Lib.hid (HB1.out.trans (hB2.mono hs1))
  have HX2 := Lib.hid (HX1.out.step hB2)
  have HT2 := Lib.hid (HT1.out.below hB2)
  have HP := Lib.hid hp
  have HN := Lib.hid hn
  clear hB2 y0 y1 y2 y3 hp hn
  -- up to the second reading
  by_cases hn0 : n = 0
  · have hnb : (n == 0) = true := by rw [hn0]; rfl
    have hck : checkE t = 0 := by rw [← HN.out]; exact hn0
    have hpm : p.size ≤ maxLen := by rw [HP.out]; exact printS_len hck (by omega)
    have HCK := Lib.hid hck
    clear hn0 hck
    go_wp2_with fail
    refine (parse_c p w2 hpm).mono ?_
    intro e w3 hrd
    by_cases hlong : 2048 < p.size
    · obtain ⟨a3, c3, rfl, hB3, -⟩ := hrd.to (t := zeroT) (n := 0) (m := 2) (by rw [HP.out] at hlong ⊢; exact anyRead_long HCK.out hlong)
      have hlb : (2048 : Int) < p.size := by omega
      have HB3 : Hid (Below W0.heap.size W0 w3) := Lib.hid (HB2.out.trans (hB3.mono (by have := HB2.out.size; omega)))
      clear hB3 hrd hlong
      go_wp2_with fail
      go_ret
      exact ⟨rfl, HB0.out.trans ((HB3.out.alloc HB3.out.size _).mono hs0)⟩
    · obtain ⟨a3, c3, rfl, hB3, hT3⟩ := hrd.to (t := t) (n := 0) (m := 0) (by rw [HP.out] at hlong ⊢; exact anyRead_short HCK.out hlong)
      have hlb : ¬ (2048 : Int) < p.size := by omega
      have hs3 := hB3.size
      obtain ⟨W3, hW3⟩ : ∃ W : World, W = w3.alloc (.cells #[.int .i64 t.kind, .int .i64 t.n, .string t.name, .slice a3 t.args.length c3] 24) := ⟨_, rfl⟩
      obtain ⟨g3, hg3⟩ : ∃ g, g = w3.heap.size := ⟨_, rfl⟩
      have HX3 : Hid (Blk W3 g3 [.int .i64 t.kind, .int .i64 t.n, .string t.name, .slice a3 t.args.length c3]) := Lib.hid (by rw [hW3]; exact Blk.new _ _ _ _ hg3)
      have hB23 : Below w2.heap.size w2 W3 := by rw [hW3]; exact hB3.alloc hs3 _
      have HB3 : Hid (Below W0.heap.size W0 W3) := Lib.hid (HB2.out.trans (hB23.mono (by have := HB2.out.size; omega)))
      have HT3 : Hid (RT (fun _ => True) W3 t (.agg #[.int .i64 t.kind, .int .i64 t.n, .string t.name, .slice a3 t.args.length c3])) := Lib.hid (by rw [hW3]; exact (hT3.alloc _).mono fun _ _ => trivial)
      have HT23 : Hid (RT (fun _ => True) W3 t (.agg #[.int .i64 t.kind, .int .i64 t.n, .string t.name, .slice a t.args.length cap])) := Lib.hid ((HT2.out.below hB23).mono fun _ _ => trivial)
      have HX23 := Lib.hid (HX2.out.step hB23)
      have HW3 := Lib.hid hW3
      have HG3 := Lib.hid hg3
      clear hB3 hrd hlong hT3 hW3 hg3 hB23
      go_upto_region 6 with fail
      rw [← HW3.out, ← HG3.out]
      have y0 := HX23.out.cell 0 _ rfl
      have y1 := HX23.out.cell 1 _ rfl
      have y2 := HX23.out.cell 2 _ rfl
      have y3 := HX23.out.cell 3 _ rfl
      have z0 := HX3.out.cell 0 _ rfl
      have z1 := HX3.out.cell 1 _ rfl
      have z2 := HX3.out.cell 2 _ rfl
      have z3 := HX3.out.cell 3 _ rfl
      go_wp2_with fail
      refine (same_c t t (fun _ => True) W3 _ _ HT3.out HT23.out (by omega) (by omega)).mono ?_
      rw [(sameT_iff t t).2 rfl]
      rintro e w4 ⟨rfl, hB4⟩
      have HB4 : Hid (Below W0.heap.size W0 w4) := Lib.hid (HB3.out.trans (hB4.mono HB3.out.size))
      have HR : Hid (TbRel w W0 g0 w4) := Lib.hid ⟨HB0.out.trans (HB4.out.mono hs0), HB4.out.size, ⟨_, rfl, HX0.out.step HB4.out⟩⟩
      clear hB4 y0 y1 y2 y3 z0 z1 z2 z3
      go_wp2_with fail
      refine (parse_c s w4 (by unfold maxLen; omega)).mono ?_
      intro e w5 hrd
      have hat := read_at s
      have hok := read_ok (s := s)
      obtain ⟨u, hu⟩ : ∃ u, u = (readA s).1 := ⟨_, rfl⟩
      obtain ⟨at_, ha⟩ : ∃ x, x = (readA s).2.1 := ⟨_, rfl⟩
      obtain ⟨er, her⟩ : ∃ x, x = (readA s).2.2 := ⟨_, rfl⟩
      rw [← ha] at hat
      rw [← hu, ← her] at hok
      obtain ⟨a5, c5, rfl, hB5, hT5⟩ := hrd.to (show readA s = (u, at_, er) by rw [hu, ha, her])
      have hbu := readA_bulk s
      rw [← hu] at hbu
      have hat1 := hat.1
      have hat2 := hat.2
      obtain ⟨hR1, hR2, cs4, hl4, hX4⟩ := HR.out
      have hs5 := hB5.size
      have HX5 := Lib.hid (hX4.step hB5)
      have HBw5 : Hid (Below w.heap.size w w5) := Lib.hid (hR1.trans (hB5.mono (by omega)))
      have HT5 := Lib.hid hT5
      have HOK := Lib.hid hok
      have HL4 := Lib.hid hl4
      clear hrd hat hu ha her hB5 hT5 hok hR1 hX4 hl4
      go_upto_region 11 with (refine store_blk 24 4 szTerm _ _ rfl rfl rfl rfl rfl HX5.out HL4.out rfl rfl ?_; intro W' hF hs' hBW hoth; have HF := Lib.hid hF; have HSZ := Lib.hid hs'; have HBW := Lib.hid hBW; have HOTH := Lib.hid hoth; clear hF hBW hoth hs')
      have hg5 : g0 < w5.heap.size := HX5.out.lt
      have HBW' : Hid (Below w.heap.size w W') := Lib.hid (HBW.out w.heap.size w (by omega) HBw5.out)
      have HTB' : Hid (TabB W') := Lib.hid (HTAB.out.on HBW'.out)
      have HU' : Hid (RT (fun b => w4.heap.size ≤ b) W' u (.agg #[.int .i64 u.kind, .int .i64 u.n, .string u.name, .slice a5 u.args.length c5])) := Lib.hid (RT.to HT5.out (fun b hb _ => hb) fun b hb hl => HOTH.out b (by omega))
      have hsW' := HBW'.out.size
      have HXF : Hid (Blk W' g0 [.int .i64 u.kind, .int .i64 u.n, .string u.name, .slice a5 u.args.length c5]) := HF
      by_cases hel : er = 0
      · have heb : (er != 0) = false := by rw [hel]; rfl
        have hcu := HOK.out hel
        have HCU := Lib.hid hcu
        have HPM := Lib.hid (printS_len hcu hbu)
        have y0 := HXF.out.cell 0 _ rfl
        have y1 := HXF.out.cell 1 _ rfl
        have y2 := HXF.out.cell 2 _ rfl
        have y3 := HXF.out.cell 3 _ rfl
        clear hel hcu
        go_wp2_with fail
        refine (print_c u _ W' _ HU'.out hbu HTB'.out).mono ?_
        rw [show PrintP u W' = fun e w' => e = .returned (.tuple #[.string (printS u), .int .i64 0]) ∧ Below W'.heap.size W' w' by unfold PrintP; rw [HCU.out]]
        rintro e w6 ⟨rfl, hB6⟩
        obtain ⟨q, hq⟩ : ∃ q, q = printS u := ⟨_, rfl⟩
        rw [← hq]
        have HQ := Lib.hid hq
        have hs6 := hB6.size
        have HB6 : Hid (Below w.heap.size w w6) := Lib.hid (HBW'.out.trans (hB6.mono hsW'))
        have HU6 := Lib.hid (HU'.out.below hB6)
        have HX6 := Lib.hid (HXF.out.step hB6)
        clear hB6 hq y0 y1 y2 y3
        go_wp2_with fail
        refine (parse_c q w6 (by rw [HQ.out]; exact HPM.out)).mono ?_
        intro e w7 hrd2
        by_cases hlong2 : 2048 < q.size
        · obtain ⟨a7, c7, rfl, hB7, -⟩ := hrd2.to (t := zeroT) (n := 0) (m := 2) (by rw [HQ.out] at hlong2 ⊢; exact anyRead_long HCU.out hlong2)
          have hlb2 : (2048 : Int) < q.size := by omega
          have HB7 : Hid (Below w.heap.size w w7) := Lib.hid (HB6.out.trans (hB7.mono HB6.out.size))
          clear hB7 hrd2 hlong2
          go_wp2_with fail
          go_ret
          exact ⟨rfl, HB7.out.alloc HB7.out.size _⟩
        · obtain ⟨a7, c7, rfl, hB7, hT7⟩ := hrd2.to (t := u) (n := 0) (m := 0) (by rw [HQ.out] at hlong2 ⊢; exact anyRead_short HCU.out hlong2)
          have hlb2 : ¬ (2048 : Int) < q.size := by omega
          have hs7 := hB7.size
          obtain ⟨W7, hW7⟩ : ∃ W : World, W = w7.alloc (.cells #[.int .i64 u.kind, .int .i64 u.n, .string u.name, .slice a7 u.args.length c7] 24) := ⟨_, rfl⟩
          obtain ⟨g7, hg7⟩ : ∃ g, g = w7.heap.size := ⟨_, rfl⟩
          have HX7 : Hid (Blk W7 g7 [.int .i64 u.kind, .int .i64 u.n, .string u.name, .slice a7 u.args.length c7]) := Lib.hid (by rw [hW7]; exact Blk.new _ _ _ _ hg7)
          have hB67 : Below w6.heap.size w6 W7 := by rw [hW7]; exact hB7.alloc hs7 _
          have HB7 : Hid (Below w.heap.size w W7) := Lib.hid (HB6.out.trans (hB67.mono HB6.out.size))
          have HT7 : Hid (RT (fun _ => True) W7 u (.agg #[.int .i64 u.kind, .int .i64 u.n, .string u.name, .slice a7 u.args.length c7])) := Lib.hid (by rw [hW7]; exact (hT7.alloc _).mono fun _ _ => trivial)
          have HU7 : Hid (RT (fun _ => True) W7 u (.agg #[.int .i64 u.kind, .int .i64 u.n, .string u.name, .slice a5 u.args.length c5])) := Lib.hid ((HU6.out.below hB67).mono fun _ _ => trivial)
          have HX67 := Lib.hid (HX6.out.step hB67)
          have HW7 := Lib.hid hW7
          have HG7 := Lib.hid hg7
          clear hB7 hrd2 hlong2 hT7 hW7 hg7 hB67
          go_upto_region 15 with fail
          rw [← HW7.out, ← HG7.out]
          have y0 := HX67.out.cell 0 _ rfl
          have y1 := HX67.out.cell 1 _ rfl
          have y2 := HX67.out.cell 2 _ rfl
          have y3 := HX67.out.cell 3 _ rfl
          have z0 := HX7.out.cell 0 _ rfl
          have z1 := HX7.out.cell 1 _ rfl
          have z2 := HX7.out.cell 2 _ rfl
          have z3 := HX7.out.cell 3 _ rfl
          go_wp2_with fail
          refine (same_c u u (fun _ => True) W7 _ _ HT7.out HU7.out hbu hbu).mono ?_
          rw [(sameT_iff u u).2 rfl]
          rintro e w8 ⟨rfl, hB8⟩
          have HB8 : Hid (Below w.heap.size w w8) := Lib.hid (HB7.out.trans (hB8.mono HB7.out.size))
          clear hB8 y0 y1 y2 y3 z0 z1 z2 z3
          go_wp2_with fail
          go_ret
          exact ⟨rfl, HB8.out⟩
      · have heb : (er != 0) = true := by simpa using hel
        clear hel
        go_wp2_with fail
        go_ret
        exact ⟨by simp [hat1, hat2], HBW'.out⟩
  · have hnb : (n == 0) = false := by simpa using hn0
    have HR : Hid (TbRel w W0 g0 w2) := Lib.hid ⟨HB0.out.trans (HB2.out.mono hs0), HB2.out.size, ⟨_, rfl, HX2.out⟩⟩
    obtain ⟨w4, rfl⟩ : ∃ w4, w4 = w2 := ⟨_, rfl⟩
    clear hn0
    go_wp2_with fail
    refine (parse_c s w4 (by unfold maxLen; omega)).mono ?_
    intro e w5 hrd
    have hat := read_at s
    have hok := read_ok (s := s)
    obtain ⟨u, hu⟩ : ∃ u, u = (readA s).1 := ⟨_, rfl⟩
    obtain ⟨at_, ha⟩ : ∃ x, x = (readA s).2.1 := ⟨_, rfl⟩
    obtain ⟨er, her⟩ : ∃ x, x = (readA s).2.2 := ⟨_, rfl⟩
    rw [← ha] at hat
    rw [← hu, ← her] at hok
    obtain ⟨a5, c5, rfl, hB5, hT5⟩ := hrd.to (show readA s = (u, at_, er) by rw [hu, ha, her])
    have hbu := readA_bulk s
    rw [← hu] at hbu
    have hat1 := hat.1
    have hat2 := hat.2
    obtain ⟨hR1, hR2, cs4, hl4, hX4⟩ := HR.out
    have hs5 := hB5.size
    have HX5 := Lib.hid (hX4.step hB5)
    have HBw5 : Hid (Below w.heap.size w w5) := Lib.hid (hR1.trans (hB5.mono (by omega)))
    have HT5 := Lib.hid hT5
    have HOK := Lib.hid hok
    have HL4 := Lib.hid hl4
    clear hrd hat hu ha her hB5 hT5 hok hR1 hX4 hl4
    go_upto_region 11 with (refine store_blk 24 4 szTerm _ _ rfl rfl rfl rfl rfl HX5.out HL4.out rfl rfl ?_; intro W' hF hs' hBW hoth; have HF := Lib.hid hF; have HSZ := Lib.hid hs'; have HBW := Lib.hid hBW; have HOTH := Lib.hid hoth; clear hF hBW hoth hs')
    have hg5 : g0 < w5.heap.size := HX5.out.lt
    have HBW' : Hid (Below w.heap.size w W') := Lib.hid (HBW.out w.heap.size w (by omega) HBw5.out)
    have HTB' : Hid (TabB W') := Lib.hid (HTAB.out.on HBW'.out)
    have HU' : Hid (RT (fun b => w4.heap.size ≤ b) W' u (.agg #[.int .i64 u.kind, .int .i64 u.n, .string u.name, .slice a5 u.args.length c5])) := Lib.hid (RT.to HT5.out (fun b hb _ => hb) fun b hb hl => HOTH.out b (by omega))
    have hsW' := HBW'.out.size
    have HXF : Hid (Blk W' g0 [.int .i64 u.kind, .int .i64 u.n, .string u.name, .slice a5 u.args.length c5]) := HF
    by_cases hel : er = 0
    · have heb : (er != 0) = false := by rw [hel]; rfl
      have hcu := HOK.out hel
      have HCU := Lib.hid hcu
      have HPM := Lib.hid (printS_len hcu hbu)
      have y0 := HXF.out.cell 0 _ rfl
      have y1 := HXF.out.cell 1 _ rfl
      have y2 := HXF.out.cell 2 _ rfl
      have y3 := HXF.out.cell 3 _ rfl
      clear hel hcu
      go_wp2_with fail
      refine (print_c u _ W' _ HU'.out hbu HTB'.out).mono ?_
      rw [show PrintP u W' = fun e w' => e = .returned (.tuple #[.string (printS u), .int .i64 0]) ∧ Below W'.heap.size W' w' by unfold PrintP; rw [HCU.out]]
      rintro e w6 ⟨rfl, hB6⟩
      obtain ⟨q, hq⟩ : ∃ q, q = printS u := ⟨_, rfl⟩
      rw [← hq]
      have HQ := Lib.hid hq
      have hs6 := hB6.size
      have HB6 : Hid (Below w.heap.size w w6) := Lib.hid (HBW'.out.trans (hB6.mono hsW'))
      have HU6 := Lib.hid (HU'.out.below hB6)
      have HX6 := Lib.hid (HXF.out.step hB6)
      clear hB6 hq y0 y1 y2 y3
      go_wp2_with fail
      refine (parse_c q w6 (by rw [HQ.out]; exact HPM.out)).mono ?_
      intro e w7 hrd2
      by_cases hlong2 : 2048 < q.size
      · obtain ⟨a7, c7, rfl, hB7, -⟩ := hrd2.to (t := zeroT) (n := 0) (m := 2) (by rw [HQ.out] at hlong2 ⊢; exact anyRead_long HCU.out hlong2)
        have hlb2 : (2048 : Int) < q.size := by omega
        have HB7 : Hid (Below w.heap.size w w7) := Lib.hid (HB6.out.trans (hB7.mono HB6.out.size))
        clear hB7 hrd2 hlong2
        go_wp2_with fail
        go_ret
        exact ⟨rfl, HB7.out.alloc HB7.out.size _⟩
      · obtain ⟨a7, c7, rfl, hB7, hT7⟩ := hrd2.to (t := u) (n := 0) (m := 0) (by rw [HQ.out] at hlong2 ⊢; exact anyRead_short HCU.out hlong2)
        have hlb2 : ¬ (2048 : Int) < q.size := by omega
        have hs7 := hB7.size
        obtain ⟨W7, hW7⟩ : ∃ W : World, W = w7.alloc (.cells #[.int .i64 u.kind, .int .i64 u.n, .string u.name, .slice a7 u.args.length c7] 24) := ⟨_, rfl⟩
        obtain ⟨g7, hg7⟩ : ∃ g, g = w7.heap.size := ⟨_, rfl⟩
        have HX7 : Hid (Blk W7 g7 [.int .i64 u.kind, .int .i64 u.n, .string u.name, .slice a7 u.args.length c7]) := Lib.hid (by rw [hW7]; exact Blk.new _ _ _ _ hg7)
        have hB67 : Below w6.heap.size w6 W7 := by rw [hW7]; exact hB7.alloc hs7 _
        have HB7 : Hid (Below w.heap.size w W7) := Lib.hid (HB6.out.trans (hB67.mono HB6.out.size))
        have HT7 : Hid (RT (fun _ => True) W7 u (.agg #[.int .i64 u.kind, .int .i64 u.n, .string u.name, .slice a7 u.args.length c7])) := Lib.hid (by rw [hW7]; exact (hT7.alloc _).mono fun _ _ => trivial)
        have HU7 : Hid (RT (fun _ => True) W7 u (.agg #[.int .i64 u.kind, .int .i64 u.n, .string u.name, .slice a5 u.args.length c5])) := Lib.hid ((HU6.out.below hB67).mono fun _ _ => trivial)
        have HX67 := Lib.hid (HX6.out.step hB67)
        have HW7 := Lib.hid hW7
        have HG7 := Lib.hid hg7
        clear hB7 hrd2 hlong2 hT7 hW7 hg7 hB67
        go_upto_region 15 with fail
        rw [← HW7.out, ← HG7.out]
        have y0 := HX67.out.cell 0 _ rfl
        have y1 := HX67.out.cell 1 _ rfl
        have y2 := HX67.out.cell 2 _ rfl
        have y3 := HX67.out.cell 3 _ rfl
        have z0 := HX7.out.cell 0 _ rfl
        have z1 := HX7.out.cell 1 _ rfl
        have z2 := HX7.out.cell 2 _ rfl
        have z3 := HX7.out.cell 3 _ rfl
        go_wp2_with fail
        refine (same_c u u (fun _ => True) W7 _ _ HT7.out HU7.out hbu hbu).mono ?_
        rw [(sameT_iff u u).2 rfl]
        rintro e w8 ⟨rfl, hB8⟩
        have HB8 : Hid (Below w.heap.size w w8) := Lib.hid (HB7.out.trans (hB8.mono HB7.out.size))
        clear hB8 y0 y1 y2 y3 z0 z1 z2 z3
        go_wp2_with fail
        go_ret
        exact ⟨rfl, HB8.out⟩
    · have heb : (er != 0) = true := by simpa using hel
      clear hel
      go_wp2_with fail
      go_ret
      exact ⟨by simp [hat1, hat2], HBW'.out⟩
end Go.Proofs.YtedfepnekjjmnabDoor
