/-
  match.Fits: what it answers. Condition: a bound on how much there is.
-/
import Derived.Test.YtedfepnekjjmnaaFits4
import Derived.Test.YtedfepnekjjmnaaBound
import Derived.Test.YtedfepnekjjmnaaSmall
namespace Go.Proofs.Ytedfepnekjjmnaa
open Go.RowKit
set_option linter.unusedSimpArgs false
set_option linter.unusedVariables false

def fitsR (p t : T) (bd : List T) : Int × Option (List T) :=
  if checkE p ≠ 0 then (checkE p, none) else if checkE t ≠ 0 then (checkE t, none) else if (closedL [t] && boundB bd) = false then (5, none) else (0, fitO p t bd)
theorem fitsR_bad {p t : T} {bd : List T} {k : Nat} (hk : k < 2) (hp : k = 1 → checkE p = 0) (hu : checkE ([p, t][k]) ≠ 0) : fitsR p t bd = (checkE ([p, t][k]), none) := by
  match k, hk, hp, hu with
  | 0, _, _, hu => rw [fitsR, if_pos (show checkE p ≠ 0 from hu)]; rfl
  | 1, _, hp, hu => rw [fitsR, if_neg (by simp [hp rfl]), if_pos (show checkE t ≠ 0 from hu)]; rfl
theorem fitsR_form {p t : T} {bd : List T} (hp : checkE p = 0) (ht : checkE t = 0) (h : (closedL [t] && boundB bd) = false) : fitsR p t bd = (5, none) := by rw [fitsR, if_neg (by simp [hp]), if_neg (by simp [ht]), if_pos h]
theorem fitsR_ok {p t : T} {bd : List T} (hp : checkE p = 0) (ht : checkE t = 0) (h : (closedL [t] && boundB bd) = true) : fitsR p t bd = (0, fitO p t bd) := by rw [fitsR, if_neg (by simp [hp]), if_neg (by simp [ht]), if_neg (by simp [h])]
theorem fitO_no {p t : T} {bd : List T} (h : (fitT p t bd).1 = false) : fitO p t bd = none := by rw [fitO, if_neg (by simp [h])]
theorem fitO_yes {p t : T} {bd : List T} (h : (fitT p t bd).1 = true) : fitO p t bd = some (fitT p t bd).2 := by rw [fitO, if_pos h]

def FO (S : Nat → Prop) (w : World) (o : Int × Option (List T)) (e : Ending) (w' : World) : Prop :=
  ∃ v, e = .returned (.tuple #[v, .bool o.2.isSome, .int .i64 o.1]) ∧ Below w.heap.size w w' ∧ RSl S w' (o.2.getD []) v
theorem RSl.nil (S : Nat → Prop) (w : World) : RSl S w [] (.slice none 0 0) := ⟨none, 0, rfl, ⟨Nat.le_refl _, fun _ => rfl⟩, by simp [RTs]⟩
theorem FO.none {S : Nat → Prop} {w w' : World} {e : Ending} {o : Int × Option (List T)} {n : Int} (ho : o = (n, Option.none)) (he : e = .returned (.tuple #[.slice Option.none 0 0, .bool false, .int .i64 n])) (hB : Below w.heap.size w w') : FO S w o e w' := by
  subst ho; exact ⟨_, he, hB, RSl.nil _ _⟩
theorem FO.some {S : Nat → Prop} {w w' : World} {e : Ending} {o : Int × Option (List T)} {l : List T} {v : Value} (ho : o = (0, Option.some l)) (he : e = .returned (.tuple #[v, .bool true, .int .i64 0])) (hB : Below w.heap.size w w') (hr : RSl S w' l v) : FO S w o e w' := by
  subst ho; exact ⟨_, he, hB, hr⟩
theorem OwnG.full {P : Nat → Prop} {base : Nat} {w : World} {v : Value} {ts : List T} (h : OwnG P base w v ts) (hl : 0 < ts.length) : ∃ g cap, v = .slice (some ⟨g, 0, none⟩) ts.length cap := by
  obtain ⟨cs, ⟨h1, h2⟩, hC⟩ := h
  rcases h2 with ⟨_, h2⟩ | ⟨g', cap', cur, ev, _⟩
  · omega
  · exact ⟨g', cap', ev⟩
theorem check_form4 {t : T} (h : checkE t = 0) : formL [t] = true := by
  unfold checkE at h
  split at h
  · assumption
  · omega
theorem boundB_len4 {bd : List T} (h : boundB bd = true) : bd.length = 4 := by simp only [boundB, Bool.and_eq_true, beq_iff_eq] at h; exact h.1

set_option maxHeartbeats 4000000 in
set_option maxRecDepth 100000 in
theorem mfits_c (p t : T) (bd : List T) (w : World) (vp vt vb : Value) (hp : RT (fun b => b < w.heap.size) w p vp) (ht : RT (fun b => b < w.heap.size) w t vt) (hb : RSl (fun b => b < w.heap.size) w bd vb)
    (hbp : bulkL [p] ≤ 1099511627776) (hbt : bulkL [t] ≤ 1099511627776) (hbb : bulkL bd ≤ 1099511627776) :
    Calls Try.prog 28 #[vp, vt, vb] w (FO (fun b => w.heap.size ≤ b) w (fitsR p t bd)) := by
  obtain ⟨a1, cap1, rfl, hc1, hr1⟩ := hp
  obtain ⟨a2, cap2, rfl, hc2, hr2⟩ := ht
  obtain ⟨ab, capb, rfl, hcb, hrb⟩ := hb
  have HP : Hid (RT (fun b => b < w.heap.size) w p _) := Lib.hid ⟨a1, cap1, rfl, hc1, hr1⟩
  have HT : Hid (RT (fun b => b < w.heap.size) w t _) := Lib.hid ⟨a2, cap2, rfl, hc2, hr2⟩
  have HB : Hid (RSl (fun b => b < w.heap.size) w bd _) := Lib.hid ⟨ab, capb, rfl, hcb, hrb⟩
  have HR := Lib.hid hrb
  have HC : Hid (CellsT (fun b => b < w.heap.size) w [p, t] [.int .i64 p.kind, .int .i64 p.n, .string p.name, .slice a1 p.args.length cap1, .int .i64 t.kind, .int .i64 t.n, .string t.name, .slice a2 t.args.length cap2]) :=
    Lib.hid ⟨a1, cap1, _, rfl, hc1, hr1, a2, cap2, _, rfl, hc2, hr2, rfl⟩
  have hlb := length_le_bulk bd
  clear hr1 hr2 hrb hc1 hc2 hcb
  go_enter Try.func28, Try.ntmps28
  go_wp2_with fail
  obtain ⟨W, hW⟩ : ∃ W : World, W = (((w.alloc (.cells #[.int .i64 p.kind, .int .i64 p.n, .string p.name, .slice a1 p.args.length cap1] 29)).alloc (.cells #[.int .i64 t.kind, .int .i64 t.n, .string t.name, .slice a2 t.args.length cap2] 29)).alloc
    (.cells #[.int .i64 p.kind, .int .i64 p.n, .string p.name, .slice a1 p.args.length cap1, .int .i64 t.kind, .int .i64 t.n, .string t.name, .slice a2 t.args.length cap2] 29)) := ⟨_, rfl⟩
  rw [← hW]
  have hWs : W.heap.size = w.heap.size + 1 + 1 + 1 := by rw [hW]; simp
  have hWB : Below w.heap.size w W := by rw [hW]; exact ((below_alloc _ _).alloc (by simp) _).alloc (by simp <;> omega) _
  have HL : Hid (RSl2 (fun b => b = w.heap.size + 1 + 1) (fun b => b < w.heap.size) W [p, t] (.slice (some ⟨w.heap.size + 1 + 1, 0, none⟩) 2 2)) := Lib.hid (by
    rw [hW]
    have hB0 : Below w.heap.size w ((w.alloc (.cells #[.int .i64 p.kind, .int .i64 p.n, .string p.name, .slice a1 p.args.length cap1] 29)).alloc (.cells #[.int .i64 t.kind, .int .i64 t.n, .string t.name, .slice a2 t.args.length cap2] 29)) := (below_alloc _ _).alloc (by simp) _
    have h := RSl2.lit (HC.out.to (S' := fun b => b < w.heap.size) (fun _ h _ => h) (fun b _ hb => hB0.block b hb)) 29
    simp only [World.size_alloc] at h
    exact h)
  have HWx : Hid (W.cell? ⟨w.heap.size, 0, none⟩ = some (.int .i64 p.kind) ∧ W.cell? ⟨w.heap.size, 1, none⟩ = some (.int .i64 p.n) ∧ W.cell? ⟨w.heap.size, 2, none⟩ = some (.string p.name) ∧ W.cell? ⟨w.heap.size, 3, none⟩ = some (.slice a1 p.args.length cap1) ∧
      W.cell? ⟨w.heap.size + 1, 0, none⟩ = some (.int .i64 t.kind) ∧ W.cell? ⟨w.heap.size + 1, 1, none⟩ = some (.int .i64 t.n) ∧ W.cell? ⟨w.heap.size + 1, 2, none⟩ = some (.string t.name) ∧ W.cell? ⟨w.heap.size + 1, 3, none⟩ = some (.slice a2 t.args.length cap2)) := Lib.hid (by rw [hW]; go_simp)
  have HWB := Lib.hid hWB
  clear hW hWB
  go_loopw [19] (fun i wr => ∃ k : Nat, k ≤ 2 ∧ i = .int .i64 k ∧ (1 ≤ k → checkE p = 0) ∧ (2 ≤ k → checkE t = 0) ∧ Below W.heap.size W wr) (fun i _ => 2 - (intOf i).toNat)
  case atStart => exact ⟨0, by omega, rfl, by omega, by omega, Below.refl _ _⟩
  case round =>
    obtain ⟨k, hkl, rfl, hp0, ht0, hB⟩ := hrel
    have HP0 := Lib.hid hp0
    have HT0 := Lib.hid ht0
    have hsr := hB.size
    have HBr := Lib.hid (below_step HWB.out (by omega) hB)
    clear hp0 ht0
    by_cases hlt : k < 2
    · obtain ⟨a', cap', _, d0, d1, d2, d3, hE⟩ := (HL.out.below hB).elem k hlt
      have HFB := Lib.hid (fun h => fitsR_bad (p := p) (t := t) (bd := bd) hlt (fun h1 => HP0.out (by omega)) h)
      have HN1 : Hid (1 ≤ k + 1 → checkE [p, t][k] = 0 → checkE p = 0) := Lib.hid (fun _ h => by
        match k, hlt, h with
        | 0, _, h => exact h
        | 1, _, _ => exact HP0.out (by omega))
      have HN2 : Hid (2 ≤ k + 1 → checkE [p, t][k] = 0 → checkE t = 0) := Lib.hid (fun h2 h => by
        match k, hlt, h2, h with
        | 0, _, h2, _ => omega
        | 1, _, _, h => exact h)
      have hbe : bulkL [[p, t][k]] ≤ 1099511627776 := by
        match k, hlt with
        | 0, _ => exact hbp
        | 1, _ => exact hbt
      generalize [p, t][k] = u at *
      rw [Nat.zero_add] at d0 d1 d2 d3
      have hE := Lib.hid hE
      go_wp2_with fail
      refine (check_c u _ _ _ (hE.out.alloc _) (by omega)).mono ?_
      rintro e w7 ⟨rfl, hB7⟩
      by_cases hu : checkE u = 0
      · have hub : (checkE u != 0) = false := by simp [hu]
        have HU := Lib.hid hu
        clear hu
        go_wp2_with fail
        go_roundw
        case rel => exact ⟨k + 1, by omega, by go_num, fun h => HN1.out h HU.out, fun h => HN2.out h HU.out, below_step (hB.alloc (by omega) _) (by simp <;> omega) hB7⟩
        case measure => simp [intOf]; omega
      · have hub : (checkE u != 0) = true := by simp [hu]
        have HU := Lib.hid (HFB.out hu)
        clear hu
        go_wp2_with fail
        go_ret3
        exact FO.none HU.out rfl (below_step (HBr.out.alloc (by omega) _) (by simp; omega) hB7)
    · have hk2 : k = 2 := by omega
      subst hk2
      obtain ⟨wo, rfl⟩ : ∃ wo : World, wo = wr := ⟨_, rfl⟩
      have HPC := Lib.hid (HP0.out (by omega))
      have HTC := Lib.hid (HT0.out (by omega))
      obtain ⟨x0, x1, x2, x3, y0, y1, y2, y3⟩ := HWx.out
      have n1 : w.heap.size < W.heap.size := by omega
      have n2 : w.heap.size + 1 < W.heap.size := by omega
      obtain ⟨hcc, -⟩ := bcell hB
      have HPr := Lib.hid (HP.out.below HBr.out)
      have HTr := Lib.hid (HT.out.below HBr.out)
      clear hB
      go_wp2_with fail
      refine (closed_c t _ _ _ HTr.out hbt).mono ?_
      rintro e w2 ⟨rfl, hB2⟩
      have h2 := hB2.size
      have HB2 := Lib.hid (below_step HBr.out (by omega) hB2)
      obtain ⟨hcc2, -⟩ := bcell hB2
      have n3 : w.heap.size < wo.heap.size := by omega
      have n4 : w.heap.size + 1 < wo.heap.size := by omega
      clear hB2
      cases hcl : closedL [t]
      · have HF := Lib.hid (fitsR_form (bd := bd) HPC.out HTC.out (by simp [hcl]))
        go_wp2_with fail
        go_ret3
        exact FO.none HF.out rfl HB2.out
      have HCL := Lib.hid hcl; clear hcl
      go_wp2_with fail
      refine (bound_c bd _ _ _ (HB.out.below HB2.out) hbb).mono ?_
      rintro e w3 ⟨rfl, hB3⟩
      have h3 := hB3.size
      have HB3 := Lib.hid (below_step HB2.out (by omega) hB3)
      obtain ⟨hcc3, -⟩ := bcell hB3
      have n5 : w.heap.size < w2.heap.size := by omega
      have n6 : w.heap.size + 1 < w2.heap.size := by omega
      clear hB3
      cases hbd : boundB bd
      · have HF := Lib.hid (fitsR_form (bd := bd) HPC.out HTC.out (by simp [hbd]))
        go_wp2_with fail
        go_ret3
        exact FO.none HF.out rfl HB3.out
      have HBD := Lib.hid hbd; clear hbd
      have hlen := Lib.hid (boundB_len4 HBD.out)
      have HFR := Lib.hid (fitsR_ok (bd := bd) HPC.out HTC.out (by rw [HCL.out, HBD.out]; rfl))
      obtain ⟨X0, X1, X2, X3⟩ : w3.cell? ⟨w.heap.size, 0, none⟩ = some (.int .i64 p.kind) ∧ w3.cell? ⟨w.heap.size, 1, none⟩ = some (.int .i64 p.n) ∧ w3.cell? ⟨w.heap.size, 2, none⟩ = some (.string p.name) ∧ w3.cell? ⟨w.heap.size, 3, none⟩ = some (.slice a1 p.args.length cap1) := by
        rw [hcc3 _ _ n5, hcc3 _ _ n5, hcc3 _ _ n5, hcc3 _ _ n5, hcc2 _ _ n3, hcc2 _ _ n3, hcc2 _ _ n3, hcc2 _ _ n3, hcc _ _ n1, hcc _ _ n1, hcc _ _ n1, hcc _ _ n1]; exact ⟨x0, x1, x2, x3⟩
      obtain ⟨Y0, Y1, Y2, Y3⟩ : w3.cell? ⟨w.heap.size + 1, 0, none⟩ = some (.int .i64 t.kind) ∧ w3.cell? ⟨w.heap.size + 1, 1, none⟩ = some (.int .i64 t.n) ∧ w3.cell? ⟨w.heap.size + 1, 2, none⟩ = some (.string t.name) ∧ w3.cell? ⟨w.heap.size + 1, 3, none⟩ = some (.slice a2 t.args.length cap2) := by
        rw [hcc3 _ _ n6, hcc3 _ _ n6, hcc3 _ _ n6, hcc3 _ _ n6, hcc2 _ _ n4, hcc2 _ _ n4, hcc2 _ _ n4, hcc2 _ _ n4, hcc _ _ n2, hcc _ _ n2, hcc _ _ n2, hcc _ _ n2]; exact ⟨y0, y1, y2, y3⟩
      clear hcc hcc2 hcc3 x0 x1 x2 x3 y0 y1 y2 y3
      go_wp2_with fail
      have hw3 : w.heap.size + 1 < w3.heap.size := by omega
      go_loopw [12, 39] (fun out i wr => ∃ k : Nat, k ≤ bd.length ∧ i = .int .i64 k ∧ OwnG (fun b => w3.heap.size ≤ b) w3.heap.size wr out (bd.take k) ∧ Below w3.heap.size w3 wr) (fun _ i _ => bd.length - (intOf i).toNat)
      case atStart => exact ⟨0, Nat.zero_le _, rfl, OwnG.nil _ _ _, Below.refl _ _⟩
      case round =>
        obtain ⟨k, hkl, rfl, hT, hB⟩ := hrel
        have hsz := hB.size
        have HT4 := Lib.hid hT; clear hT
        have HB4 := Lib.hid (below_step HB3.out (by omega) hB)
        by_cases hlt : k < bd.length
        · obtain ⟨b, o, rfl⟩ := HR.out.addr (by omega)
          obtain ⟨a', cap', hSb, d0, d1, d2, d3, hE⟩ := (HR.out.below HB4.out).elem k hlt
          have hbk := bulk_at hlt
          have hE := Lib.hid hE
          go_wp2_with fail
          refine (copied_c _ _ _ _ (hE.out.alloc _) (by omega)).mono ?_
          rintro e w5 ⟨v1, rfl, hB5, hr1⟩
          have hs1 := hB5.size
          simp only [World.size_alloc] at hs1
          obtain ⟨a5, cap5, rfl, hcap5, hr5⟩ := hr1
          have HR1 : Hid (RT (fun b => wr.heap.size + 1 ≤ b) w5 (bd[k]) _) := Lib.hid ⟨a5, cap5, rfl, hcap5, by simpa using hr5⟩
          have HT1 := Lib.hid ((HT4.out.alloc (.cells #[.int .i64 bd[k].kind, .int .i64 bd[k].n, .string bd[k].name, .slice a' bd[k].args.length cap'] 29)).below hB5)
          have HT0 := Lib.hid HT4.out.block
          clear d0 d1 d2 d3 hcap5 hr5
          have hnn : (bd.take k).length + 1 ≤ 1099511627776 := by simp; omega
          go_wp2_with (at_builtin; refine append_grow _ _ rfl rfl rfl rfl HT1.out HR1.out (fun b hb hl => ⟨by omega, fun he => by have := HT0.out b he; omega⟩) hnn (by omega) ?_; intro v6 w6 hT6 hB6 hw6; have hs6 := hB6.size; have H6 := Lib.hid hT6; clear hT6 hw6)
          go_roundw
          case rel => exact ⟨k + 1, by omega, by go_num, by rw [take_snoc' _ k hlt]; exact H6.out, (below_step (hB.alloc (by omega) _) (by simp <;> omega) hB5).trans hB6⟩
          case measure => simp [intOf]; omega
        · have hkk : k = bd.length := by omega
          subst hkk
          have hT := HT4.out
          rw [List.take_length] at hT
          obtain ⟨g, capg, rfl⟩ := hT.full (by have := hlen.out; omega)
          rw [hlen.out] at hT ⊢
          have HO := Lib.hid hT; clear hT
          obtain ⟨hcc, -⟩ := bcell hB
          have hg := HO.out.block g rfl
          have m1 : w.heap.size < w3.heap.size := by omega
          go_wp2_with fail
          refine (fits_c p t (fun b => b < w.heap.size) w3.heap.size g capg _ _ _ bd (HP.out.below HB4.out) (HT.out.below HB4.out) HO.out (by omega) (fun b hb => by omega) hlen.out hbp hbt (fun y hy => by have := bulk_mem hy; omega) (check_form4 HPC.out)).mono ?_
          rintro e w7 ⟨rfl, hK7, hO7⟩
          have HB7 := Lib.hid (HB4.out.trans (hK7.below (B := w.heap.size) (by omega) (fun b hb => by omega)))
          have HO7 := Lib.hid hO7
          clear hK7 hO7
          cases hz : (fitT p t bd).1
          · have HF := Lib.hid (show fitsR p t bd = (0, none) by rw [HFR.out, fitO_no hz])
            go_wp2_with fail
            go_ret3
            exact FO.none HF.out rfl HB7.out
          · have HF := Lib.hid (show fitsR p t bd = (0, some (fitT p t bd).2) by rw [HFR.out, fitO_yes hz])
            go_wp2_with fail
            go_ret3
            exact FO.some HF.out rfl HB7.out ((HO7.out.rsl fun b hb => hb).mono fun b hb => by omega)
end Go.Proofs.Ytedfepnekjjmnaa
