/-
  clerkref.Fits: what it answers. Conditions: a formed pattern, four bound ones; a bound on how much there is.
-/
import Derived.Test.YtedfepnekjjmnaaMFits
import Derived.Test.YtedfepnekjjmnaaPair
import Derived.Test.YtedfepnekjjmnaaSt
import Derived.Deep.LoopGhost
import Derived.Deep.DeepCutAuto
import Derived.StillTailTactics
namespace Go.Proofs.Ytedfepnekjjmnaa
open Go.RowKit
set_option linter.unusedSimpArgs false
set_option linter.unusedVariables false

/-- What is still to be asked. -/
def fitQ (ps : List (T × T)) (b : List T) : Bool × List T := fitL (ps.map (·.1)) (ps.map (·.2)) b
def bulkQ (ps : List (T × T)) : Nat := bulkL (ps.map (·.1))
def fitQO (ps : List (T × T)) (b : List T) : Option (List T) := if (fitQ ps b).1 then some (fitQ ps b).2 else none
def Small (q : T × T) : Prop := formL [q.1] = true ∧ bulkL [q.1] ≤ 1099511627776 ∧ bulkL [q.2] ≤ 1099511627776
theorem fitQO_one (p t : T) (b : List T) : fitQO [(p, t)] b = fitO p t b := by simp only [fitQO, fitQ, List.map_cons, List.map_nil, fitL_one, fitO]
theorem fitQO_nil (b : List T) : fitQO [] b = some b := by simp only [fitQO, fitQ, List.map_nil, fitL_nil, if_true]
theorem fitQO_yes {p t : T} {ps : List (T × T)} {b : List T} (h : (fitT p t b).1 = true) : fitQO ((p, t) :: ps) b = fitQO ps (fitT p t b).2 := by simp only [fitQO, fitQ, List.map_cons, fitL_yes h]; rfl
theorem fitQO_no {p t : T} {ps : List (T × T)} {b : List T} (h : (fitT p t b).1 = false) : fitQO ((p, t) :: ps) b = none := by simp only [fitQO, fitQ, List.map_cons, fitL_no h, h]; rfl
theorem fst_zip {xs ys : List T} (h : xs.length = ys.length) : (xs.zip ys).map (·.1) = xs := by
  induction xs generalizing ys with
  | nil => rfl
  | cons x xs ih => cases ys with
    | nil => simp at h
    | cons y ys => simp [ih (by simpa using h)]
theorem snd_zip {xs ys : List T} (h : xs.length = ys.length) : (xs.zip ys).map (·.2) = ys := by
  induction xs generalizing ys with
  | nil => cases ys with
    | nil => rfl
    | cons y ys => simp at h
  | cons x xs ih => cases ys with
    | nil => simp at h
    | cons y ys => simp [ih (by simpa using h)]
theorem fitQO_tup {p t : T} {ps : List (T × T)} {b : List T} (hk : p.kind = 4) (ht : t.kind = 4) (hl : p.args.length = t.args.length) : fitQO ((p, t) :: ps) b = fitQO (p.args.zip t.args ++ ps) b := by
  have e : fitL (p.args ++ ps.map (·.1)) (t.args ++ ps.map (·.2)) b = fitL (p :: ps.map (·.1)) (t :: ps.map (·.2)) b := by
    rw [fitL_append hl, fitL_cons, fitT_4a hk ht hl]
  simp only [fitQO, fitQ, List.map_cons, List.map_append, fst_zip hl, snd_zip hl, e]
theorem lengthQ (ps : List (T × T)) : ps.length ≤ bulkQ ps := by have := length_le_bulk (ps.map (·.1)); simpa [bulkQ] using this
theorem bulkQ_cons (p t : T) (ps : List (T × T)) : bulkQ ((p, t) :: ps) = bulkL [p] + bulkQ ps := bulkL_append [p] _
theorem bulkQ_tup {p t : T} {ps : List (T × T)} (hl : p.args.length = t.args.length) : bulkQ (p.args.zip t.args ++ ps) < bulkQ ((p, t) :: ps) := by
  rw [bulkQ_cons, bulkQ, List.map_append, fst_zip hl, bulkL_append, bulkL_cons p []]; simp only [bulkQ, bulkL]; omega

/-- Two variables of terms, just made. -/
def TwoVars (wr wx : World) (x0 x1 x2 x3 y0 y1 y2 y3 sx sy : Value) : Prop := ∃ X Y : Nat, sx = .pointer (some ⟨X, 0, none⟩) ∧ sy = .pointer (some ⟨Y, 0, none⟩) ∧ X < wx.heap.size ∧ Y < wx.heap.size ∧ wr.heap.size ≤ X ∧ wr.heap.size ≤ Y ∧ Below wr.heap.size wr wx ∧
  (wx.cell? ⟨X, 0, none⟩ = some x0 ∧ wx.cell? ⟨X, 1, none⟩ = some x1 ∧ wx.cell? ⟨X, 2, none⟩ = some x2 ∧ wx.cell? ⟨X, 3, none⟩ = some x3) ∧ (wx.cell? ⟨Y, 0, none⟩ = some y0 ∧ wx.cell? ⟨Y, 1, none⟩ = some y1 ∧ wx.cell? ⟨Y, 2, none⟩ = some y2 ∧ wx.cell? ⟨Y, 3, none⟩ = some y3)
theorem TwoVars.fst (wr : World) (x0 x1 x2 x3 y0 y1 y2 y3 : Value) (e : TypeId) :
    TwoVars wr ((wr.alloc (.cells #[x0, x1, x2, x3] e)).alloc (.cells #[y0, y1, y2, y3] e)).drew x0 x1 x2 x3 y0 y1 y2 y3 (.pointer (some ⟨wr.heap.size, 0, none⟩)) (.pointer (some ⟨wr.heap.size + 1, 0, none⟩)) := by
  refine ⟨_, _, rfl, rfl, by simp <;> omega, by simp <;> omega, by omega, by omega, ((below_alloc _ _).alloc (by simp) _).drew, ?_, ?_⟩
  · go_simp
  · go_simp
theorem TwoVars.snd (wr : World) (x0 x1 x2 x3 y0 y1 y2 y3 : Value) (e : TypeId) :
    TwoVars wr ((wr.alloc (.cells #[y0, y1, y2, y3] e)).alloc (.cells #[x0, x1, x2, x3] e)).drew x0 x1 x2 x3 y0 y1 y2 y3 (.pointer (some ⟨wr.heap.size + 1, 0, none⟩)) (.pointer (some ⟨wr.heap.size, 0, none⟩)) := by
  refine ⟨_, _, rfl, rfl, by simp <;> omega, by simp <;> omega, by omega, by omega, ((below_alloc _ _).alloc (by simp) _).drew, ?_, ?_⟩
  · go_simp
  · go_simp
/-- What is left of a row of pairs. -/
def TailOf (wc wx : World) (b o n cap : Nat) (v : Value) : Prop := ∃ b' o' : Nat, v = .slice (some ⟨b', o', none⟩) n cap ∧ (n ≠ 0 → b' = b ∧ o' = o + 8) ∧ wx = wc
theorem RSl.bound' {S : Nat → Prop} {w : World} {t : List T} {v : Value} (h : RSl S w t v) : RSl (fun b => b < w.heap.size) w t v := h.to (fun _ _ hl => hl) fun _ _ _ => rfl

/-- What holds at a round's head. -/
def RFRel (B g capg : Nat) (W : World) (o : Option (List T)) (k : Nat) (v : Value) (wr : World) : Prop :=
  ∃ (ps : List (T × T)) (bo : List T), bulkQ ps = k ∧ RSlP (fun b => B ≤ b ∧ b ≠ g) (fun b => b < W.heap.size) wr ps v ∧ OwnG (fun b => b < W.heap.size) B wr (.slice (some ⟨g, 0, none⟩) 4 capg) bo ∧ bo.length = 4 ∧
    fitQO ps bo = o ∧ (∀ q ∈ ps, Small q) ∧ (∀ y ∈ bo, bulkL [y] ≤ 1099511627776) ∧ Below W.heap.size W wr ∧ B ≤ wr.heap.size ∧ k ≤ 1099511627776

set_option maxHeartbeats 4000000 in
set_option maxRecDepth 100000 in
theorem rfits_c (p t : T) (bd : List T) (w : World) (vp vt vb : Value) (hp : RT (fun b => b < w.heap.size) w p vp) (ht : RT (fun b => b < w.heap.size) w t vt) (hb : RSl (fun b => b < w.heap.size) w bd vb)
    (hbp : bulkL [p] ≤ 1099511627776) (hbt : bulkL [t] ≤ 1099511627776) (hbb : bulkL bd ≤ 1099511627776) (hl : bd.length = 4) (hf : formL [p] = true) :
    Calls Try.prog 27 #[vp, vt, vb] w fun e w' => ∃ v, e = .returned (.tuple #[v, .bool (fitO p t bd).isSome]) ∧ Below w.heap.size w w' ∧ RSl (fun b => b < w'.heap.size) w' ((fitO p t bd).getD []) v := by
  obtain ⟨a1, cap1, rfl, hc1, hr1⟩ := hp
  obtain ⟨a2, cap2, rfl, hc2, hr2⟩ := ht
  obtain ⟨ab, capb, rfl, hcb, hrb⟩ := hb
  have HP : Hid (RT (fun b => b < w.heap.size) w p _) := Lib.hid ⟨a1, cap1, rfl, hc1, hr1⟩
  have HT : Hid (RT (fun b => b < w.heap.size) w t _) := Lib.hid ⟨a2, cap2, rfl, hc2, hr2⟩
  have HB : Hid (RSl (fun b => b < w.heap.size) w bd _) := Lib.hid ⟨ab, capb, rfl, hcb, hrb⟩
  have hlb := length_le_bulk bd
  have HL := Lib.hid hl; clear hl
  clear hr1 hr2 hrb hc1 hc2 hcb
  have HBB : Hid (∀ o1 o2, Below w.heap.size w ((w.alloc o1).alloc o2)) := Lib.hid fun o1 o2 => (below_alloc _ _).alloc (by simp) _
  go_enter Try.func27, Try.ntmps27
  have h1 : w.heap.size < w.heap.size + 1 + 1 := by omega
  have h2 : w.heap.size + 1 < w.heap.size + 1 + 1 := by omega
  go_wp2_with (at_builtin; refine append_terms (base := w.heap.size + 1 + 1) (v := .slice none 0 0) _ _ rfl rfl rfl rfl (OwnT.nil (fun b => b < w.heap.size) _ _) (((HB.out.alloc _).alloc _).rsl2) (fun b hb => by simp [Value.ownBlock]) ?_ ?_ ?_; (simp; omega); (simp); intro v0 w0 hT0 hG0 hw0; rw [List.nil_append] at hT0; have hs0 := hG0.size; simp only [World.size_alloc] at hs0; have hB0 := grown_below (B := w.heap.size + 1 + 1) (Below.refl _ _) hG0 (by simp) (fun b hb => by simp [Value.ownBlock] at hb); have hcc0 := fun b o (h : b < w.heap.size + 1 + 1) => hB0.cell (p := ⟨b, o, none⟩) h; have HT0 := Lib.hid hT0; clear hT0 hw0 hG0)
  have HB0 := Lib.hid (below_step (HBB.out _ _) (by simp <;> omega) (hB0.mono (by simp)))
  have HO0 : Hid (OwnG (fun b => b < w.heap.size) (w.heap.size + 1 + 1) w0 v0 bd) := Lib.hid (OwnT.to HT0.out (Nat.le_refl _) (fun b hb hl => ⟨hb, by omega, fun e => by have := HT0.out.block b e; omega⟩) fun _ _ _ => rfl)
  obtain ⟨g, capg, rfl⟩ := HO0.out.full (by have := HL.out; omega)
  rw [HL.out] at HO0 ⊢
  have hg := HO0.out.block g rfl
  have hg1 := hg.1
  have hg2 := hg.2
  have HPP : Hid (RSlP (fun b => b = w0.heap.size) (fun b => b < w.heap.size) (w0.alloc _) [(p, t)] _) := Lib.hid (RSlP.one (HP.out.below HB0.out) (HT.out.below HB0.out) 107)
  have HBL : Hid (∀ y ∈ bd, bulkL [y] ≤ 1099511627776) := Lib.hid fun y hy => by have := bulk_mem hy; omega
  clear hcc0 hB0 hg HT0
  go_loopg [9] (bulkL [p]) (fun k v wr => RFRel (w.heap.size + 1 + 1) g capg w (fitO p t bd) k v wr)
  case atStart => exact ⟨[(p, t)], bd, rfl, HPP.out.to (fun b hb _ => by subst hb; exact ⟨by omega, by omega⟩) (fun _ h _ => h) (fun _ _ _ => rfl), HO0.out.alloc _, HL.out, fitQO_one p t bd, (fun q hq => by simp at hq; subst hq; exact ⟨hf, hbp, hbt⟩), HBL.out, HB0.out.alloc (by omega) _, by simp; omega, hbp⟩
  case round =>
    obtain ⟨ps, bo, hbk, hR, hO, hlen, hfo, hsm, hsb, hB, hsz, hpl⟩ := hrel
    subst hbk
    have HO := Lib.hid hO
    have HLN := Lib.hid hlen
    have HFO := Lib.hid hfo
    have HSM := Lib.hid hsm
    have HSB := Lib.hid hsb
    have HB := Lib.hid hB
    clear hO hlen hfo hsm hsb hB
    obtain ⟨av, cav, csv, rfl, hcv, -⟩ := id hR
    have HR := Lib.hid hR; clear hR hcv
    cases ps with
    | nil =>
      have HF := Lib.hid (show fitO p t bd = some bo by rw [← HFO.out, fitQO_nil])
      go_wp2_with fail
      go_ret2
      rw [HF.out]
      exact ⟨_, rfl, HB.out, by have h := ((OwnT.rsl2 HO.out).rsl).bound'; obtain ⟨a9, cap9, e9, h9⟩ := h; exact ⟨a9, cap9, e9, h9⟩⟩
    | cons q ps =>
      obtain ⟨x, y⟩ := q
      obtain ⟨b, o, rfl, -, hcap⟩ := HR.out.addr (by simp)
      obtain ⟨a1', c1', a2', c2', hRb, ⟨d0, d1, d2, d3⟩, ⟨e0, e1, e2, e3⟩, hX, hY⟩ := HR.out.head
      have hpos : 0 < ((x, y) :: ps).length := by simp
      have HX := Lib.hid hX
      have HY := Lib.hid hY
      clear hX hY
      have hb1 : b < wr.heap.size := World.block_lt_of_cell? wr _ d0
      go_upto_region 4 with (fail)
      go_cut [10, 11] (fun sx sy wx => TwoVars wr wx (.int .i64 x.kind) (.int .i64 x.n) (.string x.name) (.slice a1' x.args.length c1') (.int .i64 y.kind) (.int .i64 y.n) (.string y.name) (.slice a2' y.args.length c2') sx sy)
      case first =>
        go_region_held3 (fun w' => w'.cell? ⟨b, o, none⟩ = some (.int .i64 x.kind) ∧ w'.cell? ⟨b, o + 1, none⟩ = some (.int .i64 x.n) ∧ w'.cell? ⟨b, o + 2, none⟩ = some (.string x.name) ∧ w'.cell? ⟨b, o + 3, none⟩ = some (.slice a1' x.args.length c1') ∧
          w'.cell? ⟨b, o + 4, none⟩ = some (.int .i64 y.kind) ∧ w'.cell? ⟨b, o + 5, none⟩ = some (.int .i64 y.n) ∧ w'.cell? ⟨b, o + 6, none⟩ = some (.string y.name) ∧ w'.cell? ⟨b, o + 7, none⟩ = some (.slice a2' y.args.length c2'))
          (go_keep) (first | fail)
        all_goals (go_wp2_with fail; go_meet)
        · exact TwoVars.fst _ _ _ _ _ _ _ _ _ _
        · exact TwoVars.snd _ _ _ _ _ _ _ _ _ _
      case rest =>
        obtain ⟨X, Y, rfl, rfl, hXs, hYs, hX0, hY0, hBc, ⟨X0, X1, X2, X3⟩, ⟨Y0, Y1, Y2, Y3⟩⟩ := hcut
        obtain ⟨wd, rfl⟩ : ∃ wd : World, wd = wc := ⟨_, rfl⟩
        have hBW := Lib.hid hBc
        have hcs := hBc.size
        clear hBc
        have hc1 : 1 ≤ cav := by simp at hcap; omega
        go_upto_region 5 with (fail)
        go_cut [9] (fun v wx => TailOf wd wx b o ps.length (cav - 1) v)
        case first =>
          by_cases hca : cav = 1
          · have hp0 : ps.length = 0 := by simp at hcap; omega
            go_wp2_with fail
            go_meet
            exact ⟨b, o, by simp; omega, fun h => absurd hp0 h, rfl⟩
          · go_wp2_with fail
            go_meet
            exact ⟨b, o + 8, by simp, fun h => ⟨rfl, rfl⟩, rfl⟩
        case rest =>
          obtain ⟨b', o', rfl, hbo, hwc⟩ := hcut
          subst hwc
          have hgb := HO.out.block g rfl
          have hgw := hgb.2
          clear hgb
          have HOc := Lib.hid (HO.out.below hBW.out)
          have HRt := Lib.hid ((HR.out.tail b' o' (fun h => hbo (by simpa using h))).below hBW.out)
          have HBc := Lib.hid (below_step HB.out (by omega) hBW.out)
          have HXc := Lib.hid (HX.out.below hBW.out)
          have HYc := Lib.hid (HY.out.below hBW.out)
          obtain ⟨hfx, hbx, hby⟩ := HSM.out (x, y) (by simp)
          simp only at hfx hbx hby
          have HFX := Lib.hid hfx
          have hBz : w.heap.size + 1 + 1 ≤ wc.heap.size := by omega
          have HME : Hid (bulkQ ps < bulkQ ((x, y) :: ps)) := Lib.hid (by rw [bulkQ_cons, bulkL_cons x []]; omega)
          have hplz : bulkQ ps ≤ 1099511627776 := by have := HME.out; omega
          have HPL := Lib.hid hpl
          have HSM' : Hid (∀ q ∈ ps, Small q) := Lib.hid (fun q hq => HSM.out q (by simp [hq]))
          have hgX : g ≠ X := by omega
          have hgY : g ≠ Y := by omega
          clear hbo hfx hcap hpos d0 d1 d2 d3 e0 e1 e2 e3 HO HR HB hBW hc1 hpl
          by_cases h6 : x.kind = 6
          · have hk6 : (x.kind == 6) = true := by simp [h6]
            have HF := Lib.hid (show fitQO ps bo = fitO p t bd by rw [← HFO.out, fitQO_yes (by rw [fitT_6 h6]), fitT_6 h6])
            clear h6
            go_wp2_with fail
            go_roundg (bulkQ ps)
            case measure => exact HME.out
            case rel => exact ⟨ps, bo, rfl, HRt.out, HOc.out, HLN.out, HF.out, HSM'.out, HSB.out, HBc.out, hBz, hplz⟩
          by_cases h5 : x.kind = 5
          · obtain ⟨k, hk, hk4⟩ := form_var HFX.out h5
            have hkl : k < bo.length := by rw [HLN.out]; exact hk4
            obtain ⟨a', cap', _, d0, d1, d2, d3, hE⟩ := (OwnT.rsl2 HOc.out).elem k hkl
            rw [Nat.zero_add] at d0 d1 d2 d3
            have HE := Lib.hid hE; clear hE
            have hbu := HSB.out _ (List.getElem_mem hkl)
            have HF1 := Lib.hid (fun h6 => fitT_5a (t := y) h5 hk hkl h6)
            have HF2 := Lib.hid (fun h6 => fitT_5b (t := y) h5 hk hkl h6)
            have hk6 : (x.kind == 6) = false := by simp [h5]
            have hk5 : (x.kind == 5) = true := by simp [h5]
            have hkk0 : (0 : Int) ≤ k := by omega
            have hkk4 : (k : Int) < 4 := by omega
            rw [hk] at X1
            have hfz : ∀ o, wc.frozen? ⟨g, o, none⟩ = false := HOc.out.frozen
            have HOs := fun c0 c1 c2 c3 h => HOc.out.store (k := k) (t := y) (R := fun b => b < w.heap.size) (c0 := c0) (c1 := c1) (c2 := c2) (c3 := c3) hkl h (fun b hb _ => ⟨hb, by omega⟩)
            generalize hu : bo[k] = u at *
            clear hu h5 h6
            cases hu6 : (u.kind == 6)
            · have HF3 := Lib.hid (HF2.out (by simpa using hu6))
              have hgw' : g < wc.heap.size := by omega
              have HCS := Lib.hid (fun W (hW : Below wc.heap.size wc W) => same_c u y (fun _ => True) W _ _ ((HE.out.below hW).mono fun _ _ => trivial) ((HYc.out.below hW).mono fun _ _ => trivial) hbu hby)
              go_wp2_with fail
              go_region_held3 (fun w' => w'.cell? ⟨X, 1, none⟩ = some (.int .i64 k) ∧ w'.cell? ⟨g, k * 4, none⟩ = some (.int .i64 u.kind) ∧ w'.cell? ⟨g, k * 4 + 1, none⟩ = some (.int .i64 u.n) ∧ w'.cell? ⟨g, k * 4 + 2, none⟩ = some (.string u.name) ∧ w'.cell? ⟨g, k * 4 + 3, none⟩ = some (.slice a' u.args.length cap') ∧
                  w'.cell? ⟨Y, 0, none⟩ = some (.int .i64 y.kind) ∧ w'.cell? ⟨Y, 1, none⟩ = some (.int .i64 y.n) ∧ w'.cell? ⟨Y, 2, none⟩ = some (.string y.name) ∧ w'.cell? ⟨Y, 3, none⟩ = some (.slice a2' y.args.length c2'))
                (go_keep)
                (first | (go_at_call 19; refine (HCS.out _ ?_).mono ?_; (repeat' (first | exact Below.refl _ _ | apply Below.drew | refine Below.alloc ?_ (by simp <;> omega) _)); rintro e w1 ⟨rfl, hB1⟩; have hcc : ∀ b o, b < wc.heap.size → w1.cell? ⟨b, o, none⟩ = wc.cell? ⟨b, o, none⟩ := fun b o h => hB1.cell (p := ⟨b, o, none⟩) h))
              have hs1 : wc.heap.size ≤ w1.heap.size := hB1.size
              have HB1 : Hid (Below wc.heap.size wc w1) := Lib.hid (Below.trans (B := wc.heap.size) (Below.refl _ _).drew hB1)
              clear hcc hB1
              cases hsm : sameT u y
              · have HF : Hid (fitO p t bd = none) := Lib.hid (by rw [← HFO.out, fitQO_no (by rw [HF3.out]; exact hsm)])
                go_wp2_with fail
                go_ret2
                rw [HF.out]
                exact ⟨_, rfl, below_step HBc.out (by omega) HB1.out, RSl.nil _ _⟩
              · have HF := Lib.hid (show fitQO ps bo = fitO p t bd by rw [← HFO.out, fitQO_yes (by rw [HF3.out]; exact hsm), HF3.out])
                go_wp2_with fail
                go_roundg (bulkQ ps)
                case measure => exact HME.out
                case rel => exact ⟨ps, bo, rfl, HRt.out.below HB1.out, HOc.out.below HB1.out, HLN.out, HF.out, HSM'.out, HSB.out, below_step HBc.out (by omega) HB1.out, by omega, hplz⟩
            · have HF3 := Lib.hid (HF1.out (by simpa using hu6))
              have HF := Lib.hid (show fitQO ps (bo.set k y) = fitO p t bd by rw [← HFO.out, fitQO_yes (by rw [HF3.out]), HF3.out])
              go_wp2_with fail
              go_roundg (bulkQ ps)
              case measure => exact HME.out
              case rel =>
                refine ⟨ps, bo.set k y, rfl, ?_, HOs _ _ _ _ HYc.out, by rw [List.length_set]; exact HLN.out, HF.out, HSM'.out, ?_, ?_, by simpa using hBz, hplz⟩
                · refine HRt.out.to (fun _ h _ => h) (fun _ h _ => h) fun b hb _ => ?_
                  have hne : b ≠ g := by rcases hb with hb | hb; omega; exact hb.2
                  simp only [setCell_other _ _ _ _ _ hne]
                · intro z hz
                  rcases List.mem_or_eq_of_mem_set hz with hz | rfl
                  · exact HSB.out z hz
                  · exact hby
                · repeat refine Below.setCell ?_ (by simp <;> omega) _
                  exact HBc.out
          have hk5 : (x.kind == 5) = false := by simpa using h5
          have hk6 : (x.kind == 6) = false := by simpa using h6
          by_cases h4 : x.kind = 4
          · have hk4 : (x.kind == 4) = true := by simp [h4]
            by_cases hy4 : y.kind = 4 ∧ x.args.length = y.args.length
            · obtain ⟨hy4, hxy⟩ := hy4
              have hk7 : (y.kind != 4) = false := by simp [hy4]
              have hk8 : ((x.args.length : Int) != y.args.length) = false := by simp [hxy]
              have HF := Lib.hid (show fitQO (x.args.zip y.args ++ ps) bo = fitO p t bd by rw [← HFO.out, fitQO_tup h4 hy4 hxy])
              have HME' := Lib.hid (bulkQ_tup (p := x) (t := y) (ps := ps) hxy)
              have HXY := Lib.hid hxy
              have hl1 : x.args.length ≤ y.args.length := by omega
              have hl2 : y.args.length ≤ x.args.length := by omega
              have hla := length_le_bulk x.args
              have hba := bulk_args x
              clear h4 h5 h6 hy4 hxy
              have HXR : Hid (RTs (fun b => b < w.heap.size) wc x.args a1' 0) := Lib.hid (by obtain ⟨_, _, e, _, h⟩ := HXc.out; simp only [Value.agg.injEq, Array.mk.injEq, List.cons.injEq, Value.slice.injEq, and_true, true_and] at e; obtain ⟨rfl, rfl⟩ := e; exact h)
              have HYR : Hid (RTs (fun b => b < w.heap.size) wc y.args a2' 0) := Lib.hid (by obtain ⟨_, _, e, _, h⟩ := HYc.out; simp only [Value.agg.injEq, Array.mk.injEq, List.cons.injEq, Value.slice.injEq, and_true, true_and] at e; obtain ⟨rfl, rfl⟩ := e; exact h)
              have hzl : (x.args.zip y.args).length = x.args.length := by rw [List.length_zip]; omega
              have HZL := Lib.hid hzl; clear hzl
              go_wp2_with fail
              go_loopw [12, 13] (fun more i wr => ∃ j : Nat, j ≤ x.args.length ∧ i = .int .i64 j ∧ OwnP (fun b => b < w.heap.size) wc.heap.size wr more ((x.args.zip y.args).take j) ∧ Below wc.heap.size wc wr) (fun _ i _ => x.args.length - (intOf i).toNat)
              case atStart => exact ⟨0, Nat.zero_le _, rfl, OwnP.nil _ _ _, Below.refl _ _⟩
              case round =>
                obtain ⟨j, hjl, rfl, hM, hB⟩ := hrel
                have hsz := hB.size
                have HM := Lib.hid hM; clear hM
                obtain ⟨hcc, -⟩ := bcell hB
                have HBr := Lib.hid (below_step HBc.out (by omega) hB)
                by_cases hlt : j < x.args.length
                · obtain ⟨b3, o3, rfl⟩ := HXR.out.addr (by omega)
                  obtain ⟨b4, o4, rfl⟩ := HYR.out.addr (by omega)
                  have hlt2 : j < y.args.length := by omega
                  obtain ⟨a5, c5, hS5, d0, d1, d2, d3, hE⟩ := (HXR.out.below hB).elem j hlt
                  obtain ⟨a6, c6, hS6, e0, e1, e2, e3, hE2⟩ := (HYR.out.below hB).elem j hlt2
                  have hj0 : (0 : Int) ≤ (j : Int) := Int.natCast_nonneg _
                  have hj1 : (j : Int) < (x.args.length : Int) := by omega
                  have hj2 : (j : Int) < (y.args.length : Int) := by omega
                  have HE := Lib.hid hE
                  have HE2 := Lib.hid hE2
                  have HTK := Lib.hid (show (x.args.zip y.args).take (j + 1) = (x.args.zip y.args).take j ++ [(x.args[j], y.args[j])] by rw [take_snoc' _ j (by rw [HZL.out]; exact hlt)]; simp)
                  clear hE hE2
                  generalize x.args[j] = xx at *
                  generalize y.args[j] = yy at *
                  obtain ⟨we, rfl⟩ : ∃ we : World, we = wr := ⟨_, rfl⟩
                  obtain ⟨am, cm, hvm⟩ := HM.out.form
                  obtain ⟨lm, hlm⟩ : ∃ lm : Nat, lm = ((x.args.zip y.args).take j).length := ⟨_, rfl⟩
                  rw [← hlm] at hvm
                  subst hvm
                  have HLM := Lib.hid hlm
                  have hln : lm + 1 ≤ 1099511627776 := by rw [hlm]; simp; omega
                  clear hlm
                  have hmb := HM.out.block
                  have HQ : Hid (∀ (ob : Obj) (w1 : World), World.grownBy ((we.alloc ob).drew) w1 (Value.slice am lm cm).ownBlock → w1.cell? ⟨X, 3, none⟩ = some (.slice (some ⟨b3, o3, none⟩) x.args.length c1') ∧ w1.cell? ⟨Y, 3, none⟩ = some (.slice (some ⟨b4, o4, none⟩) y.args.length c2') ∧
                      w1.cell? ⟨b3, o3 + j * 4, none⟩ = some (.int .i64 xx.kind) ∧ w1.cell? ⟨b3, o3 + j * 4 + 1, none⟩ = some (.int .i64 xx.n) ∧ w1.cell? ⟨b3, o3 + j * 4 + 2, none⟩ = some (.string xx.name) ∧ w1.cell? ⟨b3, o3 + j * 4 + 3, none⟩ = some (.slice a5 xx.args.length c5) ∧
                      w1.cell? ⟨b4, o4 + j * 4, none⟩ = some (.int .i64 yy.kind) ∧ w1.cell? ⟨b4, o4 + j * 4 + 1, none⟩ = some (.int .i64 yy.n) ∧ w1.cell? ⟨b4, o4 + j * 4 + 2, none⟩ = some (.string yy.name) ∧ w1.cell? ⟨b4, o4 + j * 4 + 3, none⟩ = some (.slice a6 yy.args.length c6)) := Lib.hid fun ob w1 hG => by
                    have key : ∀ b' o', b' < wc.heap.size → w1.cell? ⟨b', o', none⟩ = we.cell? ⟨b', o', none⟩ := fun b' o' h => by
                      rw [hG.cell_far ⟨b', o', none⟩ (by simp; omega) (fun e => by have := (hmb b' e.symm).1; omega)]
                      exact World.cell?_of_block (w := we) (Below.heap_alloc _ _ _ (by show b' < _; omega))
                    have n3 : b3 < wc.heap.size := by omega
                    have n4 : b4 < wc.heap.size := by omega
                    rw [key _ _ hXs, key _ _ hYs, key _ _ n3, key _ _ n3, key _ _ n3, key _ _ n3, key _ _ n4, key _ _ n4, key _ _ n4, key _ _ n4]
                    exact ⟨(hcc _ _ hXs).trans X3, (hcc _ _ hYs).trans Y3, d0, d1, d2, d3, e0, e1, e2, e3⟩
                  have HM1 := Lib.hid (fun ob => (HM.out.alloc ob).below (Below.drew (Below.refl _ _)))
                  have HP1 : Hid (RSlP (fun b => b = we.heap.size) (fun b => b < w.heap.size) _ [(xx, yy)] (.slice (some ⟨we.heap.size, 0, none⟩) 1 1)) := Lib.hid ((RSlP.one HE.out HE2.out 107).below (Below.drew (Below.refl _ _)))
                  have HSB2 : Hid (∀ b, b < w.heap.size → (Value.slice am lm cm).ownBlock ≠ some b) := Lib.hid (fun b hb e => by have := (hmb b e).1; omega)
                  go_wp2_with fail
                  go_region_held3 (fun w' => w'.cell? ⟨X, 3, none⟩ = some (.slice (some ⟨b3, o3, none⟩) x.args.length c1') ∧ w'.cell? ⟨Y, 3, none⟩ = some (.slice (some ⟨b4, o4, none⟩) y.args.length c2') ∧
                      w'.cell? ⟨b3, o3 + j * 4, none⟩ = some (.int .i64 xx.kind) ∧ w'.cell? ⟨b3, o3 + j * 4 + 1, none⟩ = some (.int .i64 xx.n) ∧ w'.cell? ⟨b3, o3 + j * 4 + 2, none⟩ = some (.string xx.name) ∧ w'.cell? ⟨b3, o3 + j * 4 + 3, none⟩ = some (.slice a5 xx.args.length c5) ∧
                      w'.cell? ⟨b4, o4 + j * 4, none⟩ = some (.int .i64 yy.kind) ∧ w'.cell? ⟨b4, o4 + j * 4 + 1, none⟩ = some (.int .i64 yy.n) ∧ w'.cell? ⟨b4, o4 + j * 4 + 2, none⟩ = some (.string yy.name) ∧ w'.cell? ⟨b4, o4 + j * 4 + 3, none⟩ = some (.slice a6 yy.args.length c6))
                    (first | go_keep | exact HQ.out _ _ hgrow)
                    ((refine step_append_pair (g0 := we.heap.size) (H := we.heap.size + 1) (base := wc.heap.size) (v := .slice am lm cm) _ _ (by rfl) (by rfl) (by rfl) (by rfl) (HM1.out _) HP1.out HSB2.out HLM.out.symm hln (by simp; omega) (by simp) ?_; intro gg cg w1 hown1 hgrow))
                  have hgs := hgrow.size
                  have HBG : Hid (Below wc.heap.size wc w1) := Lib.hid (Below.grown ((hB.alloc (by omega) _).drew) hgrow (by simp; omega) (fun b hb => (hmb b hb).1))
                  clear hgrow hcc hmb
                  go_wp2_with fail
                  go_roundw
                  case rel => exact ⟨j + 1, by omega, by go_num, by rw [HTK.out]; exact hown1, HBG.out⟩
                  case measure => simp [intOf]; omega
                · have hjj : j = x.args.length := by omega
                  subst hjj
                  have hM := HM.out
                  rw [List.take_of_length_le (by rw [HZL.out]; exact Nat.le_refl _)] at hM
                  have HM2 := Lib.hid hM; clear hM
                  have hmb := HM2.out.block
                  have HR2 := Lib.hid (HRt.out.below hB)
                  have hln : (x.args.zip y.args).length + ps.length ≤ 1099511627776 := by have h1 := lengthQ (x.args.zip y.args ++ ps); have h2 := HME'.out; have h3 := HPL.out; rw [List.length_append] at h1; omega
                  go_wp2_with (at_builtin; refine append_pairs (base := wc.heap.size) _ _ rfl rfl rfl rfl HM2.out HR2.out (fun b hb e => by have := (hmb b e).1; omega) hln (by omega) ?_; intro v9 w9 hM9 hG9 hw9; have H9 := Lib.hid hM9; have G9 := Lib.hid hG9; clear hM9 hG9 hw9)
                  have hs9 := G9.out.size
                  have hB9 := Lib.hid (Below.grown hB G9.out (by omega) (fun b hb => (hmb b hb).1))
                  go_roundg (bulkQ (x.args.zip y.args ++ ps))
                  case measure => exact HME'.out
                  case rel =>
                    refine ⟨x.args.zip y.args ++ ps, bo, rfl, H9.out.rslp.to (fun b hb _ => ?_) (fun _ h _ => h) (fun _ _ _ => rfl), HOc.out.below hB9.out, HLN.out, HF.out, ?_, HSB.out, below_step HBc.out (by omega) hB9.out, by omega, by have h2 := HME'.out; have h3 := HPL.out; omega⟩
                    · have := (H9.out.block b hb).1
                      exact ⟨by omega, by omega⟩
                    · intro q hq
                      rcases List.mem_append.1 hq with hq | hq
                      · have h1 := (List.of_mem_zip hq).1
                        have h2 := (List.of_mem_zip hq).2
                        have h3 := bulk_mem h1
                        have h4 := bulk_mem h2
                        have h5 := bulk_args y
                        exact ⟨form_args HFX.out h1, by omega, by omega⟩
                      · exact HSM'.out q hq
            · have HF : Hid (fitO p t bd = none) := Lib.hid (by rw [← HFO.out, fitQO_no (by rw [fitT_4b h4 hy4])])
              by_cases hy5 : y.kind = 4
              · have hk7 : (y.kind != 4) = false := by simp [hy5]
                have hk8 : ((x.args.length : Int) != y.args.length) = true := by simp; intro h; exact hy4 ⟨hy5, by omega⟩
                clear h4 h5 h6 hy4 hy5
                go_wp2_with fail
                go_ret2
                rw [HF.out]
                exact ⟨_, rfl, HBc.out, RSl.nil _ _⟩
              · have hk7 : (y.kind != 4) = true := by simpa using hy5
                clear h4 h5 h6 hy4 hy5
                go_wp2_with fail
                go_ret2
                rw [HF.out]
                exact ⟨_, rfl, HBc.out, RSl.nil _ _⟩
          · have hk4 : (x.kind == 4) = false := by simpa using h4
            have HF3 := Lib.hid (fitT_o (p := x) (t := y) (b := bo) h4 h5 h6)
            clear h4 h5 h6
            go_wp2_with fail
            refine (same_c x y (fun _ => True) _ _ _ (HXc.out.mono fun _ _ => trivial) (HYc.out.mono fun _ _ => trivial) hbx hby).mono ?_
            rintro e w1 ⟨rfl, hB1⟩
            have hs1 : wc.heap.size ≤ w1.heap.size := hB1.size
            have HB1 : Hid (Below wc.heap.size wc w1) := Lib.hid hB1
            clear hB1
            cases hsm : sameT x y
            · have HF : Hid (fitO p t bd = none) := Lib.hid (by rw [← HFO.out, fitQO_no (by rw [HF3.out]; exact hsm)])
              go_wp2_with fail
              go_ret2
              rw [HF.out]
              exact ⟨_, rfl, below_step HBc.out (by omega) HB1.out, RSl.nil _ _⟩
            · have HF := Lib.hid (show fitQO ps bo = fitO p t bd by rw [← HFO.out, fitQO_yes (by rw [HF3.out]; exact hsm), HF3.out])
              go_wp2_with fail
              go_roundg (bulkQ ps)
              case measure => exact HME.out
              case rel => exact ⟨ps, bo, rfl, HRt.out.below HB1.out, HOc.out.below HB1.out, HLN.out, HF.out, HSM'.out, HSB.out, below_step HBc.out (by omega) HB1.out, by omega, hplz⟩
end Go.Proofs.Ytedfepnekjjmnaa
