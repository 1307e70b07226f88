/-
  code.behaviour: the behaviour that a term tells. No condition but a bound.
-/
import Derived.Test.YtedfepnekjjmnabDoorClause
namespace Go.Proofs.YtedfepnekjjmnabDoor
open Go.RowKit
set_option linter.unusedSimpArgs false
set_option linter.unusedVariables false
set_option maxRecDepth 100000

def zeroBehv : Behv := ⟨⟨#[]⟩, []⟩
theorem TellP.zeroB {w w' : World} {t : T} {e : Ending} (h : behvO t = none) (he : e = .returned (.tuple #[.agg [.string ⟨#[]⟩, .slice none 0 0].toArray, .bool false])) (hB : Below w.heap.size w w') : TellP behvE behvO w t e w' :=
  ⟨zeroBehv, [.string ⟨#[]⟩, .slice none 0 0], by rw [h]; exact he, hB, ⟨none, 0, rfl, RX.nil _ _ _⟩, fun d' h' => by rw [h] at h'; cases h'⟩
theorem RSl.capOk {S : Nat → Prop} {w : World} {l : List T} {a : Option Addr} {n cap : Nat} (h : RSl S w l (.slice a n cap)) : CapOk a l.length cap := by
  obtain ⟨a', cap', e, h1, hr⟩ := h
  simp only [Value.slice.injEq] at e
  obtain ⟨rfl, -, rfl⟩ := e
  exact h1
theorem mapO_snoc_some {X : Type} (f : T → Option X) {l : List T} {k : Nat} (hk : k < l.length) : (mapO f (l.take (k + 1))).isSome = ((mapO f (l.take k)).isSome && (f l[k]).isSome) := by
  rw [mapO_snoc f hk]
  cases mapO f (l.take k) <;> cases f l[k] <;> rfl
theorem mapO_snoc_eq {X : Type} (f : T → Option X) {l : List T} {k : Nat} (hk : k < l.length) {r : List X} {x : X} (h1 : ∀ r', mapO f (l.take k) = some r' → r' = r) (h2 : ∀ x', f l[k] = some x' → x' = x) : ∀ r', mapO f (l.take (k + 1)) = some r' → r' = r ++ [x] := by
  intro r' h
  rw [mapO_snoc f hk] at h
  cases e1 : mapO f (l.take k) with
  | none => rw [e1] at h; cases h
  | some r1 =>
    cases e2 : f l[k] with
    | none => rw [e1, e2] at h; cases h
    | some x1 =>
      rw [e1, e2] at h
      simp only [Option.some.injEq] at h
      rw [← h, h1 r1 e1, h2 x1 e2]

set_option maxHeartbeats 4000000 in
theorem behav_none (t : T) (S : Nat → Prop) (w : World) (v : Value) (hv : RT S w t v) (hb : bulkL [t] ≤ 137438953472) (h1 : restL sBeh t = none) : Calls Tryd.prog 41 #[v] w (TellP behvE behvO w t) := by
  obtain ⟨a, cap, rfl, hc, hr⟩ := hv
  have HV : Hid (RT S w t _) := Lib.hid ⟨a, cap, rfl, hc, hr⟩
  clear hr hc
  have H1 := Lib.hid h1
  clear h1
  go_enter Tryd.func41, Tryd.ntmps41
  go_wp2_with fail
  obtain ⟨W0, hW0⟩ : ∃ W : World, W = (w.alloc (.cells #[.int .i64 t.kind, .int .i64 t.n, .string t.name, .slice a t.args.length cap] 24)).alloc (.cells #[.string ⟨#[]⟩, .slice none 0 0] 62) := ⟨_, rfl⟩
  have HV0 : Hid (RT (fun b => b < w.heap.size) W0 t (.agg #[.int .i64 t.kind, .int .i64 t.n, .string t.name, .slice a t.args.length cap])) := Lib.hid (by rw [hW0]; exact ((HV.out.to (S' := fun b => b < w.heap.size) (fun _ _ h => h) fun _ _ _ => rfl).alloc _).alloc _)
  have HZ : Hid (Blk W0 (w.heap.size + 1) [.string ⟨#[]⟩, .slice none 0 0]) := Lib.hid (by rw [hW0]; exact Blk.new _ _ _ _ (by simp))
  have HB0 : Hid (Below w.heap.size w W0) := Lib.hid (by rw [hW0]; exact (below_alloc _ _).trans ((below_alloc _ _).mono (by simp)))
  have hs0 : w.heap.size + 2 ≤ W0.heap.size := by rw [hW0]; simp
  rw [← hW0]
  clear hW0 HV
  refine (crest_c t sBeh _ _ _ HV0.out (by omega)).mono ?_
  intro e W1 h
  obtain ⟨r0, rc0, rfl, hB⟩ := h.none H1.out
  have hs1 := hB.size
  have HB1 := Lib.hid hB
  clear hB h
  have HO := Lib.hid (show behvO t = none by unfold behvO; rw [H1.out])
  go_wp2_with (first | (refine store_blk 62 2 szBeh _ _ rfl rfl rfl rfl rfl (HZ.out.step HB1.out) rfl rfl rfl ?_; intro W' hF hs' hBW hoth; have HF := Lib.hid hF; have HFB := Lib.hid (hBW _ _ (by omega) (HB0.out.trans (HB1.out.mono (by omega)))); have HOTH := Lib.hid hoth; clear hF hBW hoth))
  refine bodyPost_ret (results_blk Tryd.results41 szBeh _ Tryd.underlying62 rfl rfl HF.out rfl) rfl (TellP.zeroB HO.out rfl HFB.out)

set_option maxHeartbeats 4000000 in
theorem behav_len (t : T) (S : Nat → Prop) (w : World) (v : Value) (hv : RT S w t v) (hb : bulkL [t] ≤ 137438953472) (l : List T) (h1 : restL sBeh t = some l) (hl : l.length < 2) : Calls Tryd.prog 41 #[v] w (TellP behvE behvO w t) := by
  obtain ⟨a, cap, rfl, hc, hr⟩ := hv
  have HV : Hid (RT S w t _) := Lib.hid ⟨a, cap, rfl, hc, hr⟩
  clear hr hc
  have H1 := Lib.hid h1
  clear h1
  go_enter Tryd.func41, Tryd.ntmps41
  go_wp2_with fail
  obtain ⟨W0, hW0⟩ : ∃ W : World, W = (w.alloc (.cells #[.int .i64 t.kind, .int .i64 t.n, .string t.name, .slice a t.args.length cap] 24)).alloc (.cells #[.string ⟨#[]⟩, .slice none 0 0] 62) := ⟨_, rfl⟩
  have HV0 : Hid (RT (fun b => b < w.heap.size) W0 t (.agg #[.int .i64 t.kind, .int .i64 t.n, .string t.name, .slice a t.args.length cap])) := Lib.hid (by rw [hW0]; exact ((HV.out.to (S' := fun b => b < w.heap.size) (fun _ _ h => h) fun _ _ _ => rfl).alloc _).alloc _)
  have HZ : Hid (Blk W0 (w.heap.size + 1) [.string ⟨#[]⟩, .slice none 0 0]) := Lib.hid (by rw [hW0]; exact Blk.new _ _ _ _ (by simp))
  have HB0 : Hid (Below w.heap.size w W0) := Lib.hid (by rw [hW0]; exact (below_alloc _ _).trans ((below_alloc _ _).mono (by simp)))
  have hs0 : w.heap.size + 2 ≤ W0.heap.size := by rw [hW0]; simp
  rw [← hW0]
  clear hW0 HV
  have e1 : (l.length : Int) < 2 := by omega
  have HN := Lib.hid hl
  clear hl
  refine (crest_c t sBeh _ _ _ HV0.out (by omega)).mono ?_
  intro e W1 h
  obtain ⟨r0, rc0, rfl, hB, hr⟩ := h.yes H1.out
  have HL := Lib.hid hr
  clear hr
  have hs1 := hB.size
  have HB1 := Lib.hid hB
  clear hB h
  have HO := Lib.hid (show behvO t = none by unfold behvO; rw [H1.out]; match l, HN.out with | [], _ => rfl | [_], _ => rfl)
  go_wp2_with (first | (refine store_blk 62 2 szBeh _ _ rfl rfl rfl rfl rfl (HZ.out.step HB1.out) rfl rfl rfl ?_; intro W' hF hs' hBW hoth; have HF := Lib.hid hF; have HFB := Lib.hid (hBW _ _ (by omega) (HB0.out.trans (HB1.out.mono (by omega)))); have HOTH := Lib.hid hoth; clear hF hBW hoth))
  refine bodyPost_ret (results_blk Tryd.results41 szBeh _ Tryd.underlying62 rfl rfl HF.out rfl) rfl (TellP.zeroB HO.out rfl HFB.out)

set_option maxHeartbeats 4000000 in
theorem behav_main (t : T) (S : Nat → Prop) (w : World) (v : Value) (hv : RT S w t v) (hb : bulkL [t] ≤ 137438953472) (x y : T) (r : List T) (h1 : restL sBeh t = some (x :: y :: r)) : Calls Tryd.prog 41 #[v] w (TellP behvE behvO w t) := by
  obtain ⟨a, cap, rfl, hc, hr⟩ := hv
  have HV : Hid (RT S w t _) := Lib.hid ⟨a, cap, rfl, hc, hr⟩
  clear hr hc
  have H1 := Lib.hid h1
  clear h1
  go_enter Tryd.func41, Tryd.ntmps41
  go_wp2_with fail
  obtain ⟨W0, hW0⟩ : ∃ W : World, W = (w.alloc (.cells #[.int .i64 t.kind, .int .i64 t.n, .string t.name, .slice a t.args.length cap] 24)).alloc (.cells #[.string ⟨#[]⟩, .slice none 0 0] 62) := ⟨_, rfl⟩
  have HV0 : Hid (RT (fun b => b < w.heap.size) W0 t (.agg #[.int .i64 t.kind, .int .i64 t.n, .string t.name, .slice a t.args.length cap])) := Lib.hid (by rw [hW0]; exact ((HV.out.to (S' := fun b => b < w.heap.size) (fun _ _ h => h) fun _ _ _ => rfl).alloc _).alloc _)
  have HZ : Hid (Blk W0 (w.heap.size + 1) [.string ⟨#[]⟩, .slice none 0 0]) := Lib.hid (by rw [hW0]; exact Blk.new _ _ _ _ (by simp))
  have HB0 : Hid (Below w.heap.size w W0) := Lib.hid (by rw [hW0]; exact (below_alloc _ _).trans ((below_alloc _ _).mono (by simp)))
  have hs0 : w.heap.size + 2 ≤ W0.heap.size := by rw [hW0]; simp
  rw [← hW0]
  clear hW0 HV
  refine (crest_c t sBeh _ _ _ HV0.out (by omega)).mono ?_
  intro e W1 h
  obtain ⟨r0, rc0, rfl, hB, hr⟩ := h.yes H1.out
  have HL := Lib.hid hr
  clear hr
  have hs1 := hB.size
  have HB1 := Lib.hid hB
  clear hB h
  obtain ⟨bq, oq, rfl⟩ := HL.out.rts.addr (by simp)
  obtain ⟨ax, px, hsx, x0, x1, x2, x3, hrx⟩ := HL.out.rts.elem 0 (by simp)
  simp only [Nat.zero_mul, Nat.one_mul, Nat.add_zero, Nat.reduceMul, Nat.add_assoc, Nat.reduceAdd, List.getElem_cons_zero, List.getElem_cons_succ] at x0 x1 x2 x3 hrx
  have HRx := Lib.hid hrx
  clear hrx
  have HT := Lib.hid HL.out.rts.tail
  have hcp := HL.out.capOk.1
  simp only [List.length_cons] at hcp
  have hcp1 : (1 : Int) < rc0 := by omega
  have hcp2 : ((r.length : Int) + 1 + 1) ≤ rc0 := by omega
  have hbl := (restL_some H1.out).1
  have hbx : bulkL (x :: y :: r) = bulkL [x] + bulkL (y :: r) := bulkL_append [x] (y :: r)
  have hly := length_le_bulk (y :: r)
  simp only [List.length_cons] at hly
  go_wp2_with fail
  refine (catom_c x _ _ _).mono ?_
  rintro e W2 ⟨rfl, hB⟩
  have hs2 := hB.size
  have HB2 := Lib.hid hB
  clear hB x0 x1 x2 x3
  obtain ⟨fl, hfl⟩ : ∃ fl : Bool, fl = (x.kind == 2) := ⟨_, rfl⟩
  rw [← hfl]
  have HFL := Lib.hid hfl
  clear hfl
  go_wp2_with fail
  obtain ⟨W3, hW3⟩ : ∃ W : World, W = W2.alloc (.cells #[.string x.name, .slice none 0 0] 62) := ⟨_, rfl⟩
  obtain ⟨g, hg⟩ : ∃ g, g = W2.heap.size := ⟨_, rfl⟩
  have HG : Hid (Blk W3 g [.string x.name, .slice none 0 0]) := Lib.hid (by rw [hW3]; exact Blk.new _ _ _ _ hg)
  have HB3 : Hid (Below W2.heap.size W2 W3) := Lib.hid (by rw [hW3]; exact below_alloc _ _)
  have hs3 : g + 1 ≤ W3.heap.size := by rw [hW3, hg]; simp
  have hg1 : g ≤ W2.heap.size := by omega
  have hg2 : W2.heap.size ≤ g := by omega
  rw [← hW3, ← hg]
  clear hW3 hg
  have hgl : g < W3.heap.size := hs3
  have HRT := Lib.hid (((HT.out.below HB2.out).below HB3.out))
  go_loopw [5, 37] (fun s5 i wr => ∃ (k : Nat) (cs : List Clau) (row : Value) (q : Bool), k ≤ (y :: r).length ∧ i = .int .i64 k ∧ s5 = .bool q ∧ q = (fl && (mapO clauO ((y :: r).take k)).isSome) ∧ (∀ r', mapO clauO ((y :: r).take k) = some r' → r' = cs) ∧ cs.length = k ∧ OwnXG clauE clauF.e (fun b => W3.heap.size ≤ b) W3.heap.size wr row cs ∧ Keep (fun b => b = g) W3 wr ∧ Blk wr g [.string x.name, row]) (fun _ i _ => (y :: r).length - (intOf i).toNat)
  case atStart => exact ⟨0, [], _, fl, Nat.zero_le _, rfl, rfl, by simp [mapO], fun r' h => by simpa [mapO] using h.symm, rfl, OwnXG.nil _ _ _ _, Keep.refl _ _, HG.out⟩
  case round =>
    obtain ⟨k, cs, row, q, hkl, rfl, rfl, hq, hm, hcl, hO, hK, hGr⟩ := hrel
    have hsz := hK.size
    have HQ := Lib.hid hq
    have HM := Lib.hid hm
    have HO := Lib.hid hO
    have HK := Lib.hid hK
    have HGR := Lib.hid hGr
    have HCL := Lib.hid hcl
    have HBr : Hid (Below w.heap.size w wr) := Lib.hid ((HB0.out.trans ((HB1.out.trans ((HB2.out.trans (HB3.out.mono (by omega))).mono (by omega))).mono (by omega))).trans (hK.below (by omega) fun b e => by omega))
    have HZr : Hid (Blk wr (w.heap.size + 1) [.string ⟨#[]⟩, .slice none 0 0]) := Lib.hid ((((HZ.out.step HB1.out).step HB2.out).step HB3.out).keep hK (by omega))
    clear hq hm hO hK hGr hcl
    simp only [List.length_cons] at hkl
    by_cases hlt : k < (y :: r).length
    · obtain ⟨a', cap', hSb, d0, d1, d2, d3, hE⟩ := (HRT.out.keep HK.out (fun b hb => by omega)).elem k hlt
      have hbk := bulk_at hlt
      have hE := Lib.hid hE
      have hlt' : (k : Int) < (r.length : Int) + 1 := by simp only [List.length_cons] at hlt; omega
      go_wp2_with fail
      refine (clause_c (y :: r)[k] _ _ _ (hE.out.alloc _) (by omega)).mono ?_
      rintro e w1 ⟨c, cells, he, hB, ⟨b1, q1, b2, q2, b3, q3, b4, q4, rfl, hr1, hr2, hr3, hr4⟩, hd⟩
      have hs1 := hB.size
      simp only [World.size_alloc] at hs1
      have HGt := Lib.hid ((HGR.out.alloc (.cells #[.int .i64 (y :: r)[k].kind, .int .i64 (y :: r)[k].n, .string (y :: r)[k].name, .slice a' (y :: r)[k].args.length cap'] 24)).step hB)
      have HOt := Lib.hid ((HO.out.below (below_alloc wr (.cells #[.int .i64 (y :: r)[k].kind, .int .i64 (y :: r)[k].n, .string (y :: r)[k].name, .slice a' (y :: r)[k].args.length cap'] 24))).below hB)
      have HKt := Lib.hid ((HK.out.alloc (.cells #[.int .i64 (y :: r)[k].kind, .int .i64 (y :: r)[k].n, .string (y :: r)[k].name, .slice a' (y :: r)[k].args.length cap'] 24)).then hB)
      have HD := Lib.hid hd
      clear d0 d1 d2 d3
      have HS1 : Hid (∀ r', mapO clauO ((y :: r).take (k + 1)) = some r' → r' = cs ++ [c]) := Lib.hid (mapO_snoc_eq _ hlt HM.out hd)
      have HC : Hid (clauC (fun b => wr.heap.size + 1 ≤ b) (w1.alloc (.cells #[.int .i64 c.state.kind, .int .i64 c.state.n, .string c.state.name, .slice b1 c.state.args.length q1, .int .i64 c.message.kind, .int .i64 c.message.n, .string c.message.name, .slice b2 c.message.args.length q2, .slice b3 c.acts.length q3, .int .i64 c.next.kind, .int .i64 c.next.n, .string c.next.name, .slice b4 c.next.args.length q4] 79)) c [.int .i64 c.state.kind, .int .i64 c.state.n, .string c.state.name, .slice b1 c.state.args.length q1, .int .i64 c.message.kind, .int .i64 c.message.n, .string c.message.name, .slice b2 c.message.args.length q2, .slice b3 c.acts.length q3, .int .i64 c.next.kind, .int .i64 c.next.n, .string c.next.name, .slice b4 c.next.args.length q4]) := Lib.hid ⟨b1, q1, b2, q2, b3, q3, b4, q4, rfl, (hr1.mono (fun b hb => by simpa using hb)).alloc _, (hr2.mono (fun b hb => by simpa using hb)).alloc _, (hr3.mono (fun b hb => by simpa using hb) (fun b hb => by simpa using hb)).below (below_alloc _ _), (hr4.mono (fun b hb => by simpa using hb)).alloc _⟩
      obtain ⟨z, hz⟩ : ∃ z, z = (clauO (y :: r)[k]).isSome := ⟨_, rfl⟩
      rw [← hz] at he
      have HQ1 : Hid ((q && z) = (fl && (mapO clauO ((y :: r).take (k + 1))).isSome)) := Lib.hid (by rw [mapO_snoc_some _ hlt, hz, HQ.out, Bool.and_assoc])
      have HOB := Lib.hid HO.out.block
      have g1 := HGt.out.cell 1 _ rfl
      have gf := HGt.out.fr
      have hgl1 := HGt.out.lt
      have hfr : g ≠ w1.heap.size := by omega
      have hfr' : g ≠ w1.heap.size + 1 := by omega
      have hcn : cs.length ≤ k := Nat.le_of_eq HCL.out
      subst he
      clear hz hd hr1 hr2 hr3 hr4 hB
      cases q
      all_goals (
        go_wp2_with (at_builtin; refine append_growX clauF _ _ rfl rfl rfl rfl (by simp) (HOt.out.below (below_alloc _ _)) HC.out (fun b hb hl => ⟨by omega, fun he => by have := HOB.out b he; omega⟩) rfl (by omega) (by simp; omega) ?_; intro gg cg w3 hO3 hB3 hG3 hD3; have g13 := (hB3.cell (p := ⟨g, 1, none⟩) hgl).trans ((HGt.out.alloc _).cell 1 _ rfl); have gf3 := fun o => (hB3.frozen (p := ⟨g, o, none⟩) hgl).trans ((HGt.out.alloc _).fr o); have HO3 := Lib.hid hO3; have HB3 := Lib.hid hB3; clear hO3 hB3 hG3 hD3)
        go_roundw
        case rel =>
          refine ⟨k + 1, cs ++ [c], .slice (some ⟨gg, 0, none⟩) (cs.length + 1) cg, _, hlt, by go_num, rfl, by simpa using HQ1.out, HS1.out, by simp [HCL.out], HO3.out.setCell g 1 _ hgl (Nat.not_le.2 hgl), ?_, ?_⟩
          · exact ((HKt.out.alloc _).thenB HB3.out).setCell _ (.inl rfl)
          · exact (((HGt.out.alloc _).below HB3.out hgl).set 1 _ (by simp))
        case measure => simp [intOf]; omega)
    · have hkk : k = (y :: r).length := by simp only [List.length_cons] at hlt ⊢; omega
      have hlt' : ¬ (k : Int) < (r.length : Int) + 1 := by simp only [List.length_cons] at hlt; omega
      subst hkk
      obtain ⟨ar, capr, rfl, hcr⟩ := HO.out.form
      have htk : (y :: r).take (y :: r).length = y :: r := List.take_of_length_le (Nat.le_refl _)
      have HCS : Hid (q = (behvO t).isSome) := Lib.hid (by rw [HQ.out, htk, HFL.out]; unfold behvO; rw [H1.out]; simp only; cases x.kind == 2 <;> simp)
      have HCE : Hid (∀ b', behvO t = some b' → b' = ⟨x.name, cs⟩) := Lib.hid (by intro b' h; unfold behvO at h; rw [H1.out] at h; simp only at h; split at h; (· cases e : mapO clauO (y :: r) with | none => rw [e] at h; cases h | some r1 => (rw [e] at h; rw [htk] at HM; have := HM.out _ e; subst this; simpa using h.symm)); (· cases h))
      clear htk hcr
      go_wp2_with (first | (refine load_blk 62 2 szBeh _ Tryd.underlying62 rfl _ rfl rfl rfl HGR.out rfl ?_) | (refine store_blk 62 2 szBeh _ _ rfl rfl rfl rfl rfl (HZr.out) rfl rfl rfl ?_; intro W' hF hs' hBW hoth; have HF := Lib.hid hF; have HFB := Lib.hid (hBW _ _ (by omega) (HBr.out)); have HOTH := Lib.hid hoth; clear hF hBW hoth))
      refine bodyPost_ret (results_blk Tryd.results41 szBeh _ Tryd.underlying62 rfl rfl HF.out rfl) rfl ⟨⟨x.name, cs⟩, [.string x.name, .slice ar cs.length capr], by rw [← HCS.out]; rfl, HFB.out, ⟨ar, capr, rfl, ?_⟩, HCE.out⟩
      exact (HO.out.rx (fun b hb => hb)).to (fun b hb _ => by omega) (fun b hb _ => by omega) fun b hb hl => HOTH.out b (by omega)

theorem behav_c (t : T) (S : Nat → Prop) (w : World) (v : Value) (hv : RT S w t v) (hb : bulkL [t] ≤ 137438953472) : Calls Tryd.prog 41 #[v] w (TellP behvE behvO w t) := by
  cases h : restL sBeh t with
  | none => exact behav_none t S w v hv hb h
  | some l =>
    match l, h with
    | [], h => exact behav_len t S w v hv hb [] h (by simp)
    | [x], h => exact behav_len t S w v hv hb [x] h (by simp)
    | x :: y :: r, h => exact behav_main t S w v hv hb x y r h
end Go.Proofs.YtedfepnekjjmnabDoor
