/-
  Contracts and plain laws, joined: Rfrom Samep. Conditions stand in each.
-/
import Derived.Test.YtedfepnekjjmnaaRbeh
import Derived.Test.YtedfepnekjjmnaaJh
import Derived.Test.YtedfepnekjjmnaaRCheck
import Derived.Test.YtedfepnekjjmnaaRTo
/-
  clerkref.From: the program that a term tells. No condition but a bound.
-/
namespace Go.Proofs.Ytedfepnekjjmnaa
open Go.RowKit
set_option linter.unusedSimpArgs false
set_option linter.unusedVariables false
set_option maxRecDepth 100000

/-- What From answers. -/
def FromPostR (w : World) (t : T) (e : Ending) (w' : World) : Prop :=
  ∃ a cap, e = .returned (.tuple #[.slice a (fromA t).1.length cap, .int .i64 (fromA t).2]) ∧ Below w.heap.size w w' ∧ RX behvE (fun _ => True) (fun _ => True) w' (fromA t).1 (.slice a (fromA t).1.length cap)
theorem FromPostR.no {w w' : World} {t : T} {e : Ending} {m : Int} (h : fromA t = ([], m)) (he : e = .returned (.tuple #[.slice none 0 0, .int .i64 m])) (hB : Below w.heap.size w w') : FromPostR w t e w' :=
  ⟨none, 0, by rw [h]; exact he, hB, by rw [h]; exact RX.nil _ _ _⟩
set_option maxHeartbeats 4000000 in
theorem rfrom_bad (t : T) (S : Nat → Prop) (w : World) (v : Value) (hv : RT S w t v) (hb : bulkL [t] ≤ 1048576) (hck : checkE t ≠ 0) : Calls Try.prog 35 #[v] w (FromPostR w t) := by
  obtain ⟨a, cap, rfl, hc, hr⟩ := hv
  have HV : Hid (RT S w t _) := Lib.hid ⟨a, cap, rfl, hc, hr⟩
  clear hr hc
  have hba := bulk_args t
  have hla := length_le_bulk t.args
  have HV0 : Hid (RT (fun b => b < w.heap.size) (w.alloc (.cells #[.int .i64 t.kind, .int .i64 t.n, .string t.name, .slice a t.args.length cap] 29)) t (.agg #[.int .i64 t.kind, .int .i64 t.n, .string t.name, .slice a t.args.length cap])) := Lib.hid ((HV.out.to (S' := fun b => b < w.heap.size) (fun _ _ h => h) fun _ _ _ => rfl).alloc _)
  have HB0 := Lib.hid (below_alloc w (.cells #[.int .i64 t.kind, .int .i64 t.n, .string t.name, .slice a t.args.length cap] 29))
  have HBX := Lib.hid (Box.new w (.int .i64 t.kind) (.int .i64 t.n) (.string t.name) (.slice a t.args.length cap) 29)
  have hH := Lib.hid hck
  clear HV hck
  go_enter Try.func35, Try.ntmps35
  go_wp2_with fail
  refine (rcheck_c t _ _ _ HV0.out (fun b hb => by simp; omega) (by omega)).mono ?_
  rintro e W1 ⟨rfl, hB⟩
  have hs1 := hB.size
  simp only [World.size_alloc] at hs1
  have HB1 := Lib.hid (below_step HB0.out (by simp) hB)
  obtain ⟨x0, x1, x2, x3⟩ := HBX.out.step hB
  have HV1 := Lib.hid (HV0.out.below hB)
  clear hB
  have hckb : (checkE t != 0) = true := by simpa using hH.out
  have HA := Lib.hid (fromA_bad hH.out)
  go_wp2_with fail
  refine bodyPost_ret (v := .tuple #[.slice none 0 0, .int .i64 (checkE t)]) (by simp [results, Try.results35, go_sem]) rfl (FromPostR.no HA.out rfl HB1.out)

set_option maxHeartbeats 4000000 in
theorem rfrom_short (t : T) (S : Nat → Prop) (w : World) (v : Value) (hv : RT S w t v) (hb : bulkL [t] ≤ 1048576) (hck : checkE t = 0) (h2 : t.args.length < 2) : Calls Try.prog 35 #[v] w (FromPostR w t) := by
  obtain ⟨a, cap, rfl, hc, hr⟩ := hv
  have HV : Hid (RT S w t _) := Lib.hid ⟨a, cap, rfl, hc, hr⟩
  clear hr hc
  have hba := bulk_args t
  have hla := length_le_bulk t.args
  have HV0 : Hid (RT (fun b => b < w.heap.size) (w.alloc (.cells #[.int .i64 t.kind, .int .i64 t.n, .string t.name, .slice a t.args.length cap] 29)) t (.agg #[.int .i64 t.kind, .int .i64 t.n, .string t.name, .slice a t.args.length cap])) := Lib.hid ((HV.out.to (S' := fun b => b < w.heap.size) (fun _ _ h => h) fun _ _ _ => rfl).alloc _)
  have HB0 := Lib.hid (below_alloc w (.cells #[.int .i64 t.kind, .int .i64 t.n, .string t.name, .slice a t.args.length cap] 29))
  have HBX := Lib.hid (Box.new w (.int .i64 t.kind) (.int .i64 t.n) (.string t.name) (.slice a t.args.length cap) 29)
  have hH := Lib.hid hck
  clear HV hck
  go_enter Try.func35, Try.ntmps35
  go_wp2_with fail
  refine (rcheck_c t _ _ _ HV0.out (fun b hb => by simp; omega) (by omega)).mono ?_
  rintro e W1 ⟨rfl, hB⟩
  have hs1 := hB.size
  simp only [World.size_alloc] at hs1
  have HB1 := Lib.hid (below_step HB0.out (by simp) hB)
  obtain ⟨x0, x1, x2, x3⟩ := HBX.out.step hB
  have HV1 := Lib.hid (HV0.out.below hB)
  clear hB
  have hckb : (checkE t != 0) = false := by simpa using hH.out
  have HA := Lib.hid (fromA_none hH.out (from_short t h2))
  have h2' : (t.args.length : Int) < 2 := by omega
  clear h2
  go_wp2_with fail
  refine bodyPost_ret (v := .tuple #[.slice none 0 0, .int .i64 5]) (by simp [results, Try.results35, go_sem]) rfl (FromPostR.no HA.out rfl HB1.out)

set_option maxHeartbeats 4000000 in
theorem rfrom_not (t : T) (S : Nat → Prop) (w : World) (v : Value) (hv : RT S w t v) (hb : bulkL [t] ≤ 1048576) (hck : checkE t = 0) (h2 : 2 ≤ t.args.length) (hi : isT t sCode ((t.args.length : Int) - 1) = false) (hn : fromO t = none) : Calls Try.prog 35 #[v] w (FromPostR w t) := by
  obtain ⟨a, cap, rfl, hc, hr⟩ := hv
  have HV : Hid (RT S w t _) := Lib.hid ⟨a, cap, rfl, hc, hr⟩
  clear hr hc
  have hba := bulk_args t
  have hla := length_le_bulk t.args
  have HV0 : Hid (RT (fun b => b < w.heap.size) (w.alloc (.cells #[.int .i64 t.kind, .int .i64 t.n, .string t.name, .slice a t.args.length cap] 29)) t (.agg #[.int .i64 t.kind, .int .i64 t.n, .string t.name, .slice a t.args.length cap])) := Lib.hid ((HV.out.to (S' := fun b => b < w.heap.size) (fun _ _ h => h) fun _ _ _ => rfl).alloc _)
  have HB0 := Lib.hid (below_alloc w (.cells #[.int .i64 t.kind, .int .i64 t.n, .string t.name, .slice a t.args.length cap] 29))
  have HBX := Lib.hid (Box.new w (.int .i64 t.kind) (.int .i64 t.n) (.string t.name) (.slice a t.args.length cap) 29)
  have hH := Lib.hid hck
  have HIS := Lib.hid hi
  have HNO := Lib.hid hn
  clear HV hck hi hn
  go_enter Try.func35, Try.ntmps35
  go_wp2_with fail
  refine (rcheck_c t _ _ _ HV0.out (fun b hb => by simp; omega) (by omega)).mono ?_
  rintro e W1 ⟨rfl, hB⟩
  have hs1 := hB.size
  simp only [World.size_alloc] at hs1
  have HB1 := Lib.hid (below_step HB0.out (by simp) hB)
  obtain ⟨x0, x1, x2, x3⟩ := HBX.out.step hB
  have HV1 := Lib.hid (HV0.out.below hB)
  clear hB
  have hckb : (checkE t != 0) = false := by simpa using hH.out
  have HA := Lib.hid (fromA_none hH.out HNO.out)
  have h2' : ¬ (t.args.length : Int) < 2 := by omega
  go_wp2_with fail
  refine (is_Is t sCode _ _ _ _ HV1.out (by omega) (by omega) (by omega)).mono ?_
  rintro e W2 ⟨he, hB⟩
  rw [HIS.out] at he
  subst he
  have hs2 := hB.size
  have HB2 : Hid (Below w.heap.size w W2) := Lib.hid (below_step HB1.out (by omega) hB)
  have HV2 := Lib.hid (HV1.out.below hB)
  obtain ⟨x0, x1, x2, x3⟩ := (show Box W1 w.heap.size _ _ _ _ from ⟨x0, x1, x2, x3⟩).step hB
  have HX2 := Lib.hid (show Box W2 w.heap.size _ _ _ _ from ⟨x0, x1, x2, x3⟩)
  clear hB
  go_wp2_with fail
  refine bodyPost_ret (v := .tuple #[.slice none 0 0, .int .i64 5]) (by simp [results, Try.results35, go_sem]) rfl (FromPostR.no HA.out rfl HB2.out)

set_option maxHeartbeats 4000000 in
theorem rfrom_main (t : T) (S : Nat → Prop) (w : World) (v : Value) (hv : RT S w t v) (hb : bulkL [t] ≤ 1048576) (hd y : T) (r : List T) (hck : checkE t = 0) (h2 : 2 ≤ t.args.length) (ha : t.args = hd :: y :: r) (hi : isT t sCode ((t.args.length : Int) - 1) = true) (hn : fromO t = mapO behvO (y :: r)) : Calls Try.prog 35 #[v] w (FromPostR w t) := by
  obtain ⟨a, cap, rfl, hc, hr⟩ := hv
  have HV : Hid (RT S w t _) := Lib.hid ⟨a, cap, rfl, hc, hr⟩
  clear hr hc
  have hba := bulk_args t
  have hla := length_le_bulk t.args
  have HV0 : Hid (RT (fun b => b < w.heap.size) (w.alloc (.cells #[.int .i64 t.kind, .int .i64 t.n, .string t.name, .slice a t.args.length cap] 29)) t (.agg #[.int .i64 t.kind, .int .i64 t.n, .string t.name, .slice a t.args.length cap])) := Lib.hid ((HV.out.to (S' := fun b => b < w.heap.size) (fun _ _ h => h) fun _ _ _ => rfl).alloc _)
  have HB0 := Lib.hid (below_alloc w (.cells #[.int .i64 t.kind, .int .i64 t.n, .string t.name, .slice a t.args.length cap] 29))
  have HBX := Lib.hid (Box.new w (.int .i64 t.kind) (.int .i64 t.n) (.string t.name) (.slice a t.args.length cap) 29)
  have hH := Lib.hid hck
  have HIS := Lib.hid hi
  have HNO := Lib.hid hn
  have HAR := Lib.hid ha
  clear HV hck hi hn ha
  go_enter Try.func35, Try.ntmps35
  go_wp2_with fail
  refine (rcheck_c t _ _ _ HV0.out (fun b hb => by simp; omega) (by omega)).mono ?_
  rintro e W1 ⟨rfl, hB⟩
  have hs1 := hB.size
  simp only [World.size_alloc] at hs1
  have HB1 := Lib.hid (below_step HB0.out (by simp) hB)
  obtain ⟨x0, x1, x2, x3⟩ := HBX.out.step hB
  have HV1 := Lib.hid (HV0.out.below hB)
  clear hB
  have hckb : (checkE t != 0) = false := by simpa using hH.out
  have h2' : ¬ (t.args.length : Int) < 2 := by omega
  go_wp2_with fail
  refine (is_Is t sCode _ _ _ _ HV1.out (by omega) (by omega) (by omega)).mono ?_
  rintro e W2 ⟨he, hB⟩
  rw [HIS.out] at he
  subst he
  have hs2 := hB.size
  have HB2 : Hid (Below w.heap.size w W2) := Lib.hid (below_step HB1.out (by omega) hB)
  have HV2 := Lib.hid (HV1.out.below hB)
  obtain ⟨x0, x1, x2, x3⟩ := (show Box W1 w.heap.size _ _ _ _ from ⟨x0, x1, x2, x3⟩).step hB
  have HX2 := Lib.hid (show Box W2 w.heap.size _ _ _ _ from ⟨x0, x1, x2, x3⟩)
  clear hB
  obtain ⟨hca, hra⟩ := HV2.out.rts
  rw [HAR.out] at hra
  obtain ⟨ba, oa, rfl⟩ := hra.addr (by simp)
  have HRA := Lib.hid hra
  have hlen := Lib.hid (show t.args.length = r.length + 1 + 1 by rw [HAR.out]; rfl)
  have hbl : bulkL (hd :: y :: r) = bulkL [hd] + bulkL (y :: r) := bulkL_append [hd] (y :: r)
  rw [← HAR.out] at hbl
  have hlL := length_le_bulk (y :: r)
  clear hra hca
  obtain ⟨L, hL⟩ : ∃ L, L = y :: r := ⟨_, rfl⟩
  have hLl : L.length = r.length + 1 := by rw [hL]; rfl
  rw [← hL] at HRA hbl hlL
  have HFO : Hid (fromO t = mapO behvO L) := Lib.hid (by rw [hL]; exact HNO.out)
  have hpos : 0 < L.length := by omega
  clear hL x0 x1 x2 x3
  go_upto_region 8 with fail
  go_wp2_with fail
  go_loopw [6, 7] (fun s6 i wr => ∃ (k : Nat) (bs : List Behv), k ≤ L.length ∧ i = .int .i64 ((k : Int) + 1) ∧ mapO behvO (L.take k) = some bs ∧ OwnXG behvE behvF.e (fun b => b < w.heap.size ∨ W2.heap.size ≤ b) W2.heap.size wr s6 bs ∧ Below W2.heap.size W2 wr) (fun _ i _ => L.length + 1 - (intOf i).toNat)
  case atStart => exact ⟨0, [], Nat.zero_le _, by go_num, rfl, OwnXG.nil _ _ _ _, Below.refl _ _⟩
  case round =>
    obtain ⟨k, bs, hkl, rfl, hm, hO, hK⟩ := hrel
    have hsz := hK.size
    have hml := mapO_length hm
    have hnl : bs.length ≤ k := by rw [hml]; simp; omega
    obtain ⟨ar, capr, rfl, hcr⟩ := hO.form
    have HM := Lib.hid hm
    have HO := Lib.hid hO
    have HK := Lib.hid hK
    have HBr : Hid (Below w.heap.size w wr) := Lib.hid (HB2.out.trans (hK.mono (by omega)))
    obtain ⟨x0, x1, x2, x3⟩ := HX2.out.step hK
    clear hm hO hK hml hcr
    by_cases hlt : k < L.length
    · obtain ⟨u, hu⟩ : ∃ u, u = L.getD k zeroT := ⟨_, rfl⟩
      have huk : L[k] = u := by rw [hu, List.getD_eq_getElem?_getD, List.getElem?_eq_getElem hlt]; rfl
      obtain ⟨au, pu, hsu, u0, u1, u2, u3, hE⟩ := (HRA.out.below HK.out).elem (k + 1) (by simp; omega)
      simp only [List.getElem_cons_succ, huk] at u0 u1 u2 u3 hE
      have hbk := bulk_at hlt
      rw [huk] at hbk
      have HE := Lib.hid hE
      have HUK := Lib.hid huk
      clear huk hu hE
      have hik : (k : Int) + 1 < t.args.length := by have := hlen.out; omega
      have hik0 : (0 : Int) ≤ (k : Int) + 1 := by omega
      go_wp2_with fail
      refine (rbeh_c u _ _ _ HE.out (fun b hb => by omega) (by omega)).mono ?_
      rintro e w1 ⟨b, cells, he, hB, ⟨b1, q1, rfl, hr1⟩, hd⟩
      have hs1 := hB.size
      have HBt : Hid (Below W2.heap.size W2 w1) := Lib.hid (below_step HK.out (by omega) hB)
      have HBw : Hid (Below w.heap.size w w1) := Lib.hid (below_step HBr.out (by omega) hB)
      have HO1 := Lib.hid (HO.out.below hB)
      rcases hod : behvO u with _ | bb
      · rw [hod] at he
        simp only [Option.isSome] at he
        subst he
        have HA := Lib.hid (fromA_none hH.out (show fromO t = none by rw [HFO.out]; exact mapO_bad hlt (by rw [HUK.out]; exact hod)))
        clear hod hd hr1 hB
        go_wp2_with fail
        refine bodyPost_ret (v := .tuple #[.slice none 0 0, .int .i64 5]) (by simp [results, Try.results35, go_sem]) rfl (FromPostR.no HA.out rfl (HBw.out.alloc (by omega) _))
      · obtain rfl := hd bb hod
        rw [hod] at he
        simp only [Option.isSome] at he
        subst he
        have HM2 : Hid (mapO behvO (L.take (k + 1)) = some (bs ++ [bb])) := Lib.hid (by rw [mapO_snoc _ hlt, HM.out, HUK.out, hod])
        have HC : Hid (behvC (fun b => b < w.heap.size ∨ wr.heap.size ≤ b) (w1.alloc (.cells #[.string bb.name, .slice b1 bb.clauses.length q1] 115)) bb [.string bb.name, .slice b1 bb.clauses.length q1]) := Lib.hid ⟨b1, q1, rfl, hr1.below (below_alloc _ _)⟩
        have HOB := Lib.hid HO.out.block
        have HOa := Lib.hid (HO1.out.below (below_alloc w1 (.cells #[.string bb.name, .slice b1 bb.clauses.length q1] 115)))
        clear hod hd hr1 hB
        go_wp2_with (at_builtin; refine append_growX (v := .slice ar bs.length capr) behvF _ _ rfl rfl (by rfl) rfl (by simp) HOa.out HC.out (fun b hb hl => ⟨by rcases hb with hb | hb; exact .inl hb; exact .inr (by omega), fun he => by have := HOB.out b he; rcases hb with hb | hb <;> omega⟩) rfl (by omega) (by simp; omega) ?_; intro gg cg w3 hO3 hB3 hG3 hD3; have HO3 := Lib.hid hO3; have HB3 := Lib.hid hB3; clear hO3 hB3 hG3 hD3)
        go_roundw
        case rel =>
          refine ⟨k + 1, bs ++ [bb], hlt, ?_, HM2.out, HO3.out, (HBt.out.alloc (by omega) _).trans HB3.out⟩
          show Value.int _ _ = Value.int _ _
          congr 1 <;> omega
        case measure => simp [intOf]; omega
    · have hkk : k = L.length := by omega
      subst hkk
      have hik : ¬ (L.length : Int) + 1 < t.args.length := by have := hlen.out; omega
      have HA : Hid (fromA t = (bs, 0)) := Lib.hid (fromA_some hH.out (by rw [HFO.out]; have := HM.out; rw [List.take_of_length_le (Nat.le_refl _)] at this; exact this))
      go_wp2_with fail
      refine bodyPost_ret (v := .tuple #[.slice ar bs.length capr, .int .i64 0]) (by simp [results, Try.results35, go_sem]) rfl ⟨ar, capr, by rw [HA.out], HBr.out, ?_⟩
      rw [HA.out]
      exact (HO.out.rx (fun b hb => .inr hb)).mono (fun _ _ => trivial) (fun _ _ => trivial)

theorem rfrom_c (t : T) (S : Nat → Prop) (w : World) (v : Value) (hv : RT S w t v) (hb : bulkL [t] ≤ 1048576) : Calls Try.prog 35 #[v] w (FromPostR w t) := by
  by_cases hck : checkE t = 0
  · by_cases h2 : t.args.length < 2
    · exact rfrom_short t S w v hv hb hck h2
    · rcases from_cases t (by omega) with ⟨hi, hn⟩ | ⟨hd, y, r, ha, hi, hn⟩
      · exact rfrom_not t S w v hv hb hck (by omega) hi hn
      · exact rfrom_main t S w v hv hb hd y r hck (by omega) ha hi hn
  · exact rfrom_bad t S w v hv hb hck
end Go.Proofs.Ytedfepnekjjmnaa

/-
  clerkref.SamePrograms of a program and the same program: true. No condition but a bound.
-/
namespace Go.Proofs.Ytedfepnekjjmnaa
open Go.RowKit
set_option linter.unusedSimpArgs false
set_option linter.unusedVariables false
set_option maxRecDepth 100000

theorem RT.withbulk {S : Nat → Prop} {w : World} {t : T} {v : Value} (h : RT S w t v) : RT (fun _ => True) w t v := h.mono fun _ _ => trivial
theorem toA_bulk (l : List Behv) : bulkL [(toA l).1] ≤ 8 + 32 * behvsB l := by
  have h1 := progT_bulk l
  have h2 : bulkL [zeroT] = 1 := by simp [zeroT, bulkL_cons, bulkL, ByteArray.size]
  unfold toA
  split
  · split <;> simp only <;> omega
  · simp only; omega
theorem sameT_rfl (x : T) : sameT x x = true := (sameT_iff x x).2 rfl
set_option maxHeartbeats 4000000 in
theorem samep_c (l : List Behv) (a1 : Option Addr) (p1 : Nat) (a2 : Option Addr) (p2 : Nat) (S : Nat → Prop) (w : World) (h1 : RX behvE S S w l (.slice a1 l.length p1)) (h2 : RX behvE S S w l (.slice a2 l.length p2)) (hS : ∀ x, S x → x < w.heap.size) (hb : behvsB l ≤ 8589934592) :
    Calls Try.prog 38 #[.slice a1 l.length p1, .slice a2 l.length p2] w fun e w' => e = .returned (.bool true) ∧ Below w.heap.size w w' := by
  have hbt := toA_bulk l
  have H1 := Lib.hid h1
  have H2 := Lib.hid h2
  have HS := Lib.hid hS
  clear h1 h2 hS
  go_enter Try.func38, Try.ntmps38
  go_wp2_with fail
  refine (rto_c l a1 p1 S _ H1.out HS.out hb).mono ?_
  rintro e w1 ⟨x1, c1, he, hB, hr⟩
  obtain ⟨x, hx⟩ : ∃ x, x = (toA l).1 := ⟨_, rfl⟩
  obtain ⟨n, hn⟩ : ∃ n, n = (toA l).2 := ⟨_, rfl⟩
  rw [← hx, ← hn] at he
  rw [← hx] at hr hbt
  subst he
  have hs1 := hB.size
  obtain ⟨W1, hW1⟩ : ∃ W : World, W = w1.alloc (.cells #[.int .i64 x.kind, .int .i64 x.n, .string x.name, .slice x1 x.args.length c1] 29) := ⟨_, rfl⟩
  obtain ⟨g1, hg1⟩ : ∃ g, g = w1.heap.size := ⟨_, rfl⟩
  have HG1 : Hid (Blk W1 g1 [.int .i64 x.kind, .int .i64 x.n, .string x.name, .slice x1 x.args.length c1]) := Lib.hid (by rw [hW1]; exact Blk.new _ _ _ _ hg1)
  have HB1 : Hid (Below w.heap.size w W1) := Lib.hid (by rw [hW1]; exact hB.alloc (by omega) _)
  have HR1 : Hid (RT (fun _ => True) W1 x _) := Lib.hid (by rw [hW1]; exact (hr.alloc _).withbulk)
  have hsW1 : w1.heap.size + 1 ≤ W1.heap.size := by rw [hW1]; simp
  have HX := Lib.hid hx
  have HN := Lib.hid hn
  have hg1w : g1 < W1.heap.size := HG1.out.lt
  clear hB hr hx hn
  go_wp2_with fail
  rw [← hW1]
  try rw [← hg1]
  clear hW1 hg1
  refine (rto_c l a2 p2 S _ (H2.out.below HB1.out) (fun y hy => by have := HS.out y hy; omega) hb).mono ?_
  rintro e w2 ⟨x2, c2, he, hB, hr⟩
  rw [← HX.out, ← HN.out] at he
  rw [← HX.out] at hr
  subst he
  have hs2 := hB.size
  have HB2 : Hid (Below w.heap.size w w2) := Lib.hid (below_step HB1.out (by omega) hB)
  have HR12 := Lib.hid ((HR1.out.below hB).alloc (.cells #[.int .i64 x.kind, .int .i64 x.n, .string x.name, .slice x2 x.args.length c2] 29))
  have HR22 := Lib.hid ((hr.withbulk).alloc (.cells #[.int .i64 x.kind, .int .i64 x.n, .string x.name, .slice x2 x.args.length c2] 29))
  have HG2 := Lib.hid ((HG1.out.step hB).alloc (.cells #[.int .i64 x.kind, .int .i64 x.n, .string x.name, .slice x2 x.args.length c2] 29))
  have y0 := (HG1.out.step hB).cell 0 _ rfl
  have y1 := (HG1.out.step hB).cell 1 _ rfl
  have y2 := (HG1.out.step hB).cell 2 _ rfl
  have y3 := (HG1.out.step hB).cell 3 _ rfl
  have hgl : g1 < w2.heap.size := by omega
  have HBx := Lib.hid (HB2.out.alloc (by omega) (.cells #[.int .i64 x.kind, .int .i64 x.n, .string x.name, .slice x2 x.args.length c2] 29))
  have hnn : (n == n) = true := by simp
  have hne : g1 ≠ w2.heap.size := by omega
  clear hB hr
  go_wp2_with fail
  refine (same_c x x (fun _ => True) _ _ _ HR12.out HR22.out (by omega) (by omega)).mono ?_
  rw [sameT_rfl]
  rintro e w3 ⟨rfl, hB⟩
  have hs3 := hB.size
  simp only [World.size_alloc] at hs3
  have HB3 : Hid (Below w.heap.size w w3) := Lib.hid (below_step HBx.out (by simp; omega) hB)
  clear hB y0 y1 y2 y3
  go_wp2_with fail
  go_ret
  exact ⟨by simp, HB3.out⟩
end Go.Proofs.Ytedfepnekjjmnaa
