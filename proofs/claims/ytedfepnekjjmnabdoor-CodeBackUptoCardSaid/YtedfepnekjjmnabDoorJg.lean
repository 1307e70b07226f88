/-
  Contracts and plain laws, joined: From Samep. Conditions stand in each.
-/
import Derived.Test.YtedfepnekjjmnabDoorBehav
import Derived.Test.YtedfepnekjjmnabDoorForm
import Derived.Test.YtedfepnekjjmnabDoorRCheck
import Derived.Test.YtedfepnekjjmnabDoorRTo
/-
  code.From: the program that a term tells. No condition but a bound.
-/
namespace Go.Proofs.YtedfepnekjjmnabDoor
open Go.RowKit
set_option linter.unusedSimpArgs false
set_option linter.unusedVariables false
set_option maxRecDepth 100000

/-- What From answers, and where. -/
def FromPost (w : World) (t : T) (e : Ending) (w' : World) : Prop :=
  ∃ a cap, e = .returned (.tuple #[.slice a (fromA t).1.length cap, .int .i64 (fromA t).2]) ∧ Below w.heap.size w w' ∧ RX behvE (fun b => w.heap.size ≤ b) (fun b => w.heap.size ≤ b) w' (fromA t).1 (.slice a (fromA t).1.length cap)
theorem FromPost.no {w w' : World} {t : T} {e : Ending} {m : Int} (h : fromA t = ([], m)) (he : e = .returned (.tuple #[.slice none 0 0, .int .i64 m])) (hB : Below w.heap.size w w') : FromPost w t e w' :=
  ⟨none, 0, by rw [h]; exact he, hB, by rw [h]; exact RX.nil _ _ _⟩
theorem fromA_bad {t : T} (h : checkE t ≠ 0) : fromA t = ([], checkE t) := by rw [fromA, if_neg h]
theorem fromA_none {t : T} (h : checkE t = 0) (h' : fromO t = none) : fromA t = ([], 5) := by rw [fromA, if_pos h, h']
theorem fromA_some {t : T} {l : List Behv} (h : checkE t = 0) (h' : fromO t = some l) : fromA t = (l, 0) := by rw [fromA, if_pos h, h']
theorem fromO_rest (t : T) : fromO t = if (restL sCode t).isSome && decide (0 < ((restL sCode t).getD []).length) then mapO behvO ((restL sCode t).getD []) else none := by
  unfold fromO
  cases restL sCode t with
  | none => rfl
  | some l => cases l <;> rfl
set_option maxHeartbeats 4000000 in
theorem from_c (t : T) (S : Nat → Prop) (w : World) (v : Value) (hv : RT S w t v) (hb : bulkL [t] ≤ 137438953472) : Calls Tryd.prog 19 #[v] w (FromPost w t) := by
  obtain ⟨a, cap, rfl, hc, hr⟩ := hv
  have HV : Hid (RT S w t _) := Lib.hid ⟨a, cap, rfl, hc, hr⟩
  clear hr hc
  have HV0 : Hid (RT (fun b => b < w.heap.size) (w.alloc (.cells #[.int .i64 t.kind, .int .i64 t.n, .string t.name, .slice a t.args.length cap] 24)) t (.agg #[.int .i64 t.kind, .int .i64 t.n, .string t.name, .slice a t.args.length cap])) := Lib.hid ((HV.out.to (S' := fun b => b < w.heap.size) (fun _ _ h => h) fun _ _ _ => rfl).alloc _)
  have HB0 := Lib.hid (below_alloc w (.cells #[.int .i64 t.kind, .int .i64 t.n, .string t.name, .slice a t.args.length cap] 24))
  have hbx := Box.new w (.int .i64 t.kind) (.int .i64 t.n) (.string t.name) (.slice a t.args.length cap) 24
  have HBX := Lib.hid hbx
  clear hbx HV
  go_enter Tryd.func19, Tryd.ntmps19
  go_wp2_with fail
  refine (check_c t _ _ _ HV0.out (by omega)).mono ?_
  rintro e W1 ⟨rfl, hB⟩
  have hs1 := hB.size
  simp only [World.size_alloc] at hs1
  have HB1 := Lib.hid (below_step HB0.out (by simp) hB)
  obtain ⟨x0, x1, x2, x3⟩ := HBX.out.step hB
  have HV1 := Lib.hid (HV0.out.below hB)
  clear hB
  by_cases hck : checkE t ≠ 0
  · have hckb : (checkE t != 0) = true := by simpa using hck
    have HA := Lib.hid (fromA_bad hck)
    clear hck
    go_wp2_with fail
    refine bodyPost_ret (v := .tuple #[.slice none 0 0, .int .i64 (checkE t)]) (by simp [results, Tryd.results19, go_sem]) rfl (FromPost.no HA.out rfl HB1.out)
  have hck : checkE t = 0 := Decidable.of_not_not hck
  have hckb : (checkE t != 0) = false := by simp [hck]
  have HCK := Lib.hid hck
  clear hck
  go_wp2_with fail
  refine (crest_c t sCode _ _ _ HV1.out (by omega)).mono ?_
  rintro e W2 ⟨r0, rc0, rfl, hB, hr⟩
  have hs2 := hB.size
  have HB2 : Hid (Below w.heap.size w W2) := Lib.hid (below_step HB1.out (by omega) hB)
  have HF0 := Lib.hid (fromO_rest t)
  have hbl : bulkL ((restL sCode t).getD []) ≤ bulkL [t] := by
    cases e : restL sCode t with
    | none => simp [bulkL]
    | some l => have := (restL_some e).1; simp; omega
  generalize hL : (restL sCode t).getD [] = L at *
  obtain ⟨fl, hfl⟩ : ∃ fl : Bool, fl = (restL sCode t).isSome := ⟨_, rfl⟩
  rw [← hfl] at HF0
  rw [← hfl]
  have HFL : Hid (fl = false → L = []) := Lib.hid (fun h => by rw [h] at hfl; cases e : restL sCode t with | none => rw [e] at hL; exact hL.symm | some l => rw [e] at hfl; cases hfl)
  clear hL hfl
  have HL := Lib.hid hr
  clear hB hr x0 x1 x2 x3
  have hll := length_le_bulk L
  go_wp2_with fail
  go_loopw [6, 7, 24] (fun s6 s7 i wr => ∃ (k : Nat) (bs : List Behv) (q : Bool), k ≤ L.length ∧ i = .int .i64 k ∧ s6 = .bool q ∧ q = (fl && (mapO behvO (L.take k)).isSome) ∧ (∀ r', mapO behvO (L.take k) = some r' → r' = bs) ∧ bs.length = k ∧ OwnXG behvE behvF.e (fun b => W2.heap.size ≤ b) W2.heap.size wr s7 bs ∧ Below W2.heap.size W2 wr) (fun _ _ i _ => L.length - (intOf i).toNat)
  case atStart => exact ⟨0, [], fl, Nat.zero_le _, rfl, rfl, by simp [mapO], fun r' h => by simpa [mapO] using h.symm, rfl, OwnXG.nil _ _ _ _, Below.refl _ _⟩
  case round =>
    obtain ⟨k, bs, q, hkl, rfl, rfl, hq, hm, hcl, hO, hK⟩ := hrel
    have hsz := hK.size
    have HQ := Lib.hid hq
    have HM := Lib.hid hm
    have HO := Lib.hid hO
    have HK := Lib.hid hK
    have HCL := Lib.hid hcl
    have HBr : Hid (Below w.heap.size w wr) := Lib.hid (HB2.out.trans (hK.mono (by omega)))
    clear hq hm hO hK hcl
    by_cases hlt : k < L.length
    · obtain ⟨bq, oq, rfl⟩ := HL.out.rts.addr (by omega)
      obtain ⟨a', cap', hSb, d0, d1, d2, d3, hE⟩ := (HL.out.rts.below HK.out).elem k hlt
      have hbk := bulk_at hlt
      have hE := Lib.hid hE
      go_wp2_with fail
      refine (behav_c L[k] _ _ _ (hE.out.alloc _) (by omega)).mono ?_
      rintro e w1 ⟨b, cells, he, hB, ⟨b1, q1, rfl, hr1⟩, hd⟩
      have hs1 := hB.size
      simp only [World.size_alloc] at hs1
      have HOt := Lib.hid ((HO.out.below (below_alloc wr (.cells #[.int .i64 L[k].kind, .int .i64 L[k].n, .string L[k].name, .slice a' L[k].args.length cap'] 24))).below hB)
      have HKt : Hid (Below W2.heap.size W2 w1) := Lib.hid (below_step (HK.out.alloc (by omega) _) (by simp; omega) hB)
      clear d0 d1 d2 d3
      have HS1 : Hid (∀ r', mapO behvO (L.take (k + 1)) = some r' → r' = bs ++ [b]) := Lib.hid (mapO_snoc_eq _ hlt HM.out hd)
      have HC : Hid (behvC (fun b => wr.heap.size + 1 ≤ b) (w1.alloc (.cells #[.string b.name, .slice b1 b.clauses.length q1] 62)) b [.string b.name, .slice b1 b.clauses.length q1]) := Lib.hid ⟨b1, q1, rfl, (hr1.mono (fun b hb => by simpa using hb) (fun b hb => by simpa using hb)).below (below_alloc _ _)⟩
      obtain ⟨z, hz⟩ : ∃ z, z = (behvO L[k]).isSome := ⟨_, rfl⟩
      rw [← hz] at he
      have HQ1 : Hid ((q && z) = (fl && (mapO behvO (L.take (k + 1))).isSome)) := Lib.hid (by rw [mapO_snoc_some _ hlt, hz, HQ.out, Bool.and_assoc])
      have HOB := Lib.hid HO.out.block
      have hcn : bs.length ≤ k := Nat.le_of_eq HCL.out
      subst he
      clear hz hd hr1 hB
      cases q
      all_goals (
        go_wp2_with (at_builtin; refine append_growX behvF _ _ rfl rfl rfl rfl (by simp) (HOt.out.below (below_alloc _ _)) HC.out (fun b hb hl => ⟨by omega, fun he => by have := HOB.out b he; omega⟩) rfl (by omega) (by simp; omega) ?_; intro gg cg w3 hO3 hB3 hG3 hD3; have HO3 := Lib.hid hO3; have HB3 := Lib.hid hB3; clear hO3 hB3 hG3 hD3)
        go_roundw
        case rel =>
          exact ⟨k + 1, bs ++ [b], _, hlt, by go_num, rfl, by simpa using HQ1.out, HS1.out, by simp [HCL.out], HO3.out, (HKt.out.alloc (by omega) _).trans HB3.out⟩
        case measure => simp [intOf]; omega)
    · have hkk : k = L.length := by omega
      subst hkk
      obtain ⟨ar, capr, rfl, hcr⟩ := HO.out.form
      have htk : L.take L.length = L := List.take_of_length_le (Nat.le_refl _)
      clear hcr
      cases q
      · have HA := Lib.hid (fromA_none HCK.out (by
          rw [HF0.out]
          have h1 := HQ.out
          rw [htk] at h1
          cases fl
          · rfl
          · cases e : mapO behvO L with
            | none => simp
            | some r1 => rw [e] at h1; cases h1))
        clear htk
        go_wp2_with fail
        refine bodyPost_ret (v := .tuple #[.slice none 0 0, .int .i64 5]) (by simp [results, Tryd.results19, go_sem]) rfl (FromPost.no HA.out rfl HBr.out)
      · have hsome : fl = true ∧ mapO behvO L = some bs := by
          have h1 := HQ.out
          rw [htk] at h1
          cases fl
          · cases h1
          · cases e : mapO behvO L with
            | none => rw [e] at h1; cases h1
            | some r1 => have := HM.out r1 (by rw [htk]; exact e); subst this; exact ⟨rfl, rfl⟩
        by_cases h0 : bs.length = 0
        · have HA := Lib.hid (fromA_none HCK.out (by rw [HF0.out, if_neg]; rw [HCL.out] at h0; simp [h0]))
          have hb0 : ((bs.length : Int) == 0) = true := by simp [h0]
          clear htk h0 hsome
          go_wp2_with fail
          refine bodyPost_ret (v := .tuple #[.slice none 0 0, .int .i64 5]) (by simp [results, Tryd.results19, go_sem]) rfl (FromPost.no HA.out rfl HBr.out)
        · have HA := Lib.hid (fromA_some HCK.out (by rw [HF0.out, if_pos]; exact hsome.2; rw [HCL.out] at h0; rw [hsome.1]; simp; omega))
          have hb0 : ((bs.length : Int) == 0) = false := by rw [beq_eq_false_iff_ne]; omega
          clear htk h0 hsome
          go_wp2_with fail
          refine bodyPost_ret (v := .tuple #[.slice ar bs.length capr, .int .i64 0]) (by simp [results, Tryd.results19, go_sem]) rfl ⟨ar, capr, by rw [HA.out], HBr.out, ?_⟩
          rw [HA.out]
          exact (HO.out.rx (fun b hb => hb)).mono (fun b hb => by omega) (fun b hb => by omega)
end Go.Proofs.YtedfepnekjjmnabDoor

/-
  clerkref.SamePrograms of a program and the same program: true. No condition but a bound.
-/
namespace Go.Proofs.YtedfepnekjjmnabDoor
open Go.RowKit
set_option linter.unusedSimpArgs false
set_option linter.unusedVariables false
set_option maxRecDepth 100000

theorem RT.withbulk {S : Nat → Prop} {w : World} {t : T} {v : Value} (h : RT S w t v) : RT (fun _ => True) w t v := h.mono fun _ _ => trivial
theorem toA_bulk (l : List Behv) : bulkL [(toA l).1] ≤ 8 + 32 * behvsB l := by
  have h1 := progT_bulk l
  have h2 : bulkL [zeroT] = 1 := by simp [zeroT, bulkL_cons, bulkL, ByteArray.size]
  unfold toA
  split
  · split <;> simp only <;> omega
  · simp only; omega
theorem sameT_rfl (x : T) : sameT x x = true := (sameT_iff x x).2 rfl
set_option maxHeartbeats 4000000 in
theorem samep_c (l : List Behv) (a1 : Option Addr) (p1 : Nat) (a2 : Option Addr) (p2 : Nat) (S : Nat → Prop) (w : World) (h1 : RX behvE S S w l (.slice a1 l.length p1)) (h2 : RX behvE S S w l (.slice a2 l.length p2)) (hS : ∀ x, S x → x < w.heap.size) (hb : behvsB l ≤ 8589934592) :
    Calls Tryd.prog 20 #[.slice a1 l.length p1, .slice a2 l.length p2] w fun e w' => e = .returned (.bool true) ∧ Below w.heap.size w w' := by
  have hbt := toA_bulk l
  have H1 := Lib.hid h1
  have H2 := Lib.hid h2
  have HS := Lib.hid hS
  clear h1 h2 hS
  go_enter Tryd.func20, Tryd.ntmps20
  go_wp2_with fail
  refine (rto_c l a1 p1 S _ H1.out HS.out hb).mono ?_
  rintro e w1 ⟨x1, c1, he, hB, hr⟩
  obtain ⟨x, hx⟩ : ∃ x, x = (toA l).1 := ⟨_, rfl⟩
  obtain ⟨n, hn⟩ : ∃ n, n = (toA l).2 := ⟨_, rfl⟩
  rw [← hx, ← hn] at he
  rw [← hx] at hr hbt
  subst he
  have hs1 := hB.size
  obtain ⟨W1, hW1⟩ : ∃ W : World, W = w1.alloc (.cells #[.int .i64 x.kind, .int .i64 x.n, .string x.name, .slice x1 x.args.length c1] 24) := ⟨_, rfl⟩
  obtain ⟨g1, hg1⟩ : ∃ g, g = w1.heap.size := ⟨_, rfl⟩
  have HG1 : Hid (Blk W1 g1 [.int .i64 x.kind, .int .i64 x.n, .string x.name, .slice x1 x.args.length c1]) := Lib.hid (by rw [hW1]; exact Blk.new _ _ _ _ hg1)
  have HB1 : Hid (Below w.heap.size w W1) := Lib.hid (by rw [hW1]; exact hB.alloc (by omega) _)
  have HR1 : Hid (RT (fun _ => True) W1 x _) := Lib.hid (by rw [hW1]; exact (hr.alloc _).withbulk)
  have hsW1 : w1.heap.size + 1 ≤ W1.heap.size := by rw [hW1]; simp
  have HX := Lib.hid hx
  have HN := Lib.hid hn
  have hg1w : g1 < W1.heap.size := HG1.out.lt
  clear hB hr hx hn
  go_wp2_with fail
  rw [← hW1]
  try rw [← hg1]
  clear hW1 hg1
  refine (rto_c l a2 p2 S _ (H2.out.below HB1.out) (fun y hy => by have := HS.out y hy; omega) hb).mono ?_
  rintro e w2 ⟨x2, c2, he, hB, hr⟩
  rw [← HX.out, ← HN.out] at he
  rw [← HX.out] at hr
  subst he
  have hs2 := hB.size
  have HB2 : Hid (Below w.heap.size w w2) := Lib.hid (below_step HB1.out (by omega) hB)
  have HR12 := Lib.hid ((HR1.out.below hB).alloc (.cells #[.int .i64 x.kind, .int .i64 x.n, .string x.name, .slice x2 x.args.length c2] 24))
  have HR22 := Lib.hid ((hr.withbulk).alloc (.cells #[.int .i64 x.kind, .int .i64 x.n, .string x.name, .slice x2 x.args.length c2] 24))
  have HG2 := Lib.hid ((HG1.out.step hB).alloc (.cells #[.int .i64 x.kind, .int .i64 x.n, .string x.name, .slice x2 x.args.length c2] 24))
  have y0 := (HG1.out.step hB).cell 0 _ rfl
  have y1 := (HG1.out.step hB).cell 1 _ rfl
  have y2 := (HG1.out.step hB).cell 2 _ rfl
  have y3 := (HG1.out.step hB).cell 3 _ rfl
  have hgl : g1 < w2.heap.size := by omega
  have HBx := Lib.hid (HB2.out.alloc (by omega) (.cells #[.int .i64 x.kind, .int .i64 x.n, .string x.name, .slice x2 x.args.length c2] 24))
  have hnn : (n == n) = true := by simp
  have hne : g1 ≠ w2.heap.size := by omega
  clear hB hr
  go_wp2_with fail
  refine (same_c x x (fun _ => True) _ _ _ HR12.out HR22.out (by omega) (by omega)).mono ?_
  rw [sameT_rfl]
  rintro e w3 ⟨rfl, hB⟩
  have hs3 := hB.size
  simp only [World.size_alloc] at hs3
  have HB3 : Hid (Below w.heap.size w w3) := Lib.hid (below_step HBx.out (by simp; omega) hB)
  clear hB y0 y1 y2 y3
  go_wp2_with fail
  go_ret
  exact ⟨by simp, HB3.out⟩
end Go.Proofs.YtedfepnekjjmnabDoor
