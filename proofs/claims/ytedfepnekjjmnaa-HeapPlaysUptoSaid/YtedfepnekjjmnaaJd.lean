/-
  Contracts and plain laws, joined: Fits4 Val Val5 ValPut ValT. Conditions stand in each.
-/
import Derived.Test.YtedfepnekjjmnaaFits
import Derived.Test.YtedfepnekjjmnaaRval
import Derived.Test.YtedfepnekjjmnaaJc
import Derived.Test.YtedfepnekjjmnaaJa
/-
  match.fits on tuples, and in all.
-/
namespace Go.Proofs.Ytedfepnekjjmnaa
open Go.RowKit
set_option linter.unusedSimpArgs false
set_option linter.unusedVariables false
section
variable {p t : T} {S : Nat → Prop} {base g cap : Nat} {w : World} {vp vt : Value} {bd : List T}
set_option maxHeartbeats 4000000 in
set_option maxRecDepth 100000 in
theorem fits_4 (hp : RT S w p vp) (ht : RT S w t vt) (ho : OwnG (fun b => base ≤ b) base w (.slice (some ⟨g, 0, none⟩) 4 cap) bd) (hbs : base ≤ w.heap.size) (hS : ∀ b, S b → b < base) (hbp : bulkL [p] ≤ 1099511627776) (hbt : bulkL [t] ≤ 1099511627776) (hk : p.kind = 4)
    (ih : ∀ (j : Nat) (h1 : j < p.args.length) (h2 : j < t.args.length) (W : World) (vp vt : Value), RT S W p.args[j] vp → RT S W t.args[j] vt → OwnG (fun b => base ≤ b) base W (.slice (some ⟨g, 0, none⟩) 4 cap) (fitL (p.args.take j) (t.args.take j) bd).2 → base ≤ W.heap.size →
      Calls Try.prog 71 #[vp, vt, .slice (some ⟨g, 0, none⟩) 4 cap] W (FPost base g cap W (fitT p.args[j] t.args[j] (fitL (p.args.take j) (t.args.take j) bd).2))) :
    Calls Try.prog 71 #[vp, vt, .slice (some ⟨g, 0, none⟩) 4 cap] w (FPost base g cap w (fitT p t bd)) := by
  obtain ⟨a, capp, rfl, hcap, hr⟩ := hp
  obtain ⟨a2, cap2, rfl, hcap2, hr2⟩ := ht
  have HP : Hid (RTs S w p.args a 0) := Lib.hid hr
  have HT : Hid (RTs S w t.args a2 0) := Lib.hid hr2
  clear hcap hr hcap2 hr2
  have hba := bulk_args p
  have hbb := bulk_args t
  have hla := length_le_bulk p.args
  have hlb := length_le_bulk t.args
  have IH := Lib.hid ih; clear ih
  have hg := ho.block g rfl
  have hg1 := hg.1
  have hg2 := hg.2
  have HO := Lib.hid ho; clear ho hg
  have h4 : (p.kind == 4) = true := by simp [hk]
  have h5 : (p.kind == 5) = false := by simp [hk]
  have h6 : (p.kind == 6) = false := by simp [hk]
  have h1 : w.heap.size < w.heap.size + 1 + 1 := by omega
  have HKB : Hid (∀ o1 o2, Keep (fun b => b = g) w ((w.alloc o1).alloc o2)) := Lib.hid fun o1 o2 => ((Keep.refl _ _).alloc _).alloc _
  by_cases hkt : t.kind = 4
  · have h7 : (t.kind != 4) = false := by simp [hkt]
    by_cases hl : p.args.length = t.args.length
    · have HF := Lib.hid (fitT_4a (b := bd) hk hkt hl)
      have HL := Lib.hid hl
      have hl1 : p.args.length ≤ t.args.length := by omega
      have hl2 : t.args.length ≤ p.args.length := by omega
      have hln : ((p.args.length : Int) != t.args.length) = false := by simp [hl]
      clear hk hkt hl
      go_enter Try.func71, Try.ntmps71
      go_wp2_with fail
      go_loopw [51] (fun i wr => ∃ k : Nat, k ≤ p.args.length ∧ i = .int .i64 k ∧ (fitL (p.args.take k) (t.args.take k) bd).1 = true ∧ OwnG (fun b => base ≤ b) base wr (.slice (some ⟨g, 0, none⟩) 4 cap) (fitL (p.args.take k) (t.args.take k) bd).2 ∧ Keep (fun b => b = g) w wr ∧ w.heap.size + 1 < wr.heap.size ∧
          wr.cell? ⟨w.heap.size, 3, none⟩ = some (.slice a p.args.length capp) ∧ wr.cell? ⟨w.heap.size + 1, 3, none⟩ = some (.slice a2 t.args.length cap2)) (fun i _ => p.args.length - (intOf i).toNat)
      case atStart => exact ⟨0, Nat.zero_le _, rfl, by rw [List.take_zero, fitL_nil], by rw [List.take_zero, fitL_nil]; exact (HO.out.alloc _).alloc _, HKB.out _ _, by simp, by go_simp, by go_simp⟩
      case round =>
        obtain ⟨k, hkx, rfl, hok, hown, hK, hsw, x3, y3⟩ := hrel
        have HOK := Lib.hid hok; clear hok
        have HOW := Lib.hid hown; clear hown
        have HK := Lib.hid hK
        have hs0 : w.heap.size < wr.heap.size := by omega
        clear hK
        by_cases hlt : k < p.args.length
        · obtain ⟨b, o, rfl⟩ := HP.out.addr (by omega)
          obtain ⟨b2, o2, rfl⟩ := HT.out.addr (by omega)
          have hlt2 : k < t.args.length := by omega
          have hSg : ∀ b, S b → ¬ b = g := fun b hb => by have := hS b hb; omega
          obtain ⟨a', cap', hSb, d0, d1, d2, d3, hE⟩ := (HP.out.keep HK.out hSg).elem k hlt
          obtain ⟨a2', cap2', hSb2, e0, e1, e2, e3, hE2⟩ := (HT.out.keep HK.out hSg).elem k hlt2
          have HSN := Lib.hid (fitL_snoc HOK.out hlt hlt2)
          have HFL := Lib.hid (fitL_fail HOK.out hlt hlt2)
          have hk0 : (0 : Int) ≤ (k : Int) := Int.natCast_nonneg _
          have hk1 : (k : Int) < (p.args.length : Int) := by omega
          have hk2 : (k : Int) < (t.args.length : Int) := by omega
          have HC := Lib.hid (fun W (hW : Below wr.heap.size wr W) => IH.out k hlt hlt2 W _ _ (hE.below hW) (hE2.below hW) (HOW.out.below hW) (by have := hW.size; omega))
          clear hE hE2
          have hb1 : b < wr.heap.size := World.block_lt_of_cell? wr _ d0
          have hb2 : b2 < wr.heap.size := World.block_lt_of_cell? wr _ e0
          generalize p.args[k] = xx at *
          generalize t.args[k] = yy at *
          have HQ : Hid (∀ w1, Keep (fun b => b = g) wr.drew w1 → w1.cell? ⟨w.heap.size, 3, none⟩ = some (.slice (some ⟨b, o, none⟩) p.args.length capp) ∧ w1.cell? ⟨w.heap.size + 1, 3, none⟩ = some (.slice (some ⟨b2, o2, none⟩) t.args.length cap2) ∧
              w1.cell? ⟨b, o + k * 4, none⟩ = some (.int .i64 xx.kind) ∧ w1.cell? ⟨b, o + k * 4 + 1, none⟩ = some (.int .i64 xx.n) ∧ w1.cell? ⟨b, o + k * 4 + 2, none⟩ = some (.string xx.name) ∧ w1.cell? ⟨b, o + k * 4 + 3, none⟩ = some (.slice a' xx.args.length cap') ∧
              w1.cell? ⟨b2, o2 + k * 4, none⟩ = some (.int .i64 yy.kind) ∧ w1.cell? ⟨b2, o2 + k * 4 + 1, none⟩ = some (.int .i64 yy.n) ∧ w1.cell? ⟨b2, o2 + k * 4 + 2, none⟩ = some (.string yy.name) ∧ w1.cell? ⟨b2, o2 + k * 4 + 3, none⟩ = some (.slice a2' yy.args.length cap2')) := Lib.hid fun w1 hK1 => by
            have hSg1 := hS b hSb
            have hSg2 := hS b2 hSb2
            have q := fun b' o' (h : b' < wr.heap.size) (h' : b' ≠ g) => hK1.cell b' o' h h'
            rw [q _ _ hs0 (by omega), q _ _ hsw (by omega), q _ _ hb1 (by omega), q _ _ hb1 (by omega), q _ _ hb1 (by omega), q _ _ hb1 (by omega), q _ _ hb2 (by omega), q _ _ hb2 (by omega), q _ _ hb2 (by omega), q _ _ hb2 (by omega)]
            exact ⟨x3, y3, d0, d1, d2, d3, e0, e1, e2, e3⟩
          go_wp2_with fail
          go_region_held3 (fun w' => w'.cell? ⟨w.heap.size, 3, none⟩ = some (.slice (some ⟨b, o, none⟩) p.args.length capp) ∧ w'.cell? ⟨w.heap.size + 1, 3, none⟩ = some (.slice (some ⟨b2, o2, none⟩) t.args.length cap2) ∧
              w'.cell? ⟨b, o + k * 4, none⟩ = some (.int .i64 xx.kind) ∧ w'.cell? ⟨b, o + k * 4 + 1, none⟩ = some (.int .i64 xx.n) ∧ w'.cell? ⟨b, o + k * 4 + 2, none⟩ = some (.string xx.name) ∧ w'.cell? ⟨b, o + k * 4 + 3, none⟩ = some (.slice a' xx.args.length cap') ∧
              w'.cell? ⟨b2, o2 + k * 4, none⟩ = some (.int .i64 yy.kind) ∧ w'.cell? ⟨b2, o2 + k * 4 + 1, none⟩ = some (.int .i64 yy.n) ∧ w'.cell? ⟨b2, o2 + k * 4 + 2, none⟩ = some (.string yy.name) ∧ w'.cell? ⟨b2, o2 + k * 4 + 3, none⟩ = some (.slice a2' yy.args.length cap2'))
            (first | exact ⟨z0, z1, z2, z3, z4, z5, z6, z7, z8, z9⟩ | go_keep)
            (first | (go_at_call 71; refine (HC.out _ ?_).mono ?_; (repeat' (first | exact Below.refl _ _ | apply Below.drew | refine Below.alloc ?_ (by simp <;> omega) _)); rintro e w1 ⟨rfl, hK1, ho1⟩; obtain ⟨z0, z1, z2, z3, z4, z5, z6, z7, z8, z9⟩ := HQ.out _ hK1))
          have hs1 : wr.heap.size ≤ w1.heap.size := hK1.size
          have HK1 := Lib.hid (HK.out.drew.trans hK1)
          have HO1 := Lib.hid ho1; clear ho1 hK1
          cases hz : (fitT xx yy (fitL (p.args.take k) (t.args.take k) bd).2).1
          · have HZ := Lib.hid (HFL.out hz)
            go_wp2_with fail
            go_ret
            rw [HF.out, HZ.out]
            exact ⟨ret_bool (by rw [hz]), HK1.out, HO1.out⟩
          · have HZ := Lib.hid hz; clear hz
            go_wp2_with fail
            go_roundw
            case rel => exact ⟨k + 1, by omega, by go_num, by rw [HSN.out, HZ.out], by rw [HSN.out]; exact HO1.out, HK1.out, by omega, z0, z1⟩
            case measure => simp [intOf]; omega
        · have hkk : k = p.args.length := by omega
          subst hkk
          go_wp2_with fail
          go_ret
          have h := HOW.out
          have h' := HOK.out
          rw [List.take_length, HL.out, List.take_length] at h h'
          rw [HF.out]
          exact ⟨ret_bool (by rw [h']), HK.out, h⟩
    · have HF := Lib.hid (fitT_4b (t := t) (b := bd) hk (fun h => hl h.2))
      have hln : ((p.args.length : Int) != t.args.length) = true := by simp; omega
      clear hk hkt hl
      go_enter Try.func71, Try.ntmps71
      go_wp2_with fail
      go_ret
      rw [HF.out]
      exact ⟨rfl, HKB.out _ _, (HO.out.alloc _).alloc _⟩
  · have h7 : (t.kind != 4) = true := by simpa using hkt
    have HF := Lib.hid (fitT_4b (t := t) (b := bd) hk (fun h => hkt h.1))
    clear hk hkt
    go_enter Try.func71, Try.ntmps71
    go_wp2_with fail
    go_ret
    rw [HF.out]
    exact ⟨rfl, HKB.out _ _, (HO.out.alloc _).alloc _⟩
end

theorem fitT_bulk (M : Nat) (p t : T) (b : List T) (ht : bulkL [t] ≤ M) (hb : ∀ y ∈ b, bulkL [y] ≤ M) : ∀ y ∈ (fitT p t b).2, bulkL [y] ≤ M := by
  have key : ∀ m (ps ts b : List T), bulkL ps ≤ m → (∀ y ∈ ts, bulkL [y] ≤ M) → (∀ y ∈ b, bulkL [y] ≤ M) → ∀ y ∈ (fitL ps ts b).2, bulkL [y] ≤ M := by
    intro m
    induction m with
    | zero =>
      intro ps ts b hm _ hb
      cases ps with
      | nil => rw [fitL_nil]; exact hb
      | cons p ps => rw [bulkL_cons] at hm; omega
    | succ m ih =>
      intro ps ts b hm hts hb
      cases ps with
      | nil => rw [fitL_nil]; exact hb
      | cons p ps =>
        cases ts with
        | nil => rw [fitL]; exact hb; intro h; cases h
        | cons t ts =>
          rw [bulkL_cons] at hm
          have h1 : ∀ y ∈ (fitT p t b).2, bulkL [y] ≤ M := by
            have hta : ∀ y ∈ t.args, bulkL [y] ≤ M := fun y hy => by have h0 := hts t (by simp); have h1 := bulk_mem hy; have h2 := bulk_args t; omega
            have := ih p.args t.args b (by omega) hta hb
            unfold fitT fitH
            repeat' split
            all_goals first | exact hb | exact this | (intro y hy; rcases List.mem_or_eq_of_mem_set hy with hy | rfl; exact hb y hy; exact hts _ (by simp))
          rw [fitL_cons]
          split
          · exact ih ps ts _ (by omega) (fun y hy => hts y (by simp [hy])) h1
          · exact h1
  have := key _ [p] [t] b (Nat.le_refl _) (fun y hy => by simp at hy; subst hy; exact ht) hb
  rwa [fitL_one] at this
theorem fitL_bulk (M : Nat) : ∀ (ps ts b : List T), (∀ y ∈ ts, bulkL [y] ≤ M) → (∀ y ∈ b, bulkL [y] ≤ M) → ∀ y ∈ (fitL ps ts b).2, bulkL [y] ≤ M
  | [], ts, b, _, hb => by rw [fitL_nil]; exact hb
  | p :: ps, [], b, _, hb => by rw [fitL]; exact hb; intro h; cases h
  | p :: ps, t :: ts, b, ht, hb => by
    have h1 := fitT_bulk M p t b (ht t (by simp)) hb
    rw [fitL_cons]; split
    · exact fitL_bulk M ps ts _ (fun y hy => ht y (by simp [hy])) h1
    · exact h1
theorem fitL_length : ∀ (ps ts b : List T), (fitL ps ts b).2.length = b.length
  | [], ts, b => by rw [fitL_nil]
  | p :: ps, [], b => by rw [fitL]; intro h; cases h
  | p :: ps, t :: ts, b => by
    rw [fitL_cons]; split
    · rw [fitL_length ps ts _, fitT_length]
    · exact fitT_length p t b

theorem fits_c : ∀ (p t : T) (S : Nat → Prop) (base g cap : Nat) (w : World) (vp vt : Value) (bd : List T), RT S w p vp → RT S w t vt → OwnG (fun b => base ≤ b) base w (.slice (some ⟨g, 0, none⟩) 4 cap) bd → base ≤ w.heap.size → (∀ b, S b → b < base) → bd.length = 4 →
    bulkL [p] ≤ 1099511627776 → bulkL [t] ≤ 1099511627776 → (∀ y ∈ bd, bulkL [y] ≤ 1099511627776) → formL [p] = true →
    Calls Try.prog 71 #[vp, vt, .slice (some ⟨g, 0, none⟩) 4 cap] w (FPost base g cap w (fitT p t bd)) := by
  intro p
  induction p using T.ind with
  | h p ih =>
    intro t S base g cap w vp vt bd hp ht ho hbs hS hl hbp hbt hbb hf
    by_cases h6 : p.kind = 6
    · exact fits_6 hp ht ho hbs h6
    by_cases h5 : p.kind = 5
    · exact fits_5 hp ht ho hbs hS hl hbt hbb h5 (form_var hf h5)
    by_cases h4 : p.kind = 4
    · refine fits_4 hp ht ho hbs hS hbp hbt h4 fun j h1 h2 W vp vt g1 g2 g3 g4 => ih _ (List.getElem_mem h1) _ S base g cap W vp vt _ g1 g2 g3 g4 hS (by rw [fitL_length]; exact hl) ?_ ?_ ?_ (form_args hf (List.getElem_mem h1))
      · have := bulk_at h1; have := bulk_args p; omega
      · have := bulk_at h2; have := bulk_args t; omega
      · exact fitL_bulk _ _ _ _ (fun y hy => by have := bulk_mem (List.mem_of_mem_take hy); have := bulk_args t; omega) hbb
    · exact fits_o hp ht ho hbs hbp hbt h4 h5 h6
end Go.Proofs.Ytedfepnekjjmnaa

/-
  reckon.value: what it answers, the cases without a loop. Conditions: a formed term, four bound ones.
-/
namespace Go.Proofs.Ytedfepnekjjmnaa
open Go.RowKit
set_option linter.unusedSimpArgs false
set_option linter.unusedVariables false
section
variable {bd : List T} {self : Int} {x : T} {S : Nat → Prop} {w : World} {v vb : Value}

set_option maxHeartbeats 1000000 in
theorem val_6 (hv : RT S w x v) (hk : x.kind = 6) : Calls Try.prog 63 #[v, vb, .int .i64 self] w (VPost S w (valT bd self x)) := by
  obtain ⟨a, cap, rfl, hcap, hr⟩ := hv
  clear hcap hr
  have HV := Lib.hid (valT_6 (bd := bd) (self := self) hk)
  have h1 : w.heap.size < w.heap.size + 1 + 1 := by omega
  go_enter Try.func63, Try.ntmps63
  go_wp2_with fail
  refine bodyPost_ret (v := .tuple #[.agg #[.int .i64 0, .int .i64 0, .string ⟨#[]⟩, .slice none 0 0], .bool false]) (by simp [results, Try.results63, go_sem, hk]) rfl (VPost.of zeroT _ _ rfl ?_ ⟨none, 0, rfl, ⟨Nat.le_refl _, fun _ => rfl⟩, by simp [zeroT, RTs]⟩ HV.out)
  repeat refine Below.setCell ?_ (by simp <;> omega) _
  exact (below_alloc _ _).alloc (by simp) _

set_option maxHeartbeats 2000000 in
theorem val_o (hv : RT S w x v) (hS : ∀ b, S b → b < w.heap.size) (hb : bulkL [x] ≤ 1099511627776) (hk4 : x.kind ≠ 4) (hk5 : x.kind ≠ 5) (hk6 : x.kind ≠ 6) : Calls Try.prog 63 #[v, vb, .int .i64 self] w (VPost S w (valT bd self x)) := by
  obtain ⟨a, cap, rfl, hcap, hr⟩ := hv
  have HX : Hid (RT S w x _) := Lib.hid ⟨a, cap, rfl, hcap, hr⟩
  clear hcap hr
  have HV := Lib.hid (valT_o (bd := bd) (self := self) hk4 hk5 hk6)
  have h4 : (x.kind == 4) = false := by simpa using hk4
  have h4' : (x.kind != 4) = true := by simpa using hk4
  have h5 : (x.kind == 5) = false := by simpa using hk5
  have h6 : (x.kind == 6) = false := by simpa using hk6
  have h1 : w.heap.size < w.heap.size + 1 + 1 := by omega
  clear hk4 hk5 hk6
  go_enter Try.func63, Try.ntmps63
  go_wp2_with fail
  refine (is_ris x sSelf 0 S _ _ ((HX.out.alloc _).alloc _) (by omega) (by omega) (by omega)).mono ?_
  rintro e w1 ⟨rfl, hB1⟩
  rw [isT_kind h4]
  have hs1 := hB1.size
  obtain ⟨hcc, hff⟩ := bcell hB1
  simp only [World.size_alloc] at hs1 hcc hff
  have g1 : w.heap.size < w1.heap.size := by omega
  have g2 : w.heap.size + 1 < w1.heap.size := by omega
  have HB1 := Lib.hid (below_step ((below_alloc _ _).alloc (by simp) _) (by simp <;> omega) hB1)
  have hs0 : w.heap.size ≤ w1.heap.size := by omega
  go_wp2_with fail
  refine (is_ris x sPut 1 S _ _ (HX.out.below HB1.out) (by omega) (by omega) (by omega)).mono ?_
  rintro e w2 ⟨rfl, hB2⟩
  rw [isT_kind h4]
  have hs2 := hB2.size
  obtain ⟨hcc2, hff2⟩ := bcell hB2
  have HB2 := Lib.hid (below_step HB1.out (by omega) hB2)
  go_wp2_with fail
  refine bodyPost_ret (v := .tuple #[.agg #[.int .i64 x.kind, .int .i64 x.n, .string x.name, .slice a x.args.length cap], .bool true]) (by simp [results, Try.results63, go_sem, hcc, hcc2, hff, hff2, g1, g2]) rfl (VPost.of x _ _ rfl ?_ ?_ HV.out)
  · repeat refine Below.setCell ?_ (by simp <;> omega) _
    exact HB2.out
  · refine RT.mono (S := S) ?_ fun b hb => .inl hb
    repeat refine RT.slot ?_ _ _ _ (fun b hb => by have := hS b hb; simp <;> omega)
    exact HX.out.below HB2.out

set_option maxHeartbeats 2000000 in
theorem val_self (hv : RT S w x v) (hS : ∀ b, S b → b < w.heap.size) (hb : bulkL [x] ≤ 1099511627776) (hk : x.kind = 4) (hs : isT x sSelf 0 = true) : Calls Try.prog 63 #[v, vb, .int .i64 self] w (VPost S w (valT bd self x)) := by
  obtain ⟨a, cap, rfl, hcap, hr⟩ := hv
  have HX : Hid (RT S w x _) := Lib.hid ⟨a, cap, rfl, hcap, hr⟩
  clear hcap hr
  have HV := Lib.hid (valT_self (bd := bd) (self := self) hk hs)
  have h1 : w.heap.size < w.heap.size + 1 + 1 := by omega
  have h4 : (x.kind == 4) = true := by simpa using hk
  have h5 : (x.kind == 5) = false := by simp [hk]
  have h6 : (x.kind == 6) = false := by simp [hk]
  clear hk
  go_enter Try.func63, Try.ntmps63
  go_wp2_with fail
  refine (is_ris x sSelf 0 S _ _ ((HX.out.alloc _).alloc _) (by omega) (by omega) (by omega)).mono ?_
  rintro e w1 ⟨rfl, hB1⟩
  rw [hs]
  have hs1 := hB1.size
  obtain ⟨hcc, hff⟩ := bcell hB1
  simp only [World.size_alloc] at hs1 hcc hff
  have g1 : w.heap.size < w1.heap.size := by omega
  have g2 : w.heap.size + 1 < w1.heap.size := by omega
  go_wp2_with fail
  refine bodyPost_ret (v := .tuple #[.agg #[.int .i64 3, .int .i64 self, .string ⟨#[]⟩, .slice none 0 0], .bool true]) (by simp [results, Try.results63, go_sem, hcc, hff]) rfl (VPost.of (pidT self) _ _ rfl ?_ ?_ HV.out)
  · repeat refine Below.setCell ?_ (by simp <;> omega) _
    exact below_step ((below_alloc _ _).alloc (by simp) _) (by simp <;> omega) hB1
  · exact ⟨none, 0, rfl, ⟨Nat.le_refl _, fun _ => rfl⟩, by simp [pidT, RTs]⟩
end
end Go.Proofs.Ytedfepnekjjmnaa

/-
  reckon.value: a variable; what was put.
-/
namespace Go.Proofs.Ytedfepnekjjmnaa
open Go.RowKit
set_option linter.unusedSimpArgs false
set_option linter.unusedVariables false
section
variable {bd : List T} {self : Int} {x : T} {S : Nat → Prop} {w : World} {v vb : Value}

set_option maxHeartbeats 2000000 in
theorem val_5 (hv : RT S w x v) (hb : RSl S w bd vb) (hl : bd.length = 4) (hS : ∀ b, S b → b < w.heap.size) (hbb : bulkL bd ≤ 1099511627776) (hk : x.kind = 5) (hn : ∃ k : Nat, x.n = k ∧ k < 4) : Calls Try.prog 63 #[v, vb, .int .i64 self] w (VPost S w (valT bd self x)) := by
  obtain ⟨a, cap, rfl, hcap, hr⟩ := hv
  obtain ⟨ab, capb, rfl, hcapb, hrb⟩ := hb
  obtain ⟨k, hn, hk4⟩ := hn
  obtain ⟨b, o, rfl⟩ := hrb.addr (by omega)
  obtain ⟨a', cap', hSb, d0, d1, d2, d3, hE⟩ := hrb.elem k (by omega)
  have hE := Lib.hid hE
  have hbu := bulk_at (ts := bd) (i := k) (by omega)
  have HV := Lib.hid (valT_5 (bd := bd) (self := self) hk hn (by omega))
  have h1 : w.heap.size < w.heap.size + 1 + 1 := by omega
  have hlb : b < w.heap.size := hS b hSb
  have hlb' : b < w.heap.size + 1 := by omega
  have hlb2 : b < w.heap.size + 1 + 1 := by omega
  clear hcap hr hcapb hrb
  rw [hn, hl, hk]
  have hkl : (k : Int) < 4 := by omega
  generalize bd[k] = u at *
  go_enter Try.func63, Try.ntmps63
  go_wp2_with fail
  obtain ⟨W, hW⟩ : ∃ W : World, W = ((w.alloc (.cells #[.int .i64 5, .int .i64 k, .string x.name, .slice a x.args.length cap] 29)).alloc (.cells #[.int .i64 0, .int .i64 0, .string ⟨#[]⟩, .slice none 0 0] 29)).alloc (.cells #[.int .i64 u.kind, .int .i64 u.n, .string u.name, .slice a' u.args.length cap'] 29) := ⟨_, rfl⟩
  rw [← hW]
  have hWs : W.heap.size = w.heap.size + 1 + 1 + 1 := by rw [hW]; simp
  have hWB : Below w.heap.size w W := by rw [hW]; exact ((below_alloc _ _).alloc (by simp) _).alloc (by simp <;> omega) _
  have hWc : (fun w' : World => w'.cell? ⟨w.heap.size + 1 + 1, 0, none⟩ = some (.int .i64 u.kind) ∧ w'.cell? ⟨w.heap.size + 1 + 1, 1, none⟩ = some (.int .i64 u.n) ∧ w'.cell? ⟨w.heap.size + 1 + 1, 2, none⟩ = some (.string u.name) ∧ w'.cell? ⟨w.heap.size + 1 + 1, 3, none⟩ = some (.slice a' u.args.length cap')) W := by rw [hW]; go_simp
  have hWz : (fun w' : World => w'.cell? ⟨w.heap.size + 1, 0, none⟩ = some (.int .i64 0) ∧ w'.cell? ⟨w.heap.size + 1, 1, none⟩ = some (.int .i64 0) ∧ w'.cell? ⟨w.heap.size + 1, 2, none⟩ = some (.string ⟨#[]⟩) ∧ w'.cell? ⟨w.heap.size + 1, 3, none⟩ = some (.slice none 0 0)) W := by rw [hW]; go_simp
  have hWf : ∀ o, W.frozen? ⟨w.heap.size + 1, o, none⟩ = false := fun o => by rw [hW]; go_simp
  simp only [] at hWc hWz
  have HU := Lib.hid ((hE.out.below hWB).below (Below.drew (Below.refl W.heap.size W)))
  have HWB := Lib.hid hWB
  clear hW hWB d0 d1 d2 d3
  have hz1 : w.heap.size + 1 < W.heap.size := by omega
  have hz2 : w.heap.size + 1 + 1 < W.heap.size := by omega
  have hq : ∀ w3 : World, Below W.drew.heap.size W.drew w3 → (fun w' : World => w'.cell? ⟨w.heap.size + 1 + 1, 0, none⟩ = some (.int .i64 u.kind) ∧ w'.cell? ⟨w.heap.size + 1 + 1, 1, none⟩ = some (.int .i64 u.n) ∧ w'.cell? ⟨w.heap.size + 1 + 1, 2, none⟩ = some (.string u.name) ∧ w'.cell? ⟨w.heap.size + 1 + 1, 3, none⟩ = some (.slice a' u.args.length cap')) w3 := fun w3 h => by
    obtain ⟨q, -⟩ := bcell h
    show _ ∧ _ ∧ _ ∧ _
    rw [q _ _ hz2, q _ _ hz2, q _ _ hz2, q _ _ hz2]; exact hWc
  have hz : ∀ w3 : World, Below W.drew.heap.size W.drew w3 → (fun w' : World => w'.cell? ⟨w.heap.size + 1, 0, none⟩ = some (.int .i64 0) ∧ w'.cell? ⟨w.heap.size + 1, 1, none⟩ = some (.int .i64 0) ∧ w'.cell? ⟨w.heap.size + 1, 2, none⟩ = some (.string ⟨#[]⟩) ∧ w'.cell? ⟨w.heap.size + 1, 3, none⟩ = some (.slice none 0 0) ∧ ∀ o, w'.frozen? ⟨w.heap.size + 1, o, none⟩ = false) w3 := fun w3 h => by
    obtain ⟨q, r⟩ := bcell h
    show _ ∧ _ ∧ _ ∧ _ ∧ _
    rw [q _ _ hz1, q _ _ hz1, q _ _ hz1, q _ _ hz1]; exact ⟨hWz.1, hWz.2.1, hWz.2.2.1, hWz.2.2.2, fun o => by rw [r _ _ hz1]; exact hWf o⟩
  have hkeep : ∀ (w4 : World) (u0 u1 u2 u3 : Value), Below W.drew.heap.size W.drew w4 → (fun w' : World => w'.cell? ⟨w.heap.size + 1 + 1, 0, none⟩ = some (.int .i64 u.kind) ∧ w'.cell? ⟨w.heap.size + 1 + 1, 1, none⟩ = some (.int .i64 u.n) ∧ w'.cell? ⟨w.heap.size + 1 + 1, 2, none⟩ = some (.string u.name) ∧ w'.cell? ⟨w.heap.size + 1 + 1, 3, none⟩ = some (.slice a' u.args.length cap')) ((((w4.setCell ⟨w.heap.size + 1, 0, none⟩ u0).setCell ⟨w.heap.size + 1, 1, none⟩ u1).setCell ⟨w.heap.size + 1, 2, none⟩ u2).setCell ⟨w.heap.size + 1, 3, none⟩ u3) := fun w4 u0 u1 u2 u3 h => by
    have hne : w.heap.size + 1 + 1 ≠ w.heap.size + 1 := by omega
    have e : ∀ o', ((((w4.setCell ⟨w.heap.size + 1, 0, none⟩ u0).setCell ⟨w.heap.size + 1, 1, none⟩ u1).setCell ⟨w.heap.size + 1, 2, none⟩ u2).setCell ⟨w.heap.size + 1, 3, none⟩ u3).cell? ⟨w.heap.size + 1 + 1, o', none⟩ = w4.cell? ⟨w.heap.size + 1 + 1, o', none⟩ := fun o' => by
      refine World.cell?_of_block ?_
      simp only [setCell_other _ _ _ _ _ hne]
    simp only [e]
    exact hq _ h
  simp only [] at hq hz hkeep
  have hsd : W.drew.heap.size = W.heap.size := rfl
  go_region_held3 (fun w' => w'.cell? ⟨w.heap.size + 1 + 1, 0, none⟩ = some (.int .i64 u.kind) ∧ w'.cell? ⟨w.heap.size + 1 + 1, 1, none⟩ = some (.int .i64 u.n) ∧ w'.cell? ⟨w.heap.size + 1 + 1, 2, none⟩ = some (.string u.name) ∧ w'.cell? ⟨w.heap.size + 1 + 1, 3, none⟩ = some (.slice a' u.args.length cap'))
      (first | exact hWc | exact hq _ hBB | exact hkeep _ _ _ _ _ hBB | go_keep)
      (first
        | (go_at_call 70; refine (copied_c u S _ _ (by first | exact HU.out | exact HU.out.below hBf) (by omega)).mono ?_; rintro e wc ⟨vc, rfl, hBc, ac, capc, rfl, hcc, hrc⟩; (first | (have hBB := below_step hBf hBf.size hBc) | (have hBB := hBc)); obtain ⟨z0, z1, z2, z3, z4⟩ := hz _ hBB; obtain ⟨y0, y1, y2, y3⟩ := hq _ hBB)
        | (go_at_call 97; refine (free_c u S _ _ (by first | exact HU.out | exact HU.out.below hBc)).mono ?_; rintro e wf ⟨rfl, hBf⟩; (first | (have hBB := below_step hBc hBc.size hBf) | (have hBB := hBf)); obtain ⟨z0, z1, z2, z3, z4⟩ := hz _ hBB; obtain ⟨y0, y1, y2, y3⟩ := hq _ hBB))
  go_wp2_with fail
  refine bodyPost_ret (v := .tuple #[.agg #[.int .i64 u.kind, .int .i64 u.n, .string u.name, .slice ac u.args.length capc], .bool (!(u.kind == 6))]) (by simp [results, Try.results63, go_sem, z0, z1, z2, z3]) rfl (VPost.of u _ _ rfl ?_ ?_ ?_)
  · repeat refine Below.setCell ?_ (by simp <;> omega) _
    exact below_step (HWB.out.drew) (by omega) hBB
  · have hsc := hBc.size
    have hsf := hBf.size
    refine RT.mono (S := fun b => W.heap.size ≤ b) ?_ fun b hb => .inr (by omega)
    repeat refine RT.slot ?_ _ _ _ (fun b hb => by omega)
    exact RT.below ⟨ac, capc, rfl, hcc, hrc⟩ hBf
  · rw [HV.out, varO]; by_cases h : u.kind = 6 <;> simp [h]
end
end Go.Proofs.Ytedfepnekjjmnaa

/-
  reckon.value: what was put.
-/
namespace Go.Proofs.Ytedfepnekjjmnaa
open Go.RowKit
set_option linter.unusedSimpArgs false
set_option linter.unusedVariables false
section
variable {bd : List T} {self : Int} {x : T} {S : Nat → Prop} {w : World} {v vb : Value}

set_option maxHeartbeats 2000000 in
theorem val_put (hv : RT S w x v) (hS : ∀ b, S b → b < w.heap.size) (hb : bulkL [x] ≤ 1099511627776) (hk : x.kind = 4) (hs : isT x sSelf 0 = false) (hp : isT x sPut 1 = true) : Calls Try.prog 63 #[v, vb, .int .i64 self] w (VPost S w (valT bd self x)) := by
  obtain ⟨a, cap, rfl, hcap, hr⟩ := hv
  have HX : Hid (RT S w x _) := Lib.hid ⟨a, cap, rfl, hcap, hr⟩
  have hln := isT_length hp
  have hba := bulk_args x
  have hbe := bulk_at (ts := x.args) (i := 1) (by omega)
  obtain ⟨b, o, rfl⟩ := hr.addr (by omega)
  obtain ⟨a', cap', hSb, d0, d1, d2, d3, hE⟩ := hr.elem 1 (by omega)
  have hE := Lib.hid hE
  have hlb : b < w.heap.size := hS b hSb
  have HV := Lib.hid (valT_put (bd := bd) (self := self) hk hs hp (by omega))
  have h1 : w.heap.size < w.heap.size + 1 + 1 := by omega
  have h4 : (x.kind == 4) = true := by simpa using hk
  have h5 : (x.kind == 5) = false := by simp [hk]
  have h6 : (x.kind == 6) = false := by simp [hk]
  clear hk hcap hr
  simp only [Nat.one_mul] at d0 d1 d2 d3
  generalize x.args[1] = u at *
  go_enter Try.func63, Try.ntmps63
  go_wp2_with fail
  refine (is_ris x sSelf 0 S _ _ ((HX.out.alloc _).alloc _) (by omega) (by omega) (by omega)).mono ?_
  rintro e w1 ⟨rfl, hB1⟩
  rw [hs]
  have hs1 := hB1.size
  obtain ⟨hcc, hff⟩ := bcell hB1
  simp only [World.size_alloc] at hs1 hcc hff
  have g1 : w.heap.size < w1.heap.size := by omega
  have g2 : w.heap.size + 1 < w1.heap.size := by omega
  have g3 : b < w1.heap.size := by omega
  have g4 : b < w.heap.size + 1 + 1 := by omega
  have g5 : b < w.heap.size + 1 := by omega
  have HB1 := Lib.hid (below_step ((below_alloc _ _).alloc (by simp) _) (by simp <;> omega) hB1)
  have hs0 : w.heap.size ≤ w1.heap.size := by omega
  go_wp2_with fail
  refine (is_ris x sPut 1 S _ _ (HX.out.below HB1.out) (by omega) (by omega) (by omega)).mono ?_
  rintro e w2 ⟨rfl, hB2⟩
  rw [hp]
  have hs2 := hB2.size
  obtain ⟨hcc2, hff2⟩ := bcell hB2
  have HB2 := Lib.hid (below_step HB1.out (by omega) hB2)
  go_wp2_with fail
  have HE2 := Lib.hid ((hE.out.below HB2.out).mono (S' := S) fun _ h => h)
  have HE3 := Lib.hid (HE2.out.below (Below.drew (Below.refl w2.heap.size w2)))
  have g6 : w.heap.size < w2.heap.size := by omega
  have g7 : b < w2.heap.size := by omega
  have g8 : w.heap.size + 1 < w2.heap.size := by omega
  have hlu : (1 : Int) < x.args.length := by omega
  have hc3 : w2.cell? ⟨w.heap.size, 3, none⟩ = some (.slice (some ⟨b, o, none⟩) x.args.length cap) := by rw [hcc2 _ _ g1, hcc _ _ h1]; go_simp
  obtain ⟨e0, e1, e2, e3⟩ : w2.cell? ⟨b, o + 4, none⟩ = some (.int .i64 u.kind) ∧ w2.cell? ⟨b, o + 4 + 1, none⟩ = some (.int .i64 u.n) ∧ w2.cell? ⟨b, o + 4 + 2, none⟩ = some (.string u.name) ∧ w2.cell? ⟨b, o + 4 + 3, none⟩ = some (.slice a' u.args.length cap') := by
    obtain ⟨q, -⟩ := bcell HB2.out
    rw [q _ _ hlb, q _ _ hlb, q _ _ hlb, q _ _ hlb]; exact ⟨d0, d1, d2, d3⟩
  have hq : ∀ w3 : World, Below w2.drew.heap.size w2.drew w3 → w3.cell? ⟨w.heap.size, 3, none⟩ = some (.slice (some ⟨b, o, none⟩) x.args.length cap) ∧ w3.cell? ⟨b, o + 4, none⟩ = some (.int .i64 u.kind) ∧ w3.cell? ⟨b, o + 4 + 1, none⟩ = some (.int .i64 u.n) ∧ w3.cell? ⟨b, o + 4 + 2, none⟩ = some (.string u.name) ∧ w3.cell? ⟨b, o + 4 + 3, none⟩ = some (.slice a' u.args.length cap') := fun w3 h => by
    obtain ⟨q, -⟩ := bcell h
    rw [q _ _ g6, q _ _ g7, q _ _ g7, q _ _ g7, q _ _ g7]; exact ⟨hc3, e0, e1, e2, e3⟩
  have hz : ∀ w3 : World, Below w2.drew.heap.size w2.drew w3 → (∀ o, w3.frozen? ⟨w.heap.size + 1, o, none⟩ = false) ∧ w3.cell? ⟨w.heap.size + 1, 0, none⟩ = some (.int .i64 0) ∧ w3.cell? ⟨w.heap.size + 1, 1, none⟩ = some (.int .i64 0) ∧ w3.cell? ⟨w.heap.size + 1, 2, none⟩ = some (.string ⟨#[]⟩) ∧ w3.cell? ⟨w.heap.size + 1, 3, none⟩ = some (.slice none 0 0) := fun w3 h => by
    obtain ⟨q, r⟩ := bcell h
    have hx : w.heap.size + 1 < w.heap.size + 1 + 1 := by omega
    refine ⟨fun o => ?_, ?_⟩
    · rw [r _ _ g8]; show w2.frozen? _ = _; rw [hff2 _ _ g2, hff _ _ hx]; go_simp
    · rw [q _ _ g8, q _ _ g8, q _ _ g8, q _ _ g8]; show w2.cell? _ = _ ∧ w2.cell? _ = _ ∧ w2.cell? _ = _ ∧ w2.cell? _ = _; rw [hcc2 _ _ g2, hcc2 _ _ g2, hcc2 _ _ g2, hcc2 _ _ g2, hcc _ _ hx, hcc _ _ hx, hcc _ _ hx, hcc _ _ hx]; go_simp
  have hbne : b ≠ w.heap.size + 1 := by omega
  have hbne' : w.heap.size + 1 ≠ b := by omega
  have hbn2 : w.heap.size ≠ w.heap.size + 1 := by omega
  have hkeep : ∀ (w4 : World) (u0 u1 u2 u3 : Value), Below w2.drew.heap.size w2.drew w4 → (fun w' : World => w'.cell? ⟨w.heap.size, 3, none⟩ = some (.slice (some ⟨b, o, none⟩) x.args.length cap) ∧ w'.cell? ⟨b, o + 4, none⟩ = some (.int .i64 u.kind) ∧ w'.cell? ⟨b, o + 4 + 1, none⟩ = some (.int .i64 u.n) ∧ w'.cell? ⟨b, o + 4 + 2, none⟩ = some (.string u.name) ∧ w'.cell? ⟨b, o + 4 + 3, none⟩ = some (.slice a' u.args.length cap')) ((((w4.setCell ⟨w.heap.size + 1, 0, none⟩ u0).setCell ⟨w.heap.size + 1, 1, none⟩ u1).setCell ⟨w.heap.size + 1, 2, none⟩ u2).setCell ⟨w.heap.size + 1, 3, none⟩ u3) := fun w4 u0 u1 u2 u3 h => by
    have e : ∀ b' o', b' ≠ w.heap.size + 1 → ((((w4.setCell ⟨w.heap.size + 1, 0, none⟩ u0).setCell ⟨w.heap.size + 1, 1, none⟩ u1).setCell ⟨w.heap.size + 1, 2, none⟩ u2).setCell ⟨w.heap.size + 1, 3, none⟩ u3).cell? ⟨b', o', none⟩ = w4.cell? ⟨b', o', none⟩ := fun b' o' hne => by
      refine World.cell?_of_block ?_
      simp only [setCell_other _ _ _ _ _ hne]
    simp only [e _ _ hbne, e _ _ hbn2]
    exact hq _ h
  go_region_held3 (fun w' => w'.cell? ⟨w.heap.size, 3, none⟩ = some (.slice (some ⟨b, o, none⟩) x.args.length cap) ∧ w'.cell? ⟨b, o + 4, none⟩ = some (.int .i64 u.kind) ∧ w'.cell? ⟨b, o + 4 + 1, none⟩ = some (.int .i64 u.n) ∧ w'.cell? ⟨b, o + 4 + 2, none⟩ = some (.string u.name) ∧ w'.cell? ⟨b, o + 4 + 3, none⟩ = some (.slice a' u.args.length cap'))
      (first | exact ⟨hc3, e0, e1, e2, e3⟩ | exact hq _ hBB | exact hkeep _ _ _ _ _ hBB | go_keep)
      (first
        | (go_at_call 70; refine (copied_c u S _ _ (by first | exact HE3.out | exact HE3.out.below hBf) (by omega)).mono ?_; rintro e wc ⟨vc, rfl, hBc, ac, capc, rfl, hccc, hrc⟩; (first | (have hBB := below_step hBf hBf.size hBc) | (have hBB := hBc)); obtain ⟨z0, z1, z2, z3, z4⟩ := hz _ hBB; obtain ⟨y0, y1, y2, y3, y4⟩ := hq _ hBB)
        | (go_at_call 69; refine (closed_c u S _ _ (by first | exact HE3.out | exact HE3.out.below hBc) (by omega)).mono ?_; rintro e wf ⟨rfl, hBf⟩; (first | (have hBB := below_step hBc hBc.size hBf) | (have hBB := hBf)); obtain ⟨z0, z1, z2, z3, z4⟩ := hz _ hBB; obtain ⟨y0, y1, y2, y3, y4⟩ := hq _ hBB))
  go_wp2_with fail
  refine bodyPost_ret (v := .tuple #[.agg #[.int .i64 u.kind, .int .i64 u.n, .string u.name, .slice ac u.args.length capc], .bool (closedL [u])]) (by simp [results, Try.results63, go_sem, z1, z2, z3, z4]) rfl (VPost.of u _ _ rfl ?_ ?_ ?_)
  · repeat refine Below.setCell ?_ (by simp <;> omega) _
    exact below_step HB2.out.drew (by simp; omega) hBB
  · have hsc := hBc.size
    have hsf := hBf.size
    have hsd : w2.drew.heap.size = w2.heap.size := rfl
    refine RT.mono (S := fun b => w2.heap.size ≤ b) ?_ fun b hb => .inr (by omega)
    repeat refine RT.slot ?_ _ _ _ (fun b hb => by omega)
    exact RT.below ⟨ac, capc, rfl, hccc, hrc⟩ hBf
  · rw [HV.out, putO]
end
end Go.Proofs.Ytedfepnekjjmnaa

/-
  reckon.value on tuples.
-/
namespace Go.Proofs.Ytedfepnekjjmnaa
open Go.RowKit
set_option linter.unusedSimpArgs false
set_option linter.unusedVariables false
section
variable {bd : List T} {self : Int} {x : T} {S : Nat → Prop} {w : World} {v vb : Value}

set_option maxHeartbeats 4000000 in
set_option maxRecDepth 100000 in
theorem val_tup (hv : RT S w x v) (hbd : RSl S w bd vb) (hS : ∀ b, S b → b < w.heap.size) (hb : bulkL [x] ≤ 1099511627776) (hk : x.kind = 4) (hs : isT x sSelf 0 = false) (hp : isT x sPut 1 = false) 
    (ih : ∀ y ∈ x.args, ∀ (S : Nat → Prop) (W : World) (p q : Value), RT S W y p → RSl S W bd q → (∀ b, S b → b < W.heap.size) → Calls Try.prog 63 #[p, q, .int .i64 self] W (VPost S W (valT bd self y))) :
    Calls Try.prog 63 #[v, vb, .int .i64 self] w (VPost S w (valT bd self x)) := by
  obtain ⟨a, cap, rfl, hcap, hr⟩ := hv
  have HX : Hid (RT S w x _) := Lib.hid ⟨a, cap, rfl, hcap, hr⟩
  have HR := Lib.hid hr
  have HBD := Lib.hid hbd
  have IH := Lib.hid ih; clear ih hbd
  have hba := bulk_args x
  have hla := length_le_bulk x.args
  have HV := Lib.hid (valT_tup (bd := bd) (self := self) hk hs hp)
  have h1 : w.heap.size < w.heap.size + 1 + 1 := by omega
  have h4 : (x.kind == 4) = true := by simpa using hk
  have h4' : (x.kind != 4) = false := by simp [hk]
  have h5 : (x.kind == 5) = false := by simp [hk]
  have h6 : (x.kind == 6) = false := by simp [hk]
  clear hk hcap hr
  go_enter Try.func63, Try.ntmps63
  go_wp2_with fail
  refine (is_ris x sSelf 0 S _ _ ((HX.out.alloc _).alloc _) (by omega) (by omega) (by omega)).mono ?_
  rintro e w1 ⟨rfl, hB1⟩
  rw [hs]
  have hs1 := hB1.size
  obtain ⟨hcc, hff⟩ := bcell hB1
  simp only [World.size_alloc] at hs1 hcc hff
  have g1 : w.heap.size < w1.heap.size := by omega
  have g2 : w.heap.size + 1 < w1.heap.size := by omega
  have HB1 := Lib.hid (below_step ((below_alloc _ _).alloc (by simp) _) (by simp <;> omega) hB1)
  have hs0 : w.heap.size ≤ w1.heap.size := by omega
  go_wp2_with fail
  refine (is_ris x sPut 1 S _ _ (HX.out.below HB1.out) (by omega) (by omega) (by omega)).mono ?_
  rintro e w2 ⟨rfl, hB2⟩
  rw [hp]
  have hs2 := hB2.size
  obtain ⟨hcc2, hff2⟩ := bcell hB2
  have HB2 := Lib.hid (below_step HB1.out (by omega) hB2)
  have g3 : w.heap.size < w2.heap.size := by omega
  have g4 : w.heap.size + 1 < w2.heap.size := by omega
  have hx : w.heap.size + 1 < w.heap.size + 1 + 1 := by omega
  -- what the call's own variables hold
  have hc3 : w2.cell? ⟨w.heap.size, 0, none⟩ = some (.int .i64 x.kind) ∧ w2.cell? ⟨w.heap.size, 1, none⟩ = some (.int .i64 x.n) ∧ w2.cell? ⟨w.heap.size, 2, none⟩ = some (.string x.name) ∧ w2.cell? ⟨w.heap.size, 3, none⟩ = some (.slice a x.args.length cap) := by
    rw [hcc2 _ _ g1, hcc2 _ _ g1, hcc2 _ _ g1, hcc2 _ _ g1, hcc _ _ h1, hcc _ _ h1, hcc _ _ h1, hcc _ _ h1]; go_simp
  have hz3 : w2.cell? ⟨w.heap.size + 1, 0, none⟩ = some (.int .i64 0) ∧ w2.cell? ⟨w.heap.size + 1, 1, none⟩ = some (.int .i64 0) ∧ w2.cell? ⟨w.heap.size + 1, 2, none⟩ = some (.string ⟨#[]⟩) ∧ w2.cell? ⟨w.heap.size + 1, 3, none⟩ = some (.slice none 0 0) := by
    rw [hcc2 _ _ g2, hcc2 _ _ g2, hcc2 _ _ g2, hcc2 _ _ g2, hcc _ _ hx, hcc _ _ hx, hcc _ _ hx, hcc _ _ hx]; go_simp
  have hfz : ∀ o, w2.frozen? ⟨w.heap.size + 1, o, none⟩ = false := fun o => by rw [hff2 _ _ g2, hff _ _ hx]; go_simp
  clear hcc hff hcc2 hff2 hB1 hB2
  go_wp2_with fail
  go_loopw [60] (fun i wr => ∃ (k : Nat) (vs : List T) (row : Value), k ≤ x.args.length ∧ i = .int .i64 k ∧ valL bd self (x.args.take k) = some vs ∧ OwnG (fun b => S b ∨ w2.heap.size + 1 ≤ b) (w2.heap.size + 1) wr row vs ∧ Below w2.heap.size w2 wr ∧ w2.heap.size + 1 ≤ wr.heap.size ∧
      (wr.cell? ⟨w2.heap.size, 0, none⟩ = some (.int .i64 4) ∧ wr.cell? ⟨w2.heap.size, 1, none⟩ = some (.int .i64 0) ∧ wr.cell? ⟨w2.heap.size, 2, none⟩ = some (.string ⟨#[]⟩) ∧ wr.cell? ⟨w2.heap.size, 3, none⟩ = some row) ∧ ∀ o, wr.frozen? ⟨w2.heap.size, o, none⟩ = false) (fun i _ => x.args.length - (intOf i).toNat)
  case atStart => exact ⟨0, [], _, Nat.zero_le _, rfl, by rw [List.take_zero, valL_nil], OwnG.nil _ _ _, below_alloc _ _, by simp, by go_simp, fun o => by go_simp⟩
  case round =>
    obtain ⟨k, vs, row, hkl, rfl, hval, hT, hB, hsz, ⟨f0, f1, f2, f3⟩, hf8⟩ := hrel
    have HT := Lib.hid hT; clear hT
    have HVL := Lib.hid hval; clear hval
    have hcB := hB.cell (p := ⟨w.heap.size, 3, none⟩) g3
    rw [hc3.2.2.2] at hcB
    have HBr := Lib.hid (below_step HB2.out (by omega) hB)
    by_cases hlt : k < x.args.length
    · obtain ⟨b, o, rfl⟩ := HR.out.addr (by omega)
      obtain ⟨a', cap', hSb, d0, d1, d2, d3, hE⟩ := (HR.out.below HBr.out).elem k hlt
      have hE := Lib.hid hE
      go_wp2_with fail
      refine (IH.out _ (List.getElem_mem hlt) S _ _ _ (hE.out.alloc _) ((HBD.out.below HBr.out).alloc _) (fun b hb => by have := hS b hb; simp; omega)).mono ?_
      rintro e w3 ⟨t1, v1, ok, rfl, hB3a, ⟨a1, cap1, rfl, hcap1, hr1⟩, ho⟩
      have hB3 := below_step (below_alloc wr _) (by simp) hB3a
      have HR1 : Hid (RT (fun b => S b ∨ wr.heap.size ≤ b) w3 t1 _) := Lib.hid (RT.mono (S := fun b => S b ∨ (wr.alloc _).heap.size ≤ b) ⟨a1, cap1, rfl, hcap1, hr1⟩ fun b hb => by rcases hb with hb | hb; exact .inl hb; exact .inr (by simp at hb; omega))
      have hs3 := hB3.size
      clear d0 d1 d2 d3 hr1 hcap1 hB3a
      have hcB3 := hB3.cell (p := ⟨w.heap.size, 3, none⟩) (by show w.heap.size < _; omega)
      rw [hcB] at hcB3
      have f03 := hB3.cell (p := ⟨w2.heap.size, 0, none⟩) (by show w2.heap.size < _; omega)
      have f13 := hB3.cell (p := ⟨w2.heap.size, 1, none⟩) (by show w2.heap.size < _; omega)
      have f23 := hB3.cell (p := ⟨w2.heap.size, 2, none⟩) (by show w2.heap.size < _; omega)
      have f33 := hB3.cell (p := ⟨w2.heap.size, 3, none⟩) (by show w2.heap.size < _; omega)
      rw [f0] at f03
      rw [f1] at f13
      rw [f2] at f23
      rw [f3] at f33
      have ff3 : ∀ o, w3.frozen? ⟨w2.heap.size, o, none⟩ = false := fun o => by rw [hB3.frozen (p := ⟨w2.heap.size, o, none⟩) (by show w2.heap.size < _; omega)]; exact hf8 o
      cases ok
      · have HV2 := Lib.hid (show valT bd self x = none by rw [HV.out, valL_none hlt ho]; rfl)
        have hz6 := fun o => hB3.cell (p := ⟨w.heap.size + 1, o, none⟩) (by show w.heap.size + 1 < _; omega)
        have hz7 := fun o => hB3.frozen (p := ⟨w.heap.size + 1, o, none⟩) (by show w.heap.size + 1 < _; omega)
        have hz8 := fun o => hB.cell (p := ⟨w.heap.size + 1, o, none⟩) g4
        have hz9 := fun o => hB.frozen (p := ⟨w.heap.size + 1, o, none⟩) g4
        have hy3 : w3.cell? ⟨w.heap.size + 1, 0, none⟩ = some (.int .i64 0) ∧ w3.cell? ⟨w.heap.size + 1, 1, none⟩ = some (.int .i64 0) ∧ w3.cell? ⟨w.heap.size + 1, 2, none⟩ = some (.string ⟨#[]⟩) ∧ w3.cell? ⟨w.heap.size + 1, 3, none⟩ = some (.slice none 0 0) := by
          rw [hz6, hz6, hz6, hz6, hz8, hz8, hz8, hz8]; exact hz3
        have hyf : ∀ o, w3.frozen? ⟨w.heap.size + 1, o, none⟩ = false := fun o => by rw [hz7, hz9]; exact hfz o
        have hx3 : w3.cell? ⟨w.heap.size, 0, none⟩ = some (.int .i64 x.kind) ∧ w3.cell? ⟨w.heap.size, 1, none⟩ = some (.int .i64 x.n) ∧ w3.cell? ⟨w.heap.size, 2, none⟩ = some (.string x.name) ∧ w3.cell? ⟨w.heap.size, 3, none⟩ = some (.slice (some ⟨b, o, none⟩) x.args.length cap) := by
          have q := fun o => hB3.cell (p := ⟨w.heap.size, o, none⟩) (by show w.heap.size < _; omega)
          have r := fun o => hB.cell (p := ⟨w.heap.size, o, none⟩) g3
          rw [q, q, q, q, r, r, r, r]; exact hc3
        obtain ⟨y0, y1, y2, y3⟩ := hy3
        obtain ⟨x0, x1, x2, x3⟩ := hx3
        clear hz6 hz7 hz8 hz9 hc3 hz3 hfz hcB hcB3 f0 f1 f2 f3 f03 f13 f23 f33 hf8 ff3
        have hn1 : w.heap.size < w3.heap.size := by omega
        have hn2 : w.heap.size + 1 < w3.heap.size := by omega
        go_wp2_with fail
        refine bodyPost_ret (v := .tuple #[.agg #[.int .i64 0, .int .i64 0, .string ⟨#[]⟩, .slice none 0 0], .bool false]) (by simp [results, Try.results63, go_sem, hn1, hn2, y0, y1, y2, y3]) rfl (VPost.of zeroT _ _ rfl ?_ ⟨none, 0, rfl, ⟨Nat.le_refl _, fun _ => rfl⟩, by simp [zeroT, RTs]⟩ HV2.out)
        refine Below.alloc ?_ (by simp <;> omega) _
        repeat refine Below.setCell ?_ (by simp <;> omega) _
        exact below_step HBr.out (by omega) hB3
      · have HO := Lib.hid (show valT bd self x.args[k] = some t1 from ho)
        clear ho
        have HT3 := Lib.hid ((HT.out.below hB3).alloc (.cells #[.int .i64 t1.kind, .int .i64 t1.n, .string t1.name, .slice a1 t1.args.length cap1] 29))
        have HT0 := Lib.hid HT.out.block
        have hlv := valL_length HVL.out
        have hnn : vs.length + 1 ≤ 1099511627776 := by rw [hlv]; simp; omega
        have hw3 : w2.heap.size < w3.heap.size := by omega
        have HW4 : Hid (∀ w4, Below (w2.heap.size + 1) (w3.alloc (.cells #[.int .i64 t1.kind, .int .i64 t1.n, .string t1.name, .slice a1 t1.args.length cap1] 29)) w4 → (w4.cell? ⟨w2.heap.size, 0, none⟩ = some (.int .i64 4) ∧ w4.cell? ⟨w2.heap.size, 1, none⟩ = some (.int .i64 0) ∧ w4.cell? ⟨w2.heap.size, 2, none⟩ = some (.string ⟨#[]⟩) ∧ w4.cell? ⟨w2.heap.size, 3, none⟩ = some row) ∧ ∀ o, w4.frozen? ⟨w2.heap.size, o, none⟩ = false) := Lib.hid fun w4 h => by
          have hlt : w2.heap.size < w2.heap.size + 1 := by omega
          have q := fun o => h.cell (p := ⟨w2.heap.size, o, none⟩) hlt
          have r := fun o => h.frozen (p := ⟨w2.heap.size, o, none⟩) hlt
          refine ⟨⟨?_, ?_, ?_, ?_⟩, fun o => ?_⟩
          · rw [q]; go_simp
          · rw [q]; go_simp
          · rw [q]; go_simp
          · rw [q]; go_simp
          · rw [r]; go_simp
        go_wp2_with (at_builtin; refine append_grow' _ _ rfl rfl rfl rfl (by simp) HT3.out (HR1.out.alloc _) (fun b hb hl => ⟨by rcases hb with hb | hb; exact .inl hb; exact .inr (by omega), fun he => by have := HT0.out b he; rcases hb with hb | hb; (have := hS b hb; omega); omega⟩) hnn (by simp <;> omega) ?_; intro v4 w4 hT4 hB4 hw4; have hs4 := hB4.size; have H4 := Lib.hid hT4; clear hT4 hw4; simp only [World.size_alloc] at hs4; obtain ⟨a4, cap4, hv4⟩ := H4.out.form; subst hv4; obtain ⟨⟨q0, q1, q2, q3⟩, q4⟩ := HW4.out w4 hB4)
        go_roundw
        case rel =>
          refine ⟨k + 1, vs ++ [t1], _, by omega, by go_num, valL_snoc hlt HVL.out HO.out, H4.out.setCell _ _ _ (by omega) (fun hP => by rcases hP with hP | hP; (have := hS _ hP; omega); omega), ?_, by simp; omega, ?_, fun o => by go_simp⟩
          · exact Below.setCell (((below_step hB (by omega) hB3).alloc (by omega) _).trans (hB4.mono (by omega))) (Nat.le_refl _) _
          · go_simp
        case measure => simp [intOf]; omega
    · have hkk : k = x.args.length := by omega
      subst hkk
      have hval := HVL.out
      rw [List.take_of_length_le (Nat.le_refl _)] at hval
      have hlv := valL_length hval
      have HV2 := Lib.hid (show valT bd self x = (if isT x sAdd 2 then sumO (vs.getD 1 zeroT) (vs.getD 2 zeroT) else some (tupT vs)) by rw [HV.out, hval]; rfl)
      have hcr : wr.cell? ⟨w.heap.size, 0, none⟩ = some (.int .i64 x.kind) ∧ wr.cell? ⟨w.heap.size, 1, none⟩ = some (.int .i64 x.n) ∧ wr.cell? ⟨w.heap.size, 2, none⟩ = some (.string x.name) ∧ wr.cell? ⟨w.heap.size, 3, none⟩ = some (.slice a x.args.length cap) := by
        have r := fun o => hB.cell (p := ⟨w.heap.size, o, none⟩) g3
        rw [r, r, r, r]; exact hc3
      have hzr : wr.cell? ⟨w.heap.size + 1, 0, none⟩ = some (.int .i64 0) ∧ wr.cell? ⟨w.heap.size + 1, 1, none⟩ = some (.int .i64 0) ∧ wr.cell? ⟨w.heap.size + 1, 2, none⟩ = some (.string ⟨#[]⟩) ∧ wr.cell? ⟨w.heap.size + 1, 3, none⟩ = some (.slice none 0 0) := by
        have r := fun o => hB.cell (p := ⟨w.heap.size + 1, o, none⟩) g4
        rw [r, r, r, r]; exact hz3
      have hfr : ∀ o, wr.frozen? ⟨w.heap.size + 1, o, none⟩ = false := fun o => by rw [hB.frozen (p := ⟨w.heap.size + 1, o, none⟩) g4]; exact hfz o
      obtain ⟨x0, x1, x2, x3⟩ := hcr
      obtain ⟨y0, y1, y2, y3⟩ := hzr
      clear hc3 hz3 hfz hcB
      have hn1 : w.heap.size < wr.heap.size := by omega
      have hn2 : w.heap.size + 1 < wr.heap.size := by omega
      have hn3 : w2.heap.size < wr.heap.size := by omega
      go_wp2_with fail
      refine (is_ris x sAdd 2 S _ _ (HX.out.below HBr.out) (by omega) (by omega) (by omega)).mono ?_
      rintro e w5 ⟨rfl, hB5⟩
      have hs5 := hB5.size
      obtain ⟨hcc5, hff5⟩ := bcell hB5
      have HB5 := Lib.hid (below_step HBr.out (by omega) hB5)
      have HT5 := Lib.hid (HT.out.below hB5)
      obtain ⟨a5, cap5, hrow, hcap5, hr5⟩ := HT5.out.rsl (fun b hb => .inr hb)
      subst hrow
      have HT6 := Lib.hid hr5; clear hr5
      have hn4 : w.heap.size + 1 < w5.heap.size := by omega
      cases hadd : isT x sAdd 2
      · rw [hadd] at HV2
        go_wp2_with fail
        refine bodyPost_ret (v := .tuple #[.agg #[.int .i64 4, .int .i64 0, .string ⟨#[]⟩, .slice a5 vs.length cap5], .bool true]) (by simp [results, Try.results63, go_sem, hcc5, hn2, y0, y1, y2, y3, hlv]) rfl (VPost.of (tupT vs) _ _ rfl ?_ ?_ HV2.out)
        · repeat refine Below.setCell ?_ (by simp <;> omega) _
          exact HB5.out
        · refine RT.mono (S := fun b => S b ∨ w2.heap.size + 1 ≤ b) ?_ fun b hb => by rcases hb with hb | hb; exact .inl hb; exact .inr (by omega)
          repeat refine RT.slot ?_ _ _ _ (fun b hb => by rcases hb with hb | hb; (have := hS b hb; omega); omega)
          exact ⟨a5, cap5, rfl, hcap5, HT6.out⟩
      · rw [hadd] at HV2
        have hln := isT_length hadd
        obtain ⟨b5, o5, rfl⟩ := HT6.out.addr (by omega)
        obtain ⟨a6, cap6, hS6, d0, d1, d2, d3, hE6⟩ := HT6.out.elem 1 (by omega)
        obtain ⟨a7, cap7, hS7, e0, e1, e2, e3, hE7⟩ := HT6.out.elem 2 (by omega)
        have hv1 : vs.getD 1 zeroT = vs[1]'(by omega) := by simp [List.getD, show 1 < vs.length by omega]
        have hv2 : vs.getD 2 zeroT = vs[2]'(by omega) := by simp [List.getD, show 2 < vs.length by omega]
        rw [hv1, hv2] at HV2
        clear hv1 hv2
        simp only [Nat.one_mul] at d0 d1 d2 d3
        generalize vs[1] = t1 at *
        generalize vs[2] = t2 at *
        have hn5 : b5 < w5.heap.size := by rcases hS6 with h | h; (have := hS _ h; omega); exact World.block_lt_of_cell? w5 _ d0
        have hn6 : w2.heap.size < w5.heap.size := by omega
        have hn7 : w2.heap.size < w5.heap.size + 1 := by omega
        have hn8 : b5 < w5.heap.size + 1 := by omega
        have hl5 : (1 : Int) < vs.length := by omega
        have hl6 : (2 : Int) < vs.length := by omega
        have HSM := Lib.hid (show sumO t1 t2 = if sumB t1 t2 then some (numT (sumN t1 t2)) else none from rfl)
        have q3 : w5.cell? ⟨w2.heap.size, 3, none⟩ = some (.slice (some ⟨b5, o5, none⟩) vs.length cap5) := by rw [hcc5 _ _ hn3]; exact f3
        have yy : w5.cell? ⟨w.heap.size + 1, 0, none⟩ = some (.int .i64 0) ∧ w5.cell? ⟨w.heap.size + 1, 1, none⟩ = some (.int .i64 0) ∧ w5.cell? ⟨w.heap.size + 1, 2, none⟩ = some (.string ⟨#[]⟩) ∧ w5.cell? ⟨w.heap.size + 1, 3, none⟩ = some (.slice none 0 0) := by
          rw [hcc5 _ _ hn2, hcc5 _ _ hn2, hcc5 _ _ hn2, hcc5 _ _ hn2]; exact ⟨y0, y1, y2, y3⟩
        have yf : ∀ o, w5.frozen? ⟨w.heap.size + 1, o, none⟩ = false := fun o => by rw [hff5 _ _ hn2]; exact hfr o
        have hq0 : w5.cell? ⟨w2.heap.size, 3, none⟩ = some (.slice (some ⟨b5, o5, none⟩) vs.length cap5) ∧ w5.cell? ⟨b5, o5 + 4, none⟩ = some (.int .i64 t1.kind) ∧ w5.cell? ⟨b5, o5 + 4 + 1, none⟩ = some (.int .i64 t1.n) ∧ w5.cell? ⟨b5, o5 + 4 + 2, none⟩ = some (.string t1.name) ∧ w5.cell? ⟨b5, o5 + 4 + 3, none⟩ = some (.slice a6 t1.args.length cap6) ∧ w5.cell? ⟨b5, o5 + 2 * 4, none⟩ = some (.int .i64 t2.kind) ∧ w5.cell? ⟨b5, o5 + 2 * 4 + 1, none⟩ = some (.int .i64 t2.n) ∧ w5.cell? ⟨b5, o5 + 2 * 4 + 2, none⟩ = some (.string t2.name) ∧ w5.cell? ⟨b5, o5 + 2 * 4 + 3, none⟩ = some (.slice a7 t2.args.length cap7) := ⟨q3, d0, d1, d2, d3, e0, e1, e2, e3⟩
        have hq : ∀ w3 : World, Below w5.drew.heap.size w5.drew w3 → w3.cell? ⟨w2.heap.size, 3, none⟩ = some (.slice (some ⟨b5, o5, none⟩) vs.length cap5) ∧ w3.cell? ⟨b5, o5 + 4, none⟩ = some (.int .i64 t1.kind) ∧ w3.cell? ⟨b5, o5 + 4 + 1, none⟩ = some (.int .i64 t1.n) ∧ w3.cell? ⟨b5, o5 + 4 + 2, none⟩ = some (.string t1.name) ∧ w3.cell? ⟨b5, o5 + 4 + 3, none⟩ = some (.slice a6 t1.args.length cap6) ∧ w3.cell? ⟨b5, o5 + 2 * 4, none⟩ = some (.int .i64 t2.kind) ∧ w3.cell? ⟨b5, o5 + 2 * 4 + 1, none⟩ = some (.int .i64 t2.n) ∧ w3.cell? ⟨b5, o5 + 2 * 4 + 2, none⟩ = some (.string t2.name) ∧ w3.cell? ⟨b5, o5 + 2 * 4 + 3, none⟩ = some (.slice a7 t2.args.length cap7) := fun w3 h => by
          obtain ⟨q, -⟩ := bcell h
          rw [q _ _ hn6, q _ _ hn5, q _ _ hn5, q _ _ hn5, q _ _ hn5, q _ _ hn5, q _ _ hn5, q _ _ hn5, q _ _ hn5]; exact hq0
        have hz : ∀ w3 : World, Below w5.drew.heap.size w5.drew w3 → (∀ o, w3.frozen? ⟨w.heap.size + 1, o, none⟩ = false) ∧ w3.cell? ⟨w.heap.size + 1, 0, none⟩ = some (.int .i64 0) ∧ w3.cell? ⟨w.heap.size + 1, 1, none⟩ = some (.int .i64 0) ∧ w3.cell? ⟨w.heap.size + 1, 2, none⟩ = some (.string ⟨#[]⟩) ∧ w3.cell? ⟨w.heap.size + 1, 3, none⟩ = some (.slice none 0 0) := fun w3 h => by
          obtain ⟨q, r⟩ := bcell h
          refine ⟨fun o => by rw [r _ _ hn4]; exact yf o, ?_⟩
          rw [q _ _ hn4, q _ _ hn4, q _ _ hn4, q _ _ hn4]; exact yy
        have hbn1 : b5 ≠ w.heap.size + 1 := by rcases hS6 with h | h; (have := hS _ h; omega); omega
        have hbn2 : w2.heap.size ≠ w.heap.size + 1 := by omega
        have hkeep : ∀ (w4 : World) (u0 u1 u2 u3 : Value), Below w5.drew.heap.size w5.drew w4 → (fun w' : World => w'.cell? ⟨w2.heap.size, 3, none⟩ = some (.slice (some ⟨b5, o5, none⟩) vs.length cap5) ∧ w'.cell? ⟨b5, o5 + 4, none⟩ = some (.int .i64 t1.kind) ∧ w'.cell? ⟨b5, o5 + 4 + 1, none⟩ = some (.int .i64 t1.n) ∧ w'.cell? ⟨b5, o5 + 4 + 2, none⟩ = some (.string t1.name) ∧ w'.cell? ⟨b5, o5 + 4 + 3, none⟩ = some (.slice a6 t1.args.length cap6) ∧ w'.cell? ⟨b5, o5 + 2 * 4, none⟩ = some (.int .i64 t2.kind) ∧ w'.cell? ⟨b5, o5 + 2 * 4 + 1, none⟩ = some (.int .i64 t2.n) ∧ w'.cell? ⟨b5, o5 + 2 * 4 + 2, none⟩ = some (.string t2.name) ∧ w'.cell? ⟨b5, o5 + 2 * 4 + 3, none⟩ = some (.slice a7 t2.args.length cap7)) ((((w4.setCell ⟨w.heap.size + 1, 0, none⟩ u0).setCell ⟨w.heap.size + 1, 1, none⟩ u1).setCell ⟨w.heap.size + 1, 2, none⟩ u2).setCell ⟨w.heap.size + 1, 3, none⟩ u3) := fun w4 u0 u1 u2 u3 h => by
          have e : ∀ b' o', b' ≠ w.heap.size + 1 → ((((w4.setCell ⟨w.heap.size + 1, 0, none⟩ u0).setCell ⟨w.heap.size + 1, 1, none⟩ u1).setCell ⟨w.heap.size + 1, 2, none⟩ u2).setCell ⟨w.heap.size + 1, 3, none⟩ u3).cell? ⟨b', o', none⟩ = w4.cell? ⟨b', o', none⟩ := fun b' o' hne => by
            refine World.cell?_of_block ?_
            simp only [setCell_other _ _ _ _ _ hne]
          simp only [e _ _ hbn1, e _ _ hbn2]
          exact hq _ h
        simp only [] at hkeep
        have HE6 := Lib.hid (hE6.below (Below.drew (Below.refl w5.heap.size w5)))
        have HE7 := Lib.hid (hE7.below (Below.drew (Below.refl w5.heap.size w5)))
        clear x0 x1 x2 x3 y0 y1 y2 y3 hcc5 hff5 hfr f0 f1 f2 f3 hf8 HX HR HBD IH hB hB5 HT HT5 HT6 HVL HB1 HB2 HBr HV hn1 hn2 hn3 hE6 hE7
        go_wp2_with fail
        go_region_held3 (fun w' => w'.cell? ⟨w2.heap.size, 3, none⟩ = some (.slice (some ⟨b5, o5, none⟩) vs.length cap5) ∧ w'.cell? ⟨b5, o5 + 4, none⟩ = some (.int .i64 t1.kind) ∧ w'.cell? ⟨b5, o5 + 4 + 1, none⟩ = some (.int .i64 t1.n) ∧ w'.cell? ⟨b5, o5 + 4 + 2, none⟩ = some (.string t1.name) ∧ w'.cell? ⟨b5, o5 + 4 + 3, none⟩ = some (.slice a6 t1.args.length cap6) ∧ w'.cell? ⟨b5, o5 + 2 * 4, none⟩ = some (.int .i64 t2.kind) ∧ w'.cell? ⟨b5, o5 + 2 * 4 + 1, none⟩ = some (.int .i64 t2.n) ∧ w'.cell? ⟨b5, o5 + 2 * 4 + 2, none⟩ = some (.string t2.name) ∧ w'.cell? ⟨b5, o5 + 2 * 4 + 3, none⟩ = some (.slice a7 t2.args.length cap7))
          (first | exact hq0 | exact hq _ hBB | exact hkeep _ _ _ _ _ hBB | go_keep)
          (first
            | (go_at_call 99; refine (sum_c t1 t2 _ _ _ _ _ HE6.out HE7.out).mono ?_; rintro e wc ⟨rfl, hBB⟩; obtain ⟨z0, z1, z2, z3, z4⟩ := hz _ hBB; obtain ⟨y0, y1, y2, y3, y4, y5, y6, y7, y8⟩ := hq _ hBB))
        go_wp2_with fail
        refine bodyPost_ret (v := .tuple #[.agg #[.int .i64 1, .int .i64 (sumN t1 t2), .string ⟨#[]⟩, .slice none 0 0], .bool (sumB t1 t2)]) (by simp [results, Try.results63, go_sem, z1, z2, z3, z4]) rfl (VPost.of (numT (sumN t1 t2)) _ _ rfl ?_ (numT_rt _ _ _) (by rw [HV2.out]; simp [HSM.out]))
        repeat refine Below.setCell ?_ (by simp <;> omega) _
        exact below_step HB5.out.drew (by simp; omega) hBB
end
end Go.Proofs.Ytedfepnekjjmnaa
