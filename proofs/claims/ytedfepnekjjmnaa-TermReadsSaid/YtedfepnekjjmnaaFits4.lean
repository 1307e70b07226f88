/-
  match.fits on tuples, and in all.
-/
import Derived.Test.YtedfepnekjjmnaaFits
namespace Go.Proofs.Ytedfepnekjjmnaa
open Go.RowKit
set_option linter.unusedSimpArgs false
set_option linter.unusedVariables false
section
variable {p t : T} {S : Nat → Prop} {base g cap : Nat} {w : World} {vp vt : Value} {bd : List T}
set_option maxHeartbeats 4000000 in
set_option maxRecDepth 100000 in
theorem fits_4 (hp : RT S w p vp) (ht : RT S w t vt) (ho : OwnG (fun b => base ≤ b) base w (.slice (some ⟨g, 0, none⟩) 4 cap) bd) (hbs : base ≤ w.heap.size) (hS : ∀ b, S b → b < base) (hbp : bulkL [p] ≤ 1099511627776) (hbt : bulkL [t] ≤ 1099511627776) (hk : p.kind = 4)
    (ih : ∀ (j : Nat) (h1 : j < p.args.length) (h2 : j < t.args.length) (W : World) (vp vt : Value), RT S W p.args[j] vp → RT S W t.args[j] vt → OwnG (fun b => base ≤ b) base W (.slice (some ⟨g, 0, none⟩) 4 cap) (fitL (p.args.take j) (t.args.take j) bd).2 → base ≤ W.heap.size →
      Calls Try.prog 71 #[vp, vt, .slice (some ⟨g, 0, none⟩) 4 cap] W (FPost base g cap W (fitT p.args[j] t.args[j] (fitL (p.args.take j) (t.args.take j) bd).2))) :
    Calls Try.prog 71 #[vp, vt, .slice (some ⟨g, 0, none⟩) 4 cap] w (FPost base g cap w (fitT p t bd)) := by
  obtain ⟨a, capp, rfl, hcap, hr⟩ := hp
  obtain ⟨a2, cap2, rfl, hcap2, hr2⟩ := ht
  have HP : Hid (RTs S w p.args a 0) := Lib.hid hr
  have HT : Hid (RTs S w t.args a2 0) := Lib.hid hr2
  clear hcap hr hcap2 hr2
  have hba := bulk_args p
  have hbb := bulk_args t
  have hla := length_le_bulk p.args
  have hlb := length_le_bulk t.args
  have IH := Lib.hid ih; clear ih
  have hg := ho.block g rfl
  have hg1 := hg.1
  have hg2 := hg.2
  have HO := Lib.hid ho; clear ho hg
  have h4 : (p.kind == 4) = true := by simp [hk]
  have h5 : (p.kind == 5) = false := by simp [hk]
  have h6 : (p.kind == 6) = false := by simp [hk]
  have h1 : w.heap.size < w.heap.size + 1 + 1 := by omega
  have HKB : Hid (∀ o1 o2, Keep (fun b => b = g) w ((w.alloc o1).alloc o2)) := Lib.hid fun o1 o2 => ((Keep.refl _ _).alloc _).alloc _
  by_cases hkt : t.kind = 4
  · have h7 : (t.kind != 4) = false := by simp [hkt]
    by_cases hl : p.args.length = t.args.length
    · have HF := Lib.hid (fitT_4a (b := bd) hk hkt hl)
      have HL := Lib.hid hl
      have hl1 : p.args.length ≤ t.args.length := by omega
      have hl2 : t.args.length ≤ p.args.length := by omega
      have hln : ((p.args.length : Int) != t.args.length) = false := by simp [hl]
      clear hk hkt hl
      go_enter Try.func71, Try.ntmps71
      go_wp2_with fail
      go_loopw [51] (fun i wr => ∃ k : Nat, k ≤ p.args.length ∧ i = .int .i64 k ∧ (fitL (p.args.take k) (t.args.take k) bd).1 = true ∧ OwnG (fun b => base ≤ b) base wr (.slice (some ⟨g, 0, none⟩) 4 cap) (fitL (p.args.take k) (t.args.take k) bd).2 ∧ Keep (fun b => b = g) w wr ∧ w.heap.size + 1 < wr.heap.size ∧
          wr.cell? ⟨w.heap.size, 3, none⟩ = some (.slice a p.args.length capp) ∧ wr.cell? ⟨w.heap.size + 1, 3, none⟩ = some (.slice a2 t.args.length cap2)) (fun i _ => p.args.length - (intOf i).toNat)
      case atStart => exact ⟨0, Nat.zero_le _, rfl, by rw [List.take_zero, fitL_nil], by rw [List.take_zero, fitL_nil]; exact (HO.out.alloc _).alloc _, HKB.out _ _, by simp, by go_simp, by go_simp⟩
      case round =>
        obtain ⟨k, hkx, rfl, hok, hown, hK, hsw, x3, y3⟩ := hrel
        have HOK := Lib.hid hok; clear hok
        have HOW := Lib.hid hown; clear hown
        have HK := Lib.hid hK
        have hs0 : w.heap.size < wr.heap.size := by omega
        clear hK
        by_cases hlt : k < p.args.length
        · obtain ⟨b, o, rfl⟩ := HP.out.addr (by omega)
          obtain ⟨b2, o2, rfl⟩ := HT.out.addr (by omega)
          have hlt2 : k < t.args.length := by omega
          have hSg : ∀ b, S b → ¬ b = g := fun b hb => by have := hS b hb; omega
          obtain ⟨a', cap', hSb, d0, d1, d2, d3, hE⟩ := (HP.out.keep HK.out hSg).elem k hlt
          obtain ⟨a2', cap2', hSb2, e0, e1, e2, e3, hE2⟩ := (HT.out.keep HK.out hSg).elem k hlt2
          have HSN := Lib.hid (fitL_snoc HOK.out hlt hlt2)
          have HFL := Lib.hid (fitL_fail HOK.out hlt hlt2)
          have hk0 : (0 : Int) ≤ (k : Int) := Int.natCast_nonneg _
          have hk1 : (k : Int) < (p.args.length : Int) := by omega
          have hk2 : (k : Int) < (t.args.length : Int) := by omega
          have HC := Lib.hid (fun W (hW : Below wr.heap.size wr W) => IH.out k hlt hlt2 W _ _ (hE.below hW) (hE2.below hW) (HOW.out.below hW) (by have := hW.size; omega))
          clear hE hE2
          have hb1 : b < wr.heap.size := World.block_lt_of_cell? wr _ d0
          have hb2 : b2 < wr.heap.size := World.block_lt_of_cell? wr _ e0
          generalize p.args[k] = xx at *
          generalize t.args[k] = yy at *
          have HQ : Hid (∀ w1, Keep (fun b => b = g) wr.drew w1 → w1.cell? ⟨w.heap.size, 3, none⟩ = some (.slice (some ⟨b, o, none⟩) p.args.length capp) ∧ w1.cell? ⟨w.heap.size + 1, 3, none⟩ = some (.slice (some ⟨b2, o2, none⟩) t.args.length cap2) ∧
              w1.cell? ⟨b, o + k * 4, none⟩ = some (.int .i64 xx.kind) ∧ w1.cell? ⟨b, o + k * 4 + 1, none⟩ = some (.int .i64 xx.n) ∧ w1.cell? ⟨b, o + k * 4 + 2, none⟩ = some (.string xx.name) ∧ w1.cell? ⟨b, o + k * 4 + 3, none⟩ = some (.slice a' xx.args.length cap') ∧
              w1.cell? ⟨b2, o2 + k * 4, none⟩ = some (.int .i64 yy.kind) ∧ w1.cell? ⟨b2, o2 + k * 4 + 1, none⟩ = some (.int .i64 yy.n) ∧ w1.cell? ⟨b2, o2 + k * 4 + 2, none⟩ = some (.string yy.name) ∧ w1.cell? ⟨b2, o2 + k * 4 + 3, none⟩ = some (.slice a2' yy.args.length cap2')) := Lib.hid fun w1 hK1 => by
            have hSg1 := hS b hSb
            have hSg2 := hS b2 hSb2
            have q := fun b' o' (h : b' < wr.heap.size) (h' : b' ≠ g) => hK1.cell b' o' h h'
            rw [q _ _ hs0 (by omega), q _ _ hsw (by omega), q _ _ hb1 (by omega), q _ _ hb1 (by omega), q _ _ hb1 (by omega), q _ _ hb1 (by omega), q _ _ hb2 (by omega), q _ _ hb2 (by omega), q _ _ hb2 (by omega), q _ _ hb2 (by omega)]
            exact ⟨x3, y3, d0, d1, d2, d3, e0, e1, e2, e3⟩
          go_wp2_with fail
          go_region_held3 (fun w' => w'.cell? ⟨w.heap.size, 3, none⟩ = some (.slice (some ⟨b, o, none⟩) p.args.length capp) ∧ w'.cell? ⟨w.heap.size + 1, 3, none⟩ = some (.slice (some ⟨b2, o2, none⟩) t.args.length cap2) ∧
              w'.cell? ⟨b, o + k * 4, none⟩ = some (.int .i64 xx.kind) ∧ w'.cell? ⟨b, o + k * 4 + 1, none⟩ = some (.int .i64 xx.n) ∧ w'.cell? ⟨b, o + k * 4 + 2, none⟩ = some (.string xx.name) ∧ w'.cell? ⟨b, o + k * 4 + 3, none⟩ = some (.slice a' xx.args.length cap') ∧
              w'.cell? ⟨b2, o2 + k * 4, none⟩ = some (.int .i64 yy.kind) ∧ w'.cell? ⟨b2, o2 + k * 4 + 1, none⟩ = some (.int .i64 yy.n) ∧ w'.cell? ⟨b2, o2 + k * 4 + 2, none⟩ = some (.string yy.name) ∧ w'.cell? ⟨b2, o2 + k * 4 + 3, none⟩ = some (.slice a2' yy.args.length cap2'))
            (first | exact ⟨z0, z1, z2, z3, z4, z5, z6, z7, z8, z9⟩ | go_keep)
            (first | (go_at_call 71; refine (HC.out _ ?_).mono ?_; (repeat' (first | exact Below.refl _ _ | apply Below.drew | refine Below.alloc ?_ (by simp <;> omega) _)); rintro e w1 ⟨rfl, hK1, ho1⟩; obtain ⟨z0, z1, z2, z3, z4, z5, z6, z7, z8, z9⟩ := HQ.out _ hK1))
          have hs1 : wr.heap.size ≤ w1.heap.size := hK1.size
          have HK1 := Lib.hid (HK.out.drew.trans hK1)
          have HO1 := Lib.hid ho1; clear ho1 hK1
          cases hz : (fitT xx yy (fitL (p.args.take k) (t.args.take k) bd).2).1
          · have HZ := Lib.hid (HFL.out hz)
            go_wp2_with fail
            go_ret
            rw [HF.out, HZ.out]
            exact ⟨ret_bool (by rw [hz]), HK1.out, HO1.out⟩
          · have HZ := Lib.hid hz; clear hz
            go_wp2_with fail
            go_roundw
            case rel => exact ⟨k + 1, by omega, by go_num, by rw [HSN.out, HZ.out], by rw [HSN.out]; exact HO1.out, HK1.out, by omega, z0, z1⟩
            case measure => simp [intOf]; omega
        · have hkk : k = p.args.length := by omega
          subst hkk
          go_wp2_with fail
          go_ret
          have h := HOW.out
          have h' := HOK.out
          rw [List.take_length, HL.out, List.take_length] at h h'
          rw [HF.out]
          exact ⟨ret_bool (by rw [h']), HK.out, h⟩
    · have HF := Lib.hid (fitT_4b (t := t) (b := bd) hk (fun h => hl h.2))
      have hln : ((p.args.length : Int) != t.args.length) = true := by simp; omega
      clear hk hkt hl
      go_enter Try.func71, Try.ntmps71
      go_wp2_with fail
      go_ret
      rw [HF.out]
      exact ⟨rfl, HKB.out _ _, (HO.out.alloc _).alloc _⟩
  · have h7 : (t.kind != 4) = true := by simpa using hkt
    have HF := Lib.hid (fitT_4b (t := t) (b := bd) hk (fun h => hkt h.1))
    clear hk hkt
    go_enter Try.func71, Try.ntmps71
    go_wp2_with fail
    go_ret
    rw [HF.out]
    exact ⟨rfl, HKB.out _ _, (HO.out.alloc _).alloc _⟩
end

theorem fitT_bulk (M : Nat) (p t : T) (b : List T) (ht : bulkL [t] ≤ M) (hb : ∀ y ∈ b, bulkL [y] ≤ M) : ∀ y ∈ (fitT p t b).2, bulkL [y] ≤ M := by
  have key : ∀ m (ps ts b : List T), bulkL ps ≤ m → (∀ y ∈ ts, bulkL [y] ≤ M) → (∀ y ∈ b, bulkL [y] ≤ M) → ∀ y ∈ (fitL ps ts b).2, bulkL [y] ≤ M := by
    intro m
    induction m with
    | zero =>
      intro ps ts b hm _ hb
      cases ps with
      | nil => rw [fitL_nil]; exact hb
      | cons p ps => rw [bulkL_cons] at hm; omega
    | succ m ih =>
      intro ps ts b hm hts hb
      cases ps with
      | nil => rw [fitL_nil]; exact hb
      | cons p ps =>
        cases ts with
        | nil => rw [fitL]; exact hb; intro h; cases h
        | cons t ts =>
          rw [bulkL_cons] at hm
          have h1 : ∀ y ∈ (fitT p t b).2, bulkL [y] ≤ M := by
            have hta : ∀ y ∈ t.args, bulkL [y] ≤ M := fun y hy => by have h0 := hts t (by simp); have h1 := bulk_mem hy; have h2 := bulk_args t; omega
            have := ih p.args t.args b (by omega) hta hb
            unfold fitT fitH
            repeat' split
            all_goals first | exact hb | exact this | (intro y hy; rcases List.mem_or_eq_of_mem_set hy with hy | rfl; exact hb y hy; exact hts _ (by simp))
          rw [fitL_cons]
          split
          · exact ih ps ts _ (by omega) (fun y hy => hts y (by simp [hy])) h1
          · exact h1
  have := key _ [p] [t] b (Nat.le_refl _) (fun y hy => by simp at hy; subst hy; exact ht) hb
  rwa [fitL_one] at this
theorem fitL_bulk (M : Nat) : ∀ (ps ts b : List T), (∀ y ∈ ts, bulkL [y] ≤ M) → (∀ y ∈ b, bulkL [y] ≤ M) → ∀ y ∈ (fitL ps ts b).2, bulkL [y] ≤ M
  | [], ts, b, _, hb => by rw [fitL_nil]; exact hb
  | p :: ps, [], b, _, hb => by rw [fitL]; exact hb; intro h; cases h
  | p :: ps, t :: ts, b, ht, hb => by
    have h1 := fitT_bulk M p t b (ht t (by simp)) hb
    rw [fitL_cons]; split
    · exact fitL_bulk M ps ts _ (fun y hy => ht y (by simp [hy])) h1
    · exact h1
theorem fitL_length : ∀ (ps ts b : List T), (fitL ps ts b).2.length = b.length
  | [], ts, b => by rw [fitL_nil]
  | p :: ps, [], b => by rw [fitL]; intro h; cases h
  | p :: ps, t :: ts, b => by
    rw [fitL_cons]; split
    · rw [fitL_length ps ts _, fitT_length]
    · exact fitT_length p t b

theorem fits_c : ∀ (p t : T) (S : Nat → Prop) (base g cap : Nat) (w : World) (vp vt : Value) (bd : List T), RT S w p vp → RT S w t vt → OwnG (fun b => base ≤ b) base w (.slice (some ⟨g, 0, none⟩) 4 cap) bd → base ≤ w.heap.size → (∀ b, S b → b < base) → bd.length = 4 →
    bulkL [p] ≤ 1099511627776 → bulkL [t] ≤ 1099511627776 → (∀ y ∈ bd, bulkL [y] ≤ 1099511627776) → formL [p] = true →
    Calls Try.prog 71 #[vp, vt, .slice (some ⟨g, 0, none⟩) 4 cap] w (FPost base g cap w (fitT p t bd)) := by
  intro p
  induction p using T.ind with
  | h p ih =>
    intro t S base g cap w vp vt bd hp ht ho hbs hS hl hbp hbt hbb hf
    by_cases h6 : p.kind = 6
    · exact fits_6 hp ht ho hbs h6
    by_cases h5 : p.kind = 5
    · exact fits_5 hp ht ho hbs hS hl hbt hbb h5 (form_var hf h5)
    by_cases h4 : p.kind = 4
    · refine fits_4 hp ht ho hbs hS hbp hbt h4 fun j h1 h2 W vp vt g1 g2 g3 g4 => ih _ (List.getElem_mem h1) _ S base g cap W vp vt _ g1 g2 g3 g4 hS (by rw [fitL_length]; exact hl) ?_ ?_ ?_ (form_args hf (List.getElem_mem h1))
      · have := bulk_at h1; have := bulk_args p; omega
      · have := bulk_at h2; have := bulk_args t; omega
      · exact fitL_bulk _ _ _ _ (fun y hy => by have := bulk_mem (List.mem_of_mem_take hy); have := bulk_args t; omega) hbb
    · exact fits_o hp ht ho hbs hbp hbt h4 h5 h6
end Go.Proofs.Ytedfepnekjjmnaa
