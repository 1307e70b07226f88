/-
  clerkref.Read: what reading a text answers. No condition but the greatest length.
-/
import Derived.Test.YtedfepnekjjmnaaBuilt2
import Derived.Test.YtedfepnekjjmnaaBulkP
import Derived.Test.YtedfepnekjjmnaaRCheck
import Derived.Test.YtedfepnekjjmnaaValC
namespace Go.Proofs.Ytedfepnekjjmnaa
open Go.RowKit
set_option linter.unusedSimpArgs false
set_option linter.unusedVariables false
set_option maxRecDepth 100000

theorem rrun_append : ∀ (ks ls : List Tok) (j d d' : Nat), rrun ks j d = .inr d' → rrun (ks ++ ls) j d = rrun ls (j + ks.length) d'
  | [], ls, j, d, d', h => by simp only [rrun, Sum.inr.injEq] at h; subst h; simp
  | k :: ks, ls, j, d, d', h => by
    simp only [rrun] at h
    split at h
    · cases h
    · rename_i hb
      simp only [List.cons_append, rrun, hb]
      rw [List.length_cons, show j + (ks.length + 1) = j + 1 + ks.length by omega]
      exact rrun_append ks ls (j + 1) _ d' h
theorem rrun_snoc {l : List Tok} {k d : Nat} (hk : k < l.length) (h : rrun (l.take k) 0 0 = .inr d) : rrun (l.take (k + 1)) 0 0 = if rbad l[k] k d then .inl k else .inr (rnext l[k] d) := by
  rw [take_snoc' l k hk, rrun_append _ _ _ _ _ h]
  simp only [rrun, List.length_take, Nat.min_eq_left (Nat.le_of_lt hk), Nat.zero_add]
theorem prun_bad {l : List Tok} {k d : Nat} (hk : k < l.length) (h : rrun (l.take k) 0 0 = .inr d) (hb : rbad l[k] k d = true) : prun l 0 [[]] = .inl k := by
  have h1 := rrun_snoc hk h
  rw [if_pos hb] at h1
  have h2 := ((runs_agree _ 0 0 _ sinv_start).1 k).2 h1
  rw [← List.take_append_drop (k + 1) l]
  exact prun_append_bad _ _ _ _ _ h2
theorem prun_end {l : List Tok} {d : Nat} (h : rrun l 0 0 = .inr d) : ∃ st, prun l 0 [[]] = .inr st ∧ SInv l.length st d := by
  cases hp : prun l 0 [[]] with
  | inl e => have := ((runs_agree l 0 0 _ sinv_start).1 e).1 hp; rw [h] at this; cases this
  | inr st =>
    obtain ⟨d', h1, h2⟩ := (runs_agree l 0 0 _ sinv_start).2 st hp
    rw [h] at h1
    simp only [Sum.inr.injEq] at h1
    subst h1
    exact ⟨st, rfl, by simpa using h2⟩
def RdP (s : ByteArray) (w : World) (e : Ending) (w' : World) : Prop :=
  ∃ v, e = .returned (.tuple #[v, .int .i64 (readA s).2.1, .int .i64 (readA s).2.2]) ∧ Below w.heap.size w w' ∧ RT (fun b => w.heap.size ≤ b) w' (readA s).1 v
theorem RdP.zero {s : ByteArray} {w w' : World} {e : Ending} {n m : Int} (ho : readA s = (zeroT, n, m)) (he : e = .returned (.tuple #[.agg #[.int .i64 0, .int .i64 0, .string ⟨#[]⟩, .slice none 0 0], .int .i64 n, .int .i64 m])) (hB : Below w.heap.size w w') : RdP s w e w' :=
  ⟨_, by rw [he, ho], hB, by rw [ho]; exact zeroT_rt _ _⟩
theorem RdP.some {s : ByteArray} {w w' : World} {e : Ending} {t : T} {v : Value} (ho : readA s = (t, 0, 0)) (he : e = .returned (.tuple #[v, .int .i64 0, .int .i64 0])) (hB : Below w.heap.size w w') (hr : RT (fun b => w.heap.size ≤ b) w' t v) : RdP s w e w' :=
  ⟨v, by rw [he, ho], hB, by rw [ho]; exact hr⟩
theorem readA_large {s : ByteArray} (h : 2048 < s.size) : readA s = (zeroT, 0, 2) := by rw [readA, if_pos h]
theorem readA_bad {s : ByteArray} {k : Nat} (h : ¬ 2048 < s.size) (hp : prun (toksS s (wst s s.size).1) 0 [[]] = .inl k) : readA s = (zeroT, (atI (wst s s.size).1).getD k 0, 3) := by rw [readA, if_neg h, hp]
theorem readA_open {s : ByteArray} {st : List (List T)} (h : ¬ 2048 < s.size) (hp : prun (toksS s (wst s s.size).1) 0 [[]] = .inr st) (hst : ∀ t, st ≠ [[t]]) : readA s = (zeroT, (s.size : Int), 3) := by
  rw [readA, if_neg h, hp]
  split
  · rename_i e; simp at e
  · rename_i t e; simp only [Sum.inr.injEq] at e; exact absurd e (hst t)
  · rfl
theorem readA_ok {s : ByteArray} {t : T} (h : ¬ 2048 < s.size) (hp : prun (toksS s (wst s s.size).1) 0 [[]] = .inr [[t]]) (hc : checkE t = 0) : readA s = (t, 0, 0) := by
  rw [readA, if_neg h, hp]; simp [hc]
theorem readA_no {s : ByteArray} {t : T} (h : ¬ 2048 < s.size) (hp : prun (toksS s (wst s s.size).1) 0 [[]] = .inr [[t]]) (hc : checkE t ≠ 0) : readA s = (zeroT, 0, checkE t) := by
  rw [readA, if_neg h, hp]; simp [hc]

theorem wst_pos (s : ByteArray) : ∀ k, ∀ p ∈ (wst s k).1, p.1 < p.2 ∧ p.2 ≤ k
  | 0, p, h => by simp [wst] at h
  | k + 1, p, h => by
    have ih := wst_pos s k
    by_cases h1 : atN s k = 32
    · rw [wst_space h1] at h; have := ih p h; omega
    by_cases h2 : atN s k = 40 ∨ atN s k = 41
    · rw [wst_paren h2] at h
      simp only [List.mem_append, List.mem_singleton] at h
      rcases h with h | rfl
      · have := ih p h; omega
      · simp
    have hsp : specB (atN s k) = false := by simp [specB]; omega
    cases hf : (wst s k).2
    · rw [wst_new hsp hf] at h
      simp only [List.mem_append, List.mem_singleton] at h
      rcases h with h | rfl
      · have := ih p h; omega
      · simp
    · obtain ⟨W, a, e, ha⟩ := wst_open s k hf
      rw [wst_more hsp e] at h
      rw [e] at ih
      simp only [List.mem_append, List.mem_singleton] at h ih
      rcases h with h | rfl
      · have := ih p (.inl h); omega
      · simp; omega
theorem words_pos (s : ByteArray) (hs : s.size ≤ 1048576) : ∀ x ∈ wsS s (wst s s.size).1, 0 < x.size ∧ x.size ≤ 1048576 := by
  intro x hx
  simp only [wsS, List.mem_map] at hx
  obtain ⟨p, hp, rfl⟩ := hx
  have := wst_pos s s.size p hp
  simp only [wordS, ByteArray.size_extract]
  omega
theorem tokB_lf' {w : ByteArray} (h0 : tokB w ≠ .op) (h1 : tokB w ≠ .cl) : (w.toList == [40]) = false ∧ (w.toList == [41]) = false ∧ tokB w = .lf (leafB w) (leafT w) := by
  have h := h0; have h' := h1
  unfold tokB at h h' ⊢
  split at h
  · exact absurd rfl h
  rename_i e1
  rw [if_neg e1] at h' ⊢
  split at h'
  · exact absurd rfl h'
  rename_i e2
  rw [if_neg e2]
  exact ⟨by simpa using e1, by simpa using e2, rfl⟩

set_option maxHeartbeats 4000000 in
theorem read_c (s : ByteArray) (w : World) (hs : s.size ≤ maxLen) : Calls Try.prog 25 #[.string s] w (RdP s w) := by
  by_cases h2 : 2048 < s.size
  · have HA := Lib.hid (readA_large h2)
    have hi : (2048 : Int) < s.size := by omega
    unfold maxLen at hs
    clear h2
    go_enter Try.func25, Try.ntmps25
    go_wp2_with fail
    refine bodyPost_ret (v := .tuple #[.agg #[.int .i64 0, .int .i64 0, .string ⟨#[]⟩, .slice none 0 0], .int .i64 0, .int .i64 2]) (by simp [results, Try.results25, go_sem]) rfl (RdP.zero HA.out rfl ?_)
    first | exact below_alloc _ _ | (repeat (refine Below.setCell ?_ (by simp <;> omega) _); exact below_alloc _ _)
  · have hs2 : s.size ≤ 2048 := by omega
    have hi : (s.size : Int) ≤ 2048 := by omega
    have HBAD := Lib.hid (@readA_bad s · h2)
    have HOPEN := Lib.hid (@readA_open s · h2)
    have HOK := Lib.hid (@readA_ok s · h2)
    have HNO := Lib.hid (@readA_no s · h2)
    have HBK := Lib.hid (@stack_bulk s s.size · hs2 (Nat.le_refl _))
    have HWP := Lib.hid (words_pos s (by omega))
    have hwl := wst_length s s.size
    clear h2 hs
    go_enter Try.func25, Try.ntmps25
    go_wp2_with fail
    refine (words_c s _ (by omega)).mono ?_
    rintro e w1 ⟨v1, v2, rfl, hB1, hS1, hI1⟩
    have hsw := hB1.size
    simp only [World.size_alloc] at hS1 hI1 hsw
    have HB1 : Hid (Below w.heap.size w w1) := Lib.hid (below_step (below_alloc _ _) (by simp) hB1)
    have z4 : w1.cell? ⟨w.heap.size, 0, none⟩ = some (.int .i64 0) ∧ w1.cell? ⟨w.heap.size, 1, none⟩ = some (.int .i64 0) ∧ w1.cell? ⟨w.heap.size, 2, none⟩ = some (.string ⟨#[]⟩) ∧ w1.cell? ⟨w.heap.size, 3, none⟩ = some (.slice none 0 0) := by
      have q := fun o => hB1.cell (p := ⟨w.heap.size, o, none⟩) (by simp)
      rw [q, q, q, q]; go_simp
    have z5 : ∀ o, w1.frozen? ⟨w.heap.size, o, none⟩ = false := fun o => by
      rw [hB1.frozen (p := ⟨w.heap.size, o, none⟩) (by simp)]; go_simp
    have HZ : Hid (Box w1 w.heap.size (.int .i64 0) (.int .i64 0) (.string ⟨#[]⟩) (.slice none 0 0) ∧ ∀ o, w1.frozen? ⟨w.heap.size, o, none⟩ = false) := Lib.hid ⟨z4, z5⟩
    clear hB1 z4 z5
    have hwp := HWP.out
    have htl : (toksS s (wst s s.size).1).length = (wsS s (wst s s.size).1).length := by simp [toksS]
    have hal : (atI (wst s s.size).1).length = (wsS s (wst s s.size).1).length := by simp [atI, wsS]
    have hwl2 : (wsS s (wst s s.size).1).length ≤ 2048 := by simp [wsS]; omega
    have htk : ∀ k (h : k < (wsS s (wst s s.size).1).length) (h' : k < (toksS s (wst s s.size).1).length), (toksS s (wst s s.size).1)[k] = tokB (wsS s (wst s s.size).1)[k] := fun k h h' => by simp [toksS]
    have hms : toksS s (wst s s.size).1 = (wsS s (wst s s.size).1).map tokB := rfl
    clear hwl HWP
    generalize atI (wst s s.size).1 = at' at *
    generalize toksS s (wst s s.size).1 = toks at *
    generalize wsS s (wst s s.size).1 = ws at *
    have HS1 := Lib.hid hS1
    have HI1 := Lib.hid hI1
    have HMS := Lib.hid hms
    have HTK := Lib.hid htk
    have HWP := Lib.hid hwp
    obtain ⟨a1, cap1, rfl⟩ := hS1.form
    obtain ⟨a2, cap2, rfl⟩ := hI1.form
    clear hS1 hI1 hms htk hwp
    go_wp2_with fail
    have hlz : w.heap.size < w1.heap.size := by omega
    go_loopw [7, 8] (fun dv iv wr => ∃ k d : Nat, k ≤ ws.length ∧ d ≤ k ∧ iv = .int .i64 k ∧ dv = .int .i64 d ∧ rrun (toks.take k) 0 0 = .inr d ∧ Below w1.heap.size w1 wr) (fun _ iv _ => ws.length - (intOf iv).toNat)
    case atStart => exact ⟨0, 0, Nat.zero_le _, Nat.le_refl _, rfl, rfl, rfl, Below.refl _ _⟩
    case round =>
      obtain ⟨k, d, hkn, hdk, rfl, rfl, hR, hB⟩ := hrel
      have HR := Lib.hid hR
      have hsz := hB.size
      have HBw := Lib.hid hB
      have HBr : Hid (Below w.heap.size w wr) := Lib.hid (HB1.out.trans (hB.mono (by omega)))
      obtain ⟨z0, z1, z2, z3⟩ := HZ.out.1.step hB
      have z5 := fun o => (hB.frozen (p := ⟨w.heap.size, o, none⟩) hlz).trans (HZ.out.2 o)
      clear hR hB
      by_cases hlt : k < ws.length
      · obtain ⟨b, o, rfl⟩ := HS1.out.addr (by omega)
        obtain ⟨b2, o2, rfl⟩ := HI1.out.addr (by omega)
        obtain ⟨hSb, hc⟩ := (HS1.out.below HBw.out).elem k hlt
        obtain ⟨hSb2, hc2⟩ := (HI1.out.below HBw.out).elem k (by omega)
        have hlk : k < toks.length := by omega
        have HT : Hid (toks[k] = tokB ws[k]) := Lib.hid (HTK.out k hlt hlk)
        have HSN := Lib.hid (rrun_snoc hlk HR.out)
        have HPB := Lib.hid (prun_bad hlk HR.out)
        have hik : (k : Int) < ws.length := by omega
        have hik2 : (k : Int) < at'.length := by omega
        have HWY := HWP.out ws[k] (List.getElem_mem hlt)
        have HAT : Hid ((at'.getD k 0 : Int) = at'[k]) := Lib.hid (by rw [List.getD_eq_getElem?_getD, List.getElem?_eq_getElem (by omega)]; rfl)
        generalize at'[k] = ak at *
        generalize ws[k] = y at *
        generalize toks[k] = tk at *
        have hkd : (0 < k ∧ d = 0) ∨ (k = 0 ∧ d = 0) ∨ (0 < k ∧ 0 < d) := by omega
        have hne1 : b2 ≠ w.heap.size := by omega
        have hne2 : w.heap.size ≠ b2 := by omega
        have hlw : w.heap.size < wr.heap.size := by omega
        have hlb2 : b2 < wr.heap.size := World.block_lt_of_cell? wr _ hc2
        by_cases hbad : rbad tk k d = true
        · have HA : Hid (readA s = (zeroT, ak, 3)) := Lib.hid (by rw [HBAD.out _ (HPB.out hbad), HAT.out])
          have hcase : ((tokB y = .op ∨ tokB y = .cl ∨ (tokB y ≠ .op ∧ tokB y ≠ .cl)) ∧ 0 < k ∧ d = 0) ∨ (tokB y = .cl ∧ k = 0 ∧ d = 0) ∨ (tokB y ≠ .op ∧ tokB y ≠ .cl ∧ leafB y = false ∧ ((k = 0 ∧ d = 0) ∨ (0 < k ∧ 0 < d))) := by
            rw [HT.out] at hbad
            by_cases h1 : tokB y = .op
            · rw [h1] at hbad ⊢; simp [rbad] at hbad ⊢; omega
            by_cases h2 : tokB y = .cl
            · rw [h2] at hbad ⊢; simp [rbad] at hbad ⊢; omega
            · rw [(tokB_lf' h1 h2).2.2] at hbad
              simp [rbad, h1, h2] at hbad ⊢
              rcases hkd with h | h | h <;> simp [h] at hbad ⊢ <;> omega
          clear hbad HSN HPB HR HAT
          have hfin : ∀ (W : World) (e : Ending), e = .returned (.tuple #[.agg #[.int .i64 0, .int .i64 0, .string ⟨#[]⟩, .slice none 0 0], .int .i64 ak, .int .i64 3]) → Below w.heap.size w W → RdP s w e W := fun W e he hB => RdP.zero HA.out he hB
          have HFIN := Lib.hid hfin
          have HFB := HBr
          clear hfin HA
          rcases hcase with ⟨ht, hk0, hd0⟩ | ⟨ht, hk0, hd0⟩ | ⟨ht1, ht2, hlf, hq⟩
          · have e1 : (0 : Int) < k := by omega
            have e2 : ((d : Int) == 0) = true := by simp [hd0]
            rcases ht with ht | ht | ⟨ht1, ht2⟩
            · have h40 := tokB_op ht
              have HH := Lib.hid ht
              have HD := Lib.hid hd0
              clear ht hd0 hkd hk0
              go_wp2_with fail
              go_region_held3 (fun w' => w'.cell? ⟨b2, o2 + k, none⟩ = some (.int .i64 ak)) (go_keep) (fail)
              all_goals go_wp2_with fail
              all_goals (refine bodyPost_ret (v := .tuple #[.agg #[.int .i64 0, .int .i64 0, .string ⟨#[]⟩, .slice none 0 0], .int .i64 ak, .int .i64 3]) (by simp [results, Try.results25, go_sem, z0, z1, z2, z3]) rfl (HFIN.out _ _ rfl ?_))
              all_goals (repeat (first | (with_reducible exact HFB.out) | (refine Below.setCell ?_ (by exact Nat.le_refl _) _) | (with_reducible refine Below.drew ?_) | (with_reducible refine Below.alloc ?_ (by simp <;> omega) _)))
            · obtain ⟨h40, h41⟩ := tokB_cl ht
              have HH := Lib.hid ht
              have HD := Lib.hid hd0
              clear ht hd0 hkd hk0
              go_wp2_with fail
              go_region_held3 (fun w' => w'.cell? ⟨b2, o2 + k, none⟩ = some (.int .i64 ak)) (go_keep) (fail)
              all_goals go_wp2_with fail
              all_goals (refine bodyPost_ret (v := .tuple #[.agg #[.int .i64 0, .int .i64 0, .string ⟨#[]⟩, .slice none 0 0], .int .i64 ak, .int .i64 3]) (by simp [results, Try.results25, go_sem, z0, z1, z2, z3]) rfl (HFIN.out _ _ rfl ?_))
              all_goals (repeat (first | (with_reducible exact HFB.out) | (refine Below.setCell ?_ (by exact Nat.le_refl _) _) | (with_reducible refine Below.drew ?_) | (with_reducible refine Below.alloc ?_ (by simp <;> omega) _)))
            · obtain ⟨h40, h41, -⟩ := tokB_lf' ht1 ht2
              have HD := Lib.hid hd0
              clear ht1 ht2 hd0 hkd hk0
              go_wp2_with fail
              refine (rleaf_c y _ HWY.1 (by omega)).mono ?_
              rintro e w2 ⟨lk, ln, lname, rfl, hB2, -⟩
              have HB2 := Lib.hid hB2
              have hs2' := hB2.size
              have HFB := Lib.hid (below_step HBr.out (by omega) hB2)
              obtain ⟨q0, q1, q2, q3⟩ := (show Box wr w.heap.size _ _ _ _ from ⟨z0, z1, z2, z3⟩).step hB2
              have q5 := fun o => (hB2.frozen (p := ⟨w.heap.size, o, none⟩) hlw).trans (z5 o)
              have q6 := (hB2.cell (p := ⟨b2, o2 + k, none⟩) hlb2).trans hc2
              have q7 : w.heap.size < w2.heap.size := by omega
              have q8 : b2 < w2.heap.size := by omega
              clear hB2 z0 z1 z2 z3 z5 hc2 hc
              go_wp2_with fail
              go_region_held3 (fun w' => w'.cell? ⟨b2, o2 + k, none⟩ = some (.int .i64 ak)) (go_keep) (fail)
              all_goals go_wp2_with fail
              all_goals (refine bodyPost_ret (v := .tuple #[.agg #[.int .i64 0, .int .i64 0, .string ⟨#[]⟩, .slice none 0 0], .int .i64 ak, .int .i64 3]) (by simp [results, Try.results25, go_sem, q0, q1, q2, q3, q7]) rfl (HFIN.out _ _ rfl ?_))
              all_goals (repeat (first | (with_reducible exact HFB.out) | (refine Below.setCell ?_ (by exact Nat.le_refl _) _) | (with_reducible refine Below.drew ?_) | (with_reducible refine Below.alloc ?_ (by simp <;> omega) _)))
          · obtain ⟨h40, h41⟩ := tokB_cl ht
            have e1 : (k : Int) ≤ 0 := by omega
            have e2 : ((d : Int) == 0) = true := by simp [hd0]
            have HH := Lib.hid ht
            have HD := Lib.hid hd0
            have HK := Lib.hid hk0
            clear ht hd0 hkd hk0
            go_wp2_with fail
            go_region_held3 (fun w' => w'.cell? ⟨b2, o2 + k, none⟩ = some (.int .i64 ak)) (go_keep) (fail)
            all_goals go_wp2_with fail
            all_goals (refine bodyPost_ret (v := .tuple #[.agg #[.int .i64 0, .int .i64 0, .string ⟨#[]⟩, .slice none 0 0], .int .i64 ak, .int .i64 3]) (by simp [results, Try.results25, go_sem, z0, z1, z2, z3]) rfl (HFIN.out _ _ rfl ?_))
            all_goals (repeat (first | (with_reducible exact HFB.out) | (refine Below.setCell ?_ (by exact Nat.le_refl _) _) | (with_reducible refine Below.drew ?_) | (with_reducible refine Below.alloc ?_ (by simp <;> omega) _)))
          · obtain ⟨h40, h41, -⟩ := tokB_lf' ht1 ht2
            clear ht1 ht2
            rcases hq with ⟨hk0, hd0⟩ | ⟨hk0, hd0⟩
            · have e1 : (k : Int) ≤ 0 := by omega
              have HD := Lib.hid hd0
              have HK := Lib.hid hk0
              clear hd0 hkd hk0
              go_wp2_with fail
              refine (rleaf_c y _ HWY.1 (by omega)).mono ?_
              rintro e w2 ⟨lk, ln, lname, rfl, hB2, -⟩
              have HB2 := Lib.hid hB2
              have hs2' := hB2.size
              have HFB := Lib.hid (below_step HBr.out (by omega) hB2)
              obtain ⟨q0, q1, q2, q3⟩ := (show Box wr w.heap.size _ _ _ _ from ⟨z0, z1, z2, z3⟩).step hB2
              have q5 := fun o => (hB2.frozen (p := ⟨w.heap.size, o, none⟩) hlw).trans (z5 o)
              have q6 := (hB2.cell (p := ⟨b2, o2 + k, none⟩) hlb2).trans hc2
              have q7 : w.heap.size < w2.heap.size := by omega
              have q8 : b2 < w2.heap.size := by omega
              clear hB2 z0 z1 z2 z3 z5 hc2 hc
              go_wp2_with fail
              go_region_held3 (fun w' => w'.cell? ⟨b2, o2 + k, none⟩ = some (.int .i64 ak)) (go_keep) (fail)
              all_goals go_wp2_with fail
              all_goals (refine bodyPost_ret (v := .tuple #[.agg #[.int .i64 0, .int .i64 0, .string ⟨#[]⟩, .slice none 0 0], .int .i64 ak, .int .i64 3]) (by simp [results, Try.results25, go_sem, q0, q1, q2, q3, q7]) rfl (HFIN.out _ _ rfl ?_))
              all_goals (repeat (first | (with_reducible exact HFB.out) | (refine Below.setCell ?_ (by exact Nat.le_refl _) _) | (with_reducible refine Below.drew ?_) | (with_reducible refine Below.alloc ?_ (by simp <;> omega) _)))
            · have e1 : (0 : Int) < k := by omega
              have e2 : ((d : Int) == 0) = false := by simp; omega
              clear hkd
              go_wp2_with fail
              refine (rleaf_c y _ HWY.1 (by omega)).mono ?_
              rintro e w2 ⟨lk, ln, lname, rfl, hB2, -⟩
              have HB2 := Lib.hid hB2
              have hs2' := hB2.size
              have HFB := Lib.hid (below_step HBr.out (by omega) hB2)
              obtain ⟨q0, q1, q2, q3⟩ := (show Box wr w.heap.size _ _ _ _ from ⟨z0, z1, z2, z3⟩).step hB2
              have q5 := fun o => (hB2.frozen (p := ⟨w.heap.size, o, none⟩) hlw).trans (z5 o)
              have q6 := (hB2.cell (p := ⟨b2, o2 + k, none⟩) hlb2).trans hc2
              have q7 : w.heap.size < w2.heap.size := by omega
              have q8 : b2 < w2.heap.size := by omega
              clear hB2 z0 z1 z2 z3 z5 hc2 hc
              go_wp2_with fail
              go_region_held3 (fun w' => w'.cell? ⟨b2, o2 + k, none⟩ = some (.int .i64 ak)) (go_keep) (fail)
              all_goals go_wp2_with fail
              all_goals (refine bodyPost_ret (v := .tuple #[.agg #[.int .i64 0, .int .i64 0, .string ⟨#[]⟩, .slice none 0 0], .int .i64 ak, .int .i64 3]) (by simp [results, Try.results25, go_sem, q0, q1, q2, q3, q7]) rfl (HFIN.out _ _ rfl ?_))
              all_goals (repeat (first | (with_reducible exact HFB.out) | (refine Below.setCell ?_ (by exact Nat.le_refl _) _) | (with_reducible refine Below.drew ?_) | (with_reducible refine Below.alloc ?_ (by simp <;> omega) _)))
        · have HFB := HBw
          by_cases h1 : tokB y = .op
          · have h40 := tokB_op h1
            have HNX : Hid (rrun (toks.take (k + 1)) 0 0 = .inr (d + 1)) := Lib.hid (by rw [HSN.out, if_neg hbad, HT.out, h1]; rfl)
            have hkd2 : (k = 0 ∧ d = 0) ∨ (0 < k ∧ 0 < d) := by
              rw [HT.out, h1] at hbad
              simp [rbad] at hbad
              omega
            have HH := Lib.hid h1
            clear h1 hkd hbad HSN HPB
            rcases hkd2 with ⟨hk0, hd0⟩ | ⟨hk0, hd0⟩
            · have e1 : (k : Int) ≤ 0 := by omega
              have hd1 : d + 1 ≤ k + 1 := by omega
              have HD := Lib.hid hd0
              have HK := Lib.hid hk0
              clear hd0 hk0
              go_wp2_with fail
              go_roundw
              case rel => exact ⟨k + 1, _, by omega, by omega, by go_num, by go_num, HNX.out, HFB.out⟩
              case measure => simp [intOf]; omega
            · have e1 : (0 : Int) < k := by omega
              have e2 : ((d : Int) == 0) = false := by simp; omega
              go_wp2_with fail
              go_roundw
              case rel => exact ⟨k + 1, _, by omega, by omega, by go_num, by go_num, HNX.out, HFB.out⟩
              case measure => simp [intOf]; omega
          by_cases h2 : tokB y = .cl
          · obtain ⟨h40, h41⟩ := tokB_cl h2
            have HNX : Hid (rrun (toks.take (k + 1)) 0 0 = .inr (d - 1)) := Lib.hid (by rw [HSN.out, if_neg hbad, HT.out, h2]; rfl)
            have hkd2 : (0 < k ∧ 0 < d) := by
              rw [HT.out, h2] at hbad
              simp [rbad] at hbad
              omega
            have HH := Lib.hid h2
            clear h1 h2 hkd hbad HSN HPB
            obtain ⟨hk0, hd0⟩ := hkd2
            have e1 : (0 : Int) < k := by omega
            have e2 : ((d : Int) == 0) = false := by simp; omega
            obtain ⟨d', rfl⟩ : ∃ d', d = d' + 1 := ⟨d - 1, by omega⟩
            rw [Nat.add_sub_cancel] at HNX
            go_wp2_with fail
            go_roundw
            case rel => exact ⟨k + 1, _, by omega, by omega, by go_num, by go_num, HNX.out, HFB.out⟩
            case measure => simp [intOf]; omega
          · obtain ⟨h40, h41, htok⟩ := tokB_lf' h1 h2
            have HNX : Hid (rrun (toks.take (k + 1)) 0 0 = .inr d) := Lib.hid (by rw [HSN.out, if_neg hbad, HT.out, htok]; rfl)
            have hkd2 : leafB y = true ∧ ((k = 0 ∧ d = 0) ∨ (0 < k ∧ 0 < d)) := by
              rw [HT.out, htok] at hbad
              simp [rbad] at hbad
              exact ⟨hbad.2, by omega⟩
            obtain ⟨hlf, hkd2⟩ := hkd2
            clear h1 h2 hkd hbad htok HSN HPB
            rcases hkd2 with ⟨hk0, hd0⟩ | ⟨hk0, hd0⟩
            · have e1 : (k : Int) ≤ 0 := by omega
              have HD := Lib.hid hd0
              have HK := Lib.hid hk0
              clear hd0 hk0
              go_wp2_with fail
              refine (rleaf_c y _ HWY.1 (by omega)).mono ?_
              rintro e w2 ⟨lk, ln, lname, rfl, hB2, -⟩
              have HFB := Lib.hid ((HBw.out.trans (hB2.mono (by omega))).alloc (by have := hB2.size; omega) (.cells #[.int .i64 lk, .int .i64 ln, .string lname, .slice none 0 0] 29))
              clear hB2 z0 z1 z2 z3 z5 hc2 hc
              go_wp2_with fail
              go_roundw
              case rel => exact ⟨k + 1, _, by omega, by omega, by go_num, by go_num, HNX.out, HFB.out⟩
              case measure => simp [intOf]; omega
            · have e1 : (0 : Int) < k := by omega
              have e2 : ((d : Int) == 0) = false := by simp; omega
              go_wp2_with fail
              refine (rleaf_c y _ HWY.1 (by omega)).mono ?_
              rintro e w2 ⟨lk, ln, lname, rfl, hB2, -⟩
              have HFB := Lib.hid ((HBw.out.trans (hB2.mono (by omega))).alloc (by have := hB2.size; omega) (.cells #[.int .i64 lk, .int .i64 ln, .string lname, .slice none 0 0] 29))
              clear hB2 z0 z1 z2 z3 z5 hc2 hc
              go_wp2_with fail
              go_roundw
              case rel => exact ⟨k + 1, _, by omega, by omega, by go_num, by go_num, HNX.out, HFB.out⟩
              case measure => simp [intOf]; omega
      · obtain ⟨st, hp, hst⟩ := prun_end (l := toks) (d := d) (by rw [← HR.out, List.take_of_length_le (by omega)])
        have hin : (ws.length : Int) ≤ k := by omega
        have hin2 : ¬ (k : Int) < ws.length := by omega
        by_cases hd0 : 0 < d
        · have e1 : (0 : Int) < d := by omega
          have HA := Lib.hid (HOPEN.out st hp fun t e => by have := hst.1; rw [e] at this; simp at this; omega)
          clear hp hst
          go_wp2_with fail
          refine bodyPost_ret (v := .tuple #[.agg #[.int .i64 0, .int .i64 0, .string ⟨#[]⟩, .slice none 0 0], .int .i64 s.size, .int .i64 3]) (by simp [results, Try.results25, go_sem, z0, z1, z2, z3]) rfl (RdP.zero HA.out rfl ?_)
          repeat (first | (with_reducible exact HBr.out) | (refine Below.setCell ?_ (by exact Nat.le_refl _) _))
        · have e1 : (d : Int) ≤ 0 := by omega
          have hd1 : d = 0 := by omega
          obtain ⟨b, hb, hbl⟩ := hst.2.1 hd1
          have HD := Lib.hid hd1
          clear hd1 hst hd0
          subst hb
          by_cases hw0 : ws.length = 0
          · have e2 : ((ws.length : Int) == 0) = true := by simp [hw0]
            have hb0 : b = [] := List.eq_nil_of_length_eq_zero (by rw [hbl, if_pos (by omega)])
            have HA := Lib.hid (HOPEN.out _ hp fun t e => by rw [hb0] at e; simp at e)
            have HW0 := Lib.hid hw0
            clear hp hbl hb0 hw0
            go_wp2_with fail
            refine bodyPost_ret (v := .tuple #[.agg #[.int .i64 0, .int .i64 0, .string ⟨#[]⟩, .slice none 0 0], .int .i64 s.size, .int .i64 3]) (by simp [results, Try.results25, go_sem, z0, z1, z2, z3]) rfl (RdP.zero HA.out rfl ?_)
            repeat (first | (with_reducible exact HBr.out) | (refine Below.setCell ?_ (by exact Nat.le_refl _) _))
          · have e2 : ((ws.length : Int) == 0) = false := by simpa using hw0
            obtain ⟨t, htb⟩ : ∃ t, b = [t] := List.length_eq_one_iff.1 (by rw [hbl, if_neg (by omega)])
            subst htb
            obtain ⟨t', hbt, ht'⟩ := built_of hp (fun e => by rw [e] at htl; simp at htl; omega)
            simp only [List.cons.injEq, and_true] at ht'
            subst ht'
            obtain ⟨m, hC⟩ := built_c ws (by omega) HWP.out t (by rw [← HMS.out]; exact hbt)
            have hbk := HBK.out [[t]] hp
            have hbk2 : bulkL [t] ≤ 5000000 := by simp only [stB] at hbk; omega
            have HOK1 := Lib.hid (HOK.out t hp)
            have HNO1 := Lib.hid (HNO.out t hp)
            have HC := Lib.hid hC
            clear hp hbl hbt hC hbk
            have HSW := Lib.hid (((HS1.out.to (S' := fun b => b < w1.heap.size) (fun _ _ h => h) (fun _ _ _ => rfl))).below HBw.out)
            go_wp2_with fail
            refine (HC.out _ wr _ HSW.out (fun b hb => by show b < _; have hb' : b < w1.heap.size := hb; omega)).mono ?_
            rintro e w2 ⟨v2, rfl, hB2, av, capv, rfl, hcv, hrv⟩
            have hs2' := hB2.size
            have HRV : Hid (RT (fun b => wr.heap.size ≤ b) w2 t (.agg #[.int .i64 t.kind, .int .i64 t.n, .string t.name, .slice av t.args.length capv])) := Lib.hid ⟨av, capv, rfl, hcv, hrv⟩
            have HQ := Lib.hid ((show Box wr w.heap.size _ _ _ _ from ⟨z0, z1, z2, z3⟩).step hB2)
            have HQ5 := Lib.hid (fun o => (hB2.frozen (p := ⟨w.heap.size, o, none⟩) (show w.heap.size < wr.heap.size by omega)).trans (z5 o))
            have HFB := Lib.hid (below_step HBr.out (by omega) hB2)
            clear hB2 hrv hcv z0 z1 z2 z3 z5
            have HRV3 := Lib.hid (HRV.out.alloc (.cells #[.int .i64 t.kind, .int .i64 t.n, .string t.name, .slice av t.args.length capv] 29))
            go_wp2_with fail
            refine (rcheck_c t _ _ _ (HRV3.out.to (S' := fun b => b < w2.heap.size + 1) (fun _ _ h => by simpa using h) (fun _ _ _ => rfl)) (fun b hb => by simpa using hb) (by omega)).mono ?_
            rintro e w3 ⟨rfl, hB3⟩
            have hs3 := hB3.size
            simp only [World.size_alloc] at hs3
            obtain ⟨q0, q1, q2, q3⟩ := ((HQ.out.alloc (.cells #[.int .i64 t.kind, .int .i64 t.n, .string t.name, .slice av t.args.length capv] 29)).step hB3)
            have q5 : ∀ o, w3.frozen? ⟨w.heap.size, o, none⟩ = false := fun o => by
              rw [hB3.frozen (p := ⟨w.heap.size, o, none⟩) (by simp; omega)]
              have := HQ5.out o
              have hlt : w.heap.size < w2.heap.size := by omega
              go_simp
            obtain ⟨y0, y1, y2, y3⟩ := (Box.new w2 (.int .i64 t.kind) (.int .i64 t.n) (.string t.name) (.slice av t.args.length capv) 29).step hB3
            have HFB3 := Lib.hid (below_step (HFB.out.alloc (by omega) (.cells #[.int .i64 t.kind, .int .i64 t.n, .string t.name, .slice av t.args.length capv] 29)) (by simp; omega) hB3)
            have HRV4 := Lib.hid (HRV3.out.below hB3)
            clear hB3
            by_cases hck : checkE t = 0
            · have e3 : (checkE t != 0) = false := by simp [hck]
              have HA := Lib.hid (HOK1.out hck)
              clear hck
              go_wp2_with fail
              refine bodyPost_ret (v := .tuple #[.agg #[.int .i64 t.kind, .int .i64 t.n, .string t.name, .slice av t.args.length capv], .int .i64 0, .int .i64 0]) (by simp [results, Try.results25, go_sem, q0, q1, q2, q3]) rfl (RdP.some HA.out rfl ?_ ?_)
              · repeat (first | (with_reducible exact HFB3.out) | (refine Below.setCell ?_ (by exact Nat.le_refl _) _))
              · refine RT.mono (S := fun b => wr.heap.size ≤ b) ?_ fun b hb => (by omega)
                repeat refine RT.slot ?_ _ _ _ (fun b hb => by omega)
                exact HRV4.out
            · have e3 : (checkE t != 0) = true := by simp [hck]
              have HA := Lib.hid (HNO1.out hck)
              clear hck
              go_wp2_with fail
              refine bodyPost_ret (v := .tuple #[.agg #[.int .i64 0, .int .i64 0, .string ⟨#[]⟩, .slice none 0 0], .int .i64 0, .int .i64 (checkE t)]) (by simp [results, Try.results25, go_sem, q0, q1, q2, q3]) rfl (RdP.zero HA.out rfl ?_)
              repeat (first | (with_reducible exact HFB3.out) | (refine Below.setCell ?_ (by exact Nat.le_refl _) _))
end Go.Proofs.Ytedfepnekjjmnaa
