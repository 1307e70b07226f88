/-
  clerkref.words: the words of a text, and where they begin. Condition: a bound on the text.
-/
import Derived.Test.YtedfepnekjjmnaaReadP
import Derived.Test.YtedfepnekjjmnaaStrs
import Derived.Deep.RegionLaw
namespace Go.Proofs.Ytedfepnekjjmnaa
open Go.RowKit
set_option linter.unusedSimpArgs false
set_option linter.unusedVariables false
set_option maxRecDepth 100000

theorem wst_open (s : ByteArray) : ∀ k, (wst s k).2 = true → ∃ W a, wst s k = (W ++ [(a, k)], true) ∧ a < k
  | 0, h => by cases h
  | k + 1, h => by
    by_cases h1 : atN s k = 32
    · rw [wst_space h1] at h; cases h
    by_cases h2 : atN s k = 40 ∨ atN s k = 41
    · rw [wst_paren h2] at h; cases h
    have hsp : specB (atN s k) = false := by simp [specB]; omega
    cases hf : (wst s k).2
    · exact ⟨(wst s k).1, k, wst_new hsp hf, by omega⟩
    · obtain ⟨W, a, e, ha⟩ := wst_open s k hf
      exact ⟨W, a, wst_more hsp e, by omega⟩
theorem wst_length (s : ByteArray) : ∀ k, (wst s k).1.length ≤ k
  | 0 => Nat.le_refl _
  | k + 1 => by
    have := wst_length s k
    rw [wst, wstep]
    split
    · simp; omega
    split
    · simp; omega
    split
    · simp; omega
    · simp; omega
def wordS (s : ByteArray) (p : Nat × Nat) : ByteArray := s.extract p.1 p.2
def wsS (s : ByteArray) (W : List (Nat × Nat)) : List ByteArray := W.map (wordS s)
def atI (W : List (Nat × Nat)) : List Int := W.map fun p => (p.1 : Int)
theorem ext_add (s : ByteArray) (a k : Nat) (h : a ≤ k) : s.extract a k ++ s.extract k (k + 1) = s.extract a (k + 1) := by
  rw [ByteArray.extract_append_extract]
  congr 1 <;> omega
theorem OwnS.set {base g n cap : Nat} {w : World} {xs : List ByteArray} (h : OwnS base w (.slice (some ⟨g, 0, none⟩) n cap) xs) (k : Nat) (hk : k < xs.length) (y : ByteArray) :
    OwnS base (w.setCell ⟨g, k, none⟩ (.string y)) (.slice (some ⟨g, 0, none⟩) n cap) (xs.set k y) := by
  obtain ⟨h1, h2⟩ := h
  rcases h2 with ⟨h2, -⟩ | ⟨g', cap', cur, ev, hg, hh, hn, hm, hcs, htk⟩
  · cases h2
  simp only [Value.slice.injEq, Option.some.injEq, Addr.mk.injEq, and_true] at ev
  obtain ⟨rfl, rfl, rfl⟩ := ev
  refine ⟨by simp, .inr ⟨g, cap, _, by simp, hg, heap_setCell_same w g k cur 9 (.string y) hh, ?_, hm, by simpa using hcs, ?_⟩⟩
  · simp at hn ⊢; exact hn
  · simp only [Array.toList_setIfInBounds, List.length_set, List.take_set, htk, List.map_set]

theorem OwnS.last {base : Nat} {w : World} {v : Value} {s : ByteArray} {W : List (Nat × Nat)} {p : Nat × Nat} (h : OwnS base w v (wsS s (W ++ [p]))) :
    ∃ g cap, v = .slice (some ⟨g, 0, none⟩) (W.length + 1) cap ∧ w.cell? ⟨g, W.length, none⟩ = some (.string (wordS s p)) ∧ (∀ o, w.frozen? ⟨g, o, none⟩ = false) ∧ W.length + 1 ≤ cap := by
  have hl : (wsS s (W ++ [p])).length = W.length + 1 := by simp [wsS]
  have hc := h.rs
  obtain ⟨h1, h2⟩ := h
  rcases h2 with ⟨_, h2⟩ | ⟨g, cap, cur, rfl, hg, hh, hn, hm, hcs, htk⟩
  · rw [hl] at h2; omega
  · rw [hl] at hn hc ⊢
    have he := RS.elem (b := g) (o := 0) hc W.length (by rw [hl]; omega)
    refine ⟨g, cap, rfl, ?_, fun o => frozen_of_row w g o cur _ hh, by omega⟩
    have := he.2
    rw [Nat.zero_add] at this
    rw [this]
    simp [wsS]
set_option maxHeartbeats 4000000 in
theorem words_c (s : ByteArray) (w : World) (hs : s.size ≤ 1048576) :
    Calls Try.prog 66 #[.string s] w fun e w' => ∃ v1 v2, e = .returned (.tuple #[v1, v2]) ∧ Below w.heap.size w w' ∧ RS (fun b => w.heap.size ≤ b) w' (wsS s (wst s s.size).1) v1 ∧ RI (fun b => w.heap.size ≤ b) w' (atI (wst s s.size).1) v2 := by
  go_enter Try.func66, Try.ntmps66
  go_wp2_with fail
  go_loopw [4, 5, 6, 7] (fun v4 v5 op i wr => ∃ k : Nat, k ≤ s.size ∧ i = .int .i64 k ∧ op = .bool (wst s k).2 ∧ OwnS w.heap.size wr v4 (wsS s (wst s k).1) ∧ OwnI w.heap.size wr v5 (atI (wst s k).1) ∧ Below w.heap.size w wr ∧ (∀ b, v4.ownBlock = some b → v5.ownBlock ≠ some b)) (fun _ _ _ i _ => s.size - (intOf i).toNat)
  case atStart => exact ⟨0, Nat.zero_le _, rfl, rfl, OwnS.nil _ _, OwnI.nil _ _, Below.refl _ _, by simp [Value.ownBlock]⟩
  case round =>
    obtain ⟨k, hk, rfl, rfl, hS, hI, hB, hne⟩ := hrel
    have hsz := hB.size
    have HS := Lib.hid hS; clear hS
    have HI := Lib.hid hI; clear hI
    have HNE := Lib.hid hne; clear hne
    have HS0 := Lib.hid HS.out.block
    have HI0 := Lib.hid HI.out.block
    have hwl := wst_length s k
    have hn1 : (wsS s (wst s k).1).length + [s.extract k (k + 1)].length ≤ 1099511627776 := by simp [wsS]; omega
    have hn2 : (atI (wst s k).1).length + [(k : Int)].length ≤ 1099511627776 := by simp [atI]; omega
    by_cases hlt : k < s.size
    · have hki : (k : Int) < s.size := by omega
      have hat : atN s k = s[k].toNat := by simp [atN, hlt]; rfl
      by_cases h1 : s[k].toNat = 32
      · have HE := Lib.hid (wst_space (hat.trans h1))
        have d1 : (s[k].toNat : Int) = 32 := by omega
        go_wp2_with fail
        go_roundw
        case rel => exact ⟨k + 1, by omega, by go_num, by rw [HE.out], by rw [HE.out]; exact HS.out, by rw [HE.out]; exact HI.out, hB, HNE.out⟩
        case measure => simp [intOf]; omega
      by_cases h2 : s[k].toNat = 40
      · have HE := Lib.hid (wst_paren (.inl (hat.trans h2)))
        have d1 : (s[k].toNat : Int) = 40 := by omega
        clear h1 h2
        have HS1 := Lib.hid (HS.out.alloc (.cells #[.string (s.extract k (k + 1))] 9))
        have HR1 : Hid (RS (fun b => b = wr.heap.size) (wr.alloc (.cells #[.string (s.extract k (k + 1))] 9)) [s.extract k (k + 1)] (.slice (some ⟨wr.heap.size, 0, none⟩) 1 1)) := Lib.hid (RS.lit wr [s.extract k (k + 1)] 9)
        have HI2 : Hid (∀ w6, (wr.alloc (.cells #[.string (s.extract k (k + 1))] 9)).grownBy w6 u4.ownBlock → OwnI w.heap.size (w6.alloc (.cells #[.int .i64 k] 3)) u5 (atI (wst s k).1) ∧ RI (fun b => b = w6.heap.size) (w6.alloc (.cells #[.int .i64 k] 3)) [(k : Int)] (.slice (some ⟨w6.heap.size, 0, none⟩) 1 1)) := Lib.hid fun w6 hg =>
          ⟨((HI.out.alloc _).to (Nat.le_refl _) fun b hb hl => hg.block b hl fun e => HNE.out b e.symm hb).alloc _, RI.lit w6 [(k : Int)] 3⟩
        go_wp2_with (first | (at_builtin; refine append_strs _ _ rfl rfl rfl rfl HS1.out HR1.out hn1 (by simp; omega) ?_; intro v6 w6 hS6 hg6 hw6; have hs6 := hg6.size; simp only [World.size_alloc] at hs6 hw6; have H6 := Lib.hid hS6; have O6 := Lib.hid hw6; clear hS6 hw6) | (at_builtin; refine append_ints _ _ rfl rfl rfl rfl (HI2.out _ hg6).1 (HI2.out _ hg6).2 hn2 (by simp; omega) ?_; intro v7 w7 hI7 hg7 hw7; have hs7 := hg7.size; simp only [World.size_alloc] at hs7 hw7; have H7 := Lib.hid hI7; have O7 := Lib.hid hw7; clear hI7 hw7))
        go_roundw
        case rel =>
          refine ⟨k + 1, by omega, by go_num, by rw [HE.out], ?_, ?_, ?_, ?_⟩
          · rw [HE.out, wsS, List.map_append]
            exact (H6.out.alloc _).to (Nat.le_refl _) fun b hb hl => hg7.block b hl fun e => by
              have h1 := HI0.out b e.symm
              rcases O6.out b hb with h2 | h2
              · exact HNE.out b h2 e.symm
              · omega
          · rw [HE.out, atI, List.map_append]; exact H7.out
          · exact grown_below ((grown_below (hB.alloc hB.size _) hg6 (by simp; omega) fun b hb => (HS0.out b hb).1).alloc (by omega) _) hg7 (by simp; omega) fun b hb => (HI0.out b hb).1
          · intro b h1 h2
            rcases O6.out b h1 with h3 | h3
            · rcases O7.out b h2 with h4 | h4
              · exact HNE.out b h3 h4
              · have := HS0.out b h3; omega
            · rcases O7.out b h2 with h4 | h4
              · have := HI0.out b h4; omega
              · have := H6.out.block b h1; omega
        case measure => simp [intOf]; omega
      by_cases h3 : s[k].toNat = 41
      · have HE := Lib.hid (wst_paren (.inr (hat.trans h3)))
        have d1 : (s[k].toNat : Int) = 41 := by omega
        clear h1 h2 h3
        have HS1 := Lib.hid (HS.out.alloc (.cells #[.string (s.extract k (k + 1))] 9))
        have HR1 : Hid (RS (fun b => b = wr.heap.size) (wr.alloc (.cells #[.string (s.extract k (k + 1))] 9)) [s.extract k (k + 1)] (.slice (some ⟨wr.heap.size, 0, none⟩) 1 1)) := Lib.hid (RS.lit wr [s.extract k (k + 1)] 9)
        have HI2 : Hid (∀ w6, (wr.alloc (.cells #[.string (s.extract k (k + 1))] 9)).grownBy w6 u4.ownBlock → OwnI w.heap.size (w6.alloc (.cells #[.int .i64 k] 3)) u5 (atI (wst s k).1) ∧ RI (fun b => b = w6.heap.size) (w6.alloc (.cells #[.int .i64 k] 3)) [(k : Int)] (.slice (some ⟨w6.heap.size, 0, none⟩) 1 1)) := Lib.hid fun w6 hg =>
          ⟨((HI.out.alloc _).to (Nat.le_refl _) fun b hb hl => hg.block b hl fun e => HNE.out b e.symm hb).alloc _, RI.lit w6 [(k : Int)] 3⟩
        go_wp2_with (first | (at_builtin; refine append_strs _ _ rfl rfl rfl rfl HS1.out HR1.out hn1 (by simp; omega) ?_; intro v6 w6 hS6 hg6 hw6; have hs6 := hg6.size; simp only [World.size_alloc] at hs6 hw6; have H6 := Lib.hid hS6; have O6 := Lib.hid hw6; clear hS6 hw6) | (at_builtin; refine append_ints _ _ rfl rfl rfl rfl (HI2.out _ hg6).1 (HI2.out _ hg6).2 hn2 (by simp; omega) ?_; intro v7 w7 hI7 hg7 hw7; have hs7 := hg7.size; simp only [World.size_alloc] at hs7 hw7; have H7 := Lib.hid hI7; have O7 := Lib.hid hw7; clear hI7 hw7))
        go_roundw
        case rel =>
          refine ⟨k + 1, by omega, by go_num, by rw [HE.out], ?_, ?_, ?_, ?_⟩
          · rw [HE.out, wsS, List.map_append]
            exact (H6.out.alloc _).to (Nat.le_refl _) fun b hb hl => hg7.block b hl fun e => by
              have h1 := HI0.out b e.symm
              rcases O6.out b hb with h2 | h2
              · exact HNE.out b h2 e.symm
              · omega
          · rw [HE.out, atI, List.map_append]; exact H7.out
          · exact grown_below ((grown_below (hB.alloc hB.size _) hg6 (by simp; omega) fun b hb => (HS0.out b hb).1).alloc (by omega) _) hg7 (by simp; omega) fun b hb => (HI0.out b hb).1
          · intro b h1 h2
            rcases O6.out b h1 with h3 | h3
            · rcases O7.out b h2 with h4 | h4
              · exact HNE.out b h3 h4
              · have := HS0.out b h3; omega
            · rcases O7.out b h2 with h4 | h4
              · have := HI0.out b h4; omega
              · have := H6.out.block b h1; omega
        case measure => simp [intOf]; omega
      have hsp : specB (atN s k) = false := by simp [specB, hat]; omega
      have d1 : ¬ (s[k].toNat : Int) = 32 := by omega
      have d2 : ¬ (s[k].toNat : Int) = 40 := by omega
      have d3 : ¬ (s[k].toNat : Int) = 41 := by omega
      clear h1 h2 h3
      have b1 : ((s[k].toNat : Int) == 32) = false := by simpa using d1
      have b2 : ((s[k].toNat : Int) == 40) = false := by simpa using d2
      have b3 : ((s[k].toNat : Int) == 41) = false := by simpa using d3
      cases hf : (wst s k).2
      · have HE := Lib.hid (wst_new hsp hf)
        clear hf hsp hat
        have HS1 := Lib.hid (HS.out.alloc (.cells #[.string (s.extract k (k + 1))] 9))
        have HR1 : Hid (RS (fun b => b = wr.heap.size) (wr.alloc (.cells #[.string (s.extract k (k + 1))] 9)) [s.extract k (k + 1)] (.slice (some ⟨wr.heap.size, 0, none⟩) 1 1)) := Lib.hid (RS.lit wr [s.extract k (k + 1)] 9)
        have HI2 : Hid (∀ w6, (wr.alloc (.cells #[.string (s.extract k (k + 1))] 9)).grownBy w6 u4.ownBlock → OwnI w.heap.size (w6.alloc (.cells #[.int .i64 k] 3)) u5 (atI (wst s k).1) ∧ RI (fun b => b = w6.heap.size) (w6.alloc (.cells #[.int .i64 k] 3)) [(k : Int)] (.slice (some ⟨w6.heap.size, 0, none⟩) 1 1)) := Lib.hid fun w6 hg =>
          ⟨((HI.out.alloc _).to (Nat.le_refl _) fun b hb hl => hg.block b hl fun e => HNE.out b e.symm hb).alloc _, RI.lit w6 [(k : Int)] 3⟩
        go_wp2_with (first | (at_builtin; refine append_strs _ _ rfl rfl rfl rfl HS1.out HR1.out hn1 (by simp; omega) ?_; intro v6 w6 hS6 hg6 hw6; have hs6 := hg6.size; simp only [World.size_alloc] at hs6 hw6; have H6 := Lib.hid hS6; have O6 := Lib.hid hw6; clear hS6 hw6) | (at_builtin; refine append_ints _ _ rfl rfl rfl rfl (HI2.out _ hg6).1 (HI2.out _ hg6).2 hn2 (by simp; omega) ?_; intro v7 w7 hI7 hg7 hw7; have hs7 := hg7.size; simp only [World.size_alloc] at hs7 hw7; have H7 := Lib.hid hI7; have O7 := Lib.hid hw7; clear hI7 hw7))
        go_roundw
        case rel =>
          refine ⟨k + 1, by omega, by go_num, by rw [HE.out], ?_, ?_, ?_, ?_⟩
          · rw [HE.out, wsS, List.map_append]
            exact (H6.out.alloc _).to (Nat.le_refl _) fun b hb hl => hg7.block b hl fun e => by
              have h1 := HI0.out b e.symm
              rcases O6.out b hb with h2 | h2
              · exact HNE.out b h2 e.symm
              · omega
          · rw [HE.out, atI, List.map_append]; exact H7.out
          · exact grown_below ((grown_below (hB.alloc hB.size _) hg6 (by simp; omega) fun b hb => (HS0.out b hb).1).alloc (by omega) _) hg7 (by simp; omega) fun b hb => (HI0.out b hb).1
          · intro b h1 h2
            rcases O6.out b h1 with h3 | h3
            · rcases O7.out b h2 with h4 | h4
              · exact HNE.out b h3 h4
              · have := HS0.out b h3; omega
            · rcases O7.out b h2 with h4 | h4
              · have := HI0.out b h4; omega
              · have := H6.out.block b h1; omega
        case measure => simp [intOf]; omega
      · obtain ⟨W, a, he, ha⟩ := wst_open s k hf
        have HE := Lib.hid (wst_more hsp he)
        have hWl : (W.length : Int) ≤ 1048576 := by rw [he] at hwl; simp at hwl; omega
        have hW0 : (0 : Int) ≤ W.length := by omega
        have hwr : IntKind.i64.wrap (W.length : Int) = W.length := by rw [IntKind.wrap_i64]; omega
        have hS := HS.out
        have hI := HI.out
        rw [he] at hS hI
        obtain ⟨g, cap, rfl, g1, g2, g3⟩ := OwnS.last hS
        have HX := Lib.hid (ext_add s a k (by omega))
        have HS2 := Lib.hid hS
        have HI2 := Lib.hid hI
        have hlw : ((W.length : Int) + 1 - 1) = W.length := by omega
        have hW : (W.length : Int) < W.length + 1 := by omega
        clear hS hI hf hsp hat he
        have hk1 : (k : Int) + 1 ≤ s.size := by omega
        have hwx : wordS s (a, k) = s.extract a k := rfl
        rw [hwx] at g1
        have HSet : Hid ((wsS s (W ++ [(a, k)])).set W.length (s.extract a (k + 1)) = wsS s (W ++ [(a, k + 1)])) := Lib.hid (by
          have hl : W.length = (W.map (wordS s)).length := by simp
          simp only [wsS, List.map_append]
          rw [hl, List.set_append_right _ _ (Nat.le_refl _)]
          simp [wordS])
        have HSI : Hid (atI (W ++ [(a, k + 1)]) = atI (W ++ [(a, k)])) := Lib.hid (by simp [atI])
        have HNE2 : Hid (u5.ownBlock ≠ some g) := Lib.hid (HNE.out g rfl)
        have hgb := (HS0.out g rfl).1
        go_wp2_with fail
        go_region
        all_goals (
          go_wp2_with fail
          go_roundw
          case rel =>
            refine ⟨k + 1, by omega, by go_num, by rw [HE.out], ?_, ?_, ?_, ?_⟩
            · have hmin : min a k = a := by omega
              rw [HE.out, ← HSet.out, hmin]
              exact (HS2.out.set W.length (by simp [wsS]) _).below (Below.refl _ _).drew
            · rw [HE.out, HSI.out]
              exact (HI2.out.to (Nat.le_refl _) fun b hb hl => setCell_other wr g W.length _ b (fun e => HNE2.out (by rw [hb, e]))).below (Below.refl _ _).drew
            · exact (Below.setCell hB hgb _).drew
            · intro b h1 h2
              simp only [Value.ownBlock, Option.some.injEq] at h1
              subst h1
              exact HNE2.out h2
          case measure => simp [intOf]; omega)
    · have hkk : k = s.size := by omega
      subst hkk
      go_wp2_with fail
      exact bodyPost_ret (v := .tuple #[u4, u5]) (by simp [results, Try.results66, go_sem]) rfl ⟨_, _, rfl, hB, HS.out.rs.mono fun b hb => (HS0.out b hb).1, HI.out.ri.mono fun b hb => (HI0.out b hb).1⟩
end Go.Proofs.Ytedfepnekjjmnaa
