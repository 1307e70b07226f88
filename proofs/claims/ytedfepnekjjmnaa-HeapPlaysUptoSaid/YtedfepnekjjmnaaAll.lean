/-
  clerkref.all: the terms in a term, and how deep each stands. No condition but a bound on how much there is.
-/
import Derived.Test.YtedfepnekjjmnaaJa
namespace Go.Proofs.Ytedfepnekjjmnaa
open Go.RowKit
set_option linter.unusedSimpArgs false
set_option linter.unusedVariables false

def allL : List T → List T
  | [] => []
  | ⟨k, n, s, l⟩ :: ts => ⟨k, n, s, l⟩ :: (allL l ++ allL ts)
theorem allL_cons (t : T) (ts : List T) : allL (t :: ts) = t :: (allL t.args ++ allL ts) := by obtain ⟨k, n, s, l⟩ := t; rw [allL]
theorem allL_append (a b : List T) : allL (a ++ b) = allL a ++ allL b := by
  induction a with
  | nil => simp [allL]
  | cons t ts ih => simp only [List.cons_append, allL_cons, ih, List.append_assoc]
def atL (d : Int) : List T → List Int
  | [] => []
  | ⟨_, _, _, l⟩ :: ts => d :: (atL (d + 1) l ++ atL d ts)
theorem atL_cons (d : Int) (t : T) (ts : List T) : atL d (t :: ts) = d :: (atL (d + 1) t.args ++ atL d ts) := by obtain ⟨k, n, s, l⟩ := t; rw [atL]
theorem atL_append (d : Int) (a b : List T) : atL d (a ++ b) = atL d a ++ atL d b := by
  induction a with
  | nil => simp [atL]
  | cons t ts ih => simp only [List.cons_append, atL_cons, ih, List.append_assoc]
theorem allL_le : ∀ m (ts : List T), bulkL ts ≤ m → (allL ts).length ≤ bulkL ts := by
  intro m
  induction m with
  | zero => intro ts h; cases ts with
    | nil => simp [allL]
    | cons t ts => rw [bulkL_cons] at h; omega
  | succ m ih =>
    intro ts h
    cases ts with
    | nil => simp [allL]
    | cons t ts =>
      rw [bulkL_cons] at h
      have h1 := ih t.args (by omega)
      have h2 := ih ts (by omega)
      rw [allL_cons, bulkL_cons]
      simp only [List.length_cons, List.length_append]
      omega
theorem atL_length : ∀ m (ts : List T), bulkL ts ≤ m → ∀ d, (atL d ts).length = (allL ts).length := by
  intro m
  induction m with
  | zero => intro ts h d; cases ts with
    | nil => simp [allL, atL]
    | cons t ts => rw [bulkL_cons] at h; omega
  | succ m ih =>
    intro ts h d
    cases ts with
    | nil => simp [allL, atL]
    | cons t ts =>
      rw [bulkL_cons] at h
      have h1 := ih t.args (by omega) (d + 1)
      have h2 := ih ts (by omega) d
      rw [allL_cons, atL_cons]
      simp only [List.length_cons, List.length_append, h1, h2]

set_option maxHeartbeats 1000000 in
set_option maxRecDepth 100000 in
theorem all_c : ∀ (t : T) (d : Int) (S : Nat → Prop) (w : World) (v : Value), RT S w t v → (∀ b, S b → b < w.heap.size) → 0 ≤ d → d + bulkL [t] ≤ 1099511627776 →
    Calls Try.prog 57 #[v, .int .i64 d] w fun e w' => ∃ v1 v2, e = .returned (.tuple #[v1, v2]) ∧ Below w.heap.size w w' ∧
      RSl2 (fun b => w.heap.size ≤ b) S w' (allL [t]) v1 ∧ RI (fun b => w.heap.size ≤ b) w' (atL d [t]) v2 := by
  intro t
  induction t using T.ind with
  | h t ih =>
    intro d S w v hv hS h0d hb
    have hba := bulk_args t
    have hla := length_le_bulk t.args
    obtain ⟨a, cap, rfl, hcap, hr⟩ := hv
    have IH := Lib.hid ih; clear ih
    have HR := Lib.hid hr; clear hr
    have HS := Lib.hid hS; clear hS
    have HCAP := Lib.hid hcap; clear hcap
    go_enter Try.func57, Try.ntmps57
    go_wp2_with fail
    go_loopw [6, 7, 8] (fun out at_ i wr => ∃ k : Nat, k ≤ t.args.length ∧ i = .int .i64 k ∧ OwnT S (w.heap.size + 1) wr out (t :: allL (t.args.take k)) ∧ OwnI (w.heap.size + 1) wr at_ (d :: atL (d + 1) (t.args.take k)) ∧
        (∀ b, out.ownBlock = some b → at_.ownBlock ≠ some b) ∧ Below w.heap.size w wr ∧ w.heap.size + 1 ≤ wr.heap.size ∧ wr.cell? ⟨w.heap.size, 3, none⟩ = some (.slice a t.args.length cap)) (fun _ _ i _ => t.args.length - (intOf i).toNat)
    case atStart =>
      have h1 := (OwnT.one (base := w.heap.size + 1) (RT.alloc (⟨a, cap, rfl, HCAP.out, HR.out⟩ : RT S w t _) (.cells #[.int .i64 t.kind, .int .i64 t.n, .string t.name, .slice a t.args.length cap] 29)) (by simp))
      have h2 := OwnI.one (base := w.heap.size + 1) (w := (w.alloc (.cells #[.int .i64 t.kind, .int .i64 t.n, .string t.name, .slice a t.args.length cap] 29)).alloc (.cells #[.int .i64 t.kind, .int .i64 t.n, .string t.name, .slice a t.args.length cap] 29)) d (by simp)
      simp only [World.size_alloc] at h1 h2
      refine ⟨0, Nat.zero_le _, rfl, by simpa [allL] using h1.alloc _, by simpa [atL] using h2, by simp [Value.ownBlock], ((below_alloc _ _).alloc (by simp) _).alloc (by simp <;> omega) _, by simp <;> omega, by go_simp⟩
    case round =>
      obtain ⟨k, hkl, rfl, hT, hI, hne, hB, hsz, hbox⟩ := hrel
      have HT := Lib.hid hT; clear hT
      have HI := Lib.hid hI; clear hI
      have HNE := Lib.hid hne; clear hne
      have hbt := bulk_take t.args k
      have hal := allL_le _ (t.args.take k) (Nat.le_refl _)
      have hat := atL_length _ (t.args.take k) (Nat.le_refl _) (d + 1)
      have HAT := Lib.hid hat; clear hat
      by_cases hlt : k < t.args.length
      · obtain ⟨b, o, rfl⟩ := HR.out.addr (by omega)
        obtain ⟨a', cap', hSb, d0, d1, d2, d3, hE⟩ := (HR.out.below hB).elem k hlt
        have hbk := bulk_at hlt
        have hsk := allL_le _ [t.args[k]] (Nat.le_refl _)
        go_wp2_with fail
        refine (IH.out _ (List.getElem_mem hlt) _ S _ _ hE (fun b hb => by have := HS.out b hb; omega) (by omega) (by omega)).mono ?_
        rintro e w1 ⟨v1, v2, rfl, hB1, hr1, hr2⟩
        have hs1 := hB1.size
        have HR1 := Lib.hid hr1; clear hr1
        have HR2 := Lib.hid hr2; clear hr2
        have HT1 := Lib.hid (HT.out.below hB1)
        have HI1 := Lib.hid (HI.out.below hB1)
        have hbox1 : w1.cell? ⟨w.heap.size, 3, none⟩ = some (.slice (some ⟨b, o, none⟩) t.args.length cap) := by rw [hB1.cell (p := ⟨w.heap.size, 3, none⟩) (show w.heap.size < wr.heap.size by omega)]; exact hbox
        have HT0 := Lib.hid HT.out.block
        have HI0 := Lib.hid HI.out.block
        clear d0 d1 d2 d3
        have hbs := bulk_snoc hlt
        have hnn : (t :: allL (t.args.take k)).length + (allL [t.args[k]]).length ≤ 1099511627776 := by simp only [List.length_cons]; omega
        have HA := Lib.hid (atL_length _ [t.args[k]] (Nat.le_refl _) (d + 1))
        have hni : (d :: atL (d + 1) (t.args.take k)).length + (atL (d + 1) [t.args[k]]).length ≤ 1099511627776 := by rw [HA.out]; simp only [List.length_cons, HAT.out]; omega
        have hside : ∀ b, S b → u6.ownBlock ≠ some b := fun b hb he => by have := HS.out b hb; have := HT0.out b he; omega
        have HSD := Lib.hid hside; clear hside
        have HT2 : Hid (∀ w2, w1.grownBy w2 u6.ownBlock → OwnI (w.heap.size + 1) w2 u7 (d :: atL (d + 1) (t.args.take k)) ∧ RI (fun b => wr.heap.size ≤ b) w2 (atL (d + 1) [t.args[k]]) v2) := Lib.hid fun w2 hg =>
          ⟨HI1.out.to (Nat.le_refl _) fun b hb hl => hg.block b hl fun e => HNE.out b e.symm hb, HR2.out.to (fun _ h _ => h) fun b hb hl => hg.block b hl fun e => by have := HT0.out b e.symm; omega⟩
        go_wp2_with (first | (at_builtin; refine append_terms _ _ rfl rfl rfl rfl HT1.out HR1.out HSD.out hnn (by omega) ?_; intro v3 w2 hT3 hg2 hw2; have hs2 := hg2.size; have H3 := Lib.hid hT3; have H4 := Lib.hid hw2; clear hT3 hw2) | (at_builtin; refine append_ints _ _ rfl rfl rfl rfl (HT2.out _ hg2).1 (HT2.out _ hg2).2 hni (by omega) ?_; intro v4 w3 hI4 hg3 hw3; have hs3 := hg3.size; have H5 := Lib.hid hI4; have H6 := Lib.hid hw3; clear hI4 hw3))
        go_roundw
        case rel =>
          refine ⟨k + 1, by omega, by go_num, ?_, ?_, ?_, ?_, ?_, ?_⟩
          · rw [take_snoc' _ k hlt, allL_append, ← List.cons_append]
            exact H3.out.to (Nat.le_refl _) (fun _ h _ => h) fun b hb hl => hg3.block b hl fun e => by
              have h1 := HI0.out b e.symm
              rcases hb with hb | hb
              · have := HS.out b hb; omega
              · rcases H4.out b hb with h2 | h2
                · exact HNE.out b h2 e.symm
                · omega
          · rw [take_snoc' _ k hlt, atL_append, ← List.cons_append]
            exact H5.out
          · intro b h1 h2
            rcases H4.out b h1 with h3 | h3
            · rcases H6.out b h2 with h4 | h4
              · exact HNE.out b h3 h4
              · have := HT0.out b h3; omega
            · rcases H6.out b h2 with h4 | h4
              · have := HI0.out b h4; omega
              · have := H3.out.block b h1; omega
          · exact grown_below (grown_below (below_step hB (by omega) hB1) hg2 (by omega) fun b hb => by have := HT0.out b hb; omega) hg3 (by omega) fun b hb => by have := HI0.out b hb; omega
          · omega
          · rw [World.cell?_of_block (w := w2) (hg3.block w.heap.size (by omega) fun e => by have := HI0.out _ e.symm; omega), World.cell?_of_block (w := w1) (hg2.block w.heap.size (by omega) fun e => by have := HT0.out _ e.symm; omega)]
            exact hbox1
        case measure => simp [intOf]; omega
      · have hkk : k = t.args.length := by omega
        subst hkk
        go_wp2_with fail
        go_ret2
        have ht := HT.out
        have hi := HI.out
        rw [List.take_of_length_le (Nat.le_refl _)] at ht hi
        have e1 : allL [t] = t :: allL t.args := by rw [allL_cons]; simp [allL]
        have e2 : atL d [t] = d :: atL (d + 1) t.args := by rw [atL_cons]; simp [atL]
        rw [e1, e2]
        refine ⟨_, _, rfl, hB, ht.rsl2.mono (fun b hb => by have := ht.block b hb; omega) fun _ h => h, hi.ri.mono fun b hb => by have := hi.block b hb; omega⟩
end Go.Proofs.Ytedfepnekjjmnaa
