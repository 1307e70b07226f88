/-
  clerkkeep.word, two, clerkref.Tuple: what they answer. No condition.
-/
import Derived.Test.YtedfepnekjjmnaaSame
namespace Go.Proofs.Ytedfepnekjjmnaa
open Go.RowKit
set_option linter.unusedSimpArgs false
set_option linter.unusedVariables false

set_option maxHeartbeats 400000 in
theorem word_c (s : ByteArray) (w : World) : Calls Try.prog 31 #[.string s] w fun e w' => e = .returned (.agg #[.int .i64 2, .int .i64 0, .string s, .slice none 0 0]) ∧ Below w.heap.size w w' := by
  go_enter Try.func31, Try.ntmps31
  go_wp2_with fail
  exact bodyPost_ret (v := .agg #[.int .i64 2, .int .i64 0, .string s, .slice none 0 0]) (by simp [results, Try.results31, go_sem]) rfl ⟨rfl, below_alloc _ _⟩

set_option maxHeartbeats 400000 in
theorem tuple_c (a : Option Addr) (n cap : Nat) (w : World) : Calls Try.prog 30 #[.slice a n cap] w fun e w' => e = .returned (.agg #[.int .i64 4, .int .i64 0, .string ⟨#[]⟩, .slice a n cap]) ∧ Below w.heap.size w w' := by
  go_enter Try.func30, Try.ntmps30
  go_wp2_with fail
  exact bodyPost_ret (v := .agg #[.int .i64 4, .int .i64 0, .string ⟨#[]⟩, .slice a n cap]) (by simp [results, Try.results30, go_sem]) rfl ⟨rfl, below_alloc _ _⟩

/-- Two terms written out as a slice. -/
theorem rt_cells {S : Nat → Prop} {w : World} {t : T} {v : Value} (h : RT S w t v) : ∃ c0 c1 c2 c3, v = .agg #[c0, c1, c2, c3] ∧ CellsT S w [t] [c0, c1, c2, c3] := by
  obtain ⟨a, cap, rfl, h1, h2⟩ := h
  exact ⟨_, _, _, _, rfl, a, cap, [], rfl, h1, h2, rfl⟩
theorem RSl2.lit {S : Nat → Prop} {w : World} {ts : List T} {cs : List Value} (h : CellsT S w ts cs) (e : TypeId) : RSl2 (fun b => b = w.heap.size) S (w.alloc (.cells cs.toArray e)) ts (.slice (some ⟨w.heap.size, 0, none⟩) ts.length ts.length) :=
  ⟨_, _, cs, rfl, ⟨Nat.le_refl _, by simp⟩, h.to (fun _ h _ => h) (fun b _ hb => Below.heap_alloc _ _ _ hb), fun j u hu => ⟨w.heap.size, 0, rfl, rfl, by rw [Nat.zero_add, World.cell?_alloc_new]; simp [hu]⟩⟩

set_option maxHeartbeats 400000 in
theorem two_c (w : World) : Calls Try.prog 18 #[] w fun e w' => ∃ v, e = .returned v ∧ Below w.heap.size w w' ∧ RT (fun b => w.heap.size ≤ b) w' twoT v := by
  go_enter Try.func18, Try.ntmps18
  go_wp2_with fail
  refine (word_c _ _).mono ?_
  rintro e w1 ⟨rfl, hB1⟩
  have h1 := hB1.size
  simp only [World.size_alloc] at h1
  go_wp2_with fail
  refine (num_c _ _).mono ?_
  rintro e w2 ⟨rfl, hB2⟩
  have h2 := hB2.size
  go_wp2_with fail
  refine (tuple_c _ _ _ _).mono ?_
  rintro e w3 ⟨rfl, hB3⟩
  have h3 := hB3.size
  simp only [World.size_alloc] at h3
  obtain ⟨hc, hf, hs⟩ := slot_facts (w := w) (w3 := w3) (below_step (below_step (below_step ((Below.refl (w.heap.size + 1) _)) (by simp) hB1) (by omega) (hB2.alloc (by omega) _)) (by simp; omega) hB3)
  go_wp2_with fail
  refine bodyPost_ret (v := .agg #[.int .i64 4, .int .i64 0, .string ⟨#[]⟩, .slice (some ⟨w2.heap.size, 0, none⟩) 2 2]) (by simp [results, Try.results18, go_sem, hc]) rfl ⟨_, rfl, ?_, ?_⟩
  · repeat refine below_slot ?_ _ _
    exact below_step (below_step (below_step (below_alloc _ _) (by simp) hB1) (by omega) (hB2.alloc (by omega) _)) (by simp; omega) hB3
  · refine tupT_rt ?_
    have hC : CellsT (fun _ => False) w2 [wordT ⟨#[97]⟩, numT 5] [.int .i64 2, .int .i64 0, .string ⟨#[97]⟩, .slice none 0 0, .int .i64 1, .int .i64 5, .string ⟨#[]⟩, .slice none 0 0] :=
      ⟨none, 0, _, rfl, ⟨Nat.le_refl _, fun _ => rfl⟩, by simp [wordT, RTs], none, 0, [], rfl, ⟨Nat.le_refl _, fun _ => rfl⟩, by simp [numT, RTs], rfl⟩
    have h := ((RSl2.lit hC 29).below hB3)
    refine (h.to (R' := fun b => w.heap.size ≤ b) (S' := fun b => w.heap.size ≤ b) (fun b hb _ => by omega) (fun _ h _ => h.elim) fun b hb _ => ?_).rsl.mono fun b hb => by rcases hb with hb | hb <;> exact hb
    rcases hb with hb | hb
    · exact hb.elim
    · have hne : b ≠ w.heap.size := by omega
      simp only [setCell_other _ _ _ _ _ hne]
end Go.Proofs.Ytedfepnekjjmnaa
