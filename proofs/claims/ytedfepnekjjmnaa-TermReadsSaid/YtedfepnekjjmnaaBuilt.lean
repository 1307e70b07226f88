/-
  clerkref.built: the term that begins at a word. Condition: the words build one; bounds.
-/
import Derived.Test.YtedfepnekjjmnaaTokP
import Derived.Test.YtedfepnekjjmnaaRleaf
import Derived.Test.YtedfepnekjjmnaaBox
namespace Go.Proofs.Ytedfepnekjjmnaa
open Go.RowKit
set_option linter.unusedSimpArgs false
set_option linter.unusedVariables false
set_option maxRecDepth 100000

theorem tokB_lf {w : ByteArray} {ok : Bool} {t : T} (h : tokB w = .lf ok t) : (w.toList == [40]) = false ∧ (w.toList == [41]) = false ∧ leafB w = ok ∧ leafT w = t := by
  unfold tokB at h
  split at h
  · cases h
  split at h
  · cases h
  rename_i h1 h2
  simp only [Tok.lf.injEq] at h
  exact ⟨by simpa using h1, by simpa using h2, h.1, h.2⟩

set_option maxHeartbeats 1000000 in
theorem built_leaf (ws : List ByteArray) (i : Nat) (t : T) (S : Nat → Prop) (w : World) (v : Value) (hv : RS S w ws v) (hS : ∀ b, S b → b < w.heap.size) (hi : i < ws.length) (hl : ws.length ≤ 1048576) (h0 : 0 < ws[i].size) (hsz : ws[i].size ≤ 1048576) (ht : tokB ws[i] = .lf true t) :
    Calls Try.prog 68 #[v, .int .i64 i] w fun e w' => ∃ v', e = .returned (.tuple #[v', .int .i64 (i + 1)]) ∧ Below w.heap.size w w' ∧ RT (fun b => w.heap.size ≤ b) w' t v' := by
  obtain ⟨a, cap, rfl⟩ := hv.form
  obtain ⟨b, o, rfl⟩ := hv.addr (by omega)
  obtain ⟨hSb, hc⟩ := hv.elem i hi
  obtain ⟨h1, h2, h3, h4⟩ := tokB_lf ht
  have hlb := hS b hSb
  have hii : (i : Int) < ws.length := by omega
  have HB := Lib.hid h3
  have HT := Lib.hid h4
  have HN := Lib.hid ht
  clear ht hv h3 h4
  generalize ws[i] = x at *
  go_enter Try.func68, Try.ntmps68
  go_wp2_with fail
  refine (rleaf_c x _ h0 (by omega)).mono ?_
  rintro e w1 ⟨k, n, name, rfl, hB1, ht⟩
  have hs1 := hB1.size
  simp only [World.size_alloc] at hs1
  have HL := Lib.hid (ht HB.out)
  obtain ⟨hcc, hff⟩ := bcell hB1
  simp only [World.size_alloc] at hcc hff
  have g1 : w.heap.size < w1.heap.size := by omega
  have k1 : w.heap.size < w.heap.size + 1 := by omega
  have HB1 := Lib.hid (below_step (below_alloc _ _) (by simp) hB1)
  rw [HB.out]
  go_wp2_with fail
  refine bodyPost_ret (v := .tuple #[.agg #[.int .i64 k, .int .i64 n, .string name, .slice none 0 0], .int .i64 (i + 1)]) (by simp [results, Try.results68, go_sem, hcc, hff, g1, k1]) rfl ⟨_, rfl, ?_, ?_⟩
  · refine Below.alloc ?_ (by simp <;> omega) _
    repeat refine Below.setCell ?_ (by simp <;> omega) _
    exact HB1.out
  · rw [← HT.out, HL.out]
    exact ⟨none, 0, rfl, ⟨Nat.le_refl _, fun _ => rfl⟩, by simp [RTs]⟩
end Go.Proofs.Ytedfepnekjjmnaa
