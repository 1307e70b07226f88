/-
  clerklaw.TermReads returns true for every text, and the text reads afterwards as before. No condition.
-/
import Derived.Test.YtedfepnekjjmnaaParseW
import Derived.Test.YtedfepnekjjmnaaFrame
import Derived.Test.YtedfepnekjjmnaaSame
import Derived.OpenShut
import Derived.ShutString
import Derived.Handy
import Derived.Outline
namespace Go.Proofs.Ytedfepnekjjmnaa.termReads
open Go.ChangeShapes Go.WideShapes Go.ChangeAt Go.RowKit
set_option linter.unusedSimpArgs false
set_option linter.unusedVariables false

theorem readA_bulk (s : ByteArray) : bulkL [(readA s).1] ≤ 1099511627776 := by
  have hz : bulkL [zeroT] ≤ 1099511627776 := by simp [zeroT, bulkL, ByteArray.size]
  unfold readA
  split
  · exact hz
  · rename_i h2
    split
    · exact hz
    · rename_i t hp
      split
      · have := stack_bulk (by omega) (Nat.le_refl _) hp
        simp only [stB] at this
        show bulkL [t] ≤ _
        omega
      · exact hz
    · exact hz
theorem _root_.Go.Proofs.Ytedfepnekjjmnaa.RT.low {S : Nat → Prop} {w : World} {t : T} {v : Value} (h : RT S w t v) : RT (fun b => b < w.heap.size) w t v := h.to (fun _ _ hl => hl) fun _ _ _ => rfl
set_option maxHeartbeats 1000000 in
theorem walk (s : ByteArray) (w : World) (hs : s.size ≤ maxLen) : Calls Try.prog 7 #[.string s] w fun e w' => e = .returned (.bool true) ∧ Below w.heap.size w w' := by
  have hbk := readA_bulk s
  have hP := parse_c s w hs
  have hR := fun w' => read_c s w' hs
  unfold RdP at hP hR
  generalize readA s = r at hbk hP hR
  obtain ⟨t, n, m⟩ := r
  simp only at hbk hP hR
  have HP := Lib.hid hP
  have HR := Lib.hid hR
  have HS := Lib.hid ((sameT_iff t t).2 rfl)
  clear hP hR
  go_enter Try.func7, Try.ntmps7
  go_wp2_with fail
  refine HP.out.mono ?_
  rintro e w1 ⟨v1, rfl, hB1, a1, cap1, rfl, hc1, hr1⟩
  have HV1 : Hid (RT (fun b => w.heap.size ≤ b) w1 t (.agg #[.int .i64 t.kind, .int .i64 t.n, .string t.name, .slice a1 t.args.length cap1])) := Lib.hid ⟨a1, cap1, rfl, hc1, hr1⟩
  have HV1' := Lib.hid (HV1.out.alloc (.cells #[.int .i64 t.kind, .int .i64 t.n, .string t.name, .slice a1 t.args.length cap1] 29))
  have HB1 := Lib.hid (hB1.alloc (hB1.size) (.cells #[.int .i64 t.kind, .int .i64 t.n, .string t.name, .slice a1 t.args.length cap1] 29))
  have h1 := hB1.size
  have HX1 := Lib.hid (Box.new w1 (.int .i64 t.kind) (.int .i64 t.n) (.string t.name) (.slice a1 t.args.length cap1) 29)
  clear hc1 hr1 hB1
  go_wp2_with fail
  refine (HR.out _).mono ?_
  rintro e w2 ⟨v2, rfl, hB2, a2, cap2, rfl, hc2, hr2⟩
  have h2 := hB2.size
  simp only [World.size_alloc] at h2
  have HV2 := Lib.hid ((RT.mono (S' := fun _ => True) ⟨a2, cap2, rfl, hc2, hr2⟩ fun _ _ => trivial).alloc (.cells #[.int .i64 t.kind, .int .i64 t.n, .string t.name, .slice a2 t.args.length cap2] 29))
  have HV1 := Lib.hid (((HV1'.out.low.below hB2).mono (S' := fun _ => True) fun _ _ => trivial).alloc (.cells #[.int .i64 t.kind, .int .i64 t.n, .string t.name, .slice a2 t.args.length cap2] 29))
  have HB2 := Lib.hid ((below_step HB1.out (by simp; omega) hB2).alloc (by omega) (.cells #[.int .i64 t.kind, .int .i64 t.n, .string t.name, .slice a2 t.args.length cap2] 29))
  obtain ⟨x0, x1, x2, x3⟩ := HX1.out.step hB2
  have hlt : w1.heap.size < w2.heap.size := by omega
  clear hc2 hr2 hB2
  go_wp2_with fail
  all_goals
    refine (same_c t t (fun _ => True) _ _ _ HV1.out HV2.out hbk hbk).mono ?_
    rw [HS.out]
    rintro e w3 ⟨rfl, hB3⟩
    have h3 := hB3.size
    simp only [World.size_alloc] at h3
    have HB3 := Lib.hid (below_step HB2.out (by simp; omega) hB3)
    clear hB3
    go_wp2_with fail
    go_ret
    exact ⟨by simp, HB3.out⟩

set_option maxRecDepth 100000 in
theorem lifted (os : Os) (started : os.Started) (H : Type) (enc : TypeId × Value → H) :
    ReturnsInHanded {} Try.checked os 7 .any (Rows.termReadsSpec.pre6 enc Try.prog Try.f7 Rows.termReadsRow.domain false) (Rows.termReadsSpec.post enc Try.prog Try.f7 false true false false) := by
  refine returnsInHanded_of_change (C := Try.checked) own started (by kernel_rfl) Try.func7
    (ChangeSpec.witness6 (enc := enc) (C := Try.checked) false ⟨#[], #[.string .empty], []⟩ 8 (by kernel_rfl) (by kernel_rfl) (by kernel_rfl) (by kernel_rfl)) ?_
  intro W base args ds gs before hval0 hW hcnd _
  have hval : ∀ (j : Nat) t v, Try.f7.params[j]? = some t → args[j]? = some v → Value.okWide Try.prog W .any base t v := hval0
  have hW' := hW
  obtain ⟨p, q, hA0, hV, rfl, hfz, hnd⟩ := hW
  have hA : DataW.TrodAll enc Try.prog W 0 (fun _ => true) true Try.f7.params.toList args.toList ds p := hA0
  rw [Try.params7] at hA hval
  obtain ⟨v0, vs0, d0, ds0, p0, q0, hargs, rfl, rfl, h0, r0⟩ := trodAll_cons hA
  obtain ⟨rfl, rfl, rfl⟩ := trodAll_nil r0
  obtain rfl : args = #[v0] := by cases args; simp_all
  obtain ⟨rfl, rfl⟩ := trodVars_none hV
  obtain ⟨s, rfl, rfl, rfl, hs⟩ := Go.ChangeMaps.open_string Try.underlying9 (hval 0 9 v0 rfl rfl) h0
  refine (walk s W hs).mono fun e W' ⟨he, hB⟩ => ?_
  subst he
  exact ⟨_, rfl, post_true hW' rfl (by kernel_rfl) ⟨rfl, rfl, rfl⟩ (by intro t ht; rw [Try.params7] at ht; simp at ht; subst ht; exact ⟨by kernel_rfl, of_decide_eq_true (by kernel_rfl)⟩) hB⟩

theorem proved : Rows.TermReadsSaid :=
  OpenClaim.holds_of_wide 7 Try.f7 rfl rfl rfl rfl rfl rfl rfl ⟨rfl, rfl, rfl, rfl, rfl⟩ rfl rfl rfl rfl rfl (by kernel_rfl) Try.func7 (by kernel_rfl)
    (of_decide_eq_true (by kernel_rfl)) (by unfold Func.isWrapper; first | (rw [if_pos (by decide +kernel)]; kernel_rfl) | (rw [if_neg (by decide +kernel)]; exact ⟨rfl, rfl⟩))
    (fun os started H enc _ => lifted os started H enc)
end Go.Proofs.Ytedfepnekjjmnaa.termReads
