/-
  term.Copied: the same term, in new memory. No condition but a bound on how much there is.
-/
import Derived.Test.YtedfepnekjjmnaaGrow
namespace Go.Proofs.Ytedfepnekjjmnaa
open Go.RowKit
set_option linter.unusedSimpArgs false
set_option linter.unusedVariables false

set_option maxHeartbeats 1000000 in
set_option maxRecDepth 100000 in
theorem copied_c : ∀ (t : T) (S : Nat → Prop) (w : World) (v : Value), RT S w t v → bulkL [t] ≤ 1099511627776 →
    Calls Try.prog 70 #[v] w fun e w' => ∃ v', e = .returned v' ∧ Below w.heap.size w w' ∧ RT (fun b => w.heap.size ≤ b) w' t v' := by
  intro t
  induction t using T.ind with
  | h t ih =>
    intro S w v hv hb
    have hba := bulk_args t
    have hla := length_le_bulk t.args
    obtain ⟨a, cap, rfl, hcap, hr⟩ := hv
    have IH := Lib.hid ih; clear ih
    have HR := Lib.hid hr; clear hr
    clear hcap
    go_enter Try.func70, Try.ntmps70
    go_wp2_with fail
    go_loopw [3, 9] (fun out i wr => ∃ k : Nat, k ≤ t.args.length ∧ i = .int .i64 k ∧ OwnG (fun b => w.heap.size + 2 ≤ b) (w.heap.size + 2) wr out (t.args.take k) ∧
        Below (w.heap.size + 2) ((w.alloc (.cells #[.int .i64 t.kind, .int .i64 t.n, .string t.name, .slice a t.args.length cap] 29)).alloc (.cells #[.int .i64 0, .int .i64 0, .string ⟨#[]⟩, .slice none 0 0] 29)) wr) (fun _ i _ => t.args.length - (intOf i).toNat)
    case atStart => exact ⟨0, Nat.zero_le _, rfl, OwnG.nil _ _ _, Below.refl _ _⟩
    case round =>
      obtain ⟨k, hkl, rfl, hT, hB⟩ := hrel
      have hsz := hB.size
      simp only [World.size_alloc] at hsz
      have HT := Lib.hid hT; clear hT
      have HB : Hid (Below w.heap.size w wr) := Lib.hid (below_step ((below_alloc _ _).alloc (by simp) _) (by simp <;> omega) (hB.mono (by simp <;> omega)))
      by_cases hlt : k < t.args.length
      · obtain ⟨b, o, rfl⟩ := HR.out.addr (by omega)
        obtain ⟨a', cap', hSb, d0, d1, d2, d3, hE⟩ := (HR.out.below HB.out).elem k hlt
        have hbk := bulk_at hlt
        have hE := Lib.hid hE
        go_wp2_with fail
        refine (IH.out _ (List.getElem_mem hlt) S _ _ (hE.out.alloc _) (by omega)).mono ?_
        rintro e w1 ⟨v1, rfl, hB1, hr1⟩
        have hs1 := hB1.size
        simp only [World.size_alloc] at hs1
        obtain ⟨a1, cap1, rfl, hcap1, hr1⟩ := hr1
        have HR1 : Hid (RT (fun b => wr.heap.size + 1 ≤ b) w1 (t.args[k]) _) := Lib.hid ⟨a1, cap1, rfl, hcap1, by simpa using hr1⟩
        have HT1 := Lib.hid ((HT.out.alloc (.cells #[.int .i64 t.args[k].kind, .int .i64 t.args[k].n, .string t.args[k].name, .slice a' t.args[k].args.length cap'] 29)).below hB1)
        have HT0 := Lib.hid HT.out.block
        clear d0 d1 d2 d3 hcap1 hr1
        have hnn : (t.args.take k).length + 1 ≤ 1099511627776 := by simp; omega
        go_wp2_with (at_builtin; refine append_grow _ _ rfl rfl rfl rfl HT1.out HR1.out (fun b hb hl => ⟨by omega, fun he => by have := HT0.out b he; omega⟩) hnn (by omega) ?_; intro v3 w2 hT3 hB3 hw3; have hs2 := hB3.size; have H3 := Lib.hid hT3; clear hT3 hw3)
        go_roundw
        case rel => exact ⟨k + 1, by omega, by go_num, by rw [take_snoc' _ k hlt]; exact H3.out, (below_step (hB.alloc (by omega) _) (by simp <;> omega) hB1).trans hB3⟩
        case measure => simp [intOf]; omega
      · have hkk : k = t.args.length := by omega
        subst hkk
        have hB' := hB.mono (show ((w.alloc (.cells #[.int .i64 t.kind, .int .i64 t.n, .string t.name, .slice a t.args.length cap] 29)).alloc (.cells #[.int .i64 0, .int .i64 0, .string ⟨#[]⟩, .slice none 0 0] 29)).heap.size ≤ w.heap.size + 2 by simp)
        obtain ⟨hcc, hff⟩ := bcell hB'
        simp only [World.size_alloc] at hcc hff
        obtain ⟨ar, capr, hrow, hcr, hrr⟩ := HT.out.rsl (fun b hb => hb)
        rw [List.take_of_length_le (Nat.le_refl _)] at hrow hcr hrr
        subst hrow
        have hrr := Lib.hid hrr
        have h1 : w.heap.size < w.heap.size + 1 + 1 := by omega
        have h2 : w.heap.size < wr.heap.size := by omega
        have h3 : w.heap.size + 1 < wr.heap.size := by omega
        clear hB hB'
        go_wp2_with fail
        refine bodyPost_ret (v := .agg #[.int .i64 t.kind, .int .i64 t.n, .string t.name, .slice ar t.args.length capr]) (by simp [results, Try.results70, go_sem, hcc, hff]) rfl ⟨_, rfl, ?_, ar, capr, rfl, hcr, ?_⟩
        · repeat refine Below.setCell ?_ (by simp <;> omega) _
          exact HB.out
        · refine hrr.out.to (fun b hb _ => by omega) fun b hb _ => ?_
          have hn1 : b ≠ w.heap.size := by omega
          have hn2 : b ≠ w.heap.size + 1 := by omega
          simp only [setCell_other _ _ _ _ _ hn1, setCell_other _ _ _ _ _ hn2]
end Go.Proofs.Ytedfepnekjjmnaa
