/-
  reckon.value: what it answers, the cases without a loop. Conditions: a formed term, four bound ones.
-/
import Derived.Test.YtedfepnekjjmnaaRval
import Derived.Test.YtedfepnekjjmnaaSum
import Derived.Test.YtedfepnekjjmnaaCopied
namespace Go.Proofs.Ytedfepnekjjmnaa
open Go.RowKit
set_option linter.unusedSimpArgs false
set_option linter.unusedVariables false
section
variable {bd : List T} {self : Int} {x : T} {S : Nat → Prop} {w : World} {v vb : Value}

set_option maxHeartbeats 1000000 in
theorem val_6 (hv : RT S w x v) (hk : x.kind = 6) : Calls Try.prog 63 #[v, vb, .int .i64 self] w (VPost S w (valT bd self x)) := by
  obtain ⟨a, cap, rfl, hcap, hr⟩ := hv
  clear hcap hr
  have HV := Lib.hid (valT_6 (bd := bd) (self := self) hk)
  have h1 : w.heap.size < w.heap.size + 1 + 1 := by omega
  go_enter Try.func63, Try.ntmps63
  go_wp2_with fail
  refine bodyPost_ret (v := .tuple #[.agg #[.int .i64 0, .int .i64 0, .string ⟨#[]⟩, .slice none 0 0], .bool false]) (by simp [results, Try.results63, go_sem, hk]) rfl (VPost.of zeroT _ _ rfl ?_ ⟨none, 0, rfl, ⟨Nat.le_refl _, fun _ => rfl⟩, by simp [zeroT, RTs]⟩ HV.out)
  repeat refine Below.setCell ?_ (by simp <;> omega) _
  exact (below_alloc _ _).alloc (by simp) _

set_option maxHeartbeats 2000000 in
theorem val_o (hv : RT S w x v) (hS : ∀ b, S b → b < w.heap.size) (hb : bulkL [x] ≤ 1099511627776) (hk4 : x.kind ≠ 4) (hk5 : x.kind ≠ 5) (hk6 : x.kind ≠ 6) : Calls Try.prog 63 #[v, vb, .int .i64 self] w (VPost S w (valT bd self x)) := by
  obtain ⟨a, cap, rfl, hcap, hr⟩ := hv
  have HX : Hid (RT S w x _) := Lib.hid ⟨a, cap, rfl, hcap, hr⟩
  clear hcap hr
  have HV := Lib.hid (valT_o (bd := bd) (self := self) hk4 hk5 hk6)
  have h4 : (x.kind == 4) = false := by simpa using hk4
  have h4' : (x.kind != 4) = true := by simpa using hk4
  have h5 : (x.kind == 5) = false := by simpa using hk5
  have h6 : (x.kind == 6) = false := by simpa using hk6
  have h1 : w.heap.size < w.heap.size + 1 + 1 := by omega
  clear hk4 hk5 hk6
  go_enter Try.func63, Try.ntmps63
  go_wp2_with fail
  refine (is_ris x sSelf 0 S _ _ ((HX.out.alloc _).alloc _) (by omega) (by omega) (by omega)).mono ?_
  rintro e w1 ⟨rfl, hB1⟩
  rw [isT_kind h4]
  have hs1 := hB1.size
  obtain ⟨hcc, hff⟩ := bcell hB1
  simp only [World.size_alloc] at hs1 hcc hff
  have g1 : w.heap.size < w1.heap.size := by omega
  have g2 : w.heap.size + 1 < w1.heap.size := by omega
  have HB1 := Lib.hid (below_step ((below_alloc _ _).alloc (by simp) _) (by simp <;> omega) hB1)
  have hs0 : w.heap.size ≤ w1.heap.size := by omega
  go_wp2_with fail
  refine (is_ris x sPut 1 S _ _ (HX.out.below HB1.out) (by omega) (by omega) (by omega)).mono ?_
  rintro e w2 ⟨rfl, hB2⟩
  rw [isT_kind h4]
  have hs2 := hB2.size
  obtain ⟨hcc2, hff2⟩ := bcell hB2
  have HB2 := Lib.hid (below_step HB1.out (by omega) hB2)
  go_wp2_with fail
  refine bodyPost_ret (v := .tuple #[.agg #[.int .i64 x.kind, .int .i64 x.n, .string x.name, .slice a x.args.length cap], .bool true]) (by simp [results, Try.results63, go_sem, hcc, hcc2, hff, hff2, g1, g2]) rfl (VPost.of x _ _ rfl ?_ ?_ HV.out)
  · repeat refine Below.setCell ?_ (by simp <;> omega) _
    exact HB2.out
  · refine RT.mono (S := S) ?_ fun b hb => .inl hb
    repeat refine RT.slot ?_ _ _ _ (fun b hb => by have := hS b hb; simp <;> omega)
    exact HX.out.below HB2.out

set_option maxHeartbeats 2000000 in
theorem val_self (hv : RT S w x v) (hS : ∀ b, S b → b < w.heap.size) (hb : bulkL [x] ≤ 1099511627776) (hk : x.kind = 4) (hs : isT x sSelf 0 = true) : Calls Try.prog 63 #[v, vb, .int .i64 self] w (VPost S w (valT bd self x)) := by
  obtain ⟨a, cap, rfl, hcap, hr⟩ := hv
  have HX : Hid (RT S w x _) := Lib.hid ⟨a, cap, rfl, hcap, hr⟩
  clear hcap hr
  have HV := Lib.hid (valT_self (bd := bd) (self := self) hk hs)
  have h1 : w.heap.size < w.heap.size + 1 + 1 := by omega
  have h4 : (x.kind == 4) = true := by simpa using hk
  have h5 : (x.kind == 5) = false := by simp [hk]
  have h6 : (x.kind == 6) = false := by simp [hk]
  clear hk
  go_enter Try.func63, Try.ntmps63
  go_wp2_with fail
  refine (is_ris x sSelf 0 S _ _ ((HX.out.alloc _).alloc _) (by omega) (by omega) (by omega)).mono ?_
  rintro e w1 ⟨rfl, hB1⟩
  rw [hs]
  have hs1 := hB1.size
  obtain ⟨hcc, hff⟩ := bcell hB1
  simp only [World.size_alloc] at hs1 hcc hff
  have g1 : w.heap.size < w1.heap.size := by omega
  have g2 : w.heap.size + 1 < w1.heap.size := by omega
  go_wp2_with fail
  refine bodyPost_ret (v := .tuple #[.agg #[.int .i64 3, .int .i64 self, .string ⟨#[]⟩, .slice none 0 0], .bool true]) (by simp [results, Try.results63, go_sem, hcc, hff]) rfl (VPost.of (pidT self) _ _ rfl ?_ ?_ HV.out)
  · repeat refine Below.setCell ?_ (by simp <;> omega) _
    exact below_step ((below_alloc _ _).alloc (by simp) _) (by simp <;> omega) hB1
  · exact ⟨none, 0, rfl, ⟨Nat.le_refl _, fun _ => rfl⟩, by simp [pidT, RTs]⟩
end
end Go.Proofs.Ytedfepnekjjmnaa
