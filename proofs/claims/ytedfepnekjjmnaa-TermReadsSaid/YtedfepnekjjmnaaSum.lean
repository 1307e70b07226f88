/-
  reckon.sum: what it answers. No condition.
-/
import Derived.Test.YtedfepnekjjmnaaValP
namespace Go.Proofs.Ytedfepnekjjmnaa
open Go.RowKit
set_option linter.unusedSimpArgs false
set_option linter.unusedVariables false

theorem sumB_eq (x y : T) : sumB x y = (x.kind == 1 && y.kind == 1 && inB (sumN x y) (-1099511627776) 1099511627776) := rfl

set_option maxHeartbeats 2000000 in
theorem sum_c (x y : T) (S S' : Nat → Prop) (w : World) (p q : Value) (hp : RT S w x p) (hq : RT S' w y q) :
    Calls Try.prog 99 #[p, q] w fun e w' => e = .returned (.tuple #[.agg #[.int .i64 1, .int .i64 (sumN x y), .string ⟨#[]⟩, .slice none 0 0], .bool (sumB x y)]) ∧ Below w.heap.size w w' := by
  obtain ⟨a1, cap1, rfl, hc1, hr1⟩ := hp
  obtain ⟨a2, cap2, rfl, hc2, hr2⟩ := hq
  clear hc1 hr1 hc2 hr2
  have HB := Lib.hid (sumB_eq x y)
  have hN := Lib.hid (show sumN x y = wrap64 (x.n + y.n) from rfl)
  have h1 : w.heap.size < w.heap.size + 1 + 1 := by omega
  have h2 : w.heap.size < w.heap.size + 1 + 1 + 1 := by omega
  have h3 : w.heap.size + 1 < w.heap.size + 1 + 1 + 1 := by omega
  have HBB : Hid (∀ o1 o2 o3, Below w.heap.size w (((w.alloc o1).alloc o2).alloc o3)) := Lib.hid fun o1 o2 o3 => ((below_alloc _ _).alloc (by simp) _).alloc (by simp <;> omega) _
  cases hk1 : (x.kind == 1)
  · have HS2 := Lib.hid (show sumB x y = false by rw [HB.out, hk1]; rfl)
    go_enter Try.func99, Try.ntmps99
    go_wp2_with fail
    refine bodyPost_ret (v := .tuple #[.agg #[.int .i64 1, .int .i64 (sumN x y), .string ⟨#[]⟩, .slice none 0 0], .bool (sumB x y)]) (by simp [results, Try.results99, go_sem, HS2.out, sumN]) rfl ⟨rfl, ?_⟩
    repeat' (first | exact HBB.out _ _ _ | apply Below.drew | refine Below.setCell ?_ (by simp <;> omega) _)
  cases hk2 : (y.kind == 1)
  · have HS2 := Lib.hid (show sumB x y = false by rw [HB.out, hk1, hk2]; rfl)
    go_enter Try.func99, Try.ntmps99
    go_wp2_with fail
    refine bodyPost_ret (v := .tuple #[.agg #[.int .i64 1, .int .i64 (sumN x y), .string ⟨#[]⟩, .slice none 0 0], .bool (sumB x y)]) (by simp [results, Try.results99, go_sem, HS2.out, sumN]) rfl ⟨rfl, ?_⟩
    repeat' (first | exact HBB.out _ _ _ | apply Below.drew | refine Below.setCell ?_ (by simp <;> omega) _)
  have HS2 := Lib.hid (show sumB x y = inB (wrap64 (x.n + y.n)) (-1099511627776) 1099511627776 by rw [HB.out, hk1, hk2]; rfl)
  by_cases hl : -1099511627776 ≤ wrap64 (x.n + y.n)
  · by_cases hu : wrap64 (x.n + y.n) ≤ 1099511627776
    · have HS3 := Lib.hid (show sumB x y = true by rw [HS2.out]; simp [inB, hl, hu])
      go_enter Try.func99, Try.ntmps99
      go_wp2_with fail
      refine bodyPost_ret (v := .tuple #[.agg #[.int .i64 1, .int .i64 (sumN x y), .string ⟨#[]⟩, .slice none 0 0], .bool (sumB x y)]) (by simp [results, Try.results99, go_sem, HS3.out, sumN, hl, hu]) rfl ⟨rfl, ?_⟩
      repeat' (first | exact HBB.out _ _ _ | apply Below.drew | refine Below.setCell ?_ (by simp <;> omega) _)
    · have HS3 := Lib.hid (show sumB x y = false by rw [HS2.out]; simp [inB]; omega)
      go_enter Try.func99, Try.ntmps99
      go_wp2_with fail
      refine bodyPost_ret (v := .tuple #[.agg #[.int .i64 1, .int .i64 (sumN x y), .string ⟨#[]⟩, .slice none 0 0], .bool (sumB x y)]) (by simp [results, Try.results99, go_sem, HS3.out, sumN, hl, hu]; try omega) rfl ⟨rfl, ?_⟩
      repeat' (first | exact HBB.out _ _ _ | apply Below.drew | refine Below.setCell ?_ (by simp <;> omega) _)
  · have HS3 := Lib.hid (show sumB x y = false by rw [HS2.out]; simp [inB]; omega)
    go_enter Try.func99, Try.ntmps99
    go_wp2_with fail
    refine bodyPost_ret (v := .tuple #[.agg #[.int .i64 1, .int .i64 (sumN x y), .string ⟨#[]⟩, .slice none 0 0], .bool (sumB x y)]) (by simp [results, Try.results99, go_sem, HS3.out, sumN, hl]; try omega) rfl ⟨rfl, ?_⟩
    repeat' (first | exact HBB.out _ _ _ | apply Below.drew | refine Below.setCell ?_ (by simp <;> omega) _)
end Go.Proofs.Ytedfepnekjjmnaa
