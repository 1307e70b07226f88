/-
  term.Print: what it answers. No condition but a bound, and the table of powers as its initialiser lays it.
-/
import Derived.Test.YtedfepnekjjmnabDoorRText
import Derived.Test.YtedfepnekjjmnabDoorRCheck
namespace Go.Proofs.YtedfepnekjjmnabDoor
open Go.RowKit
set_option linter.unusedSimpArgs false
set_option linter.unusedVariables false
set_option maxRecDepth 100000

theorem check_form0 {t : T} (h : checkE t = 0) : formL [t] = true := by
  unfold checkE at h
  split at h
  · assumption
  · omega
def printS (t : T) : ByteArray := if checkE t = 0 then txT t else ⟨#[]⟩
def PrintP (t : T) (w : World) (e : Ending) (w' : World) : Prop := e = .returned (.tuple #[.string (printS t), .int .i64 (checkE t)]) ∧ Below w.heap.size w w'
set_option maxHeartbeats 1000000 in
theorem print_c (t : T) (S : Nat → Prop) (w : World) (v : Value) (hv : RT S w t v) (hb : bulkL [t] ≤ 34359738368) (htab : TabB w) : Calls Tryd.prog 8 #[v] w (PrintP t w) := by
  obtain ⟨a, cap, rfl, hcap, hr⟩ := hv
  obtain ⟨W0, hW0⟩ : ∃ W : World, W = w.alloc (.cells #[.int .i64 t.kind, .int .i64 t.n, .string t.name, .slice a t.args.length cap] 24) := ⟨_, rfl⟩
  obtain ⟨g0, hg0⟩ : ∃ g, g = w.heap.size := ⟨_, rfl⟩
  have HX : Hid (Blk W0 g0 [.int .i64 t.kind, .int .i64 t.n, .string t.name, .slice a t.args.length cap]) := Lib.hid (by rw [hW0]; exact Blk.new _ _ _ _ hg0)
  have HB0 : Hid (Below w.heap.size w W0) := Lib.hid (by rw [hW0]; exact below_alloc _ _)
  have HT0 : Hid (TabB W0) := Lib.hid (htab.on HB0.out)
  have HR : Hid (RT S W0 t (.agg #[.int .i64 t.kind, .int .i64 t.n, .string t.name, .slice a t.args.length cap])) := Lib.hid (RT.below ⟨a, cap, rfl, hcap, hr⟩ HB0.out)
  have hs0 := HB0.out.size
  have HW0 := Lib.hid hW0
  have HG0 := Lib.hid hg0
  clear hr hcap htab hW0 hg0
  go_enter Tryd.func8, Tryd.ntmps8
  go_upto_region 1 with fail
  rw [← HW0.out, ← HG0.out]
  have y0 := HX.out.cell 0 _ rfl
  have y1 := HX.out.cell 1 _ rfl
  have y2 := HX.out.cell 2 _ rfl
  have y3 := HX.out.cell 3 _ rfl
  go_wp2_with fail
  refine (check_c t S W0 _ HR.out (by omega)).mono ?_
  rintro e w1 ⟨rfl, hB1⟩
  have hs1 := hB1.size
  have HB1 := Lib.hid hB1
  have HX1 := Lib.hid (HX.out.step hB1)
  clear hB1 y0 y1 y2 y3
  by_cases hck : checkE t = 0
  · have HCK := Lib.hid hck
    have hcb : (checkE t != 0) = false := by rw [hck]; rfl
    clear hck
    have y0 := HX1.out.cell 0 _ rfl
    have y1 := HX1.out.cell 1 _ rfl
    have y2 := HX1.out.cell 2 _ rfl
    have y3 := HX1.out.cell 3 _ rfl
    go_wp2_with fail
    refine (text_c t S w1 _ (HR.out.below HB1.out) (check_form0 HCK.out) hb (HT0.out.on HB1.out)).mono ?_
    rintro e w2 ⟨rfl, hB2⟩
    go_wp2_with fail
    go_ret2
    exact ⟨by unfold printS; rw [HCK.out]; rfl, HB0.out.trans ((HB1.out.trans (hB2.mono hs1)).mono hs0)⟩
  · have HCK := Lib.hid hck
    have hcb : (checkE t != 0) = true := by simp [hck]
    clear hck
    go_wp2_with fail
    go_ret2
    exact ⟨by unfold printS; rw [if_neg HCK.out]; rfl, HB0.out.trans (HB1.out.mono hs0)⟩
end Go.Proofs.YtedfepnekjjmnabDoor
