/-
  slices.Repeat of one element, one to eight times. No condition.
-/
import Derived.Test.YtedfepnekjjmnabJb
import Derived.Test.YtedfepnekjjmnabJc
import Derived.Test.YtedfepnekjjmnabJd
namespace Go.Proofs.Ytedfepnekjjmnab
open Go.RowKit
set_option linter.unusedSimpArgs false
set_option linter.unusedVariables false
set_option maxRecDepth 100000

def copL (c : List Value) (k : Nat) : List Value := (List.replicate k c).flatten
theorem copL_len (c : List Value) (k : Nat) : (copL c k).length = k * c.length := by simp [copL]
theorem copL_add (c : List Value) (a b : Nat) : copL c (a + b) = copL c a ++ copL c b := by unfold copL; rw [← List.replicate_append_replicate, List.flatten_append]
theorem copL_mem {c : List Value} {k : Nat} {v : Value} (h : v ∈ copL c k) : v ∈ c := by
  unfold copL at h
  obtain ⟨l, hl, hv⟩ := List.mem_flatten.1 h
  rwa [(List.mem_replicate.1 hl).2] at hv
/-- k of n written, the others not yet. -/
def rowL (c z : List Value) (n k : Nat) : List Value := copL c k ++ copL z (n - k)
theorem rowL_all (c z : List Value) (n : Nat) : rowL c z n n = copL c n := by unfold rowL; rw [Nat.sub_self]; simp [copL]
theorem rowL_put {c z : List Value} {s n k m : Nat} (hc : c.length = s) (hz : z.length = s) (h : k + m ≤ n) : (rowL c z n k).take (k * s) ++ copL c m ++ (rowL c z n k).drop (k * s + (copL c m).length) = rowL c z n (k + m) := by
  have h1 : (copL c k).length = k * s := by rw [copL_len, hc]
  have h2 : (copL c m).length = m * s := by rw [copL_len, hc]
  have h3 : (copL z m).length = m * s := by rw [copL_len, hz]
  unfold rowL
  rw [h2, List.take_left' h1, ← List.drop_drop, List.drop_left' h1, show n - k = m + (n - (k + m)) by omega, copL_add z, List.drop_left' h3, copL_add c]
theorem src_one {w : World} {b : Nat} {c : List Value} (hb : b < w.heap.size) (hc : ∀ j v, c[j]? = some v → w.cell? ⟨b, j, none⟩ = some v) (o : Obj) : ∀ j v, (copL c 1)[j]? = some v → (w.alloc o).cell? ((⟨b, 0, none⟩ : Addr).add j) = some v := by
  intro j v hv
  have e : (⟨b, 0, none⟩ : Addr).add j = ⟨b, j, none⟩ := by unfold Addr.add; split <;> simp_all
  rw [e, World.cell?_of_block (w := w) (Below.heap_alloc _ _ _ hb)]
  refine hc j v ?_
  simpa [copL] using hv
theorem src_row {w : World} {g n k m : Nat} {c z : List Value} {e : TypeId} (hg : w.heap[g]? = some (.cells (rowL c z n k).toArray e)) (h : m ≤ k) : ∀ j v, (copL c m)[j]? = some v → w.cell? ((⟨g, 0, none⟩ : Addr).add j) = some v := by
  intro j v hv
  have e : (⟨g, 0, none⟩ : Addr).add j = ⟨g, j, none⟩ := by unfold Addr.add; split <;> simp_all
  have hj := (List.getElem?_eq_some_iff.1 hv).1
  rw [e, cell_of_row w g j _ _ _ hg]
  rw [List.getElem?_toArray]
  unfold rowL
  rw [show k = m + (k - m) by omega, copL_add, List.append_assoc, List.getElem?_append_left hj]
  exact hv
theorem copy_row (T e : TypeId) (hu : Try.prog.underlying T = some (.slice e)) (s : Nat) (hs : (Try.prog.info? e).map (·.size) = some s) (c z : List Value) (hc : c.length = s) (hz : z.length = s) (h1 : ∀ v ∈ c, v.oneCell' = true) (w : World) (g n k m q d cp : Nat) (ad : Addr) (sCap : Nat)
    (hd : d = n - k) (hm : Nat.min q d = m) (hkm : k + m ≤ n) (hg : w.heap[g]? = some (.cells (rowL c z n k).toArray e)) (hsrc : ∀ j v, (copL c m)[j]? = some v → w.cell? (ad.add j) = some v) :
    ∃ w', (Builtin.copy_ #[T, T] 3 #[.slice (some ⟨g, k * s, none⟩) d cp, .slice (some ad) q sCap]).run Try.prog w = .ok (goInt m) w' ∧ w'.heap[g]? = some (.cells (rowL c z n (k + m)).toArray e) ∧ Below g w w' := by
  have hlen : (copL c m).length = Nat.min q d * s := by rw [hm, copL_len, hc]
  have hfit : k * s + (copL c m).length ≤ (rowL c z n k).toArray.size := by
    rw [hlen, hm]
    show _ ≤ (rowL c z n k).length
    unfold rowL
    rw [List.length_append, copL_len, copL_len, hc, hz, ← Nat.add_mul, ← Nat.add_mul]
    exact Nat.mul_le_mul_right _ (by omega)
  refine ⟨_, by rw [run_copy_many (P := Try.prog) w T T 3 e g (k * s) d cp s ad q sCap _ e (copL c m) hu hs hg hlen hsrc hfit fun v hv => h1 v (copL_mem hv), hm], ?_, below_setRow (Below.refl _ _) (Nat.le_refl _) _⟩
  rw [setRow_heap w g _ _ _ _ hg]
  congr 2
  exact congrArg List.toArray (rowL_put hc hz hkm)
theorem rmul64_c (n : Int) (h1 : 1 ≤ n) (h8 : n ≤ 8) (w : World) : Calls Try.prog 86 #[.int .u64 1, .int .u64 n] w fun e w' => e = .returned (.tuple #[.int .u64 0, .int .u64 n]) ∧ w' = w := by
  obtain rfl | rfl | rfl | rfl | rfl | rfl | rfl | rfl : n = 1 ∨ n = 2 ∨ n = 3 ∨ n = 4 ∨ n = 5 ∨ n = 6 ∨ n = 7 ∨ n = 8 := by omega
  all_goals (
    go_enter Try.func86, Try.ntmps86
    go_wp2_with fail
    exact bodyPost_ret (v := .tuple #[.int .u64 0, .int .u64 _]) (by simp [results, Try.results86, go_sem]; try decide) rfl ⟨rfl, rfl⟩)
theorem rmul_c (n : Int) (h1 : 1 ≤ n) (h8 : n ≤ 8) (w : World) : Calls Try.prog 52 #[.int .u64 1, .int .u64 n] w fun e w' => e = .returned (.tuple #[.int .u64 0, .int .u64 n]) ∧ w' = w := by
  go_enter Try.func52, Try.ntmps52
  go_wp2_with fail
  refine (rmul64_c n h1 h8 _).mono ?_
  rintro e w1 ⟨rfl, rfl⟩
  go_wp2_with fail
  exact bodyPost_ret (v := .tuple #[.int .u64 0, .int .u64 n]) (by simp [results, Try.results52, go_sem]) rfl ⟨rfl, rfl⟩
/-- What Repeat hands back. -/
def RepP (w : World) (e : TypeId) (c : List Value) (n : Nat) (x : Ending) (w' : World) : Prop :=
  x = .returned (.slice (some ⟨w.heap.size, 0, none⟩) n n) ∧ Below w.heap.size w w' ∧ w'.heap[w.heap.size]? = some (.cells (copL c n).toArray e)
def zeroW : List Value := [.int .i64 0, .int .i64 0]
theorem makeW (w : World) (c : List Value) (n : Nat) (hn : n ≤ 8) : (Instr.makeSlice 37 (.int .i64 n) (.int .i64 n)).run Try.prog w = .ok (.slice (some ⟨w.heap.size, 0, none⟩) n n) (w.alloc (.cells (rowL c zeroW n 0).toArray 31)) := by
  obtain ⟨i, hq, hz, h1, h2⟩ := info_parts infoWord
  obtain rfl | rfl | rfl | rfl | rfl | rfl | rfl | rfl | rfl : n = 0 ∨ n = 1 ∨ n = 2 ∨ n = 3 ∨ n = 4 ∨ n = 5 ∨ n = 6 ∨ n = 7 ∨ n = 8 := by omega
  · have := run_make (P := Try.prog) w 37 31 i _ Try.underlying37 hq hz .i64 .i64 0 0 (by decide) (by decide) (by rw [h2]; decide) (by decide)
    have e : madeCells (Value.agg #[.int .i64 0, .int .i64 0]).cells (Int.toNat 0 * 2) = (rowL c zeroW 0 0).toArray := by kernel_rfl
    refine this.trans ?_
    rw [h1, e]
    rfl
  · have := run_make (P := Try.prog) w 37 31 i _ Try.underlying37 hq hz .i64 .i64 1 1 (by decide) (by decide) (by rw [h2]; decide) (by decide)
    have e : madeCells (Value.agg #[.int .i64 0, .int .i64 0]).cells (Int.toNat 1 * 2) = (rowL c zeroW 1 0).toArray := by kernel_rfl
    refine this.trans ?_
    rw [h1, e]
    rfl
  · have := run_make (P := Try.prog) w 37 31 i _ Try.underlying37 hq hz .i64 .i64 2 2 (by decide) (by decide) (by rw [h2]; decide) (by decide)
    have e : madeCells (Value.agg #[.int .i64 0, .int .i64 0]).cells (Int.toNat 2 * 2) = (rowL c zeroW 2 0).toArray := by kernel_rfl
    refine this.trans ?_
    rw [h1, e]
    rfl
  · have := run_make (P := Try.prog) w 37 31 i _ Try.underlying37 hq hz .i64 .i64 3 3 (by decide) (by decide) (by rw [h2]; decide) (by decide)
    have e : madeCells (Value.agg #[.int .i64 0, .int .i64 0]).cells (Int.toNat 3 * 2) = (rowL c zeroW 3 0).toArray := by kernel_rfl
    refine this.trans ?_
    rw [h1, e]
    rfl
  · have := run_make (P := Try.prog) w 37 31 i _ Try.underlying37 hq hz .i64 .i64 4 4 (by decide) (by decide) (by rw [h2]; decide) (by decide)
    have e : madeCells (Value.agg #[.int .i64 0, .int .i64 0]).cells (Int.toNat 4 * 2) = (rowL c zeroW 4 0).toArray := by kernel_rfl
    refine this.trans ?_
    rw [h1, e]
    rfl
  · have := run_make (P := Try.prog) w 37 31 i _ Try.underlying37 hq hz .i64 .i64 5 5 (by decide) (by decide) (by rw [h2]; decide) (by decide)
    have e : madeCells (Value.agg #[.int .i64 0, .int .i64 0]).cells (Int.toNat 5 * 2) = (rowL c zeroW 5 0).toArray := by kernel_rfl
    refine this.trans ?_
    rw [h1, e]
    rfl
  · have := run_make (P := Try.prog) w 37 31 i _ Try.underlying37 hq hz .i64 .i64 6 6 (by decide) (by decide) (by rw [h2]; decide) (by decide)
    have e : madeCells (Value.agg #[.int .i64 0, .int .i64 0]).cells (Int.toNat 6 * 2) = (rowL c zeroW 6 0).toArray := by kernel_rfl
    refine this.trans ?_
    rw [h1, e]
    rfl
  · have := run_make (P := Try.prog) w 37 31 i _ Try.underlying37 hq hz .i64 .i64 7 7 (by decide) (by decide) (by rw [h2]; decide) (by decide)
    have e : madeCells (Value.agg #[.int .i64 0, .int .i64 0]).cells (Int.toNat 7 * 2) = (rowL c zeroW 7 0).toArray := by kernel_rfl
    refine this.trans ?_
    rw [h1, e]
    rfl
  · have := run_make (P := Try.prog) w 37 31 i _ Try.underlying37 hq hz .i64 .i64 8 8 (by decide) (by decide) (by rw [h2]; decide) (by decide)
    have e : madeCells (Value.agg #[.int .i64 0, .int .i64 0]).cells (Int.toNat 8 * 2) = (rowL c zeroW 8 0).toArray := by kernel_rfl
    refine this.trans ?_
    rw [h1, e]
    rfl
set_option maxHeartbeats 2000000 in
theorem repW1 (w : World) (b : Nat) (c : List Value) (hlc : c.length = 2) (hone : ∀ v ∈ c, v.oneCell' = true) (hb : b < w.heap.size) (hc : ∀ j v, c[j]? = some v → w.cell? ⟨b, j, none⟩ = some v) :
    Calls Try.prog 13 #[.slice (some ⟨b, 0, none⟩) 1 1, .int .i64 1] w (RepP w 31 c 1) := by
  have hmk : (Instr.makeSlice 37 (.int .i64 1) (.int .i64 1)).run Try.prog w = .ok (.slice (some ⟨w.heap.size, 0, none⟩) 1 1) (w.alloc (.cells (rowL c zeroW 1 0).toArray 31)) := makeW w c 1 (by omega)
  have hg0 := heap_alloc_new w (.cells (rowL c zeroW 1 0).toArray 31)
  have hsrc := src_one (w := w) (b := b) hb hc (.cells (rowL c zeroW 1 0).toArray 31)
  obtain ⟨w2, hcp, hg2, hB2⟩ := copy_row 37 31 Try.underlying37 2 szWord c zeroW hlc rfl hone (w.alloc (.cells (rowL c zeroW 1 0).toArray 31)) w.heap.size 1 0 1 1 1 1 ⟨b, 0, none⟩ 1 rfl rfl (by omega) hg0 hsrc
  have hB2 := Lib.hid (show Below w.heap.size w w2 from (below_alloc _ _).trans hB2)
  have HLC := Lib.hid hlc
  have HONE := Lib.hid hone
  go_enter Try.func13, Try.ntmps13
  go_wp2_with fail
  refine (rmul_c 1 (by omega) (by omega) _).mono ?_
  rintro e w1 ⟨rfl, rfl⟩
  go_wp2_with fail
  have HMK := Lib.hid hmk
  clear hmk hcp hsrc hg0 hc hone hlc
  go_loopw [8] (fun i wr => ∃ k : Nat, i = .int .i64 k ∧ (k = 1) ∧ wr.heap[w1.heap.size]? = some (.cells (rowL c zeroW 1 k).toArray 31) ∧ Below w1.heap.size w1 wr) (fun i _ => 1 - (intOf i).toNat)
  case atStart => exact ⟨1, rfl, by omega, hg2, hB2.out⟩
  case round =>
    obtain ⟨k, rfl, hk, hgk, hB⟩ := hrel
    subst hk
    go_wp2_with fail
    go_ret
    exact ⟨rfl, hB, by rw [hgk, rowL_all]⟩
set_option maxHeartbeats 2000000 in
theorem repW2 (w : World) (b : Nat) (c : List Value) (hlc : c.length = 2) (hone : ∀ v ∈ c, v.oneCell' = true) (hb : b < w.heap.size) (hc : ∀ j v, c[j]? = some v → w.cell? ⟨b, j, none⟩ = some v) :
    Calls Try.prog 13 #[.slice (some ⟨b, 0, none⟩) 1 1, .int .i64 2] w (RepP w 31 c 2) := by
  have hmk : (Instr.makeSlice 37 (.int .i64 2) (.int .i64 2)).run Try.prog w = .ok (.slice (some ⟨w.heap.size, 0, none⟩) 2 2) (w.alloc (.cells (rowL c zeroW 2 0).toArray 31)) := makeW w c 2 (by omega)
  have hg0 := heap_alloc_new w (.cells (rowL c zeroW 2 0).toArray 31)
  have hsrc := src_one (w := w) (b := b) hb hc (.cells (rowL c zeroW 2 0).toArray 31)
  obtain ⟨w2, hcp, hg2, hB2⟩ := copy_row 37 31 Try.underlying37 2 szWord c zeroW hlc rfl hone (w.alloc (.cells (rowL c zeroW 2 0).toArray 31)) w.heap.size 2 0 1 1 2 2 ⟨b, 0, none⟩ 1 rfl rfl (by omega) hg0 hsrc
  have hB2 := Lib.hid (show Below w.heap.size w w2 from (below_alloc _ _).trans hB2)
  have HLC := Lib.hid hlc
  have HONE := Lib.hid hone
  go_enter Try.func13, Try.ntmps13
  go_wp2_with fail
  refine (rmul_c 2 (by omega) (by omega) _).mono ?_
  rintro e w1 ⟨rfl, rfl⟩
  go_wp2_with fail
  have HMK := Lib.hid hmk
  clear hmk hcp hsrc hg0 hc hone hlc
  go_loopw [8] (fun i wr => ∃ k : Nat, i = .int .i64 k ∧ (k = 1 ∨ k = 2) ∧ wr.heap[w1.heap.size]? = some (.cells (rowL c zeroW 2 k).toArray 31) ∧ Below w1.heap.size w1 wr) (fun i _ => 2 - (intOf i).toNat)
  case atStart => exact ⟨1, rfl, by omega, hg2, hB2.out⟩
  case round =>
    obtain ⟨k, rfl, hk, hgk, hB⟩ := hrel
    rcases hk with rfl | rfl
    · obtain ⟨w3, hcp, hg3, hB3⟩ := copy_row 37 31 Try.underlying37 2 szWord c zeroW HLC.out rfl HONE.out wr.drew w1.heap.size 2 1 1 1 1 1 ⟨w1.heap.size, 0, none⟩ 2 rfl rfl (by omega) hgk (src_row (w := wr.drew) hgk (by omega))
      go_wp2_with fail
      go_region
      go_wp2_with fail
      go_roundw
      case rel => exact ⟨2, rfl, by omega, hg3, hB.drew.trans hB3⟩
      case measure => simp [intOf]
    · go_wp2_with fail
      go_ret
      exact ⟨rfl, hB, by rw [hgk, rowL_all]⟩
set_option maxHeartbeats 2000000 in
theorem repW3 (w : World) (b : Nat) (c : List Value) (hlc : c.length = 2) (hone : ∀ v ∈ c, v.oneCell' = true) (hb : b < w.heap.size) (hc : ∀ j v, c[j]? = some v → w.cell? ⟨b, j, none⟩ = some v) :
    Calls Try.prog 13 #[.slice (some ⟨b, 0, none⟩) 1 1, .int .i64 3] w (RepP w 31 c 3) := by
  have hmk : (Instr.makeSlice 37 (.int .i64 3) (.int .i64 3)).run Try.prog w = .ok (.slice (some ⟨w.heap.size, 0, none⟩) 3 3) (w.alloc (.cells (rowL c zeroW 3 0).toArray 31)) := makeW w c 3 (by omega)
  have hg0 := heap_alloc_new w (.cells (rowL c zeroW 3 0).toArray 31)
  have hsrc := src_one (w := w) (b := b) hb hc (.cells (rowL c zeroW 3 0).toArray 31)
  obtain ⟨w2, hcp, hg2, hB2⟩ := copy_row 37 31 Try.underlying37 2 szWord c zeroW hlc rfl hone (w.alloc (.cells (rowL c zeroW 3 0).toArray 31)) w.heap.size 3 0 1 1 3 3 ⟨b, 0, none⟩ 1 rfl rfl (by omega) hg0 hsrc
  have hB2 := Lib.hid (show Below w.heap.size w w2 from (below_alloc _ _).trans hB2)
  have HLC := Lib.hid hlc
  have HONE := Lib.hid hone
  go_enter Try.func13, Try.ntmps13
  go_wp2_with fail
  refine (rmul_c 3 (by omega) (by omega) _).mono ?_
  rintro e w1 ⟨rfl, rfl⟩
  go_wp2_with fail
  have HMK := Lib.hid hmk
  clear hmk hcp hsrc hg0 hc hone hlc
  go_loopw [8] (fun i wr => ∃ k : Nat, i = .int .i64 k ∧ (k = 1 ∨ k = 2 ∨ k = 3) ∧ wr.heap[w1.heap.size]? = some (.cells (rowL c zeroW 3 k).toArray 31) ∧ Below w1.heap.size w1 wr) (fun i _ => 3 - (intOf i).toNat)
  case atStart => exact ⟨1, rfl, by omega, hg2, hB2.out⟩
  case round =>
    obtain ⟨k, rfl, hk, hgk, hB⟩ := hrel
    rcases hk with rfl | rfl | rfl
    · obtain ⟨w3, hcp, hg3, hB3⟩ := copy_row 37 31 Try.underlying37 2 szWord c zeroW HLC.out rfl HONE.out wr.drew w1.heap.size 3 1 1 1 2 2 ⟨w1.heap.size, 0, none⟩ 3 rfl rfl (by omega) hgk (src_row (w := wr.drew) hgk (by omega))
      go_wp2_with fail
      go_region
      go_wp2_with fail
      go_roundw
      case rel => exact ⟨2, rfl, by omega, hg3, hB.drew.trans hB3⟩
      case measure => simp [intOf]
    · obtain ⟨w3, hcp, hg3, hB3⟩ := copy_row 37 31 Try.underlying37 2 szWord c zeroW HLC.out rfl HONE.out wr.drew w1.heap.size 3 2 1 2 1 1 ⟨w1.heap.size, 0, none⟩ 3 rfl rfl (by omega) hgk (src_row (w := wr.drew) hgk (by omega))
      go_wp2_with fail
      go_region
      go_wp2_with fail
      go_roundw
      case rel => exact ⟨3, rfl, by omega, hg3, hB.drew.trans hB3⟩
      case measure => simp [intOf]
    · go_wp2_with fail
      go_ret
      exact ⟨rfl, hB, by rw [hgk, rowL_all]⟩
set_option maxHeartbeats 2000000 in
theorem repW4 (w : World) (b : Nat) (c : List Value) (hlc : c.length = 2) (hone : ∀ v ∈ c, v.oneCell' = true) (hb : b < w.heap.size) (hc : ∀ j v, c[j]? = some v → w.cell? ⟨b, j, none⟩ = some v) :
    Calls Try.prog 13 #[.slice (some ⟨b, 0, none⟩) 1 1, .int .i64 4] w (RepP w 31 c 4) := by
  have hmk : (Instr.makeSlice 37 (.int .i64 4) (.int .i64 4)).run Try.prog w = .ok (.slice (some ⟨w.heap.size, 0, none⟩) 4 4) (w.alloc (.cells (rowL c zeroW 4 0).toArray 31)) := makeW w c 4 (by omega)
  have hg0 := heap_alloc_new w (.cells (rowL c zeroW 4 0).toArray 31)
  have hsrc := src_one (w := w) (b := b) hb hc (.cells (rowL c zeroW 4 0).toArray 31)
  obtain ⟨w2, hcp, hg2, hB2⟩ := copy_row 37 31 Try.underlying37 2 szWord c zeroW hlc rfl hone (w.alloc (.cells (rowL c zeroW 4 0).toArray 31)) w.heap.size 4 0 1 1 4 4 ⟨b, 0, none⟩ 1 rfl rfl (by omega) hg0 hsrc
  have hB2 := Lib.hid (show Below w.heap.size w w2 from (below_alloc _ _).trans hB2)
  have HLC := Lib.hid hlc
  have HONE := Lib.hid hone
  go_enter Try.func13, Try.ntmps13
  go_wp2_with fail
  refine (rmul_c 4 (by omega) (by omega) _).mono ?_
  rintro e w1 ⟨rfl, rfl⟩
  go_wp2_with fail
  have HMK := Lib.hid hmk
  clear hmk hcp hsrc hg0 hc hone hlc
  go_loopw [8] (fun i wr => ∃ k : Nat, i = .int .i64 k ∧ (k = 1 ∨ k = 2 ∨ k = 4) ∧ wr.heap[w1.heap.size]? = some (.cells (rowL c zeroW 4 k).toArray 31) ∧ Below w1.heap.size w1 wr) (fun i _ => 4 - (intOf i).toNat)
  case atStart => exact ⟨1, rfl, by omega, hg2, hB2.out⟩
  case round =>
    obtain ⟨k, rfl, hk, hgk, hB⟩ := hrel
    rcases hk with rfl | rfl | rfl
    · obtain ⟨w3, hcp, hg3, hB3⟩ := copy_row 37 31 Try.underlying37 2 szWord c zeroW HLC.out rfl HONE.out wr.drew w1.heap.size 4 1 1 1 3 3 ⟨w1.heap.size, 0, none⟩ 4 rfl rfl (by omega) hgk (src_row (w := wr.drew) hgk (by omega))
      go_wp2_with fail
      go_region
      go_wp2_with fail
      go_roundw
      case rel => exact ⟨2, rfl, by omega, hg3, hB.drew.trans hB3⟩
      case measure => simp [intOf]
    · obtain ⟨w3, hcp, hg3, hB3⟩ := copy_row 37 31 Try.underlying37 2 szWord c zeroW HLC.out rfl HONE.out wr.drew w1.heap.size 4 2 2 2 2 2 ⟨w1.heap.size, 0, none⟩ 4 rfl rfl (by omega) hgk (src_row (w := wr.drew) hgk (by omega))
      go_wp2_with fail
      go_region
      go_wp2_with fail
      go_roundw
      case rel => exact ⟨4, rfl, by omega, hg3, hB.drew.trans hB3⟩
      case measure => simp [intOf]
    · go_wp2_with fail
      go_ret
      exact ⟨rfl, hB, by rw [hgk, rowL_all]⟩
set_option maxHeartbeats 2000000 in
theorem repW5 (w : World) (b : Nat) (c : List Value) (hlc : c.length = 2) (hone : ∀ v ∈ c, v.oneCell' = true) (hb : b < w.heap.size) (hc : ∀ j v, c[j]? = some v → w.cell? ⟨b, j, none⟩ = some v) :
    Calls Try.prog 13 #[.slice (some ⟨b, 0, none⟩) 1 1, .int .i64 5] w (RepP w 31 c 5) := by
  have hmk : (Instr.makeSlice 37 (.int .i64 5) (.int .i64 5)).run Try.prog w = .ok (.slice (some ⟨w.heap.size, 0, none⟩) 5 5) (w.alloc (.cells (rowL c zeroW 5 0).toArray 31)) := makeW w c 5 (by omega)
  have hg0 := heap_alloc_new w (.cells (rowL c zeroW 5 0).toArray 31)
  have hsrc := src_one (w := w) (b := b) hb hc (.cells (rowL c zeroW 5 0).toArray 31)
  obtain ⟨w2, hcp, hg2, hB2⟩ := copy_row 37 31 Try.underlying37 2 szWord c zeroW hlc rfl hone (w.alloc (.cells (rowL c zeroW 5 0).toArray 31)) w.heap.size 5 0 1 1 5 5 ⟨b, 0, none⟩ 1 rfl rfl (by omega) hg0 hsrc
  have hB2 := Lib.hid (show Below w.heap.size w w2 from (below_alloc _ _).trans hB2)
  have HLC := Lib.hid hlc
  have HONE := Lib.hid hone
  go_enter Try.func13, Try.ntmps13
  go_wp2_with fail
  refine (rmul_c 5 (by omega) (by omega) _).mono ?_
  rintro e w1 ⟨rfl, rfl⟩
  go_wp2_with fail
  have HMK := Lib.hid hmk
  clear hmk hcp hsrc hg0 hc hone hlc
  go_loopw [8] (fun i wr => ∃ k : Nat, i = .int .i64 k ∧ (k = 1 ∨ k = 2 ∨ k = 4 ∨ k = 5) ∧ wr.heap[w1.heap.size]? = some (.cells (rowL c zeroW 5 k).toArray 31) ∧ Below w1.heap.size w1 wr) (fun i _ => 5 - (intOf i).toNat)
  case atStart => exact ⟨1, rfl, by omega, hg2, hB2.out⟩
  case round =>
    obtain ⟨k, rfl, hk, hgk, hB⟩ := hrel
    rcases hk with rfl | rfl | rfl | rfl
    · obtain ⟨w3, hcp, hg3, hB3⟩ := copy_row 37 31 Try.underlying37 2 szWord c zeroW HLC.out rfl HONE.out wr.drew w1.heap.size 5 1 1 1 4 4 ⟨w1.heap.size, 0, none⟩ 5 rfl rfl (by omega) hgk (src_row (w := wr.drew) hgk (by omega))
      go_wp2_with fail
      go_region
      go_wp2_with fail
      go_roundw
      case rel => exact ⟨2, rfl, by omega, hg3, hB.drew.trans hB3⟩
      case measure => simp [intOf]
    · obtain ⟨w3, hcp, hg3, hB3⟩ := copy_row 37 31 Try.underlying37 2 szWord c zeroW HLC.out rfl HONE.out wr.drew w1.heap.size 5 2 2 2 3 3 ⟨w1.heap.size, 0, none⟩ 5 rfl rfl (by omega) hgk (src_row (w := wr.drew) hgk (by omega))
      go_wp2_with fail
      go_region
      go_wp2_with fail
      go_roundw
      case rel => exact ⟨4, rfl, by omega, hg3, hB.drew.trans hB3⟩
      case measure => simp [intOf]
    · obtain ⟨w3, hcp, hg3, hB3⟩ := copy_row 37 31 Try.underlying37 2 szWord c zeroW HLC.out rfl HONE.out wr.drew w1.heap.size 5 4 1 4 1 1 ⟨w1.heap.size, 0, none⟩ 5 rfl rfl (by omega) hgk (src_row (w := wr.drew) hgk (by omega))
      go_wp2_with fail
      go_region
      go_wp2_with fail
      go_roundw
      case rel => exact ⟨5, rfl, by omega, hg3, hB.drew.trans hB3⟩
      case measure => simp [intOf]
    · go_wp2_with fail
      go_ret
      exact ⟨rfl, hB, by rw [hgk, rowL_all]⟩
set_option maxHeartbeats 2000000 in
theorem repW6 (w : World) (b : Nat) (c : List Value) (hlc : c.length = 2) (hone : ∀ v ∈ c, v.oneCell' = true) (hb : b < w.heap.size) (hc : ∀ j v, c[j]? = some v → w.cell? ⟨b, j, none⟩ = some v) :
    Calls Try.prog 13 #[.slice (some ⟨b, 0, none⟩) 1 1, .int .i64 6] w (RepP w 31 c 6) := by
  have hmk : (Instr.makeSlice 37 (.int .i64 6) (.int .i64 6)).run Try.prog w = .ok (.slice (some ⟨w.heap.size, 0, none⟩) 6 6) (w.alloc (.cells (rowL c zeroW 6 0).toArray 31)) := makeW w c 6 (by omega)
  have hg0 := heap_alloc_new w (.cells (rowL c zeroW 6 0).toArray 31)
  have hsrc := src_one (w := w) (b := b) hb hc (.cells (rowL c zeroW 6 0).toArray 31)
  obtain ⟨w2, hcp, hg2, hB2⟩ := copy_row 37 31 Try.underlying37 2 szWord c zeroW hlc rfl hone (w.alloc (.cells (rowL c zeroW 6 0).toArray 31)) w.heap.size 6 0 1 1 6 6 ⟨b, 0, none⟩ 1 rfl rfl (by omega) hg0 hsrc
  have hB2 := Lib.hid (show Below w.heap.size w w2 from (below_alloc _ _).trans hB2)
  have HLC := Lib.hid hlc
  have HONE := Lib.hid hone
  go_enter Try.func13, Try.ntmps13
  go_wp2_with fail
  refine (rmul_c 6 (by omega) (by omega) _).mono ?_
  rintro e w1 ⟨rfl, rfl⟩
  go_wp2_with fail
  have HMK := Lib.hid hmk
  clear hmk hcp hsrc hg0 hc hone hlc
  go_loopw [8] (fun i wr => ∃ k : Nat, i = .int .i64 k ∧ (k = 1 ∨ k = 2 ∨ k = 4 ∨ k = 6) ∧ wr.heap[w1.heap.size]? = some (.cells (rowL c zeroW 6 k).toArray 31) ∧ Below w1.heap.size w1 wr) (fun i _ => 6 - (intOf i).toNat)
  case atStart => exact ⟨1, rfl, by omega, hg2, hB2.out⟩
  case round =>
    obtain ⟨k, rfl, hk, hgk, hB⟩ := hrel
    rcases hk with rfl | rfl | rfl | rfl
    · obtain ⟨w3, hcp, hg3, hB3⟩ := copy_row 37 31 Try.underlying37 2 szWord c zeroW HLC.out rfl HONE.out wr.drew w1.heap.size 6 1 1 1 5 5 ⟨w1.heap.size, 0, none⟩ 6 rfl rfl (by omega) hgk (src_row (w := wr.drew) hgk (by omega))
      go_wp2_with fail
      go_region
      go_wp2_with fail
      go_roundw
      case rel => exact ⟨2, rfl, by omega, hg3, hB.drew.trans hB3⟩
      case measure => simp [intOf]
    · obtain ⟨w3, hcp, hg3, hB3⟩ := copy_row 37 31 Try.underlying37 2 szWord c zeroW HLC.out rfl HONE.out wr.drew w1.heap.size 6 2 2 2 4 4 ⟨w1.heap.size, 0, none⟩ 6 rfl rfl (by omega) hgk (src_row (w := wr.drew) hgk (by omega))
      go_wp2_with fail
      go_region
      go_wp2_with fail
      go_roundw
      case rel => exact ⟨4, rfl, by omega, hg3, hB.drew.trans hB3⟩
      case measure => simp [intOf]
    · obtain ⟨w3, hcp, hg3, hB3⟩ := copy_row 37 31 Try.underlying37 2 szWord c zeroW HLC.out rfl HONE.out wr.drew w1.heap.size 6 4 2 4 2 2 ⟨w1.heap.size, 0, none⟩ 6 rfl rfl (by omega) hgk (src_row (w := wr.drew) hgk (by omega))
      go_wp2_with fail
      go_region
      go_wp2_with fail
      go_roundw
      case rel => exact ⟨6, rfl, by omega, hg3, hB.drew.trans hB3⟩
      case measure => simp [intOf]
    · go_wp2_with fail
      go_ret
      exact ⟨rfl, hB, by rw [hgk, rowL_all]⟩
set_option maxHeartbeats 2000000 in
theorem repW7 (w : World) (b : Nat) (c : List Value) (hlc : c.length = 2) (hone : ∀ v ∈ c, v.oneCell' = true) (hb : b < w.heap.size) (hc : ∀ j v, c[j]? = some v → w.cell? ⟨b, j, none⟩ = some v) :
    Calls Try.prog 13 #[.slice (some ⟨b, 0, none⟩) 1 1, .int .i64 7] w (RepP w 31 c 7) := by
  have hmk : (Instr.makeSlice 37 (.int .i64 7) (.int .i64 7)).run Try.prog w = .ok (.slice (some ⟨w.heap.size, 0, none⟩) 7 7) (w.alloc (.cells (rowL c zeroW 7 0).toArray 31)) := makeW w c 7 (by omega)
  have hg0 := heap_alloc_new w (.cells (rowL c zeroW 7 0).toArray 31)
  have hsrc := src_one (w := w) (b := b) hb hc (.cells (rowL c zeroW 7 0).toArray 31)
  obtain ⟨w2, hcp, hg2, hB2⟩ := copy_row 37 31 Try.underlying37 2 szWord c zeroW hlc rfl hone (w.alloc (.cells (rowL c zeroW 7 0).toArray 31)) w.heap.size 7 0 1 1 7 7 ⟨b, 0, none⟩ 1 rfl rfl (by omega) hg0 hsrc
  have hB2 := Lib.hid (show Below w.heap.size w w2 from (below_alloc _ _).trans hB2)
  have HLC := Lib.hid hlc
  have HONE := Lib.hid hone
  go_enter Try.func13, Try.ntmps13
  go_wp2_with fail
  refine (rmul_c 7 (by omega) (by omega) _).mono ?_
  rintro e w1 ⟨rfl, rfl⟩
  go_wp2_with fail
  have HMK := Lib.hid hmk
  clear hmk hcp hsrc hg0 hc hone hlc
  go_loopw [8] (fun i wr => ∃ k : Nat, i = .int .i64 k ∧ (k = 1 ∨ k = 2 ∨ k = 4 ∨ k = 7) ∧ wr.heap[w1.heap.size]? = some (.cells (rowL c zeroW 7 k).toArray 31) ∧ Below w1.heap.size w1 wr) (fun i _ => 7 - (intOf i).toNat)
  case atStart => exact ⟨1, rfl, by omega, hg2, hB2.out⟩
  case round =>
    obtain ⟨k, rfl, hk, hgk, hB⟩ := hrel
    rcases hk with rfl | rfl | rfl | rfl
    · obtain ⟨w3, hcp, hg3, hB3⟩ := copy_row 37 31 Try.underlying37 2 szWord c zeroW HLC.out rfl HONE.out wr.drew w1.heap.size 7 1 1 1 6 6 ⟨w1.heap.size, 0, none⟩ 7 rfl rfl (by omega) hgk (src_row (w := wr.drew) hgk (by omega))
      go_wp2_with fail
      go_region
      go_wp2_with fail
      go_roundw
      case rel => exact ⟨2, rfl, by omega, hg3, hB.drew.trans hB3⟩
      case measure => simp [intOf]
    · obtain ⟨w3, hcp, hg3, hB3⟩ := copy_row 37 31 Try.underlying37 2 szWord c zeroW HLC.out rfl HONE.out wr.drew w1.heap.size 7 2 2 2 5 5 ⟨w1.heap.size, 0, none⟩ 7 rfl rfl (by omega) hgk (src_row (w := wr.drew) hgk (by omega))
      go_wp2_with fail
      go_region
      go_wp2_with fail
      go_roundw
      case rel => exact ⟨4, rfl, by omega, hg3, hB.drew.trans hB3⟩
      case measure => simp [intOf]
    · obtain ⟨w3, hcp, hg3, hB3⟩ := copy_row 37 31 Try.underlying37 2 szWord c zeroW HLC.out rfl HONE.out wr.drew w1.heap.size 7 4 3 4 3 3 ⟨w1.heap.size, 0, none⟩ 7 rfl rfl (by omega) hgk (src_row (w := wr.drew) hgk (by omega))
      go_wp2_with fail
      go_region
      go_wp2_with fail
      go_roundw
      case rel => exact ⟨7, rfl, by omega, hg3, hB.drew.trans hB3⟩
      case measure => simp [intOf]
    · go_wp2_with fail
      go_ret
      exact ⟨rfl, hB, by rw [hgk, rowL_all]⟩
set_option maxHeartbeats 2000000 in
theorem repW8 (w : World) (b : Nat) (c : List Value) (hlc : c.length = 2) (hone : ∀ v ∈ c, v.oneCell' = true) (hb : b < w.heap.size) (hc : ∀ j v, c[j]? = some v → w.cell? ⟨b, j, none⟩ = some v) :
    Calls Try.prog 13 #[.slice (some ⟨b, 0, none⟩) 1 1, .int .i64 8] w (RepP w 31 c 8) := by
  have hmk : (Instr.makeSlice 37 (.int .i64 8) (.int .i64 8)).run Try.prog w = .ok (.slice (some ⟨w.heap.size, 0, none⟩) 8 8) (w.alloc (.cells (rowL c zeroW 8 0).toArray 31)) := makeW w c 8 (by omega)
  have hg0 := heap_alloc_new w (.cells (rowL c zeroW 8 0).toArray 31)
  have hsrc := src_one (w := w) (b := b) hb hc (.cells (rowL c zeroW 8 0).toArray 31)
  obtain ⟨w2, hcp, hg2, hB2⟩ := copy_row 37 31 Try.underlying37 2 szWord c zeroW hlc rfl hone (w.alloc (.cells (rowL c zeroW 8 0).toArray 31)) w.heap.size 8 0 1 1 8 8 ⟨b, 0, none⟩ 1 rfl rfl (by omega) hg0 hsrc
  have hB2 := Lib.hid (show Below w.heap.size w w2 from (below_alloc _ _).trans hB2)
  have HLC := Lib.hid hlc
  have HONE := Lib.hid hone
  go_enter Try.func13, Try.ntmps13
  go_wp2_with fail
  refine (rmul_c 8 (by omega) (by omega) _).mono ?_
  rintro e w1 ⟨rfl, rfl⟩
  go_wp2_with fail
  have HMK := Lib.hid hmk
  clear hmk hcp hsrc hg0 hc hone hlc
  go_loopw [8] (fun i wr => ∃ k : Nat, i = .int .i64 k ∧ (k = 1 ∨ k = 2 ∨ k = 4 ∨ k = 8) ∧ wr.heap[w1.heap.size]? = some (.cells (rowL c zeroW 8 k).toArray 31) ∧ Below w1.heap.size w1 wr) (fun i _ => 8 - (intOf i).toNat)
  case atStart => exact ⟨1, rfl, by omega, hg2, hB2.out⟩
  case round =>
    obtain ⟨k, rfl, hk, hgk, hB⟩ := hrel
    rcases hk with rfl | rfl | rfl | rfl
    · obtain ⟨w3, hcp, hg3, hB3⟩ := copy_row 37 31 Try.underlying37 2 szWord c zeroW HLC.out rfl HONE.out wr.drew w1.heap.size 8 1 1 1 7 7 ⟨w1.heap.size, 0, none⟩ 8 rfl rfl (by omega) hgk (src_row (w := wr.drew) hgk (by omega))
      go_wp2_with fail
      go_region
      go_wp2_with fail
      go_roundw
      case rel => exact ⟨2, rfl, by omega, hg3, hB.drew.trans hB3⟩
      case measure => simp [intOf]
    · obtain ⟨w3, hcp, hg3, hB3⟩ := copy_row 37 31 Try.underlying37 2 szWord c zeroW HLC.out rfl HONE.out wr.drew w1.heap.size 8 2 2 2 6 6 ⟨w1.heap.size, 0, none⟩ 8 rfl rfl (by omega) hgk (src_row (w := wr.drew) hgk (by omega))
      go_wp2_with fail
      go_region
      go_wp2_with fail
      go_roundw
      case rel => exact ⟨4, rfl, by omega, hg3, hB.drew.trans hB3⟩
      case measure => simp [intOf]
    · obtain ⟨w3, hcp, hg3, hB3⟩ := copy_row 37 31 Try.underlying37 2 szWord c zeroW HLC.out rfl HONE.out wr.drew w1.heap.size 8 4 4 4 4 4 ⟨w1.heap.size, 0, none⟩ 8 rfl rfl (by omega) hgk (src_row (w := wr.drew) hgk (by omega))
      go_wp2_with fail
      go_region
      go_wp2_with fail
      go_roundw
      case rel => exact ⟨8, rfl, by omega, hg3, hB.drew.trans hB3⟩
      case measure => simp [intOf]
    · go_wp2_with fail
      go_ret
      exact ⟨rfl, hB, by rw [hgk, rowL_all]⟩
theorem makeT (w : World) (c : List Value) (n : Nat) (hn : n ≤ 8) : (Instr.makeSlice 22 (.int .i64 n) (.int .i64 n)).run Try.prog w = .ok (.slice (some ⟨w.heap.size, 0, none⟩) n n) (w.alloc (.cells (rowL c zeroC n 0).toArray 24)) := by
  obtain ⟨i, hq, hz, h1, h2⟩ := info_parts info24
  obtain rfl | rfl | rfl | rfl | rfl | rfl | rfl | rfl | rfl : n = 0 ∨ n = 1 ∨ n = 2 ∨ n = 3 ∨ n = 4 ∨ n = 5 ∨ n = 6 ∨ n = 7 ∨ n = 8 := by omega
  · have := run_make (P := Try.prog) w 22 24 i _ Try.underlying22 hq hz .i64 .i64 0 0 (by decide) (by decide) (by rw [h2]; decide) (by decide)
    have e : madeCells (Value.agg #[.int .i64 0, .int .i64 0, .string ⟨#[]⟩, .slice none 0 0]).cells (Int.toNat 0 * 4) = (rowL c zeroC 0 0).toArray := by kernel_rfl
    refine this.trans ?_
    rw [h1, e]
    rfl
  · have := run_make (P := Try.prog) w 22 24 i _ Try.underlying22 hq hz .i64 .i64 1 1 (by decide) (by decide) (by rw [h2]; decide) (by decide)
    have e : madeCells (Value.agg #[.int .i64 0, .int .i64 0, .string ⟨#[]⟩, .slice none 0 0]).cells (Int.toNat 1 * 4) = (rowL c zeroC 1 0).toArray := by kernel_rfl
    refine this.trans ?_
    rw [h1, e]
    rfl
  · have := run_make (P := Try.prog) w 22 24 i _ Try.underlying22 hq hz .i64 .i64 2 2 (by decide) (by decide) (by rw [h2]; decide) (by decide)
    have e : madeCells (Value.agg #[.int .i64 0, .int .i64 0, .string ⟨#[]⟩, .slice none 0 0]).cells (Int.toNat 2 * 4) = (rowL c zeroC 2 0).toArray := by kernel_rfl
    refine this.trans ?_
    rw [h1, e]
    rfl
  · have := run_make (P := Try.prog) w 22 24 i _ Try.underlying22 hq hz .i64 .i64 3 3 (by decide) (by decide) (by rw [h2]; decide) (by decide)
    have e : madeCells (Value.agg #[.int .i64 0, .int .i64 0, .string ⟨#[]⟩, .slice none 0 0]).cells (Int.toNat 3 * 4) = (rowL c zeroC 3 0).toArray := by kernel_rfl
    refine this.trans ?_
    rw [h1, e]
    rfl
  · have := run_make (P := Try.prog) w 22 24 i _ Try.underlying22 hq hz .i64 .i64 4 4 (by decide) (by decide) (by rw [h2]; decide) (by decide)
    have e : madeCells (Value.agg #[.int .i64 0, .int .i64 0, .string ⟨#[]⟩, .slice none 0 0]).cells (Int.toNat 4 * 4) = (rowL c zeroC 4 0).toArray := by kernel_rfl
    refine this.trans ?_
    rw [h1, e]
    rfl
  · have := run_make (P := Try.prog) w 22 24 i _ Try.underlying22 hq hz .i64 .i64 5 5 (by decide) (by decide) (by rw [h2]; decide) (by decide)
    have e : madeCells (Value.agg #[.int .i64 0, .int .i64 0, .string ⟨#[]⟩, .slice none 0 0]).cells (Int.toNat 5 * 4) = (rowL c zeroC 5 0).toArray := by kernel_rfl
    refine this.trans ?_
    rw [h1, e]
    rfl
  · have := run_make (P := Try.prog) w 22 24 i _ Try.underlying22 hq hz .i64 .i64 6 6 (by decide) (by decide) (by rw [h2]; decide) (by decide)
    have e : madeCells (Value.agg #[.int .i64 0, .int .i64 0, .string ⟨#[]⟩, .slice none 0 0]).cells (Int.toNat 6 * 4) = (rowL c zeroC 6 0).toArray := by kernel_rfl
    refine this.trans ?_
    rw [h1, e]
    rfl
  · have := run_make (P := Try.prog) w 22 24 i _ Try.underlying22 hq hz .i64 .i64 7 7 (by decide) (by decide) (by rw [h2]; decide) (by decide)
    have e : madeCells (Value.agg #[.int .i64 0, .int .i64 0, .string ⟨#[]⟩, .slice none 0 0]).cells (Int.toNat 7 * 4) = (rowL c zeroC 7 0).toArray := by kernel_rfl
    refine this.trans ?_
    rw [h1, e]
    rfl
  · have := run_make (P := Try.prog) w 22 24 i _ Try.underlying22 hq hz .i64 .i64 8 8 (by decide) (by decide) (by rw [h2]; decide) (by decide)
    have e : madeCells (Value.agg #[.int .i64 0, .int .i64 0, .string ⟨#[]⟩, .slice none 0 0]).cells (Int.toNat 8 * 4) = (rowL c zeroC 8 0).toArray := by kernel_rfl
    refine this.trans ?_
    rw [h1, e]
    rfl
set_option maxHeartbeats 2000000 in
theorem repT1 (w : World) (b : Nat) (c : List Value) (hlc : c.length = 4) (hone : ∀ v ∈ c, v.oneCell' = true) (hb : b < w.heap.size) (hc : ∀ j v, c[j]? = some v → w.cell? ⟨b, j, none⟩ = some v) :
    Calls Try.prog 20 #[.slice (some ⟨b, 0, none⟩) 1 1, .int .i64 1] w (RepP w 24 c 1) := by
  have hmk : (Instr.makeSlice 22 (.int .i64 1) (.int .i64 1)).run Try.prog w = .ok (.slice (some ⟨w.heap.size, 0, none⟩) 1 1) (w.alloc (.cells (rowL c zeroC 1 0).toArray 24)) := makeT w c 1 (by omega)
  have hg0 := heap_alloc_new w (.cells (rowL c zeroC 1 0).toArray 24)
  have hsrc := src_one (w := w) (b := b) hb hc (.cells (rowL c zeroC 1 0).toArray 24)
  obtain ⟨w2, hcp, hg2, hB2⟩ := copy_row 22 24 Try.underlying22 4 infoTermSize c zeroC hlc rfl hone (w.alloc (.cells (rowL c zeroC 1 0).toArray 24)) w.heap.size 1 0 1 1 1 1 ⟨b, 0, none⟩ 1 rfl rfl (by omega) hg0 hsrc
  have hB2 := Lib.hid (show Below w.heap.size w w2 from (below_alloc _ _).trans hB2)
  have HLC := Lib.hid hlc
  have HONE := Lib.hid hone
  go_enter Try.func20, Try.ntmps20
  go_wp2_with fail
  refine (rmul_c 1 (by omega) (by omega) _).mono ?_
  rintro e w1 ⟨rfl, rfl⟩
  go_wp2_with fail
  have HMK := Lib.hid hmk
  clear hmk hcp hsrc hg0 hc hone hlc
  go_loopw [8] (fun i wr => ∃ k : Nat, i = .int .i64 k ∧ (k = 1) ∧ wr.heap[w1.heap.size]? = some (.cells (rowL c zeroC 1 k).toArray 24) ∧ Below w1.heap.size w1 wr) (fun i _ => 1 - (intOf i).toNat)
  case atStart => exact ⟨1, rfl, by omega, hg2, hB2.out⟩
  case round =>
    obtain ⟨k, rfl, hk, hgk, hB⟩ := hrel
    subst hk
    go_wp2_with fail
    go_ret
    exact ⟨rfl, hB, by rw [hgk, rowL_all]⟩
set_option maxHeartbeats 2000000 in
theorem repT2 (w : World) (b : Nat) (c : List Value) (hlc : c.length = 4) (hone : ∀ v ∈ c, v.oneCell' = true) (hb : b < w.heap.size) (hc : ∀ j v, c[j]? = some v → w.cell? ⟨b, j, none⟩ = some v) :
    Calls Try.prog 20 #[.slice (some ⟨b, 0, none⟩) 1 1, .int .i64 2] w (RepP w 24 c 2) := by
  have hmk : (Instr.makeSlice 22 (.int .i64 2) (.int .i64 2)).run Try.prog w = .ok (.slice (some ⟨w.heap.size, 0, none⟩) 2 2) (w.alloc (.cells (rowL c zeroC 2 0).toArray 24)) := makeT w c 2 (by omega)
  have hg0 := heap_alloc_new w (.cells (rowL c zeroC 2 0).toArray 24)
  have hsrc := src_one (w := w) (b := b) hb hc (.cells (rowL c zeroC 2 0).toArray 24)
  obtain ⟨w2, hcp, hg2, hB2⟩ := copy_row 22 24 Try.underlying22 4 infoTermSize c zeroC hlc rfl hone (w.alloc (.cells (rowL c zeroC 2 0).toArray 24)) w.heap.size 2 0 1 1 2 2 ⟨b, 0, none⟩ 1 rfl rfl (by omega) hg0 hsrc
  have hB2 := Lib.hid (show Below w.heap.size w w2 from (below_alloc _ _).trans hB2)
  have HLC := Lib.hid hlc
  have HONE := Lib.hid hone
  go_enter Try.func20, Try.ntmps20
  go_wp2_with fail
  refine (rmul_c 2 (by omega) (by omega) _).mono ?_
  rintro e w1 ⟨rfl, rfl⟩
  go_wp2_with fail
  have HMK := Lib.hid hmk
  clear hmk hcp hsrc hg0 hc hone hlc
  go_loopw [8] (fun i wr => ∃ k : Nat, i = .int .i64 k ∧ (k = 1 ∨ k = 2) ∧ wr.heap[w1.heap.size]? = some (.cells (rowL c zeroC 2 k).toArray 24) ∧ Below w1.heap.size w1 wr) (fun i _ => 2 - (intOf i).toNat)
  case atStart => exact ⟨1, rfl, by omega, hg2, hB2.out⟩
  case round =>
    obtain ⟨k, rfl, hk, hgk, hB⟩ := hrel
    rcases hk with rfl | rfl
    · obtain ⟨w3, hcp, hg3, hB3⟩ := copy_row 22 24 Try.underlying22 4 infoTermSize c zeroC HLC.out rfl HONE.out wr.drew w1.heap.size 2 1 1 1 1 1 ⟨w1.heap.size, 0, none⟩ 2 rfl rfl (by omega) hgk (src_row (w := wr.drew) hgk (by omega))
      go_wp2_with fail
      go_region
      go_wp2_with fail
      go_roundw
      case rel => exact ⟨2, rfl, by omega, hg3, hB.drew.trans hB3⟩
      case measure => simp [intOf]
    · go_wp2_with fail
      go_ret
      exact ⟨rfl, hB, by rw [hgk, rowL_all]⟩
set_option maxHeartbeats 2000000 in
theorem repT3 (w : World) (b : Nat) (c : List Value) (hlc : c.length = 4) (hone : ∀ v ∈ c, v.oneCell' = true) (hb : b < w.heap.size) (hc : ∀ j v, c[j]? = some v → w.cell? ⟨b, j, none⟩ = some v) :
    Calls Try.prog 20 #[.slice (some ⟨b, 0, none⟩) 1 1, .int .i64 3] w (RepP w 24 c 3) := by
  have hmk : (Instr.makeSlice 22 (.int .i64 3) (.int .i64 3)).run Try.prog w = .ok (.slice (some ⟨w.heap.size, 0, none⟩) 3 3) (w.alloc (.cells (rowL c zeroC 3 0).toArray 24)) := makeT w c 3 (by omega)
  have hg0 := heap_alloc_new w (.cells (rowL c zeroC 3 0).toArray 24)
  have hsrc := src_one (w := w) (b := b) hb hc (.cells (rowL c zeroC 3 0).toArray 24)
  obtain ⟨w2, hcp, hg2, hB2⟩ := copy_row 22 24 Try.underlying22 4 infoTermSize c zeroC hlc rfl hone (w.alloc (.cells (rowL c zeroC 3 0).toArray 24)) w.heap.size 3 0 1 1 3 3 ⟨b, 0, none⟩ 1 rfl rfl (by omega) hg0 hsrc
  have hB2 := Lib.hid (show Below w.heap.size w w2 from (below_alloc _ _).trans hB2)
  have HLC := Lib.hid hlc
  have HONE := Lib.hid hone
  go_enter Try.func20, Try.ntmps20
  go_wp2_with fail
  refine (rmul_c 3 (by omega) (by omega) _).mono ?_
  rintro e w1 ⟨rfl, rfl⟩
  go_wp2_with fail
  have HMK := Lib.hid hmk
  clear hmk hcp hsrc hg0 hc hone hlc
  go_loopw [8] (fun i wr => ∃ k : Nat, i = .int .i64 k ∧ (k = 1 ∨ k = 2 ∨ k = 3) ∧ wr.heap[w1.heap.size]? = some (.cells (rowL c zeroC 3 k).toArray 24) ∧ Below w1.heap.size w1 wr) (fun i _ => 3 - (intOf i).toNat)
  case atStart => exact ⟨1, rfl, by omega, hg2, hB2.out⟩
  case round =>
    obtain ⟨k, rfl, hk, hgk, hB⟩ := hrel
    rcases hk with rfl | rfl | rfl
    · obtain ⟨w3, hcp, hg3, hB3⟩ := copy_row 22 24 Try.underlying22 4 infoTermSize c zeroC HLC.out rfl HONE.out wr.drew w1.heap.size 3 1 1 1 2 2 ⟨w1.heap.size, 0, none⟩ 3 rfl rfl (by omega) hgk (src_row (w := wr.drew) hgk (by omega))
      go_wp2_with fail
      go_region
      go_wp2_with fail
      go_roundw
      case rel => exact ⟨2, rfl, by omega, hg3, hB.drew.trans hB3⟩
      case measure => simp [intOf]
    · obtain ⟨w3, hcp, hg3, hB3⟩ := copy_row 22 24 Try.underlying22 4 infoTermSize c zeroC HLC.out rfl HONE.out wr.drew w1.heap.size 3 2 1 2 1 1 ⟨w1.heap.size, 0, none⟩ 3 rfl rfl (by omega) hgk (src_row (w := wr.drew) hgk (by omega))
      go_wp2_with fail
      go_region
      go_wp2_with fail
      go_roundw
      case rel => exact ⟨3, rfl, by omega, hg3, hB.drew.trans hB3⟩
      case measure => simp [intOf]
    · go_wp2_with fail
      go_ret
      exact ⟨rfl, hB, by rw [hgk, rowL_all]⟩
set_option maxHeartbeats 2000000 in
theorem repT4 (w : World) (b : Nat) (c : List Value) (hlc : c.length = 4) (hone : ∀ v ∈ c, v.oneCell' = true) (hb : b < w.heap.size) (hc : ∀ j v, c[j]? = some v → w.cell? ⟨b, j, none⟩ = some v) :
    Calls Try.prog 20 #[.slice (some ⟨b, 0, none⟩) 1 1, .int .i64 4] w (RepP w 24 c 4) := by
  have hmk : (Instr.makeSlice 22 (.int .i64 4) (.int .i64 4)).run Try.prog w = .ok (.slice (some ⟨w.heap.size, 0, none⟩) 4 4) (w.alloc (.cells (rowL c zeroC 4 0).toArray 24)) := makeT w c 4 (by omega)
  have hg0 := heap_alloc_new w (.cells (rowL c zeroC 4 0).toArray 24)
  have hsrc := src_one (w := w) (b := b) hb hc (.cells (rowL c zeroC 4 0).toArray 24)
  obtain ⟨w2, hcp, hg2, hB2⟩ := copy_row 22 24 Try.underlying22 4 infoTermSize c zeroC hlc rfl hone (w.alloc (.cells (rowL c zeroC 4 0).toArray 24)) w.heap.size 4 0 1 1 4 4 ⟨b, 0, none⟩ 1 rfl rfl (by omega) hg0 hsrc
  have hB2 := Lib.hid (show Below w.heap.size w w2 from (below_alloc _ _).trans hB2)
  have HLC := Lib.hid hlc
  have HONE := Lib.hid hone
  go_enter Try.func20, Try.ntmps20
  go_wp2_with fail
  refine (rmul_c 4 (by omega) (by omega) _).mono ?_
  rintro e w1 ⟨rfl, rfl⟩
  go_wp2_with fail
  have HMK := Lib.hid hmk
  clear hmk hcp hsrc hg0 hc hone hlc
  go_loopw [8] (fun i wr => ∃ k : Nat, i = .int .i64 k ∧ (k = 1 ∨ k = 2 ∨ k = 4) ∧ wr.heap[w1.heap.size]? = some (.cells (rowL c zeroC 4 k).toArray 24) ∧ Below w1.heap.size w1 wr) (fun i _ => 4 - (intOf i).toNat)
  case atStart => exact ⟨1, rfl, by omega, hg2, hB2.out⟩
  case round =>
    obtain ⟨k, rfl, hk, hgk, hB⟩ := hrel
    rcases hk with rfl | rfl | rfl
    · obtain ⟨w3, hcp, hg3, hB3⟩ := copy_row 22 24 Try.underlying22 4 infoTermSize c zeroC HLC.out rfl HONE.out wr.drew w1.heap.size 4 1 1 1 3 3 ⟨w1.heap.size, 0, none⟩ 4 rfl rfl (by omega) hgk (src_row (w := wr.drew) hgk (by omega))
      go_wp2_with fail
      go_region
      go_wp2_with fail
      go_roundw
      case rel => exact ⟨2, rfl, by omega, hg3, hB.drew.trans hB3⟩
      case measure => simp [intOf]
    · obtain ⟨w3, hcp, hg3, hB3⟩ := copy_row 22 24 Try.underlying22 4 infoTermSize c zeroC HLC.out rfl HONE.out wr.drew w1.heap.size 4 2 2 2 2 2 ⟨w1.heap.size, 0, none⟩ 4 rfl rfl (by omega) hgk (src_row (w := wr.drew) hgk (by omega))
      go_wp2_with fail
      go_region
      go_wp2_with fail
      go_roundw
      case rel => exact ⟨4, rfl, by omega, hg3, hB.drew.trans hB3⟩
      case measure => simp [intOf]
    · go_wp2_with fail
      go_ret
      exact ⟨rfl, hB, by rw [hgk, rowL_all]⟩
set_option maxHeartbeats 2000000 in
theorem repT5 (w : World) (b : Nat) (c : List Value) (hlc : c.length = 4) (hone : ∀ v ∈ c, v.oneCell' = true) (hb : b < w.heap.size) (hc : ∀ j v, c[j]? = some v → w.cell? ⟨b, j, none⟩ = some v) :
    Calls Try.prog 20 #[.slice (some ⟨b, 0, none⟩) 1 1, .int .i64 5] w (RepP w 24 c 5) := by
  have hmk : (Instr.makeSlice 22 (.int .i64 5) (.int .i64 5)).run Try.prog w = .ok (.slice (some ⟨w.heap.size, 0, none⟩) 5 5) (w.alloc (.cells (rowL c zeroC 5 0).toArray 24)) := makeT w c 5 (by omega)
  have hg0 := heap_alloc_new w (.cells (rowL c zeroC 5 0).toArray 24)
  have hsrc := src_one (w := w) (b := b) hb hc (.cells (rowL c zeroC 5 0).toArray 24)
  obtain ⟨w2, hcp, hg2, hB2⟩ := copy_row 22 24 Try.underlying22 4 infoTermSize c zeroC hlc rfl hone (w.alloc (.cells (rowL c zeroC 5 0).toArray 24)) w.heap.size 5 0 1 1 5 5 ⟨b, 0, none⟩ 1 rfl rfl (by omega) hg0 hsrc
  have hB2 := Lib.hid (show Below w.heap.size w w2 from (below_alloc _ _).trans hB2)
  have HLC := Lib.hid hlc
  have HONE := Lib.hid hone
  go_enter Try.func20, Try.ntmps20
  go_wp2_with fail
  refine (rmul_c 5 (by omega) (by omega) _).mono ?_
  rintro e w1 ⟨rfl, rfl⟩
  go_wp2_with fail
  have HMK := Lib.hid hmk
  clear hmk hcp hsrc hg0 hc hone hlc
  go_loopw [8] (fun i wr => ∃ k : Nat, i = .int .i64 k ∧ (k = 1 ∨ k = 2 ∨ k = 4 ∨ k = 5) ∧ wr.heap[w1.heap.size]? = some (.cells (rowL c zeroC 5 k).toArray 24) ∧ Below w1.heap.size w1 wr) (fun i _ => 5 - (intOf i).toNat)
  case atStart => exact ⟨1, rfl, by omega, hg2, hB2.out⟩
  case round =>
    obtain ⟨k, rfl, hk, hgk, hB⟩ := hrel
    rcases hk with rfl | rfl | rfl | rfl
    · obtain ⟨w3, hcp, hg3, hB3⟩ := copy_row 22 24 Try.underlying22 4 infoTermSize c zeroC HLC.out rfl HONE.out wr.drew w1.heap.size 5 1 1 1 4 4 ⟨w1.heap.size, 0, none⟩ 5 rfl rfl (by omega) hgk (src_row (w := wr.drew) hgk (by omega))
      go_wp2_with fail
      go_region
      go_wp2_with fail
      go_roundw
      case rel => exact ⟨2, rfl, by omega, hg3, hB.drew.trans hB3⟩
      case measure => simp [intOf]
    · obtain ⟨w3, hcp, hg3, hB3⟩ := copy_row 22 24 Try.underlying22 4 infoTermSize c zeroC HLC.out rfl HONE.out wr.drew w1.heap.size 5 2 2 2 3 3 ⟨w1.heap.size, 0, none⟩ 5 rfl rfl (by omega) hgk (src_row (w := wr.drew) hgk (by omega))
      go_wp2_with fail
      go_region
      go_wp2_with fail
      go_roundw
      case rel => exact ⟨4, rfl, by omega, hg3, hB.drew.trans hB3⟩
      case measure => simp [intOf]
    · obtain ⟨w3, hcp, hg3, hB3⟩ := copy_row 22 24 Try.underlying22 4 infoTermSize c zeroC HLC.out rfl HONE.out wr.drew w1.heap.size 5 4 1 4 1 1 ⟨w1.heap.size, 0, none⟩ 5 rfl rfl (by omega) hgk (src_row (w := wr.drew) hgk (by omega))
      go_wp2_with fail
      go_region
      go_wp2_with fail
      go_roundw
      case rel => exact ⟨5, rfl, by omega, hg3, hB.drew.trans hB3⟩
      case measure => simp [intOf]
    · go_wp2_with fail
      go_ret
      exact ⟨rfl, hB, by rw [hgk, rowL_all]⟩
set_option maxHeartbeats 2000000 in
theorem repT6 (w : World) (b : Nat) (c : List Value) (hlc : c.length = 4) (hone : ∀ v ∈ c, v.oneCell' = true) (hb : b < w.heap.size) (hc : ∀ j v, c[j]? = some v → w.cell? ⟨b, j, none⟩ = some v) :
    Calls Try.prog 20 #[.slice (some ⟨b, 0, none⟩) 1 1, .int .i64 6] w (RepP w 24 c 6) := by
  have hmk : (Instr.makeSlice 22 (.int .i64 6) (.int .i64 6)).run Try.prog w = .ok (.slice (some ⟨w.heap.size, 0, none⟩) 6 6) (w.alloc (.cells (rowL c zeroC 6 0).toArray 24)) := makeT w c 6 (by omega)
  have hg0 := heap_alloc_new w (.cells (rowL c zeroC 6 0).toArray 24)
  have hsrc := src_one (w := w) (b := b) hb hc (.cells (rowL c zeroC 6 0).toArray 24)
  obtain ⟨w2, hcp, hg2, hB2⟩ := copy_row 22 24 Try.underlying22 4 infoTermSize c zeroC hlc rfl hone (w.alloc (.cells (rowL c zeroC 6 0).toArray 24)) w.heap.size 6 0 1 1 6 6 ⟨b, 0, none⟩ 1 rfl rfl (by omega) hg0 hsrc
  have hB2 := Lib.hid (show Below w.heap.size w w2 from (below_alloc _ _).trans hB2)
  have HLC := Lib.hid hlc
  have HONE := Lib.hid hone
  go_enter Try.func20, Try.ntmps20
  go_wp2_with fail
  refine (rmul_c 6 (by omega) (by omega) _).mono ?_
  rintro e w1 ⟨rfl, rfl⟩
  go_wp2_with fail
  have HMK := Lib.hid hmk
  clear hmk hcp hsrc hg0 hc hone hlc
  go_loopw [8] (fun i wr => ∃ k : Nat, i = .int .i64 k ∧ (k = 1 ∨ k = 2 ∨ k = 4 ∨ k = 6) ∧ wr.heap[w1.heap.size]? = some (.cells (rowL c zeroC 6 k).toArray 24) ∧ Below w1.heap.size w1 wr) (fun i _ => 6 - (intOf i).toNat)
  case atStart => exact ⟨1, rfl, by omega, hg2, hB2.out⟩
  case round =>
    obtain ⟨k, rfl, hk, hgk, hB⟩ := hrel
    rcases hk with rfl | rfl | rfl | rfl
    · obtain ⟨w3, hcp, hg3, hB3⟩ := copy_row 22 24 Try.underlying22 4 infoTermSize c zeroC HLC.out rfl HONE.out wr.drew w1.heap.size 6 1 1 1 5 5 ⟨w1.heap.size, 0, none⟩ 6 rfl rfl (by omega) hgk (src_row (w := wr.drew) hgk (by omega))
      go_wp2_with fail
      go_region
      go_wp2_with fail
      go_roundw
      case rel => exact ⟨2, rfl, by omega, hg3, hB.drew.trans hB3⟩
      case measure => simp [intOf]
    · obtain ⟨w3, hcp, hg3, hB3⟩ := copy_row 22 24 Try.underlying22 4 infoTermSize c zeroC HLC.out rfl HONE.out wr.drew w1.heap.size 6 2 2 2 4 4 ⟨w1.heap.size, 0, none⟩ 6 rfl rfl (by omega) hgk (src_row (w := wr.drew) hgk (by omega))
      go_wp2_with fail
      go_region
      go_wp2_with fail
      go_roundw
      case rel => exact ⟨4, rfl, by omega, hg3, hB.drew.trans hB3⟩
      case measure => simp [intOf]
    · obtain ⟨w3, hcp, hg3, hB3⟩ := copy_row 22 24 Try.underlying22 4 infoTermSize c zeroC HLC.out rfl HONE.out wr.drew w1.heap.size 6 4 2 4 2 2 ⟨w1.heap.size, 0, none⟩ 6 rfl rfl (by omega) hgk (src_row (w := wr.drew) hgk (by omega))
      go_wp2_with fail
      go_region
      go_wp2_with fail
      go_roundw
      case rel => exact ⟨6, rfl, by omega, hg3, hB.drew.trans hB3⟩
      case measure => simp [intOf]
    · go_wp2_with fail
      go_ret
      exact ⟨rfl, hB, by rw [hgk, rowL_all]⟩
set_option maxHeartbeats 2000000 in
theorem repT7 (w : World) (b : Nat) (c : List Value) (hlc : c.length = 4) (hone : ∀ v ∈ c, v.oneCell' = true) (hb : b < w.heap.size) (hc : ∀ j v, c[j]? = some v → w.cell? ⟨b, j, none⟩ = some v) :
    Calls Try.prog 20 #[.slice (some ⟨b, 0, none⟩) 1 1, .int .i64 7] w (RepP w 24 c 7) := by
  have hmk : (Instr.makeSlice 22 (.int .i64 7) (.int .i64 7)).run Try.prog w = .ok (.slice (some ⟨w.heap.size, 0, none⟩) 7 7) (w.alloc (.cells (rowL c zeroC 7 0).toArray 24)) := makeT w c 7 (by omega)
  have hg0 := heap_alloc_new w (.cells (rowL c zeroC 7 0).toArray 24)
  have hsrc := src_one (w := w) (b := b) hb hc (.cells (rowL c zeroC 7 0).toArray 24)
  obtain ⟨w2, hcp, hg2, hB2⟩ := copy_row 22 24 Try.underlying22 4 infoTermSize c zeroC hlc rfl hone (w.alloc (.cells (rowL c zeroC 7 0).toArray 24)) w.heap.size 7 0 1 1 7 7 ⟨b, 0, none⟩ 1 rfl rfl (by omega) hg0 hsrc
  have hB2 := Lib.hid (show Below w.heap.size w w2 from (below_alloc _ _).trans hB2)
  have HLC := Lib.hid hlc
  have HONE := Lib.hid hone
  go_enter Try.func20, Try.ntmps20
  go_wp2_with fail
  refine (rmul_c 7 (by omega) (by omega) _).mono ?_
  rintro e w1 ⟨rfl, rfl⟩
  go_wp2_with fail
  have HMK := Lib.hid hmk
  clear hmk hcp hsrc hg0 hc hone hlc
  go_loopw [8] (fun i wr => ∃ k : Nat, i = .int .i64 k ∧ (k = 1 ∨ k = 2 ∨ k = 4 ∨ k = 7) ∧ wr.heap[w1.heap.size]? = some (.cells (rowL c zeroC 7 k).toArray 24) ∧ Below w1.heap.size w1 wr) (fun i _ => 7 - (intOf i).toNat)
  case atStart => exact ⟨1, rfl, by omega, hg2, hB2.out⟩
  case round =>
    obtain ⟨k, rfl, hk, hgk, hB⟩ := hrel
    rcases hk with rfl | rfl | rfl | rfl
    · obtain ⟨w3, hcp, hg3, hB3⟩ := copy_row 22 24 Try.underlying22 4 infoTermSize c zeroC HLC.out rfl HONE.out wr.drew w1.heap.size 7 1 1 1 6 6 ⟨w1.heap.size, 0, none⟩ 7 rfl rfl (by omega) hgk (src_row (w := wr.drew) hgk (by omega))
      go_wp2_with fail
      go_region
      go_wp2_with fail
      go_roundw
      case rel => exact ⟨2, rfl, by omega, hg3, hB.drew.trans hB3⟩
      case measure => simp [intOf]
    · obtain ⟨w3, hcp, hg3, hB3⟩ := copy_row 22 24 Try.underlying22 4 infoTermSize c zeroC HLC.out rfl HONE.out wr.drew w1.heap.size 7 2 2 2 5 5 ⟨w1.heap.size, 0, none⟩ 7 rfl rfl (by omega) hgk (src_row (w := wr.drew) hgk (by omega))
      go_wp2_with fail
      go_region
      go_wp2_with fail
      go_roundw
      case rel => exact ⟨4, rfl, by omega, hg3, hB.drew.trans hB3⟩
      case measure => simp [intOf]
    · obtain ⟨w3, hcp, hg3, hB3⟩ := copy_row 22 24 Try.underlying22 4 infoTermSize c zeroC HLC.out rfl HONE.out wr.drew w1.heap.size 7 4 3 4 3 3 ⟨w1.heap.size, 0, none⟩ 7 rfl rfl (by omega) hgk (src_row (w := wr.drew) hgk (by omega))
      go_wp2_with fail
      go_region
      go_wp2_with fail
      go_roundw
      case rel => exact ⟨7, rfl, by omega, hg3, hB.drew.trans hB3⟩
      case measure => simp [intOf]
    · go_wp2_with fail
      go_ret
      exact ⟨rfl, hB, by rw [hgk, rowL_all]⟩
set_option maxHeartbeats 2000000 in
theorem repT8 (w : World) (b : Nat) (c : List Value) (hlc : c.length = 4) (hone : ∀ v ∈ c, v.oneCell' = true) (hb : b < w.heap.size) (hc : ∀ j v, c[j]? = some v → w.cell? ⟨b, j, none⟩ = some v) :
    Calls Try.prog 20 #[.slice (some ⟨b, 0, none⟩) 1 1, .int .i64 8] w (RepP w 24 c 8) := by
  have hmk : (Instr.makeSlice 22 (.int .i64 8) (.int .i64 8)).run Try.prog w = .ok (.slice (some ⟨w.heap.size, 0, none⟩) 8 8) (w.alloc (.cells (rowL c zeroC 8 0).toArray 24)) := makeT w c 8 (by omega)
  have hg0 := heap_alloc_new w (.cells (rowL c zeroC 8 0).toArray 24)
  have hsrc := src_one (w := w) (b := b) hb hc (.cells (rowL c zeroC 8 0).toArray 24)
  obtain ⟨w2, hcp, hg2, hB2⟩ := copy_row 22 24 Try.underlying22 4 infoTermSize c zeroC hlc rfl hone (w.alloc (.cells (rowL c zeroC 8 0).toArray 24)) w.heap.size 8 0 1 1 8 8 ⟨b, 0, none⟩ 1 rfl rfl (by omega) hg0 hsrc
  have hB2 := Lib.hid (show Below w.heap.size w w2 from (below_alloc _ _).trans hB2)
  have HLC := Lib.hid hlc
  have HONE := Lib.hid hone
  go_enter Try.func20, Try.ntmps20
  go_wp2_with fail
  refine (rmul_c 8 (by omega) (by omega) _).mono ?_
  rintro e w1 ⟨rfl, rfl⟩
  go_wp2_with fail
  have HMK := Lib.hid hmk
  clear hmk hcp hsrc hg0 hc hone hlc
  go_loopw [8] (fun i wr => ∃ k : Nat, i = .int .i64 k ∧ (k = 1 ∨ k = 2 ∨ k = 4 ∨ k = 8) ∧ wr.heap[w1.heap.size]? = some (.cells (rowL c zeroC 8 k).toArray 24) ∧ Below w1.heap.size w1 wr) (fun i _ => 8 - (intOf i).toNat)
  case atStart => exact ⟨1, rfl, by omega, hg2, hB2.out⟩
  case round =>
    obtain ⟨k, rfl, hk, hgk, hB⟩ := hrel
    rcases hk with rfl | rfl | rfl | rfl
    · obtain ⟨w3, hcp, hg3, hB3⟩ := copy_row 22 24 Try.underlying22 4 infoTermSize c zeroC HLC.out rfl HONE.out wr.drew w1.heap.size 8 1 1 1 7 7 ⟨w1.heap.size, 0, none⟩ 8 rfl rfl (by omega) hgk (src_row (w := wr.drew) hgk (by omega))
      go_wp2_with fail
      go_region
      go_wp2_with fail
      go_roundw
      case rel => exact ⟨2, rfl, by omega, hg3, hB.drew.trans hB3⟩
      case measure => simp [intOf]
    · obtain ⟨w3, hcp, hg3, hB3⟩ := copy_row 22 24 Try.underlying22 4 infoTermSize c zeroC HLC.out rfl HONE.out wr.drew w1.heap.size 8 2 2 2 6 6 ⟨w1.heap.size, 0, none⟩ 8 rfl rfl (by omega) hgk (src_row (w := wr.drew) hgk (by omega))
      go_wp2_with fail
      go_region
      go_wp2_with fail
      go_roundw
      case rel => exact ⟨4, rfl, by omega, hg3, hB.drew.trans hB3⟩
      case measure => simp [intOf]
    · obtain ⟨w3, hcp, hg3, hB3⟩ := copy_row 22 24 Try.underlying22 4 infoTermSize c zeroC HLC.out rfl HONE.out wr.drew w1.heap.size 8 4 4 4 4 4 ⟨w1.heap.size, 0, none⟩ 8 rfl rfl (by omega) hgk (src_row (w := wr.drew) hgk (by omega))
      go_wp2_with fail
      go_region
      go_wp2_with fail
      go_roundw
      case rel => exact ⟨8, rfl, by omega, hg3, hB.drew.trans hB3⟩
      case measure => simp [intOf]
    · go_wp2_with fail
      go_ret
      exact ⟨rfl, hB, by rw [hgk, rowL_all]⟩
theorem repW_c (k : Nat) (h1 : 1 ≤ k) (h8 : k ≤ 8) (w : World) (b : Nat) (c : List Value) (hlc : c.length = 2) (hone : ∀ v ∈ c, v.oneCell' = true) (hb : b < w.heap.size) (hc : ∀ j v, c[j]? = some v → w.cell? ⟨b, j, none⟩ = some v) :
    Calls Try.prog 13 #[.slice (some ⟨b, 0, none⟩) 1 1, .int .i64 k] w (RepP w 31 c k) := by
  obtain rfl | rfl | rfl | rfl | rfl | rfl | rfl | rfl : k = 1 ∨ k = 2 ∨ k = 3 ∨ k = 4 ∨ k = 5 ∨ k = 6 ∨ k = 7 ∨ k = 8 := by omega
  · exact repW1 w b c hlc hone hb hc
  · exact repW2 w b c hlc hone hb hc
  · exact repW3 w b c hlc hone hb hc
  · exact repW4 w b c hlc hone hb hc
  · exact repW5 w b c hlc hone hb hc
  · exact repW6 w b c hlc hone hb hc
  · exact repW7 w b c hlc hone hb hc
  · exact repW8 w b c hlc hone hb hc
theorem repT_c (k : Nat) (h1 : 1 ≤ k) (h8 : k ≤ 8) (w : World) (b : Nat) (c : List Value) (hlc : c.length = 4) (hone : ∀ v ∈ c, v.oneCell' = true) (hb : b < w.heap.size) (hc : ∀ j v, c[j]? = some v → w.cell? ⟨b, j, none⟩ = some v) :
    Calls Try.prog 20 #[.slice (some ⟨b, 0, none⟩) 1 1, .int .i64 k] w (RepP w 24 c k) := by
  obtain rfl | rfl | rfl | rfl | rfl | rfl | rfl | rfl : k = 1 ∨ k = 2 ∨ k = 3 ∨ k = 4 ∨ k = 5 ∨ k = 6 ∨ k = 7 ∨ k = 8 := by omega
  · exact repT1 w b c hlc hone hb hc
  · exact repT2 w b c hlc hone hb hc
  · exact repT3 w b c hlc hone hb hc
  · exact repT4 w b c hlc hone hb hc
  · exact repT5 w b c hlc hone hb hc
  · exact repT6 w b c hlc hone hb hc
  · exact repT7 w b c hlc hone hb hc
  · exact repT8 w b c hlc hone hb hc
/-- What lies in a row of one element. -/
theorem copL_cells {w : World} {g n : Nat} {c : List Value} {e : TypeId} (hg : w.heap[g]? = some (.cells (copL c n).toArray e)) : ∀ j u, (copL c n)[j]? = some u → w.cell? ⟨g, j, none⟩ = some u := fun j u hu => by
  rw [cell_of_row w g j _ _ _ hg, List.getElem?_toArray]; exact hu
theorem cellsX_rep {X : Type} {E : El X} {S : Nat → Prop} {w : World} {x : X} {c : List Value} (h : E.C S w x c) : ∀ n, CellsX E S w (List.replicate n x) (copL c n)
  | 0 => rfl
  | n + 1 => by
    rw [List.replicate_succ, show copL c (n + 1) = c ++ copL c n by unfold copL; rw [List.replicate_succ, List.flatten_cons]]
    exact ⟨c, _, rfl, h, cellsX_rep h n⟩
theorem rx_rep {X : Type} {E : El X} {S : Nat → Prop} {w : World} {x : X} {g n : Nat} {c : List Value} {e : TypeId} (h : E.C S w x c) (hg : w.heap[g]? = some (.cells (copL c n).toArray e)) : RX E (fun b => b = g) S w (List.replicate n x) (.slice (some ⟨g, 0, none⟩) n n) := by
  refine ⟨some ⟨g, 0, none⟩, n, copL c n, by rw [List.length_replicate], ⟨by rw [List.length_replicate]; exact Nat.le_refl _, fun h => by cases h⟩, cellsX_rep h n, fun j u hu => ⟨g, 0, rfl, rfl, by rw [Nat.zero_add]; exact copL_cells hg j u hu⟩⟩
end Go.Proofs.Ytedfepnekjjmnab
