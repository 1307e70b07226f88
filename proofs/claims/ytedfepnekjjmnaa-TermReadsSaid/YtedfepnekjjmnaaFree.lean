/-
  clerkkeep.free: four terms that say nothing. No condition.
-/
import Derived.Test.YtedfepnekjjmnaaSame
import Derived.Laws.CopyOwn
namespace Go.Proofs.Ytedfepnekjjmnaa
open Go.RowKit
set_option linter.unusedSimpArgs false
set_option linter.unusedVariables false

def anyT : T := ⟨6, 0, ⟨#[]⟩, []⟩
def freeL : List T := [anyT, anyT, anyT, anyT]
section
variable {P : Program} {w : World} {ops : Array Oper} {rest : List Oper} {o : Oper} {a : Act} {Q : Exit → Act → World → Prop}
/-- 'copy' where an element has several cells, into a row that is known whole. -/
theorem run_copy_many (w : World) (dT sT ty elem : TypeId) (g o dLen dCap m : Nat) (a : Addr) (sLen sCap : Nat) (cur : Array Value) (t : TypeId) (cs : List Value)
    (hu : P.underlying dT = some (.slice elem)) (hs : (P.info? elem).map (·.size) = some m)
    (hg : w.heap[g]? = some (.cells cur t (0, 0))) (hn : cs.length = Nat.min sLen dLen * m)
    (hsrc : ∀ j v, cs[j]? = some v → w.cell? (a.add j) = some v) (hfit : o + cs.length ≤ cur.size) (h1 : ∀ v ∈ cs, v.oneCell' = true) :
    (Builtin.copy_ #[dT, sT] ty #[.slice (some ⟨g, o, none⟩) dLen dCap, .slice (some a) sLen sCap]).run P w =
      .ok (goInt (Nat.min sLen dLen)) (w.setRow g (cur.toList.take o ++ cs ++ cur.toList.drop (o + cs.length)).toArray) := by
  have hl := run_loadCells_list (P := P) w a cs hsrc
  have hst := run_storeCells_at P g o t cs 0 cur w hg (by simpa using hfit) h1
  cases hq : P.info? elem with
  | none => simp [hq] at hs
  | some i =>
    have hi : i.size = m := by simpa [hq] using hs
    simp [Builtin.copy_, run_underlying hu, Builtin.lenOf, Builtin.firstCells, sizeOf, typeInfo, hq, hi, ← hn, hl, hst]
theorem wpList_copy_many (hgd : o.guard = none) (d s : Operand) (dT sT : TypeId)
    (ho : o.op = .call { callee := .builtin .copy, args := #[d, s], argTypes := #[dT, sT] }) (elem : TypeId) (m : Nat) (hu : P.underlying dT = some (.slice elem)) (hsz : (P.info? elem).map (·.size) = some m)
    (g off dLen dCap : Nat) (ad : Addr) (sLen sCap : Nat) (hd : a.eval d = .slice (some ⟨g, off, none⟩) dLen dCap) (hs : a.eval s = .slice (some ad) sLen sCap)
    (cur : Array Value) (t : TypeId) (hg : w.heap[g]? = some (.cells cur t (0, 0))) (cs : List Value) (hn : cs.length = Nat.min sLen dLen * m)
    (hsrc : ∀ j v, cs[j]? = some v → w.cell? (ad.add j) = some v) (hfit : off + cs.length ≤ cur.size) (h1 : ∀ v ∈ cs, v.oneCell' = true)
    (h : wpList P ops Q rest (a.put o.dst (goInt (Nat.min sLen dLen))) (w.setRow g (cur.toList.take off ++ cs ++ cur.toList.drop (off + cs.length)).toArray)) : wpList P ops Q (o :: rest) a w := by
  refine wpList_plain hgd fun K hK => ?_
  have hrun := run_copy_many (P := P) w dT sT o.type elem g off dLen dCap m ad sLen sCap cur t cs hu hsz hg hn hsrc hfit h1
  unfold Oper.wp
  simp only [execOp, ho, resolve, invoke, builtin]
  simp [hd, hs, hrun, Result.andThen]
  exact hK _ _ (by simpa using h)
theorem step_copy_many {K : Act → World → Prop} {E : Prop} (hgd : o.guard = none) (d s : Operand) (dT sT : TypeId)
    (ho : o.op = .call { callee := .builtin .copy, args := #[d, s], argTypes := #[dT, sT] }) (elem : TypeId) (m : Nat) (hu : P.underlying dT = some (.slice elem)) (hsz : (P.info? elem).map (·.size) = some m)
    (g off dLen dCap : Nat) (ad : Addr) (sLen sCap : Nat) (hd : a.eval d = .slice (some ⟨g, off, none⟩) dLen dCap) (hs : a.eval s = .slice (some ad) sLen sCap)
    (cur : Array Value) (t : TypeId) (hg : w.heap[g]? = some (.cells cur t (0, 0))) (cs : List Value) (hn : cs.length = Nat.min sLen dLen * m)
    (hsrc : ∀ j v, cs[j]? = some v → w.cell? (ad.add j) = some v) (hfit : off + cs.length ≤ cur.size) (h1 : ∀ v ∈ cs, v.oneCell' = true)
    (h : K (a.put o.dst (goInt (Nat.min sLen dLen))) (w.setRow g (cur.toList.take off ++ cs ++ cur.toList.drop (off + cs.length)).toArray)) :
    if Region.wanted o (yielded ops a.tmps) = true then Oper.wp P o a w K Q else E := by
  have hw : Region.wanted o (yielded ops a.tmps) = true := by simp [Region.wanted, hgd]
  rw [if_pos hw]
  have hrun := run_copy_many (P := P) w dT sT o.type elem g off dLen dCap m ad sLen sCap cur t cs hu hsz hg hn hsrc hfit h1
  unfold Oper.wp
  simp only [execOp, ho, resolve, invoke, builtin]
  simp [hd, hs, hrun, Result.andThen]
  show K _ _
  simpa using h
end

def anyC : List Value := [.int .i64 6, .int .i64 0, .string ⟨#[]⟩, .slice none 0 0]
set_option maxHeartbeats 1000000 in
theorem mul64_c (w : World) : Calls Try.prog 118 #[.int .u64 1, .int .u64 4] w fun e w' => e = .returned (.tuple #[.int .u64 0, .int .u64 4]) ∧ w' = w := by
  go_enter Try.func118, Try.ntmps118
  go_wp2_with fail
  exact bodyPost_ret (v := .tuple #[.int .u64 0, .int .u64 4]) (by simp [results, Try.results118, go_sem]; decide) rfl ⟨rfl, rfl⟩
set_option maxHeartbeats 1000000 in
theorem mul_c (w : World) : Calls Try.prog 103 #[.int .u64 1, .int .u64 4] w fun e w' => e = .returned (.tuple #[.int .u64 0, .int .u64 4]) ∧ w' = w := by
  go_enter Try.func103, Try.ntmps103
  go_wp2_with fail
  refine (mul64_c _).mono ?_
  rintro e w1 ⟨rfl, rfl⟩
  go_wp2_with fail
  exact bodyPost_ret (v := .tuple #[.int .u64 0, .int .u64 4]) (by simp [results, Try.results103, go_sem]) rfl ⟨rfl, rfl⟩
set_option maxRecDepth 100000
theorem infoTermSize : (Try.prog.info? 29).map (·.size) = some 4 := by kernel_rfl
def zeroC : List Value := [.int .i64 0, .int .i64 0, .string ⟨#[]⟩, .slice none 0 0]
/-- k of them written, the others not yet. -/
def someC (k : Nat) : List Value := (List.replicate k anyC).flatten ++ (List.replicate (4 - k) zeroC).flatten
theorem make4 (w : World) : (Instr.makeSlice 27 (.int .i64 4) (.int .i64 4)).run Try.prog w = .ok (.slice (some ⟨w.heap.size, 0, none⟩) 4 4) (w.alloc (.cells (someC 0).toArray 29)) := by
  have h := info29
  cases hq : Try.prog.info? 29 with
  | none => rw [hq] at h; cases h
  | some i =>
    rw [hq] at h
    simp only [Option.map_some, Option.some.injEq, Prod.mk.injEq] at h
    obtain ⟨hz, h1, h2⟩ := h
    have := run_make (P := Try.prog) w 27 29 i _ Try.underlying27 hq hz .i64 .i64 4 4 (by decide) (by decide) (by rw [h2]; decide) (by decide)
    rw [this, h1]
    have e : madeCells (Value.agg #[Value.int IntKind.i64 0, Value.int IntKind.i64 0, Value.string { data := #[] }, Value.slice none 0 0]).cells (Int.toNat 4 * 4) = (someC 0).toArray := by kernel_rfl
    rw [e]; rfl
def copies (k : Nat) : List Value := (List.replicate k anyC).flatten
theorem copy_any (w : World) (g k m n d c : Nat) (ad : Addr) (sCap : Nat) (hd : d = 4 - k) (hg : w.heap[g]? = some (.cells (someC k).toArray 29)) (hn : Nat.min m d = n) (hk : (k = 0 ∧ n = 1) ∨ (k = 1 ∧ n = 1) ∨ (k = 2 ∧ n = 2))
    (hsrc : ∀ j v, (copies n)[j]? = some v → w.cell? (ad.add j) = some v) :
    ∃ w', (Builtin.copy_ #[27, 27] 3 #[.slice (some ⟨g, k * 4, none⟩) d c, .slice (some ad) m sCap]).run Try.prog w = .ok (goInt n) w' ∧ w'.heap[g]? = some (.cells (someC (k + n)).toArray 29) ∧ Below g w w' := by
  have hlen : (copies n).length = Nat.min m d * 4 := by rw [hn]; rcases hk with ⟨_, rfl⟩ | ⟨_, rfl⟩ | ⟨_, rfl⟩ <;> rfl
  have hfit : k * 4 + (copies n).length ≤ (someC k).toArray.size := by rcases hk with ⟨rfl, rfl⟩ | ⟨rfl, rfl⟩ | ⟨rfl, rfl⟩ <;> decide
  have h1 : ∀ v ∈ copies n, v.oneCell' = true := by rcases hk with ⟨rfl, rfl⟩ | ⟨rfl, rfl⟩ | ⟨rfl, rfl⟩ <;> (intro v hv; simp [copies, anyC, List.replicate] at hv; (repeat' (first | (rcases hv with rfl | hv) | subst hv)) <;> rfl)
  refine ⟨_, by rw [run_copy_many (P := Try.prog) w 27 27 3 29 g (k * 4) d c 4 ad m sCap _ 29 (copies n) Try.underlying27 infoTermSize hg hlen hsrc hfit h1, hn], ?_, below_setRow (Below.refl _ _) (Nat.le_refl _) _⟩
  rw [setRow_heap w g _ _ _ _ hg]
  congr 2
  rcases hk with ⟨rfl, rfl⟩ | ⟨rfl, rfl⟩ | ⟨rfl, rfl⟩ <;> rfl
theorem src_any {w : World} {g k n : Nat} (hg : w.heap[g]? = some (.cells (someC k).toArray 29)) (hk : (k = 1 ∧ n = 1) ∨ (k = 2 ∧ n = 2)) : ∀ j v, (copies n)[j]? = some v → w.cell? ((⟨g, 0, none⟩ : Addr).add j) = some v := by
  intro j v hv
  have e : (⟨g, 0, none⟩ : Addr).add j = ⟨g, j, none⟩ := by unfold Addr.add; split <;> simp_all
  rw [e, cell_of_row w g j _ _ _ hg]
  rcases hk with ⟨rfl, rfl⟩ | ⟨rfl, rfl⟩
  · rcases j with _ | _ | _ | _ | j
    all_goals first | exact hv | (simp [copies, anyC, List.replicate] at hv)
  · rcases j with _ | _ | _ | _ | _ | _ | _ | _ | j
    all_goals first | exact hv | (simp [copies, anyC, List.replicate] at hv)
theorem free_rsl {w : World} {g : Nat} {S : Nat → Prop} (hg : w.heap[g]? = some (.cells (someC 4).toArray 29)) (hS : S g) : RSl S w freeL (.slice (some ⟨g, 0, none⟩) 4 4) := by
  refine ⟨_, 4, rfl, ⟨Nat.le_refl _, by simp⟩, RTs_of _ _ _ _ _ fun j hj => ?_⟩
  have hj' : j < 4 := hj
  refine ⟨g, 0, none, 0, rfl, hS, ?_⟩
  rcases j with _ | _ | _ | _ | j
  all_goals first
    | omega
    | exact ⟨cell_of_row w g _ _ _ _ hg, cell_of_row w g _ _ _ _ hg, cell_of_row w g _ _ _ _ hg, cell_of_row w g _ _ _ _ hg, ⟨Nat.le_refl _, fun _ => rfl⟩, by simp [freeL, anyT, RTs]⟩
set_option maxHeartbeats 1000000 in
theorem repeat_c (w : World) (b : Nat) (h0 : w.cell? ⟨b, 0, none⟩ = some (.int .i64 6)) (h1 : w.cell? ⟨b, 1, none⟩ = some (.int .i64 0)) (h2 : w.cell? ⟨b, 2, none⟩ = some (.string ⟨#[]⟩)) (h3 : w.cell? ⟨b, 3, none⟩ = some (.slice none 0 0)) :
    Calls Try.prog 73 #[.slice (some ⟨b, 0, none⟩) 1 1, .int .i64 4] w fun e w' => ∃ v, e = .returned v ∧ Below w.heap.size w w' ∧ RSl (fun b => w.heap.size ≤ b) w' freeL v := by
  have hlb : b < w.heap.size := World.block_lt_of_cell? w _ h0
  have hmk := make4 w
  have hg0 := heap_alloc_new w (.cells (someC 0).toArray 29)
  have hsrc : ∀ j v, (copies 1)[j]? = some v → (w.alloc (.cells (someC 0).toArray 29)).cell? ((⟨b, 0, none⟩ : Addr).add j) = some v := by
    intro j v hv
    have e : (⟨b, 0, none⟩ : Addr).add j = ⟨b, j, none⟩ := by unfold Addr.add; split <;> simp_all
    rw [e, World.cell?_of_block (w := w) (Below.heap_alloc _ _ _ hlb)]
    rcases j with _ | _ | _ | _ | j
    all_goals first | (simp [copies, anyC] at hv; done) | (simp [copies, anyC] at hv; subst hv; assumption)
  obtain ⟨w2, hcp, hg2, hB2⟩ := copy_any (w.alloc (.cells (someC 0).toArray 29)) w.heap.size 0 1 1 4 4 ⟨b, 0, none⟩ 1 rfl hg0 rfl (.inl ⟨rfl, rfl⟩) hsrc
  have hB2 := Lib.hid (show Below w.heap.size w w2 from (below_alloc _ _).trans hB2)
  go_enter Try.func73, Try.ntmps73
  go_wp2_with fail
  refine (mul_c _).mono ?_
  rintro e w1 ⟨rfl, rfl⟩
  go_wp2_with fail
  have HMK := Lib.hid hmk
  clear hmk hcp hsrc hg0 h0 h1 h2 h3
  go_loopw [8] (fun i wr => ∃ k : Nat, i = .int .i64 k ∧ (k = 1 ∨ k = 2 ∨ k = 4) ∧ wr.heap[w1.heap.size]? = some (.cells (someC k).toArray 29) ∧ Below w1.heap.size w1 wr) (fun i _ => 4 - (intOf i).toNat)
  case atStart => exact ⟨1, rfl, .inl rfl, hg2, hB2.out⟩
  case round =>
    obtain ⟨k, rfl, hk, hgk, hB⟩ := hrel
    rcases hk with rfl | rfl | rfl
    · obtain ⟨w3, hcp, hg3, hB3⟩ := copy_any wr.drew w1.heap.size 1 1 1 3 3 ⟨w1.heap.size, 0, none⟩ 4 rfl hgk rfl (.inr (.inl ⟨rfl, rfl⟩)) (src_any (w := wr.drew) hgk (.inl ⟨rfl, rfl⟩))
      go_wp2_with fail
      go_region
      go_wp2_with fail
      go_roundw
      case rel => exact ⟨2, rfl, by omega, hg3, hB.drew.trans hB3⟩
      case measure => simp [intOf]
    · obtain ⟨w3, hcp, hg3, hB3⟩ := copy_any wr.drew w1.heap.size 2 2 2 2 2 ⟨w1.heap.size, 0, none⟩ 4 rfl hgk rfl (.inr (.inr ⟨rfl, rfl⟩)) (src_any (w := wr.drew) hgk (.inr ⟨rfl, rfl⟩))
      go_wp2_with fail
      go_region
      go_wp2_with fail
      go_roundw
      case rel => exact ⟨4, rfl, by omega, hg3, hB.drew.trans hB3⟩
      case measure => simp [intOf]
    · go_wp2_with fail
      go_ret
      exact ⟨_, rfl, hB, free_rsl hgk (Nat.le_refl _)⟩
set_option maxHeartbeats 1000000 in
theorem kfree_c (w : World) : Calls Try.prog 32 #[] w fun e w' => ∃ v, e = .returned v ∧ Below w.heap.size w w' ∧ RSl (fun b => w.heap.size ≤ b) w' freeL v := by
  go_enter Try.func32, Try.ntmps32
  go_wp2_with fail
  refine (repeat_c _ w.heap.size (by go_simp) (by go_simp) (by go_simp) (by go_simp)).mono ?_
  rintro e w1 ⟨v, rfl, hB, hr⟩
  go_wp2_with fail
  go_ret
  exact ⟨_, rfl, (below_alloc _ _).trans (hB.mono (by simp)), hr.mono fun b hb => by simp at hb; omega⟩
set_option maxHeartbeats 1000000 in
theorem rest_c (n m : Int) (w : World) (h0 : 0 < m) (h1 : m ≤ 1099511627776) : Calls Try.prog 33 #[.int .i64 n, .int .i64 m] w fun e w' => e = .returned (.int .i64 (n % m)) ∧ w' = w := by
  have e1 : (m == 0) = false := by simp; omega
  have e2 : m ≠ 0 := by omega
  have e4 := Int.emod_nonneg n e2
  have e5 := Int.emod_lt_of_pos n h0
  by_cases h : 0 ≤ n ∨ m ∣ n
  · have e3 : n.tmod m = n % m := by rw [Int.tmod_eq_emod, if_pos h]; simp
    clear h
    go_enter Try.func33, Try.ntmps33
    go_wp2_with fail
    go_ret
    exact ⟨rfl, rfl⟩
  · have e3 : n.tmod m = n % m - m := by rw [Int.tmod_eq_emod, if_neg h]; omega
    clear h
    go_enter Try.func33, Try.ntmps33
    go_wp2_with fail
    go_ret
    exact ⟨by simp; try omega, rfl⟩
end Go.Proofs.Ytedfepnekjjmnaa
