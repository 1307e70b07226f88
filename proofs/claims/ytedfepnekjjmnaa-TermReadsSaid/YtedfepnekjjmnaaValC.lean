/-
  clerkref.value, reckon.value: what they answer, all cases; how much what they answer holds. Conditions: a formed term, four bound ones.
-/
import Derived.Test.YtedfepnekjjmnaaRvalT
import Derived.Test.YtedfepnekjjmnaaVal5
import Derived.Test.YtedfepnekjjmnaaValPut
import Derived.Test.YtedfepnekjjmnaaValT
namespace Go.Proofs.Ytedfepnekjjmnaa
open Go.RowKit
set_option linter.unusedSimpArgs false
set_option linter.unusedVariables false

theorem rval_c (bd : List T) (self : Int) (hl : bd.length = 4) : ∀ (x : T) (S : Nat → Prop) (w : World) (v vb : Value), RT S w x v → RSl S w bd vb → (∀ b, S b → b < w.heap.size) → bulkL [x] ≤ 1099511627776 → formL [x] = true →
    Calls Try.prog 60 #[v, vb, .int .i64 self] w (VPost S w (valT bd self x)) := by
  intro x
  induction x using T.ind with
  | h x ih =>
    intro S w v vb hv hb hS hbk hf
    by_cases h6 : x.kind = 6
    · exact rval_6 hv hS h6
    by_cases h5 : x.kind = 5
    · exact rval_5 hv hb hl hS h5 (form_var hf h5)
    by_cases h4 : x.kind = 4
    · cases hs : isT x sSelf 0
      · cases hp : isT x sPut 1
        · exact rval_tup hv hb hS hbk h4 hs hp fun y hy S W p q h1 h2 h3 => ih y hy S W p q h1 h2 h3 (by have := bulk_mem hy; have := bulk_args x; omega) (form_args hf hy)
        · exact rval_put hv hS hbk h4 hs hp
      · exact rval_self hv hS hbk h4 hs
    · exact rval_o hv hS h4 h5 h6

theorem val_c (bd : List T) (self : Int) (hl : bd.length = 4) (hbb : bulkL bd ≤ 1099511627776) : ∀ (x : T) (S : Nat → Prop) (w : World) (v vb : Value), RT S w x v → RSl S w bd vb → (∀ b, S b → b < w.heap.size) → bulkL [x] ≤ 1099511627776 → formL [x] = true →
    Calls Try.prog 63 #[v, vb, .int .i64 self] w (VPost S w (valT bd self x)) := by
  intro x
  induction x using T.ind with
  | h x ih =>
    intro S w v vb hv hb hS hbk hf
    by_cases h6 : x.kind = 6
    · exact val_6 hv h6
    by_cases h5 : x.kind = 5
    · exact val_5 hv hb hl hS hbb h5 (form_var hf h5)
    by_cases h4 : x.kind = 4
    · cases hs : isT x sSelf 0
      · cases hp : isT x sPut 1
        · exact val_tup hv hb hS hbk h4 hs hp fun y hy S W p q h1 h2 h3 => ih y hy S W p q h1 h2 h3 (by have := bulk_mem hy; have := bulk_args x; omega) (form_args hf hy)
        · exact val_put hv hS hbk h4 hs hp
      · exact val_self hv hS hbk h4 hs
    · exact val_o hv hS hbk h4 h5 h6

theorem bulk_tup (l : List T) : bulkL [tupT l] = 1 + bulkL l := by simp [tupT, bulkL, ByteArray.size]
theorem bulk_num (n : Int) : bulkL [numT n] = 1 := by simp [numT, bulkL, ByteArray.size]
theorem bulk_pid (n : Int) : bulkL [pidT n] = 1 := by simp [pidT, bulkL, ByteArray.size]
theorem bulk_one (t : T) : bulkL [t] = 1 + t.name.size + bulkL t.args := by rw [bulkL_cons]; simp [bulkL]
theorem mul_split (a b c B : Nat) : (a + b + c) * B = a * B + b * B + c * B := by rw [Nat.add_mul, Nat.add_mul]
theorem le_mul_pos (a B : Nat) (h : 1 ≤ B) : a ≤ a * B := Nat.le_mul_of_pos_right a h

/-- A value holds at most as much as its term has parts, each one as great as a bound one. -/
theorem valT_bulk (bd : List T) (self : Int) (hl : bd.length = 4) : ∀ (x t : T), formL [x] = true → valT bd self x = some t → bulkL [t] ≤ bulkL [x] * (bulkL bd + 1) := by
  intro x
  induction x using T.ind with
  | h x ih =>
    intro t hf hv
    have h1 := bulk_one x
    have hB : 1 ≤ bulkL bd + 1 := by omega
    have hX := le_mul_pos (bulkL [x]) _ hB
    have hA := le_mul_pos (bulkL x.args) _ hB
    have hN := le_mul_pos x.name.size _ hB
    have hM := mul_split 1 x.name.size (bulkL x.args) (bulkL bd + 1)
    rw [← h1] at hM
    generalize hM1 : bulkL [x] * (bulkL bd + 1) = m1 at *
    generalize hM3 : bulkL x.args * (bulkL bd + 1) = m3 at *
    generalize hM4 : x.name.size * (bulkL bd + 1) = m4 at *
    by_cases h6 : x.kind = 6
    · rw [valT_6 h6] at hv; cases hv
    by_cases h5 : x.kind = 5
    · obtain ⟨k, hk, hk4⟩ := form_var hf h5
      rw [valT_5 h5 hk (by omega)] at hv
      have := bulk_at (ts := bd) (i := k) (by omega)
      unfold varO at hv
      split at hv
      · cases hv
      · simp only [Option.some.injEq] at hv; subst hv; omega
    by_cases h4 : x.kind = 4
    · cases hs : isT x sSelf 0
      · cases hp : isT x sPut 1
        · rw [valT_tup h4 hs hp] at hv
          obtain ⟨vs, hvs, hv⟩ := Option.bind_eq_some_iff.1 hv
          have key : ∀ (l us : List T), (∀ y ∈ l, y ∈ x.args) → valL bd self l = some us → bulkL us ≤ bulkL l * (bulkL bd + 1) := by
            intro l
            induction l with
            | nil => intro us _ h; rw [valL_nil] at h; cases h; simp [bulkL]
            | cons y l ihl =>
              intro us hm h
              rw [valL_cons] at h
              obtain ⟨u, hu, h⟩ := Option.bind_eq_some_iff.1 h
              obtain ⟨us', hus, rfl⟩ := Option.map_eq_some_iff.1 h
              have g1 := ih y (hm y (by simp)) u (form_args hf (hm y (by simp))) hu
              have g2 := ihl us' (fun z hz => hm z (by simp [hz])) hus
              have e1 : bulkL (u :: us') = bulkL [u] + bulkL us' := bulkL_append [u] us'
              have e2 : bulkL (y :: l) = bulkL [y] + bulkL l := bulkL_append [y] l
              rw [e1, e2, Nat.add_mul]; omega
          have g := key _ _ (fun y h => h) hvs
          rw [hM3] at g
          split at hv
          · unfold sumO at hv
            split at hv
            · simp only [Option.some.injEq] at hv; subst hv; rw [bulk_num]; omega
            · cases hv
          · simp only [Option.some.injEq] at hv; subst hv; rw [bulk_tup]; omega
        · have hln := isT_length hp
          rw [valT_put h4 hs hp (by omega)] at hv
          have := bulk_at (ts := x.args) (i := 1) (by omega)
          unfold putO at hv
          split at hv
          · simp only [Option.some.injEq] at hv; subst hv; omega
          · cases hv
      · rw [valT_self h4 hs] at hv; simp only [Option.some.injEq] at hv; subst hv; rw [bulk_pid]; omega
    · rw [valT_o h4 h5 h6] at hv; simp only [Option.some.injEq] at hv; subst hv; omega

/-- The last limit. -/
def valF (bd : List T) (self : Int) (x : T) : Option T := (valT bd self x).bind fun t => if checkE t = 0 then some t else none
theorem valF_none {bd : List T} {self : Int} {x : T} (h : valT bd self x = none) : valF bd self x = none := by rw [valF, h]; rfl
theorem valF_some {bd : List T} {self : Int} {x t : T} (h : valT bd self x = some t) (hc : checkE t = 0) : valF bd self x = some t := by rw [valF, h]; simp [hc]
theorem valF_bad {bd : List T} {self : Int} {x t : T} (h : valT bd self x = some t) (hc : checkE t ≠ 0) : valF bd self x = none := by rw [valF, h]; simp [hc]
theorem four_mul (a m : Nat) : 4 * (a * m) ≤ (a + m) * (a + m) := by
  rcases Nat.le_total a m with h | h
  · obtain ⟨d, rfl⟩ := Nat.le.dest h
    have e : (a + (a + d)) * (a + (a + d)) = 4 * (a * (a + d)) + d * d := by
      simp only [Nat.mul_add, Nat.add_mul, Nat.mul_comm d a]; omega
    omega
  · obtain ⟨d, rfl⟩ := Nat.le.dest h
    have e : (m + d + m) * (m + d + m) = 4 * ((m + d) * m) + d * d := by
      simp only [Nat.mul_add, Nat.add_mul, Nat.mul_comm d m]; omega
    omega
theorem mul_small (a b : Nat) (h : a + b ≤ 2000000) : a * (b + 1) ≤ 1099511627776 := by
  have h1 := four_mul a (b + 1)
  have h2 : (a + (b + 1)) * (a + (b + 1)) ≤ 2000001 * 2000001 := Nat.mul_le_mul (by omega) (by omega)
  omega
theorem zeroT_rt (S : Nat → Prop) (w : World) : RT S w zeroT (.agg #[.int .i64 0, .int .i64 0, .string ⟨#[]⟩, .slice none 0 0]) := ⟨none, 0, rfl, ⟨Nat.le_refl _, fun _ => rfl⟩, by simp [zeroT, RTs]⟩
end Go.Proofs.Ytedfepnekjjmnaa
