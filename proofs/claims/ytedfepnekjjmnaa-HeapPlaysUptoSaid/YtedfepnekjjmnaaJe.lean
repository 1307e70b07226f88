/-
  Contracts and plain laws, joined: ValC Value ClosesP BindP KPut RowG. Conditions stand in each.
-/
import Derived.Deep.AppendLies
import Derived.Deep.RegionLaw
import Derived.Test.YtedfepnekjjmnaaRvalT
import Derived.Test.YtedfepnekjjmnaaJd
import Derived.Test.YtedfepnekjjmnaaJb
import Derived.Test.YtedfepnekjjmnaaJa
import Derived.Test.YtedfepnekjjmnaaJc
/-
  clerkref.value, reckon.value: what they answer, all cases; how much what they answer holds. Conditions: a formed term, four bound ones.
-/
namespace Go.Proofs.Ytedfepnekjjmnaa
open Go.RowKit
set_option linter.unusedSimpArgs false
set_option linter.unusedVariables false

theorem rval_c (bd : List T) (self : Int) (hl : bd.length = 4) : ∀ (x : T) (S : Nat → Prop) (w : World) (v vb : Value), RT S w x v → RSl S w bd vb → (∀ b, S b → b < w.heap.size) → bulkL [x] ≤ 1099511627776 → formL [x] = true →
    Calls Try.prog 60 #[v, vb, .int .i64 self] w (VPost S w (valT bd self x)) := by
  intro x
  induction x using T.ind with
  | h x ih =>
    intro S w v vb hv hb hS hbk hf
    by_cases h6 : x.kind = 6
    · exact rval_6 hv hS h6
    by_cases h5 : x.kind = 5
    · exact rval_5 hv hb hl hS h5 (form_var hf h5)
    by_cases h4 : x.kind = 4
    · cases hs : isT x sSelf 0
      · cases hp : isT x sPut 1
        · exact rval_tup hv hb hS hbk h4 hs hp fun y hy S W p q h1 h2 h3 => ih y hy S W p q h1 h2 h3 (by have := bulk_mem hy; have := bulk_args x; omega) (form_args hf hy)
        · exact rval_put hv hS hbk h4 hs hp
      · exact rval_self hv hS hbk h4 hs
    · exact rval_o hv hS h4 h5 h6

theorem val_c (bd : List T) (self : Int) (hl : bd.length = 4) (hbb : bulkL bd ≤ 1099511627776) : ∀ (x : T) (S : Nat → Prop) (w : World) (v vb : Value), RT S w x v → RSl S w bd vb → (∀ b, S b → b < w.heap.size) → bulkL [x] ≤ 1099511627776 → formL [x] = true →
    Calls Try.prog 63 #[v, vb, .int .i64 self] w (VPost S w (valT bd self x)) := by
  intro x
  induction x using T.ind with
  | h x ih =>
    intro S w v vb hv hb hS hbk hf
    by_cases h6 : x.kind = 6
    · exact val_6 hv h6
    by_cases h5 : x.kind = 5
    · exact val_5 hv hb hl hS hbb h5 (form_var hf h5)
    by_cases h4 : x.kind = 4
    · cases hs : isT x sSelf 0
      · cases hp : isT x sPut 1
        · exact val_tup hv hb hS hbk h4 hs hp fun y hy S W p q h1 h2 h3 => ih y hy S W p q h1 h2 h3 (by have := bulk_mem hy; have := bulk_args x; omega) (form_args hf hy)
        · exact val_put hv hS hbk h4 hs hp
      · exact val_self hv hS hbk h4 hs
    · exact val_o hv hS hbk h4 h5 h6

theorem bulk_tup (l : List T) : bulkL [tupT l] = 1 + bulkL l := by simp [tupT, bulkL, ByteArray.size]
theorem bulk_num (n : Int) : bulkL [numT n] = 1 := by simp [numT, bulkL, ByteArray.size]
theorem bulk_pid (n : Int) : bulkL [pidT n] = 1 := by simp [pidT, bulkL, ByteArray.size]
theorem bulk_one (t : T) : bulkL [t] = 1 + t.name.size + bulkL t.args := by rw [bulkL_cons]; simp [bulkL]
theorem mul_split (a b c B : Nat) : (a + b + c) * B = a * B + b * B + c * B := by rw [Nat.add_mul, Nat.add_mul]
theorem le_mul_pos (a B : Nat) (h : 1 ≤ B) : a ≤ a * B := Nat.le_mul_of_pos_right a h

/-- A value holds at most as much as its term has parts, each one as great as a bound one. -/
theorem valT_bulk (bd : List T) (self : Int) (hl : bd.length = 4) : ∀ (x t : T), formL [x] = true → valT bd self x = some t → bulkL [t] ≤ bulkL [x] * (bulkL bd + 1) := by
  intro x
  induction x using T.ind with
  | h x ih =>
    intro t hf hv
    have h1 := bulk_one x
    have hB : 1 ≤ bulkL bd + 1 := by omega
    have hX := le_mul_pos (bulkL [x]) _ hB
    have hA := le_mul_pos (bulkL x.args) _ hB
    have hN := le_mul_pos x.name.size _ hB
    have hM := mul_split 1 x.name.size (bulkL x.args) (bulkL bd + 1)
    rw [← h1] at hM
    generalize hM1 : bulkL [x] * (bulkL bd + 1) = m1 at *
    generalize hM3 : bulkL x.args * (bulkL bd + 1) = m3 at *
    generalize hM4 : x.name.size * (bulkL bd + 1) = m4 at *
    by_cases h6 : x.kind = 6
    · rw [valT_6 h6] at hv; cases hv
    by_cases h5 : x.kind = 5
    · obtain ⟨k, hk, hk4⟩ := form_var hf h5
      rw [valT_5 h5 hk (by omega)] at hv
      have := bulk_at (ts := bd) (i := k) (by omega)
      unfold varO at hv
      split at hv
      · cases hv
      · simp only [Option.some.injEq] at hv; subst hv; omega
    by_cases h4 : x.kind = 4
    · cases hs : isT x sSelf 0
      · cases hp : isT x sPut 1
        · rw [valT_tup h4 hs hp] at hv
          obtain ⟨vs, hvs, hv⟩ := Option.bind_eq_some_iff.1 hv
          have key : ∀ (l us : List T), (∀ y ∈ l, y ∈ x.args) → valL bd self l = some us → bulkL us ≤ bulkL l * (bulkL bd + 1) := by
            intro l
            induction l with
            | nil => intro us _ h; rw [valL_nil] at h; cases h; simp [bulkL]
            | cons y l ihl =>
              intro us hm h
              rw [valL_cons] at h
              obtain ⟨u, hu, h⟩ := Option.bind_eq_some_iff.1 h
              obtain ⟨us', hus, rfl⟩ := Option.map_eq_some_iff.1 h
              have g1 := ih y (hm y (by simp)) u (form_args hf (hm y (by simp))) hu
              have g2 := ihl us' (fun z hz => hm z (by simp [hz])) hus
              have e1 : bulkL (u :: us') = bulkL [u] + bulkL us' := bulkL_append [u] us'
              have e2 : bulkL (y :: l) = bulkL [y] + bulkL l := bulkL_append [y] l
              rw [e1, e2, Nat.add_mul]; omega
          have g := key _ _ (fun y h => h) hvs
          rw [hM3] at g
          split at hv
          · unfold sumO at hv
            split at hv
            · simp only [Option.some.injEq] at hv; subst hv; rw [bulk_num]; omega
            · cases hv
          · simp only [Option.some.injEq] at hv; subst hv; rw [bulk_tup]; omega
        · have hln := isT_length hp
          rw [valT_put h4 hs hp (by omega)] at hv
          have := bulk_at (ts := x.args) (i := 1) (by omega)
          unfold putO at hv
          split at hv
          · simp only [Option.some.injEq] at hv; subst hv; omega
          · cases hv
      · rw [valT_self h4 hs] at hv; simp only [Option.some.injEq] at hv; subst hv; rw [bulk_pid]; omega
    · rw [valT_o h4 h5 h6] at hv; simp only [Option.some.injEq] at hv; subst hv; omega

/-- The last limit. -/
def valF (bd : List T) (self : Int) (x : T) : Option T := (valT bd self x).bind fun t => if checkE t = 0 then some t else none
theorem valF_none {bd : List T} {self : Int} {x : T} (h : valT bd self x = none) : valF bd self x = none := by rw [valF, h]; rfl
theorem valF_some {bd : List T} {self : Int} {x t : T} (h : valT bd self x = some t) (hc : checkE t = 0) : valF bd self x = some t := by rw [valF, h]; simp [hc]
theorem valF_bad {bd : List T} {self : Int} {x t : T} (h : valT bd self x = some t) (hc : checkE t ≠ 0) : valF bd self x = none := by rw [valF, h]; simp [hc]
theorem four_mul (a m : Nat) : 4 * (a * m) ≤ (a + m) * (a + m) := by
  rcases Nat.le_total a m with h | h
  · obtain ⟨d, rfl⟩ := Nat.le.dest h
    have e : (a + (a + d)) * (a + (a + d)) = 4 * (a * (a + d)) + d * d := by
      simp only [Nat.mul_add, Nat.add_mul, Nat.mul_comm d a]; omega
    omega
  · obtain ⟨d, rfl⟩ := Nat.le.dest h
    have e : (m + d + m) * (m + d + m) = 4 * ((m + d) * m) + d * d := by
      simp only [Nat.mul_add, Nat.add_mul, Nat.mul_comm d m]; omega
    omega
theorem mul_small (a b : Nat) (h : a + b ≤ 2000000) : a * (b + 1) ≤ 1099511627776 := by
  have h1 := four_mul a (b + 1)
  have h2 : (a + (b + 1)) * (a + (b + 1)) ≤ 2000001 * 2000001 := Nat.mul_le_mul (by omega) (by omega)
  omega
theorem zeroT_rt (S : Nat → Prop) (w : World) : RT S w zeroT (.agg #[.int .i64 0, .int .i64 0, .string ⟨#[]⟩, .slice none 0 0]) := ⟨none, 0, rfl, ⟨Nat.le_refl _, fun _ => rfl⟩, by simp [zeroT, RTs]⟩
end Go.Proofs.Ytedfepnekjjmnaa

/-
  clerkref.Value, reckon.Value: what they answer. Conditions: bounds on how much there is; for the first one a formed term and four bound ones.
-/
namespace Go.Proofs.Ytedfepnekjjmnaa
open Go.RowKit
set_option linter.unusedSimpArgs false
set_option linter.unusedVariables false

def VF (S : Nat → Prop) (w : World) (o : Option T) (e : Ending) (w' : World) : Prop :=
  ∃ v, e = .returned (.tuple #[v, .bool o.isSome]) ∧ Below w.heap.size w w' ∧ RT (fun b => S b ∨ w.heap.size ≤ b) w' (o.getD zeroT) v
theorem VF.none {S : Nat → Prop} {w w' : World} {e : Ending} {o : Option T} (ho : o = Option.none) (he : e = .returned (.tuple #[.agg #[.int .i64 0, .int .i64 0, .string ⟨#[]⟩, .slice Option.none 0 0], .bool false])) (hB : Below w.heap.size w w') : VF S w o e w' := by
  subst ho; exact ⟨_, he, hB, zeroT_rt _ _⟩
theorem VF.some {S : Nat → Prop} {w w' : World} {e : Ending} {o : Option T} {t : T} {v : Value} (ho : o = Option.some t) (he : e = .returned (.tuple #[v, .bool true])) (hB : Below w.heap.size w w') (hr : RT (fun b => S b ∨ w.heap.size ≤ b) w' t v) : VF S w o e w' := by
  subst ho; exact ⟨_, he, hB, hr⟩

theorem RT.bound {S : Nat → Prop} {w : World} {t : T} {v : Value} (h : RT S w t v) : RT (fun b => b < w.heap.size) w t v := h.to (fun _ _ hl => hl) fun _ _ _ => rfl
theorem RSl.bound {S : Nat → Prop} {w : World} {t : List T} {v : Value} (h : RSl S w t v) : RSl (fun b => b < w.heap.size) w t v := h.to (fun _ _ hl => hl) fun _ _ _ => rfl

set_option maxHeartbeats 2000000 in
theorem rvalue_c (bd : List T) (self : Int) (hl : bd.length = 4) (x : T) (S : Nat → Prop) (w : World) (v vb : Value) (hv : RT S w x v) (hb : RSl S w bd vb) (hS : ∀ b, S b → b < w.heap.size) (hbk : bulkL [x] + bulkL bd ≤ 2000000) (hf : formL [x] = true) :
    Calls Try.prog 22 #[v, vb, .int .i64 self] w (VF S w (valF bd self x)) := by
  obtain ⟨a, cap, rfl, hcap, hr⟩ := hv
  obtain ⟨ab, capb, rfl, hcapb, hrb⟩ := hb
  have HX : Hid (RT S w x _) := Lib.hid ⟨a, cap, rfl, hcap, hr⟩
  have HB : Hid (RSl S w bd _) := Lib.hid ⟨ab, capb, rfl, hcapb, hrb⟩
  clear hcap hr hcapb hrb
  have HV := Lib.hid (valT_bulk bd self hl x)
  have HM := Lib.hid (mul_small (bulkL [x]) (bulkL bd) hbk)
  have hS' : ∀ b, S b → b < w.heap.size + 1 + 1 := fun b h => by have := hS b h; omega
  have HL := Lib.hid hl; clear hl
  go_enter Try.func22, Try.ntmps22
  go_wp2_with fail
  refine (rval_c bd self HL.out x S _ _ _ ((HX.out.alloc _).alloc _) ((HB.out.alloc _).alloc _) (by simpa using hS') (by omega) hf).mono ?_
  rintro e w1 ⟨t, vt, ok, rfl, hB1, ⟨a1, cap1, rfl, hc1, hr1⟩, ho⟩
  have HT : Hid (RT (fun b => S b ∨ w.heap.size + 1 + 1 ≤ b) w1 t _) := Lib.hid ⟨a1, cap1, rfl, hc1, by simpa using hr1⟩
  have hs1 := hB1.size
  obtain ⟨hcc, hff⟩ := bcell hB1
  simp only [World.size_alloc] at hs1 hcc hff
  have g1 : w.heap.size < w1.heap.size := by omega
  have g2 : w.heap.size + 1 < w1.heap.size := by omega
  have HB1 := Lib.hid (below_step ((below_alloc _ _).alloc (by simp) _) (by simp <;> omega) hB1)
  clear hB1 hc1 hr1
  have HBO : Hid (∀ o u0 u1 u2 u3, Below w.heap.size w (((((w1.setCell ⟨w.heap.size + 1, 0, none⟩ u0).setCell ⟨w.heap.size + 1, 1, none⟩ u1).setCell ⟨w.heap.size + 1, 2, none⟩ u2).setCell ⟨w.heap.size + 1, 3, none⟩ u3).alloc o)) := Lib.hid fun o u0 u1 u2 u3 => by
    refine Below.alloc ?_ (by simp <;> omega) _
    repeat refine Below.setCell ?_ (by simp <;> omega) _
    exact HB1.out
  cases ok
  · have HN := Lib.hid (valF_none (show valT bd self x = none from ho)); clear ho
    go_wp2_with fail
    exact bodyPost_ret (v := .tuple #[.agg #[.int .i64 0, .int .i64 0, .string ⟨#[]⟩, .slice none 0 0], .bool false]) (by simp [results, Try.results22, go_sem, hcc, hff, g1, g2]) rfl (VF.none HN.out rfl (HBO.out _ _ _ _ _))
  · have HO := Lib.hid (show valT bd self x = some t from ho); clear ho
    have hbt := Nat.le_trans (HV.out t hf HO.out) HM.out
    have HT2 := Lib.hid (HT.out.alloc (.cells #[.int .i64 t.kind, .int .i64 t.n, .string t.name, .slice a1 t.args.length cap1] 29))
    go_wp2_with fail
    refine (rcheck_c t _ _ _ HT2.out.bound (fun b hb => hb) hbt).mono ?_
    rintro e w2 ⟨rfl, hB2⟩
    have hs2 := hB2.size
    obtain ⟨hcc2, hff2⟩ := bcell hB2
    simp only [World.size_alloc] at hs2 hcc2 hff2
    have g3 : w.heap.size < w2.heap.size := by omega
    have g4 : w.heap.size + 1 < w2.heap.size := by omega
    have g5 : w1.heap.size < w2.heap.size := by omega
    have k1 : w.heap.size < w1.heap.size + 1 := by omega
    have k2 : w.heap.size + 1 < w1.heap.size + 1 := by omega
    have HB2 := Lib.hid (below_step (HB1.out.alloc (by omega) _) (by simp; omega) hB2)
    have HT3 := Lib.hid (HT2.out.below hB2)
    clear hB2
    by_cases hc : checkE t = 0
    · have hcb : (checkE t != 0) = false := by simp [hc]
      have HF := Lib.hid (valF_some HO.out hc); clear hc
      go_wp2_with fail
      refine bodyPost_ret (v := .tuple #[.agg #[.int .i64 t.kind, .int .i64 t.n, .string t.name, .slice a1 t.args.length cap1], .bool true]) (by simp [results, Try.results22, go_sem, hcc, hff, hcc2, hff2, g1, g2, g3, g4]) rfl (VF.some HF.out rfl ?_ ?_)
      · repeat refine Below.setCell ?_ (by simp <;> omega) _
        exact HB2.out
      · refine RT.mono (S := fun b => S b ∨ w.heap.size + 1 + 1 ≤ b) ?_ fun b hb => by rcases hb with hb | hb; exact .inl hb; exact .inr (by omega)
        repeat refine RT.slot ?_ _ _ _ (fun b hb => by rcases hb with hb | hb; (have := hS b hb; omega); omega)
        exact HT3.out
    · have hcb : (checkE t != 0) = true := by simp [hc]
      have HF := Lib.hid (valF_bad HO.out hc); clear hc
      go_wp2_with fail
      refine bodyPost_ret (v := .tuple #[.agg #[.int .i64 0, .int .i64 0, .string ⟨#[]⟩, .slice none 0 0], .bool false]) (by simp [results, Try.results22, go_sem, hcc, hff, hcc2, hff2, g1, g2, g3, g4]) rfl (VF.none HF.out rfl ?_)
      repeat refine Below.setCell ?_ (by simp <;> omega) _
      exact HB2.out

/-- What reckon.Value answers. -/
def reckO (bd : List T) (self : Int) (x : T) : T × Int :=
  if checkE x ≠ 0 then (zeroT, checkE x) else if boundB bd = false then (zeroT, 5) else if inB self 1 99 = false then (zeroT, 1) else match valF bd self x with | some t => (t, 0) | none => (zeroT, 7)
section
variable {bd : List T} {self : Int} {x : T}
theorem reckO_check (h : checkE x ≠ 0) : reckO bd self x = (zeroT, checkE x) := by rw [reckO, if_pos h]
theorem reckO_bound (h : checkE x = 0) (hb : boundB bd = false) : reckO bd self x = (zeroT, 5) := by rw [reckO, if_neg (by simp [h]), if_pos hb]
theorem reckO_self (h : checkE x = 0) (hb : boundB bd = true) (hs : inB self 1 99 = false) : reckO bd self x = (zeroT, 1) := by rw [reckO, if_neg (by simp [h]), if_neg (by simp [hb]), if_pos hs]
theorem reckO_none (h : checkE x = 0) (hb : boundB bd = true) (hs : inB self 1 99 = true) (hv : valF bd self x = none) : reckO bd self x = (zeroT, 7) := by rw [reckO, if_neg (by simp [h]), if_neg (by simp [hb]), if_neg (by simp [hs]), hv]
theorem reckO_some {t : T} (h : checkE x = 0) (hb : boundB bd = true) (hs : inB self 1 99 = true) (hv : valF bd self x = some t) : reckO bd self x = (t, 0) := by rw [reckO, if_neg (by simp [h]), if_neg (by simp [hb]), if_neg (by simp [hs]), hv]
theorem boundB_len (h : boundB bd = true) : bd.length = 4 := by simp only [boundB, Bool.and_eq_true, beq_iff_eq] at h; exact h.1
theorem check_form' {t : T} (h : checkE t = 0) : formL [t] = true := by
  unfold checkE at h
  split at h
  · assumption
  · omega
end
def RO (S : Nat → Prop) (w : World) (o : T × Int) (e : Ending) (w' : World) : Prop :=
  ∃ v, e = .returned (.tuple #[v, .int .i64 o.2]) ∧ Below w.heap.size w w' ∧ RT (fun b => S b ∨ w.heap.size ≤ b) w' o.1 v
theorem RO.open {S : Nat → Prop} {w w' : World} {e : Ending} {t : T} {n : Int} (h : RO S w (t, n) e w') : ∃ a cap, e = .returned (.tuple #[.agg #[.int .i64 t.kind, .int .i64 t.n, .string t.name, .slice a t.args.length cap], .int .i64 n]) ∧ Below w.heap.size w w' ∧
    RT (fun b => S b ∨ w.heap.size ≤ b) w' t (.agg #[.int .i64 t.kind, .int .i64 t.n, .string t.name, .slice a t.args.length cap]) := by
  obtain ⟨v, he, hB, a, cap, rfl, hc, hr⟩ := h; exact ⟨a, cap, he, hB, a, cap, rfl, hc, hr⟩
theorem RO.zero {S : Nat → Prop} {w w' : World} {e : Ending} {o : T × Int} {n : Int} (ho : o = (zeroT, n)) (he : e = .returned (.tuple #[.agg #[.int .i64 0, .int .i64 0, .string ⟨#[]⟩, .slice none 0 0], .int .i64 n])) (hB : Below w.heap.size w w') : RO S w o e w' := by
  subst ho; exact ⟨_, he, hB, zeroT_rt _ _⟩
theorem RO.some {S : Nat → Prop} {w w' : World} {e : Ending} {o : T × Int} {t : T} {v : Value} (ho : o = (t, 0)) (he : e = .returned (.tuple #[v, .int .i64 0])) (hB : Below w.heap.size w w') (hr : RT (fun b => S b ∨ w.heap.size ≤ b) w' t v) : RO S w o e w' := by
  subst ho; exact ⟨_, he, hB, hr⟩

set_option maxHeartbeats 4000000 in
theorem value_c (bd : List T) (self : Int) (x : T) (S : Nat → Prop) (w : World) (v vb : Value) (hv : RT S w x v) (hb : RSl S w bd vb) (hS : ∀ b, S b → b < w.heap.size) (hbk : bulkL [x] + bulkL bd ≤ 2000000) :
    Calls Try.prog 23 #[v, vb, .int .i64 self] w (RO S w (reckO bd self x)) := by
  obtain ⟨a, cap, rfl, hcap, hr⟩ := hv
  obtain ⟨ab, capb, rfl, hcapb, hrb⟩ := hb
  have HX : Hid (RT S w x _) := Lib.hid ⟨a, cap, rfl, hcap, hr⟩
  have HB : Hid (RSl S w bd _) := Lib.hid ⟨ab, capb, rfl, hcapb, hrb⟩
  clear hcap hr hcapb hrb
  have h1 : w.heap.size < w.heap.size + 1 + 1 := by omega
  have h2 : w.heap.size + 1 < w.heap.size + 1 + 1 := by omega
  go_enter Try.func23, Try.ntmps23
  go_wp2_with fail
  refine (check_c x S _ _ ((HX.out.alloc _).alloc _) (by omega)).mono ?_
  rintro e w1 ⟨rfl, hB1⟩
  have hs1 := hB1.size
  obtain ⟨hcc, hff⟩ := bcell hB1
  simp only [World.size_alloc] at hs1 hcc hff
  have g1 : w.heap.size < w1.heap.size := by omega
  have g2 : w.heap.size + 1 < w1.heap.size := by omega
  have HB1 := Lib.hid (below_step ((below_alloc _ _).alloc (by simp) _) (by simp <;> omega) hB1)
  clear hB1
  by_cases hc : checkE x = 0
  · have hcb : (checkE x != 0) = false := by simp [hc]
    have HC := Lib.hid hc; clear hc
    go_wp2_with fail
    refine (bound_c bd S _ _ (HB.out.below HB1.out) (by omega)).mono ?_
    rintro e w2 ⟨rfl, hB2⟩
    have hs2 := hB2.size
    obtain ⟨hcc2, hff2⟩ := bcell hB2
    have g3 : w.heap.size < w2.heap.size := by omega
    have g4 : w.heap.size + 1 < w2.heap.size := by omega
    have HB2 := Lib.hid (below_step HB1.out (by omega) hB2)
    clear hB2
    cases hbd : boundB bd
    · have HR := Lib.hid (reckO_bound (self := self) HC.out hbd); clear hbd
      go_wp2_with fail
      refine bodyPost_ret (v := .tuple #[.agg #[.int .i64 0, .int .i64 0, .string ⟨#[]⟩, .slice none 0 0], .int .i64 5]) (by simp [results, Try.results23, go_sem, hcc, hff, hcc2, hff2, g1, g2, g3, g4]) rfl (RO.zero HR.out rfl ?_)
      repeat refine Below.setCell ?_ (by simp <;> omega) _
      exact HB2.out
    have HBD := Lib.hid hbd; clear hbd
    by_cases hself : 1 ≤ self ∧ self ≤ 99
    · obtain ⟨hs3, hs4⟩ := hself
      have HI := Lib.hid (show inB self 1 99 = true by simp [inB, hs3, hs4])
      go_wp2_with fail
      refine (val_c bd self (boundB_len HBD.out) (by omega) x S _ _ _ (HX.out.below HB2.out) (HB.out.below HB2.out) (fun b hb => by have := hS b hb; omega) (by omega) (check_form' HC.out)).mono ?_
      rintro e w3 ⟨t, vt, ok, rfl, hB3, ⟨a1, cap1, rfl, hc1, hr1⟩, ho⟩
      have HT : Hid (RT (fun b => S b ∨ w2.heap.size ≤ b) w3 t _) := Lib.hid ⟨a1, cap1, rfl, hc1, hr1⟩
      have hs5 := hB3.size
      obtain ⟨hcc3, hff3⟩ := bcell hB3
      have g5 : w.heap.size < w3.heap.size := by omega
      have g6 : w.heap.size + 1 < w3.heap.size := by omega
      have HB3 := Lib.hid (below_step HB2.out (by omega) hB3)
      clear hB3 hc1 hr1
      cases ok
      · have HR := Lib.hid (reckO_none HC.out HBD.out HI.out (valF_none (show valT bd self x = none from ho))); clear ho
        go_wp2_with fail
        refine bodyPost_ret (v := .tuple #[.agg #[.int .i64 0, .int .i64 0, .string ⟨#[]⟩, .slice none 0 0], .int .i64 7]) (by simp [results, Try.results23, go_sem, hcc, hff, hcc2, hff2, hcc3, hff3, g1, g2, g3, g4, g5, g6]) rfl (RO.zero HR.out rfl ?_)
        refine Below.alloc ?_ (by simp <;> omega) _
        repeat refine Below.setCell ?_ (by simp <;> omega) _
        exact HB3.out
      · have HO := Lib.hid (show valT bd self x = some t from ho); clear ho
        have hbt := Nat.le_trans (valT_bulk bd self (boundB_len HBD.out) x t (check_form' HC.out) HO.out) (mul_small _ _ hbk)
        have HT2 := Lib.hid (HT.out.alloc (.cells #[.int .i64 t.kind, .int .i64 t.n, .string t.name, .slice a1 t.args.length cap1] 29))
        go_wp2_with fail
        refine (check_c t _ _ _ HT2.out hbt).mono ?_
        rintro e w4 ⟨rfl, hB4⟩
        have hs6 := hB4.size
        obtain ⟨hcc4, hff4⟩ := bcell hB4
        simp only [World.size_alloc] at hs6 hcc4 hff4
        have g7 : w.heap.size < w4.heap.size := by omega
        have g8 : w.heap.size + 1 < w4.heap.size := by omega
        have g9 : w3.heap.size < w4.heap.size := by omega
        have k1 : w.heap.size < w3.heap.size + 1 := by omega
        have k2 : w.heap.size + 1 < w3.heap.size + 1 := by omega
        have HB4 := Lib.hid (below_step (HB3.out.alloc (by omega) _) (by simp; omega) hB4)
        have HT3 := Lib.hid (HT2.out.below hB4)
        clear hB4
        by_cases hc : checkE t = 0
        · have hcb : (checkE t != 0) = false := by simp [hc]
          have HR := Lib.hid (reckO_some HC.out HBD.out HI.out (valF_some HO.out hc)); clear hc
          go_wp2_with fail
          refine bodyPost_ret (v := .tuple #[.agg #[.int .i64 t.kind, .int .i64 t.n, .string t.name, .slice a1 t.args.length cap1], .int .i64 0]) (by simp [results, Try.results23, go_sem, hcc, hff, hcc2, hff2, hcc3, hff3, hcc4, hff4, g1, g2, g3, g4, g5, g6, g7, g8, k2]) rfl (RO.some HR.out rfl ?_ ?_)
          · repeat refine Below.setCell ?_ (by simp <;> omega) _
            exact HB4.out
          · refine RT.mono (S := fun b => S b ∨ w2.heap.size ≤ b) ?_ fun b hb => by rcases hb with hb | hb; exact .inl hb; exact .inr (by omega)
            repeat refine RT.slot ?_ _ _ _ (fun b hb => by rcases hb with hb | hb; (have := hS b hb; omega); omega)
            exact HT3.out
        · have hcb : (checkE t != 0) = true := by simp [hc]
          have HR := Lib.hid (reckO_none HC.out HBD.out HI.out (valF_bad HO.out hc)); clear hc
          go_wp2_with fail
          refine bodyPost_ret (v := .tuple #[.agg #[.int .i64 0, .int .i64 0, .string ⟨#[]⟩, .slice none 0 0], .int .i64 7]) (by simp [results, Try.results23, go_sem, hcc, hff, hcc2, hff2, hcc3, hff3, hcc4, hff4, g1, g2, g3, g4, g5, g6, g7, g8, k2]) rfl (RO.zero HR.out rfl ?_)
          repeat refine Below.setCell ?_ (by simp <;> omega) _
          exact HB4.out
    · have HR := Lib.hid (reckO_self HC.out HBD.out (show inB self 1 99 = false by simp [inB]; omega))
      by_cases hs3 : self < 1
      · go_wp2_with fail
        refine bodyPost_ret (v := .tuple #[.agg #[.int .i64 0, .int .i64 0, .string ⟨#[]⟩, .slice none 0 0], .int .i64 1]) (by simp [results, Try.results23, go_sem, hcc, hff, hcc2, hff2, g1, g2, g3, g4]) rfl (RO.zero HR.out rfl ?_)
        repeat refine Below.setCell ?_ (by simp <;> omega) _
        exact HB2.out
      · have hs4 : 99 < self := by omega
        have hs5 : 1 ≤ self := by omega
        clear hself hs3
        go_wp2_with fail
        refine bodyPost_ret (v := .tuple #[.agg #[.int .i64 0, .int .i64 0, .string ⟨#[]⟩, .slice none 0 0], .int .i64 1]) (by simp [results, Try.results23, go_sem, hcc, hff, hcc2, hff2, g1, g2, g3, g4]) rfl (RO.zero HR.out rfl ?_)
        repeat refine Below.setCell ?_ (by simp <;> omega) _
        exact HB2.out
  · have hcb : (checkE x != 0) = true := by simp [hc]
    have HR := Lib.hid (reckO_check (bd := bd) (self := self) hc); clear hc
    go_wp2_with fail
    refine bodyPost_ret (v := .tuple #[.agg #[.int .i64 0, .int .i64 0, .string ⟨#[]⟩, .slice none 0 0], .int .i64 (checkE x)]) (by simp [results, Try.results23, go_sem, hcc, hff, g1, g2]) rfl (RO.zero HR.out rfl ?_)
    repeat refine Below.setCell ?_ (by simp <;> omega) _
    exact HB1.out
end Go.Proofs.Ytedfepnekjjmnaa

/-
  What is reckoned is closed; sums don't hang on the order: in plain words. No program in sight.
-/
namespace Go.Proofs.Ytedfepnekjjmnaa
set_option linter.unusedSimpArgs false
set_option linter.unusedVariables false



theorem any_bnd : bndB anyT = true := by simp [bndB, checkE, formL_cons, formL, headB, bareB, dpL_cons, dpL, szL_cons, szL, anyT]
theorem freeL_bound : boundB freeL = true := by simp [boundB, freeL, any_bnd]
theorem form_bare {x : T} (h : formL [x] = true) (h4 : x.kind ≠ 4) : x.args = [] := by
  rw [formL_cons] at h
  simp only [Bool.and_eq_true] at h
  have h1 := h.1.1
  simp only [headB, bareB] at h1
  repeat' (split at h1)
  all_goals first | omega | (simp at h1; done) | (simp only [Bool.and_eq_true, decide_eq_true_eq, beq_iff_eq] at h1; exact List.eq_nil_of_length_eq_zero (by omega))
theorem closed_leaf {x : T} (h : formL [x] = true) (h4 : x.kind ≠ 4) (h5 : x.kind ≠ 5) (h6 : x.kind ≠ 6) : closedL [x] = true := by
  rw [closedL_cons, form_bare h h4]; simp [closedL, h5, h6]
theorem closed_tup (l : List T) : closedL [tupT l] = closedL l := by rw [closedL_cons]; simp [tupT, closedL]
theorem closed_num (n : Int) : closedL [numT n] = true := by rw [closedL_cons]; simp [numT, closedL]
theorem closed_pid (n : Int) : closedL [pidT n] = true := by rw [closedL_cons]; simp [pidT, closedL]
theorem bound_closed {bd : List T} (hb : boundB bd = true) {t : T} (ht : t ∈ bd) (h6 : t.kind ≠ 6) : closedL [t] = true := by
  simp only [boundB, Bool.and_eq_true, List.all_eq_true] at hb
  have := hb.2 t ht
  simp only [bndB, Bool.and_eq_true, Bool.or_eq_true, beq_iff_eq] at this
  rcases this.2 with h | h
  · exact absurd h h6
  · exact h
theorem closedL_pair (t : T) (l : List T) : closedL (t :: l) = (closedL [t] && closedL l) := by rw [closedL_cons, closedL_cons]; simp [closedL]
theorem valL_closed {bd : List T} {self : Int} : ∀ (l vs : List T), (∀ y ∈ l, ∀ t, valT bd self y = some t → closedL [t] = true) → valL bd self l = some vs → closedL vs = true
  | [], vs, _, h => by rw [valL_nil] at h; cases h; simp [closedL]
  | y :: l, vs, hy, h => by
    rw [valL_cons] at h
    obtain ⟨v, hv, h⟩ := Option.bind_eq_some_iff.1 h
    obtain ⟨us, hu, rfl⟩ := Option.map_eq_some_iff.1 h
    rw [closedL_pair, hy y (by simp) v hv, valL_closed l us (fun z hz => hy z (by simp [hz])) hu]; rfl
theorem valT_closed {bd : List T} {self : Int} (hb : boundB bd = true) : ∀ (x : T), formL [x] = true → ∀ t, valT bd self x = some t → closedL [t] = true := by
  intro x
  induction x using T.ind with
  | h x ih =>
    intro hf t ht
    by_cases h6 : x.kind = 6
    · rw [valT_6 h6] at ht; cases ht
    by_cases h5 : x.kind = 5
    · obtain ⟨k, hk, hk4⟩ := form_var hf h5
      have hl := boundB_len hb
      rw [valT_5 h5 hk (by omega)] at ht
      unfold varO at ht
      split at ht
      · cases ht
      · rename_i hn
        simp only [Option.some.injEq] at ht
        subst ht
        exact bound_closed hb (List.getElem_mem _) (by simpa using hn)
    by_cases h4 : x.kind = 4
    · cases hs : isT x sSelf 0
      · cases hp : isT x sPut 1
        · rw [valT_tup h4 hs hp] at ht
          obtain ⟨vs, hv, ht⟩ := Option.bind_eq_some_iff.1 ht
          have hc := valL_closed x.args vs (fun y hy => ih y hy (form_args hf hy)) hv
          split at ht
          · unfold sumO at ht
            split at ht
            · simp only [Option.some.injEq] at ht; subst ht; exact closed_num _
            · cases ht
          · simp only [Option.some.injEq] at ht; subst ht; rw [closed_tup]; exact hc
        · have hl := isT_length hp
          rw [valT_put h4 hs hp (by omega)] at ht
          unfold putO at ht
          split at ht
          · simp only [Option.some.injEq] at ht; subst ht; assumption
          · cases ht
      · rw [valT_self h4 hs] at ht
        simp only [Option.some.injEq] at ht; subst ht; exact closed_pid _
    · rw [valT_o h4 h5 h6] at ht
      simp only [Option.some.injEq] at ht; subst ht; exact closed_leaf hf h4 h5 h6
theorem valF_check {bd : List T} {self : Int} {x t : T} (h : valF bd self x = some t) : valT bd self x = some t ∧ checkE t = 0 := by
  obtain ⟨u, hu, h⟩ := Option.bind_eq_some_iff.1 h
  split at h
  · simp only [Option.some.injEq] at h; subst h; exact ⟨hu, by assumption⟩
  · cases h
/-- A right answer is closed, and right. -/
theorem reckO_good {bd : List T} {self : Int} {x : T} (h : (reckO bd self x).2 = 0) : closedL [(reckO bd self x).1] = true ∧ checkE (reckO bd self x).1 = 0 := by
  unfold reckO at h ⊢
  split
  · rename_i h1; rw [if_pos h1] at h; exact absurd h h1
  rename_i h1
  rw [if_neg h1] at h
  split
  · rename_i h2; rw [if_pos h2] at h; cases h
  rename_i h2
  rw [if_neg h2] at h
  split
  · rename_i h3; rw [if_pos h3] at h; cases h
  rename_i h3
  rw [if_neg h3] at h
  cases hv : valF bd self x with
  | none => rw [hv] at h; cases h
  | some t => exact ⟨valT_closed (by simpa using h2) x (check_form' (by simpa using h1)) t (valF_check hv).1, (valF_check hv).2⟩

theorem isT_tup (s u : ByteArray) (l : List T) (n : Int) : isT (tupT (wordT s :: l)) u n = (decide ((l.length : Int) + 1 = n + 1) && (s.toList == u.toList)) := by
  simp [isT, tupT, wordT, headIs]
theorem reckO_put {bd : List T} {self : Int} {t : T} (hb : boundB bd = true) (hs : inB self 1 99 = true) (ht : checkE t = 0) (hc : closedL [t] = true) (hp : checkE (tupT [wordT sPut, t]) = 0) :
    reckO bd self (tupT [wordT sPut, t]) = (t, 0) := by
  refine reckO_some hp hb hs (valF_some ?_ ht)
  rw [valT_put rfl (by rw [isT_tup]; rfl) (by rw [isT_tup]; simp) (by simp [tupT])]
  simp [tupT, putO, hc]
def addT (x y : T) : T := tupT [wordT sAdd, x, y]
theorem formL_pair (t : T) (l : List T) : formL (t :: l) = (formL [t] && formL l) := by rw [formL_cons, formL_cons]; simp [formL]
theorem check_add (x y : T) : checkE (addT x y) = checkE (addT y x) := by
  have h1 : formL [addT x y] = formL [addT y x] := by
    rw [formL_cons, formL_cons]
    have e : headB (addT x y) = headB (addT y x) := by simp [headB, addT, tupT]
    rw [e]; congr 2
    simp only [addT, tupT]
    rw [formL_pair, formL_pair x [y], formL_pair _ [y, x], formL_pair y [x], Bool.and_comm (formL [x])]
  have h2 : dpL [addT x y] = dpL [addT y x] := by
    rw [dpL_cons, dpL_cons]
    simp only [addT, tupT, if_true]
    rw [dpL_cons, dpL_cons x, dpL_cons _ [y, x], dpL_cons y, dpL_cons y, dpL_cons x]
    omega
  have h3 : szL [addT x y] = szL [addT y x] := by
    rw [szL_cons, szL_cons]
    simp only [addT, tupT, if_true, List.length_cons, List.length_nil]
    rw [szL_cons, szL_cons x, szL_cons _ [y, x], szL_cons y, szL_cons y, szL_cons x]
    omega
  rw [checkE, checkE, h1, h2, h3]
theorem sumO_comm (a b : T) : sumO a b = sumO b a := by
  have : sumN a b = sumN b a := by rw [sumN, sumN, Int.add_comm]
  rw [sumO, sumO, sumB, sumB, this, Bool.and_comm (a.kind == 1)]
theorem val_add_eq {bd : List T} {self : Int} (x y : T) : valT bd self (addT x y) = (valT bd self x).bind fun a => (valT bd self y).bind fun b => sumO a b := by
  have e : isT (addT x y) sAdd 2 = true := by rw [addT, isT_tup]; simp
  rw [valT_tup rfl (by rw [addT, isT_tup]; rfl) (by rw [addT, isT_tup]; rfl)]
  simp only [e, if_true]
  simp only [addT, tupT]
  rw [valL_cons, valT_o (by simp [wordT]) (by simp [wordT]) (by simp [wordT]), valL_cons, valL_cons, valL_nil]
  cases valT bd self x <;> cases valT bd self y <;> rfl
theorem val_add {bd : List T} {self : Int} (x y : T) : valT bd self (addT x y) = valT bd self (addT y x) := by
  rw [val_add_eq, val_add_eq]
  cases valT bd self x <;> cases valT bd self y <;> first | rfl | exact sumO_comm _ _
theorem reckO_add {bd : List T} {self : Int} (x y : T) : reckO bd self (addT x y) = reckO bd self (addT y x) := by
  rw [reckO, reckO, check_add x y, valF, valF, val_add x y]
theorem reckO_five : reckO freeL 1 (addT (numT 2) (numT 3)) = (numT 5, 0) := by
  have e1 : checkE (addT (numT 2) (numT 3)) = 0 := by simp [checkE, formL_cons, formL, headB, bareB, dpL_cons, dpL, szL_cons, szL, addT, tupT, wordT, numT, sAdd, nameB, lowB, inB, ByteArray.size]
  have e2 : checkE (numT 5) = 0 := by simp [checkE, formL_cons, formL, headB, bareB, dpL_cons, dpL, szL_cons, szL, numT, inB]
  refine reckO_some e1 freeL_bound (by decide) (valF_some ?_ e2)
  rw [val_add_eq, valT_o (by simp [numT]) (by simp [numT]) (by simp [numT]), valT_o (by simp [numT]) (by simp [numT]) (by simp [numT])]
  simp [sumO, sumB, sumN, numT, inB, RowKit.wrap64]
end Go.Proofs.Ytedfepnekjjmnaa

/-
  What is bound, put into a pattern: the pattern then fits just so. In plain words, no program in sight.
-/
namespace Go.Proofs.Ytedfepnekjjmnaa
set_option linter.unusedSimpArgs false
set_option linter.unusedVariables false

def bindL (b : List T) : List T → List T
  | [] => []
  | ⟨k, n, s, l⟩ :: ts => (if k = 5 then b.getD n.toNat zeroT else ⟨k, n, s, bindL b l⟩) :: bindL b ts
def bindT (b : List T) (p : T) : T := if p.kind = 5 then b.getD p.n.toNat zeroT else ⟨p.kind, p.n, p.name, bindL b p.args⟩
theorem bindL_nil (b : List T) : bindL b [] = [] := by rw [bindL]
theorem bindL_cons (b : List T) (p : T) (ps : List T) : bindL b (p :: ps) = bindT b p :: bindL b ps := by obtain ⟨k, n, s, l⟩ := p; rw [bindL]; rfl
theorem bindL_map (b : List T) (ps : List T) : bindL b ps = ps.map (bindT b) := by
  induction ps with
  | nil => rw [bindL_nil]; rfl
  | cons p ps ih => rw [bindL_cons, ih]; rfl
theorem bindT_5 {b : List T} {p : T} {k : Nat} (h : p.kind = 5) (hk : p.n = k) (hl : k < b.length) : bindT b p = b[k] := by rw [bindT, if_pos h, hk]; simp [hl]
theorem bindT_o {b : List T} {p : T} (h : p.kind ≠ 5) : bindT b p = ⟨p.kind, p.n, p.name, bindL b p.args⟩ := by rw [bindT, if_neg h]

/-- x is t, but for parts of which it says nothing. -/
inductive Sub : T → T → Prop
  | any (t : T) : Sub anyT t
  | same (t : T) : Sub t t
  | tup (l m : List T) (hl : l.length = m.length) (h : ∀ i (h1 : i < l.length) (h2 : i < m.length), Sub l[i] m[i]) : Sub (tupT l) (tupT m)

/-- Who was bound stays so. -/
def Stay (b c : List T) : Prop := b.length = c.length ∧ ∀ i (h1 : i < b.length) (h2 : i < c.length), b[i].kind ≠ 6 → c[i] = b[i]
theorem Stay.refl (b : List T) : Stay b b := ⟨rfl, fun _ _ _ _ => rfl⟩
theorem Stay.trans {a b c : List T} (h : Stay a b) (k : Stay b c) : Stay a c :=
  ⟨h.1.trans k.1, fun i h1 h2 hn => by
    have h3 : i < b.length := by have := h.1; omega
    have e := h.2 i h1 h3 hn
    rw [k.2 i h3 h2 (by rw [e]; exact hn), e]⟩
theorem Stay.set {b : List T} {k : Nat} (hk : k < b.length) (h6 : b[k].kind = 6) (t : T) : Stay b (b.set k t) := by
  refine ⟨by simp, fun i h1 h2 hn => ?_⟩
  have : k ≠ i := fun e => by subst e; exact hn h6
  simp [List.getElem_set, this]
theorem stay_list : ∀ (ps ts b : List T), (∀ p ∈ ps, ∀ t b, Stay b (fitT p t b).2) → Stay b (fitL ps ts b).2
  | [], ts, b, _ => by rw [fitL_nil]; exact Stay.refl b
  | p :: ps, [], b, _ => by
    have : fitL (p :: ps) [] b = (true, b) := by rw [fitL]; intro h; cases h
    rw [this]; exact Stay.refl b
  | p :: ps, t :: ts, b, h => by
    rw [fitL_cons]
    split
    · exact (h p (by simp) t b).trans (stay_list ps ts _ fun q hq => h q (by simp [hq]))
    · exact h p (by simp) t b
theorem fitT_stay (p : T) : ∀ (t : T) (b : List T), Stay b (fitT p t b).2 := by
  induction p using T.ind with
  | h p ih =>
    intro t b
    unfold fitT fitH
    repeat' split
    all_goals first
      | exact Stay.refl b
      | exact stay_list _ _ _ ih
      | skip
    rename_i h6
    by_cases hk : p.n.toNat < b.length
    · exact Stay.set hk (by simpa [hk] using h6) t
    · rw [List.set_eq_of_length_le (by omega)]; exact Stay.refl b
theorem fitL_stay (ps ts b : List T) : Stay b (fitL ps ts b).2 := stay_list ps ts b fun p _ t b => fitT_stay p t b

theorem ba_toList (s : ByteArray) : s.toList = s.data.toList := by rw [ByteArray.toList_eq]
theorem T.eta4 {t : T} (h : formL [t] = true) (h4 : t.kind = 4) : t = tupT t.args := by
  rw [formL_cons] at h
  simp only [Bool.and_eq_true] at h
  have h1 := h.1.1
  simp only [headB, h4] at h1
  obtain ⟨k, n, s, l⟩ := t
  simp at h1 h4 ⊢
  subst h4
  simp only [tupT, T.mk.injEq, true_and, and_true]
  refine ⟨by omega, ?_⟩
  have h2 : s.toList = [] := by simpa using h1.1.2
  exact ba_ext (by rw [ba_toList] at h2; simpa using h2)
theorem T.eta6 {t : T} (h : formL [t] = true) (h6 : t.kind = 6) : t = anyT := by
  have ha := form_bare h (by omega)
  rw [formL_cons] at h
  simp only [Bool.and_eq_true] at h
  have h1 := h.1.1
  simp only [headB, h6, bareB] at h1
  obtain ⟨k, n, s, l⟩ := t
  simp at h1 h6 ha ⊢
  subst h6 ha
  simp only [anyT, T.mk.injEq, true_and, and_true]
  refine ⟨by omega, ?_⟩
  have h2 : s.toList = [] := by simpa using h1.1
  exact ba_ext (by rw [ba_toList] at h2; simpa using h2)
theorem T.etaLeaf {b : List T} {p : T} (h : formL [p] = true) (h4 : p.kind ≠ 4) (h5 : p.kind ≠ 5) : bindT b p = p := by
  have ha := form_bare h h4
  rw [bindT_o h5, ha, bindL_nil]
  obtain ⟨k, n, s, l⟩ := p
  simp at ha; subst ha; rfl
theorem closed_at {l : List T} (h : closedL l = true) {y : T} (hy : y ∈ l) : closedL [y] = true := by
  induction l with
  | nil => cases hy
  | cons x l ih =>
    rw [closedL_pair, Bool.and_eq_true] at h
    rcases List.mem_cons.1 hy with rfl | hy
    · exact h.1
    · exact ih h.2 hy
theorem closed_args {t : T} (h : closedL [t] = true) {y : T} (hy : y ∈ t.args) : closedL [y] = true := by
  rw [closedL_cons, Bool.and_eq_true, Bool.and_eq_true] at h
  exact closed_at h.1.2 hy
theorem closed_kind {t : T} (h : closedL [t] = true) : t.kind ≠ 5 ∧ t.kind ≠ 6 := by
  rw [closedL_cons] at h; simp at h; exact ⟨h.1.1.1, h.1.1.2⟩

theorem bind_sub : ∀ (p t : T) (b c : List T), formL [p] = true → formL [t] = true → closedL [t] = true → b.length = 4 → (fitT p t b).1 = true → Stay (fitT p t b).2 c → Sub (bindT c p) t := by
  intro p
  induction p using T.ind with
  | h p ih =>
    intro t b c hf ht hc hb hfit hst
    by_cases h6 : p.kind = 6
    · rw [T.etaLeaf hf (by omega) (by omega), T.eta6 hf h6]; exact Sub.any t
    by_cases h5 : p.kind = 5
    · obtain ⟨k, hk, hk4⟩ := form_var hf h5
      by_cases hb6 : (b[k]'(by omega)).kind = 6
      · rw [fitT_5a h5 hk (by omega) hb6] at hst
        have hcl : k < c.length := by have := hst.1; simp at this; omega
        have := hst.2 k (by simp; omega) hcl (by simp [closed_kind hc])
        rw [bindT_5 h5 hk hcl, this]
        simp only [List.getElem_set_self]
        exact Sub.same t
      · rw [fitT_5b h5 hk (by omega) hb6] at hst hfit
        have e := (sameT_iff _ _).1 hfit
        have hcl : k < c.length := by have := hst.1; simp at this; omega
        rw [bindT_5 h5 hk hcl, hst.2 k (by simp; omega) hcl hb6]; simp only [e]
        exact Sub.same t
    by_cases h4 : p.kind = 4
    · by_cases ht4 : t.kind = 4 ∧ p.args.length = t.args.length
      · obtain ⟨ht4, hl⟩ := ht4
        rw [fitT_4a h4 ht4 hl] at hst hfit
        have key : ∀ (ps ts b : List T), (∀ q ∈ ps, ∀ (t : T) (b : List T), formL [q] = true → formL [t] = true → closedL [t] = true → b.length = 4 → (fitT q t b).1 = true → Stay (fitT q t b).2 c → Sub (bindT c q) t) →
            (∀ q ∈ ps, formL [q] = true) → (∀ t ∈ ts, formL [t] = true ∧ closedL [t] = true) → b.length = 4 → (fitL ps ts b).1 = true → Stay (fitL ps ts b).2 c → ps.length = ts.length → ∀ i (h1 : i < (bindL c ps).length) (h2 : i < ts.length), Sub (bindL c ps)[i] ts[i] := by
          intro ps
          induction ps with
          | nil => intro ts b _ _ _ _ _ _ hl i h1 h2; simp at hl; omega
          | cons q ps ihl =>
            intro ts b hq hfq hts hb hfit hst hl i h1 h2
            cases ts with
            | nil => simp at hl
            | cons t ts =>
              cases h : (fitT q t b).1
              · rw [fitL_no h, h] at hfit; cases hfit
              rw [fitL_yes h] at hfit hst
              have hs := fitL_stay ps ts (fitT q t b).2
              simp only [bindL_cons]
              cases i with
              | zero => exact hq q (by simp) t b (hfq q (by simp)) (hts t (by simp)).1 (hts t (by simp)).2 hb h (hs.trans hst)
              | succ i =>
                exact ihl ts _ (fun q' h' => hq q' (by simp [h'])) (fun q' h' => hfq q' (by simp [h'])) (fun t' h' => hts t' (by simp [h'])) (by rw [fitT_length]; exact hb) hfit hst (by simpa using hl) i (by simpa [bindL_cons] using h1) (by simpa using h2)
        have hsub := key p.args t.args b (fun q hq t b a1 a2 a3 a4 a5 a6 => ih q hq t b c a1 a2 a3 a4 a5 a6) (fun q hq => form_args hf hq) (fun y hy => ⟨form_args ht hy, closed_args hc hy⟩) hb hfit hst hl
        rw [bindT_o h5, T.eta4 ht ht4]
        have e := T.eta4 hf h4
        have e1 : p.n = 0 := by rw [e]; rfl
        have e2 : p.name = ⟨#[]⟩ := by rw [e]; rfl
        rw [h4, e1, e2]
        exact Sub.tup _ _ (by rw [bindL_map]; simpa using hl) hsub
      · rw [fitT_4b h4 ht4] at hfit; cases hfit
    · rw [fitT_o h4 h5 h6] at hfit
      have e := (sameT_iff _ _).1 hfit
      rw [T.etaLeaf hf h4 h5, e]; exact Sub.same t

theorem list_le {f : List T → Nat} (h0 : f [] = 0) (hc : ∀ t ts, f (t :: ts) = f [t] + f ts) : ∀ (l m : List T), l.length = m.length → (∀ i (h1 : i < l.length) (h2 : i < m.length), f [l[i]] ≤ f [m[i]]) → f l ≤ f m
  | [], [], _, _ => Nat.le_refl _
  | [], _ :: _, h, _ => by simp at h
  | _ :: _, [], h, _ => by simp at h
  | x :: l, y :: m, hl, h => by
    rw [hc x, hc y]
    have h1 := h 0 (by simp) (by simp)
    have h2 := list_le h0 hc l m (by simpa using hl) fun i a b => h (i + 1) (by simpa using a) (by simpa using b)
    simp only [List.getElem_cons_zero] at h1
    omega
theorem list_max {f : List T → Nat} (h0 : f [] = 0) (hc : ∀ t ts, f (t :: ts) = max (f [t]) (f ts)) : ∀ (l m : List T), l.length = m.length → (∀ i (h1 : i < l.length) (h2 : i < m.length), f [l[i]] ≤ f [m[i]]) → f l ≤ f m
  | [], [], _, _ => Nat.le_refl _
  | [], _ :: _, h, _ => by simp at h
  | _ :: _, [], h, _ => by simp at h
  | x :: l, y :: m, hl, h => by
    rw [hc x, hc y]
    have h1 := h 0 (by simp) (by simp)
    have h2 := list_max h0 hc l m (by simpa using hl) fun i a b => h (i + 1) (by simpa using a) (by simpa using b)
    simp only [List.getElem_cons_zero] at h1
    omega
theorem szL_pair (t : T) (ts : List T) : szL (t :: ts) = szL [t] + szL ts := by rw [szL_cons, szL_cons t []]; simp [szL]
theorem dpL_pair (t : T) (ts : List T) : dpL (t :: ts) = max (dpL [t]) (dpL ts) := by rw [dpL_cons, dpL_cons t []]; simp [dpL]
theorem bulkL_pair (t : T) (ts : List T) : bulkL (t :: ts) = bulkL [t] + bulkL ts := bulkL_append [t] ts
theorem sub_le {x t : T} (h : Sub x t) : szL [x] ≤ szL [t] ∧ dpL [x] ≤ dpL [t] ∧ bulkL [x] ≤ bulkL [t] := by
  induction h with
  | any t => exact ⟨by simp [szL_cons, anyT, szL], by simp [dpL_cons, anyT, dpL], by rw [show bulkL [anyT] = 1 by rw [bulkL_cons]; simp [anyT, bulkL, ByteArray.size], bulkL_cons]; omega⟩
  | same t => exact ⟨Nat.le_refl _, Nat.le_refl _, Nat.le_refl _⟩
  | tup l m hl h ih =>
    have h1 := list_le (f := szL) (by simp [szL]) szL_pair l m hl fun i a b => (ih i a b).1
    have h2 := list_max (f := dpL) (by simp [dpL]) dpL_pair l m hl fun i a b => (ih i a b).2.1
    have h3 := list_le (f := bulkL) (by simp [bulkL]) bulkL_pair l m hl fun i a b => (ih i a b).2.2
    refine ⟨?_, ?_, ?_⟩
    · rw [szL_cons, szL_cons]; simp [tupT, szL]; omega
    · rw [dpL_cons, dpL_cons]; simp [tupT, dpL]; omega
    · rw [bulkL_cons, bulkL_cons]; simp [tupT, bulkL]; omega
theorem sub_form {x t : T} (h : Sub x t) (ht : formL [t] = true) : formL [x] = true := by
  induction h with
  | any t => simp [formL_cons, formL, headB, bareB, anyT]
  | same t => exact ht
  | tup l m hl h ih =>
    rw [formL_cons] at ht ⊢
    have e : headB (tupT l) = headB (tupT m) := by unfold headB tupT; simp only [hl]; rfl
    simp only [Bool.and_eq_true] at ht ⊢
    refine ⟨⟨by rw [e]; exact ht.1.1, ?_⟩, ht.2⟩
    rw [formL_all, List.all_eq_true]
    intro y hy
    obtain ⟨i, hi, rfl⟩ := List.getElem_of_mem hy
    have hm := ht.1.2
    rw [formL_all, List.all_eq_true] at hm
    have hi' : i < m.length := by have := hl; simp only [tupT] at hi; omega
    exact ih i hi hi' (hm _ (by simp only [tupT]; exact List.getElem_mem _))
theorem sub_check {x t : T} (h : Sub x t) (ht : checkE t = 0) : checkE x = 0 := by
  have hf := check_form' ht
  unfold checkE at ht ⊢
  rw [if_pos (sub_form h hf)]
  rw [if_pos hf] at ht
  have := sub_le h
  split at ht
  · rw [if_pos (by omega)]
  · cases ht
theorem sub_closed {x t : T} (h : Sub x t) (hx : closedL [x] = true) : x = t := by
  induction h with
  | any t => simp [closedL_cons, anyT] at hx
  | same t => rfl
  | tup l m hl h ih =>
    rw [closed_tup] at hx
    congr 1
    refine List.ext_getElem hl fun i h1 h2 => ih i h1 h2 (closed_at hx (List.getElem_mem _))
theorem fit_list {c : List T} : ∀ (l m : List T), l.length = m.length → (∀ i (h1 : i < l.length) (h2 : i < m.length), fitT l[i] m[i] c = (true, c)) → fitL l m c = (true, c)
  | [], m, _, _ => fitL_nil m c
  | _ :: _, [], h, _ => by simp at h
  | x :: l, y :: m, hl, h => by
    have h0 := h 0 (by simp) (by simp)
    simp only [List.getElem_cons_zero] at h0
    rw [fitL_yes (by rw [h0]), h0]
    exact fit_list l m (by simpa using hl) fun i a b => h (i + 1) (by simpa using a) (by simpa using b)
theorem fit_self : ∀ (t : T) (c : List T), closedL [t] = true → fitT t t c = (true, c) := by
  intro t
  induction t using T.ind with
  | h t ih =>
    intro c hc
    obtain ⟨h5, h6⟩ := closed_kind hc
    by_cases h4 : t.kind = 4
    · rw [fitT_4a h4 h4 rfl]
      exact fit_list _ _ rfl fun i h1 h2 => ih _ (List.getElem_mem _) c (closed_args hc (List.getElem_mem _))
    · rw [fitT_o h4 h5 h6, (sameT_iff t t).2 rfl]
theorem fit_sub {x t : T} (h : Sub x t) (hc : closedL [t] = true) (c : List T) : fitT x t c = (true, c) := by
  induction h with
  | any t => exact fitT_6 rfl
  | same t => exact fit_self t c hc
  | tup l m hl h ih =>
    rw [fitT_4a rfl rfl hl]
    rw [closed_tup] at hc
    exact fit_list l m hl fun i h1 h2 => ih i h1 h2 (closed_at hc (List.getElem_mem _))

/-- What all of a term's parts and all bound ones have, all that are bound have. -/
theorem fitL_all {Q : T → Prop} : ∀ (ps ts b : List T), (∀ p ∈ ps, ∀ (t : T) (b : List T), Q t → (∀ y ∈ b, Q y) → ∀ y ∈ (fitT p t b).2, Q y) → (∀ y ∈ ts, Q y) → (∀ y ∈ b, Q y) → ∀ y ∈ (fitL ps ts b).2, Q y
  | [], ts, b, _, _, hb => by rw [fitL_nil]; exact hb
  | p :: ps, [], b, _, _, hb => by
    have : fitL (p :: ps) [] b = (true, b) := by rw [fitL]; intro h; cases h
    rw [this]; exact hb
  | p :: ps, t :: ts, b, h, ht, hb => by
    have h1 := h p (by simp) t b (ht t (by simp)) hb
    rw [fitL_cons]
    split
    · exact fitL_all ps ts _ (fun q hq => h q (by simp [hq])) (fun y hy => ht y (by simp [hy])) h1
    · exact h1
theorem fitT_all {Q : T → Prop} (hQ : ∀ t, Q t → ∀ y ∈ t.args, Q y) (p : T) : ∀ (t : T) (b : List T), Q t → (∀ y ∈ b, Q y) → ∀ y ∈ (fitT p t b).2, Q y := by
  induction p using T.ind with
  | h p ih =>
    intro t b ht hb
    unfold fitT fitH
    repeat' split
    all_goals first
      | exact hb
      | exact fitL_all _ _ _ (fun q hq t b => ih q hq t b) (hQ t ht) hb
      | skip
    intro y hy
    rcases List.mem_or_eq_of_mem_set hy with hy | rfl
    · exact hb y hy
    · exact ht
theorem check_args {t : T} (h : checkE t = 0) {y : T} (hy : y ∈ t.args) : checkE y = 0 := by
  have hf := check_form' h
  have hfy := form_args hf hy
  have h4 : t.kind = 4 := by
    by_cases h4 : t.kind = 4
    · exact h4
    · rw [form_bare hf h4] at hy; cases hy
  unfold checkE at h ⊢
  rw [if_pos hfy]
  rw [if_pos hf] at h
  have h1 : ∀ (l : List T), y ∈ l → szL [y] ≤ szL l ∧ dpL [y] ≤ dpL l := by
    intro l
    induction l with
    | nil => intro h; cases h
    | cons x l ih =>
      intro hm
      rw [szL_pair x, dpL_pair x]
      rcases List.mem_cons.1 hm with rfl | hm
      · omega
      · have := ih hm; omega
  have h2 := h1 t.args hy
  have h3 : szL [t] = 1 + t.args.length + szL t.args := by rw [szL_cons, if_pos h4]; simp [szL]
  have h5 : dpL [t] = 1 + dpL t.args := by rw [dpL_cons, if_pos h4]; simp [dpL]
  split at h
  · rw [if_pos (by omega)]
  · cases h
theorem fit_bound {p t : T} {b : List T} (hb : boundB b = true) (ht : checkE t = 0) (hc : closedL [t] = true) : boundB (fitT p t b).2 = true := by
  have hl := boundB_len hb
  rw [boundB, fitT_length, hl]
  simp only [beq_self_eq_true, Bool.true_and, List.all_eq_true]
  have hb' := hb
  simp only [boundB, Bool.and_eq_true, List.all_eq_true] at hb'
  refine fitT_all (Q := fun y => bndB y = true) ?_ p t b (by simp [bndB, ht, hc]) hb'.2
  intro t ht y hy
  simp only [bndB, Bool.and_eq_true, Bool.or_eq_true, beq_iff_eq] at ht ⊢
  refine ⟨check_args ht.1 hy, .inr ?_⟩
  rcases ht.2 with h6 | hc
  · rw [form_bare (check_form' ht.1) (by omega)] at hy; cases hy
  · exact closed_args hc hy
end Go.Proofs.Ytedfepnekjjmnaa

/-
  clerkkeep.put: what is bound, put into a pattern. Conditions: a formed pattern, four bound ones, a bound on how much there is.
-/
namespace Go.Proofs.Ytedfepnekjjmnaa
open Go.RowKit
set_option linter.unusedSimpArgs false
set_option linter.unusedVariables false
set_option maxRecDepth 100000

section
variable {ops : Array Oper} {o : Oper} {a : Act} {Q : Exit → Act → World → Prop}
/-- 'append(s, x)' at a step of a region that draws its order. -/
theorem step_grow {K : Act → World → Prop} {E : Prop} (s x : Operand) (hgd : o.guard = none) (ho : o.op = .call { callee := .builtin .append, args := #[s, x], argTypes := #[27, 27] })
    {P R : Nat → Prop} {base : Nat} {w0 : World} {v : Value} {ts : List T} {t : T} {c0 c1 c2 c3 : Value} {g0 n : Nat} (hs : a.eval s = v) (hx : a.eval x = .slice (some ⟨g0, 0, none⟩) 1 1) (hg0 : g0 = w0.heap.size) (hown : OwnG P base w0 v ts)
    (ht : RT R w0 t (.agg #[c0, c1, c2, c3])) (hR : ∀ b, R b → b < w0.heap.size → P b ∧ v.ownBlock ≠ some b) (hnl : ts.length = n) (hn : n + 1 ≤ 1099511627776) (hbase : base ≤ w0.heap.size)
    (h : ∀ g cap w', OwnG P base w' (.slice (some ⟨g, 0, none⟩) (n + 1) cap) (ts ++ [t]) → (w0.alloc (.cells #[c0, c1, c2, c3] 29)).grownBy w' v.ownBlock → Below base w0 w' → K (a.put o.dst (.slice (some ⟨g, 0, none⟩) (n + 1) cap)) w') :
    if Region.wanted o (yielded ops a.tmps) = true then Oper.wp Try.prog o a (w0.alloc (.cells #[c0, c1, c2, c3] 29)) K Q else E := by
  subst hg0 hnl
  have hlt := hown.block
  obtain ⟨i, hi, hz0, hz1, hz2⟩ := info_parts info29
  have hown1 : OwnT (fun b => P b ∧ b < w0.heap.size ∧ v.ownBlock ≠ some b) base (w0.alloc (.cells #[c0, c1, c2, c3] 29)) v ts := OwnT.to hown (Nat.le_refl _) (fun _ h _ => h) fun b _ hb => Below.heap_alloc _ _ _ hb
  have hl := (ht.to (S' := fun b => P b ∧ b < w0.heap.size ∧ v.ownBlock ≠ some b) (fun b hb hl => ⟨(hR b hb hl).1, hl, (hR b hb hl).2⟩) fun _ _ _ => rfl).one 29
  obtain ⟨cs, ho1, hC⟩ := hown1
  obtain ⟨au, cap, ds, e, hcap, hD, hj⟩ := hl
  simp only [Value.slice.injEq] at e
  obtain ⟨rfl, -, rfl⟩ := e
  refine step_append_lies _ hgd s x 27 ho base 29 i _ 4 56 Try.underlying27 hi hz0 hz1 hz2 rfl (by decide) v _ cs hs ho1 ⟨w0.heap.size, 0, none⟩ 1 1 ds hx (by simpa using hD.length) ?_ hD.oneCell (by decide) (by unfold maxLen; omega) (by omega) (by simp; omega) _ rfl ?_
  · intro j u' hu
    obtain ⟨b, o', e, _, hc⟩ := hj j u' hu
    simp only [Option.some.injEq] at e
    rw [e]
    unfold Addr.add
    split
    · rename_i h0; subst h0; exact hc
    · exact hc
  · intro g cap w' h1 h2 h3 h4
    have h2s := h2.size
    simp only [World.size_alloc] at h2s h3
    have hblk : ∀ b, (P b ∧ b < w0.heap.size ∧ v.ownBlock ≠ some b) → b < (w0.alloc (.cells #[c0, c1, c2, c3] 29)).heap.size → w'.heap[b]? = (w0.alloc (.cells #[c0, c1, c2, c3] 29)).heap[b]? := fun b hb hlt => h2.block b hlt (fun e => hb.2.2 e.symm)
    have hO : OwnT (fun b => P b ∧ b < w0.heap.size ∧ v.ownBlock ≠ some b) base w' (.slice (some ⟨g, 0, none⟩) (ts.length + 1) cap) (ts ++ [t]) := ⟨cs ++ ds, by simpa using h1, (hC.to (fun _ h _ => h) hblk).append (hD.to (fun _ h _ => h) hblk)⟩
    refine h g cap w' (hO.to (Nat.le_refl _) (fun b hb _ => ⟨hb.1, by have := hb.2.1; omega, fun e => ?_⟩) fun _ _ _ => rfl) h2 ?_
    · simp only [Value.ownBlock, Option.some.injEq] at e
      subst e
      rcases h3 with h5 | h5
      · exact hb.2.2 h5
      · have := hb.2.1; omega
    · exact grown_below ((Below.refl _ _).alloc hbase _) h2 (by simp; omega) fun b hb => (hlt b hb).1
end
theorem grown_box {w0 w' : World} {ob : Option Nat} {B : Nat} {c0 c1 c2 c3 : Value} (h : Box w0 B c0 c1 c2 c3) (hg : w0.grownBy w' ob) (hB : ob ≠ some B) : Box w' B c0 c1 c2 c3 := by
  have hl := h.lt
  have e : ∀ o, w'.cell? ⟨B, o, none⟩ = w0.cell? ⟨B, o, none⟩ := fun o => World.cell?_of_block (w := w0) (hg.block B hl (fun e => hB e.symm))
  exact ⟨by rw [e]; exact h.1, by rw [e]; exact h.2.1, by rw [e]; exact h.2.2.1, by rw [e]; exact h.2.2.2⟩

set_option maxHeartbeats 4000000 in
theorem kput_c (bd : List T) (hl4 : bd.length = 4) : ∀ (x : T) (S : Nat → Prop) (w : World) (v vb : Value), RT S w x v → RSl S w bd vb → (∀ b, S b → b < w.heap.size) → bulkL [x] ≤ 1099511627776 → formL [x] = true →
    Calls Try.prog 45 #[v, vb] w fun e w' => ∃ v', e = .returned v' ∧ Below w.heap.size w w' ∧ RT (fun b => S b ∨ w.heap.size ≤ b) w' (bindT bd x) v' := by
  intro x
  induction x using T.ind with
  | h x ih =>
    intro S w v vb hv hbd hS hb hf
    obtain ⟨a, cap, rfl, hcap, hr⟩ := hv
    by_cases h5 : x.kind = 5
    · obtain ⟨k, hk, hk4⟩ := form_var hf h5
      have hkl : k < bd.length := by omega
      have HV := Lib.hid (bindT_5 (b := bd) h5 hk hkl)
      obtain ⟨ab, capb, rfl, hcb, hrb⟩ := hbd
      obtain ⟨b, o, rfl⟩ := hrb.addr (by omega)
      obtain ⟨a', cap', hSb, d0, d1, d2, d3, hE⟩ := hrb.elem k hkl
      have hlb : b < w.heap.size := hS b hSb
      have hE := Lib.hid hE
      have hkb : (k : Int) < bd.length := by omega
      have hk5 : (x.kind == 5) = true := by simpa using h5
      rw [hk]
      clear hcap hr hcb hrb hk ih
      generalize bd[k] = u at *
      go_enter Try.func45, Try.ntmps45
      go_wp2_with fail
      refine bodyPost_ret (v := .agg #[.int .i64 u.kind, .int .i64 u.n, .string u.name, .slice a' u.args.length cap']) (by simp [results, Try.results45, go_sem]) rfl ⟨_, rfl, ?_, ?_⟩
      · first | done | (repeat refine Below.setCell ?_ (by simp <;> omega) _); exact (below_alloc _ _).alloc (by simp) _
      · rw [HV.out]
        refine RT.mono (S := S) ?_ fun b hb => .inl hb
        repeat refine RT.slot ?_ _ _ _ (fun b hb => by have := hS b hb; simp <;> omega)
        exact ((hE.out.alloc _).alloc _)
    · have HV := Lib.hid (bindT_o (b := bd) h5)
      have HBM := Lib.hid (bindL_map bd x.args)
      have hk5 : (x.kind == 5) = false := by simpa using h5
      have hba := bulk_args x
      have hla := length_le_bulk x.args
      have HX : Hid (RT S w x _) := Lib.hid ⟨a, cap, rfl, hcap, hr⟩
      have HR := Lib.hid hr
      have HBD := Lib.hid hbd
      have HF := Lib.hid hf
      have IH := Lib.hid ih
      have HS := Lib.hid hS
      clear ih hcap hr hbd hf h5 hS
      have HB0 := Lib.hid (((below_alloc w (.cells #[.int .i64 x.kind, .int .i64 x.n, .string x.name, .slice a x.args.length cap] 29)).alloc (by simp) (.cells #[.int .i64 0, .int .i64 0, .string ⟨#[]⟩, .slice none 0 0] 29)).alloc (by simp <;> omega) (.cells #[.int .i64 x.kind, .int .i64 x.n, .string x.name, .slice none 0 0] 29))
      go_enter Try.func45, Try.ntmps45
      go_wp2_with fail
      go_loopw [26] (fun i wr => ∃ (k : Nat) (row : Value), k ≤ x.args.length ∧ i = .int .i64 k ∧ OwnG (fun b => S b ∨ w.heap.size + 3 ≤ b) (w.heap.size + 3) wr row (bindL bd (x.args.take k)) ∧ w.heap.size + 3 ≤ wr.heap.size ∧
        Below (w.heap.size + 1 + 1) (((w.alloc (.cells #[.int .i64 x.kind, .int .i64 x.n, .string x.name, .slice a x.args.length cap] 29)).alloc (.cells #[.int .i64 0, .int .i64 0, .string ⟨#[]⟩, .slice none 0 0] 29)).alloc (.cells #[.int .i64 x.kind, .int .i64 x.n, .string x.name, .slice none 0 0] 29)) wr ∧
        Box wr (w.heap.size + 1 + 1) (.int .i64 x.kind) (.int .i64 x.n) (.string x.name) row ∧ ∀ o, wr.frozen? ⟨w.heap.size + 1 + 1, o, none⟩ = false) (fun i _ => x.args.length - (intOf i).toNat)
      case atStart => exact ⟨0, _, Nat.zero_le _, rfl, by rw [List.take_zero, bindL_nil]; exact OwnG.nil _ _ _, by simp, Below.refl _ _, Box.new' _ _ _ _ _ _ _ (by simp), fun o => by go_simp⟩
      case round =>
        obtain ⟨k, row, hkl, rfl, hT, hsz, hB, ⟨f0, f1, f2, f3⟩, hf8⟩ := hrel
        have HT := Lib.hid hT; clear hT
        have HBr : Hid (Below w.heap.size w wr) := Lib.hid (HB0.out.trans (hB.mono (by omega)))
        have hbx : wr.cell? ⟨w.heap.size, 3, none⟩ = some (.slice a x.args.length cap) := by rw [hB.cell (p := ⟨w.heap.size, 3, none⟩) (by show w.heap.size < _; omega)]; go_simp
        by_cases hlt : k < x.args.length
        · obtain ⟨b, o, rfl⟩ := HR.out.addr (by omega)
          obtain ⟨a', cap', hSb, d0, d1, d2, d3, hE⟩ := (HR.out.below HBr.out).elem k hlt
          have hE := Lib.hid hE
          have hlb : b < w.heap.size := HS.out b hSb
          have hbk := bulk_at hlt
          have HIH := Lib.hid (IH.out _ (List.getElem_mem hlt))
          have HFY := Lib.hid (form_args HF.out (List.getElem_mem hlt))
          have HSN : Hid (bindL bd (x.args.take (k + 1)) = bindL bd (x.args.take k) ++ [bindT bd x.args[k]]) := Lib.hid (by rw [take_snoc' _ k hlt, bindL_map, bindL_map, List.map_append]; rfl)
          have hbl := HT.out.block
          obtain ⟨am, cm, hvm⟩ := HT.out.form
          obtain ⟨lm, hlm⟩ : ∃ lm : Nat, lm = (bindL bd (x.args.take k)).length := ⟨_, rfl⟩
          rw [← hlm] at hvm
          subst hvm
          have hln : lm + 1 ≤ 1099511627776 := by rw [hlm, bindL_map]; simp; omega
          have HLM := Lib.hid hlm
          clear hlm
          generalize x.args[k] = y at *
          go_wp2_with fail
          have HBY := Lib.hid (Box.new wr (.int .i64 y.kind) (.int .i64 y.n) (.string y.name) (.slice a' y.args.length cap') 29)
          have HTY := Lib.hid (HT.out.alloc (.cells #[.int .i64 y.kind, .int .i64 y.n, .string y.name, .slice a' y.args.length cap'] 29))
          have HEY := Lib.hid (hE.out.alloc (.cells #[.int .i64 y.kind, .int .i64 y.n, .string y.name, .slice a' y.args.length cap'] 29))
          obtain ⟨Wc, hWc⟩ : ∃ W : World, W = wr.alloc (.cells #[.int .i64 y.kind, .int .i64 y.n, .string y.name, .slice a' y.args.length cap'] 29) := ⟨_, rfl⟩
          have hsw : Wc.heap.size = wr.heap.size + 1 := by rw [hWc]; simp
          have HBW : Hid (Below wr.heap.size wr Wc) := Lib.hid (by rw [hWc]; exact below_alloc _ _)
          rw [← hWc] at HBY HTY HEY ⊢
          clear hWc
          have hf3 : Wc.cell? ⟨w.heap.size + 1 + 1, 3, none⟩ = some (.slice am lm cm) := by rw [HBW.out.cell (p := ⟨w.heap.size + 1 + 1, 3, none⟩) (by show w.heap.size + 1 + 1 < _; omega)]; exact f3
          have hq : ∀ w', Below Wc.heap.size Wc w' → w'.cell? ⟨wr.heap.size, 0, none⟩ = some (.int .i64 y.kind) ∧ w'.cell? ⟨wr.heap.size, 1, none⟩ = some (.int .i64 y.n) ∧ w'.cell? ⟨wr.heap.size, 2, none⟩ = some (.string y.name) ∧ w'.cell? ⟨wr.heap.size, 3, none⟩ = some (.slice a' y.args.length cap') := fun w' h => HBY.out.step h
          have hne : w.heap.size + 1 + 1 ≠ wr.heap.size := by omega
          have hlw : w.heap.size + 1 + 1 < Wc.heap.size := by omega
          have hne' : wr.heap.size ≠ w.heap.size + 1 + 1 := by omega
          have hfz := fun o => (HBW.out.frozen (p := ⟨w.heap.size + 1 + 1, o, none⟩) (by show w.heap.size + 1 + 1 < _; omega)).trans (hf8 o)
          obtain ⟨y0, y1, y2, y3⟩ := HBY.out
          go_region_law
            (first
              | (go_simp; go_at_call 45; refine (HIH.out S _ _ _ (HEY.out.below (Below.refl _ _).drew) ((HBD.out.below HBr.out).below HBW.out |>.below (Below.refl _ _).drew) (fun b hb => by have := HS.out b hb; show b < Wc.heap.size; omega) (by omega) HFY.out).mono ?_; rintro e w3 ⟨v3, rfl, hB3, a3, cap3, rfl, hc3, hr3⟩; have hs3 : Wc.heap.size ≤ w3.heap.size := hB3.size; have HB3 := (Below.refl Wc.heap.size Wc).drew.trans hB3; have HR3 : Hid (RT (fun b => S b ∨ Wc.drew.heap.size ≤ b) w3 (bindT bd y) _) := Lib.hid ⟨a3, cap3, rfl, hc3, hr3⟩; have g3 := (HB3.cell (p := ⟨w.heap.size + 1 + 1, 3, none⟩) (by show w.heap.size + 1 + 1 < _; omega)).trans hf3; have hfz3 := fun o => (HB3.frozen (p := ⟨w.heap.size + 1 + 1, o, none⟩) (by show w.heap.size + 1 + 1 < _; omega)).trans (hfz o); have HT3 := Lib.hid (HTY.out.below HB3); have gl3 : w.heap.size + 1 + 1 < w3.heap.size := (by omega); have gk3 : w.heap.size + 1 + 1 ≠ w3.heap.size := (by omega); clear hc3 hr3; go_wp2_with fail)
              | (refine step_grow (w0 := w3) (v := .slice am lm cm) _ _ (by rfl) (by rfl) (by rfl) (by rfl) rfl HT3.out HR3.out (fun b hb hl => ⟨by simp only [World.size_drew] at hb; rcases hb with hb | hb; exact .inl hb; exact .inr (by omega), fun he => by have := hbl b he; simp only [World.size_drew] at hb; rcases hb with hb | hb; (have := HS.out b hb; omega); omega⟩) HLM.out.symm hln (by omega) ?_; intro gg cg w4 hO4 hG4 hB4; have hs4 := hB4.size; have g4 := (hB4.cell (p := ⟨w.heap.size + 1 + 1, 3, none⟩) (by show w.heap.size + 1 + 1 < _; omega)).trans g3; have hfz4 := fun o => (hB4.frozen (p := ⟨w.heap.size + 1 + 1, o, none⟩) (by show w.heap.size + 1 + 1 < _; omega)).trans (hfz3 o); have hY4 := grown_box ((HBY.out.step HB3).alloc (.cells #[.int .i64 (bindT bd y).kind, .int .i64 (bindT bd y).n, .string (bindT bd y).name, .slice a3 (bindT bd y).args.length cap3] 29)) hG4 (fun e => by have := hbl _ e; omega)))
          all_goals (
            have HB5 := Lib.hid (hB.trans ((HBW.out.mono (by omega)).trans ((HB3.mono (by omega)).trans (hB4.mono (by omega)))))
            have f04 := (hB4.cell (p := ⟨w.heap.size + 1 + 1, 0, none⟩) (by show w.heap.size + 1 + 1 < _; omega)).trans ((HB3.cell (p := ⟨w.heap.size + 1 + 1, 0, none⟩) (by show w.heap.size + 1 + 1 < _; omega)).trans ((HBW.out.cell (p := ⟨w.heap.size + 1 + 1, 0, none⟩) (by show w.heap.size + 1 + 1 < _; omega)).trans f0))
            have f14 := (hB4.cell (p := ⟨w.heap.size + 1 + 1, 1, none⟩) (by show w.heap.size + 1 + 1 < _; omega)).trans ((HB3.cell (p := ⟨w.heap.size + 1 + 1, 1, none⟩) (by show w.heap.size + 1 + 1 < _; omega)).trans ((HBW.out.cell (p := ⟨w.heap.size + 1 + 1, 1, none⟩) (by show w.heap.size + 1 + 1 < _; omega)).trans f1))
            have f24 := (hB4.cell (p := ⟨w.heap.size + 1 + 1, 2, none⟩) (by show w.heap.size + 1 + 1 < _; omega)).trans ((HB3.cell (p := ⟨w.heap.size + 1 + 1, 2, none⟩) (by show w.heap.size + 1 + 1 < _; omega)).trans ((HBW.out.cell (p := ⟨w.heap.size + 1 + 1, 2, none⟩) (by show w.heap.size + 1 + 1 < _; omega)).trans f2))
            have HO4 := Lib.hid hO4
            clear hO4 hG4 hB4 hB3 HB3 hq hY4 hB
            go_wp2_with fail
            go_roundw
            case rel =>
              refine ⟨k + 1, _, by omega, by go_num, by rw [HSN.out]; exact HO4.out.setCell _ _ _ (by omega) (fun hP => by rcases hP with hP | hP; (have := HS.out _ hP; omega); omega), by simp; omega, Below.setCell HB5.out (Nat.le_refl _) _, ⟨by go_simp, by go_simp, by go_simp, by go_simp⟩, fun o => by go_simp⟩
            case measure => simp [intOf]; omega)
        · have hkk : k = x.args.length := by omega
          subst hkk
          obtain ⟨ar, capr, hrow, hcr, hrr⟩ := HT.out.rsl (fun b hb => Or.inr hb)
          rw [List.take_of_length_le (Nat.le_refl _)] at hrow hcr hrr
          subst hrow
          have hrr := Lib.hid hrr
          have z4 : wr.cell? ⟨w.heap.size + 1, 0, none⟩ = some (.int .i64 0) ∧ wr.cell? ⟨w.heap.size + 1, 1, none⟩ = some (.int .i64 0) ∧ wr.cell? ⟨w.heap.size + 1, 2, none⟩ = some (.string ⟨#[]⟩) ∧ wr.cell? ⟨w.heap.size + 1, 3, none⟩ = some (.slice none 0 0) := by
            have q := fun o => hB.cell (p := ⟨w.heap.size + 1, o, none⟩) (by show w.heap.size + 1 < _; omega)
            rw [q, q, q, q]; go_simp
          have z5 : ∀ o, wr.frozen? ⟨w.heap.size + 1, o, none⟩ = false := fun o => by
            rw [hB.frozen (p := ⟨w.heap.size + 1, o, none⟩) (by show w.heap.size + 1 < _; omega)]; go_simp
          obtain ⟨z0, z1, z2, z3⟩ := z4
          have h2 : w.heap.size < wr.heap.size := by omega
          have h3 : w.heap.size + 1 < wr.heap.size := by omega
          clear hB
          go_wp2_with fail
          refine bodyPost_ret (v := .agg #[.int .i64 x.kind, .int .i64 x.n, .string x.name, .slice ar (bindL bd x.args).length capr]) (by simp [results, Try.results45, go_sem, z0, z1, z2, z3]) rfl ⟨_, rfl, ?_, ?_⟩
          · repeat refine Below.setCell ?_ (by simp <;> omega) _
            exact HBr.out
          · rw [HV.out]
            refine ⟨ar, capr, rfl, hcr, hrr.out.to (fun b hb _ => by rcases hb with hb | hb; exact .inl hb; exact .inr (by omega)) fun b hb _ => ?_⟩
            have hn1 : b ≠ w.heap.size + 1 := by rcases hb with hb | hb; (have := HS.out b hb; omega); omega
            simp only [setCell_other _ _ _ _ _ hn1]
end Go.Proofs.Ytedfepnekjjmnaa

/-
  Rows of terms of one's own, more laws: written out, stored beside, grown at a drawn step; a struct read out of the midst of a row. No condition.
-/
namespace Go.Proofs.Ytedfepnekjjmnaa
open Go.RowKit
set_option linter.unusedSimpArgs false
set_option linter.unusedVariables false

theorem OwnG.store1 {P : Nat → Prop} {base : Nat} {w : World} {v : Value} {ts : List T} (h : OwnG P base w v ts) (B o : Nat) (u : Value) (hB : v.ownBlock ≠ some B) (hP : ¬ P B) : OwnG P base (w.setCell ⟨B, o, none⟩ u) v ts :=
  h.to (by simp) fun b hb _ => setCell_other w B o u b fun e => by
    subst e
    rcases hb with hb | hb
    · exact hP hb
    · exact hB hb
theorem OwnG.lit {P S : Nat → Prop} {base : Nat} {w : World} {ts : List T} {cs : List Value} (h : CellsT S w ts cs) (hS : ∀ b, S b → b < w.heap.size → P b) (hb : base ≤ w.heap.size) {n : Nat} (hn : ts.length = n) (hm : n ≤ 1099511627776) {B : Nat} (hB : B = w.heap.size) :
    OwnG P base (w.alloc (.cells cs.toArray 29)) (.slice (some ⟨B, 0, none⟩) n n) ts := by
  subst hn hB
  have h1 := World.ownsRow_lit (e := 29) (size := 4) (base := base) w cs.toArray ts.length hb (by unfold maxLen; omega) (by simpa using h.length)
  refine ⟨cs, by simpa using h1, ?_⟩
  exact ((h.to (S' := fun b => P b ∧ b < w.heap.size + 1 ∧ b ≠ w.heap.size) (fun b hb hl => ⟨hS b hb hl, by omega, by omega⟩) fun b _ hl => Below.heap_alloc _ _ _ hl).to (fun b hb _ => ⟨hb.1, by simpa using hb.2.1, fun e => hb.2.2 (by simpa [Value.ownBlock] using e.symm)⟩) fun _ _ _ => rfl)
theorem CellsT.tup {S : Nat → Prop} {w : World} {l : List T} {a : Option Addr} {n cap : Nat} {ts : List T} {cs : List Value} (ht : RT S w (tupT l) (.agg #[.int .i64 4, .int .i64 0, .string ⟨#[]⟩, .slice a n cap])) (h : CellsT S w ts cs) : CellsT S w (tupT l :: ts) (.int .i64 4 :: .int .i64 0 :: .string ⟨#[]⟩ :: .slice a n cap :: cs) := by
  obtain ⟨a', cap', e, h1, h2⟩ := ht
  simp only [tupT, Value.agg.injEq, Array.mk.injEq, List.cons.injEq, Value.slice.injEq, and_true, true_and] at e
  obtain ⟨rfl, rfl, rfl⟩ := e
  exact ⟨_, _, cs, rfl, h1, h2, h⟩
theorem Blk.heap {w w' : World} {B : Nat} {cs : List Value} (h : Blk w B cs) (he : w'.heap[B]? = w.heap[B]?) : Blk w' B cs := by
  have hlt : B < w'.heap.size := by
    have h1 : w.heap[B]? = some (w.heap[B]'h.lt) := Array.getElem?_eq_getElem h.lt
    rw [h1] at he
    exact (Array.getElem?_eq_some_iff.1 he).1
  exact ⟨hlt, fun j u hu => (World.cell?_of_block (w := w) (a := ⟨B, j, none⟩) he).trans (h.cell j u hu), fun o => (World.frozen?_of_block (w := w) (a := ⟨B, o, none⟩) he).trans (h.fr o)⟩
section
variable {ops : Array Oper} {rest : List Oper} {o : Oper} {a : Act} {Q : Exit → Act → World → Prop} {K : Act → World → Prop} {w : World}
theorem load_at (ty : TypeId) (k : Nat) (hi : (Try.prog.info? ty).map (·.size) = some k) (d : TypeDesc) (hu : Try.prog.underlying ty = some d) (hr : d.isRow = true) (x : Operand) (hgd : o.guard = none) (ho : o.op = .load ty x)
    {b off : Nat} {cs : List Value} (hx : a.eval x = .pointer (some ⟨b, off, none⟩)) (hR : w.rangeAt b off cs) (hl : cs.length = k)
    (h : wpList Try.prog ops Q rest (a.put o.dst (.agg cs.toArray)) w) : wpList Try.prog ops Q (o :: rest) a w :=
  wpList_load_mid hgd ty x ho b off hx cs d hR hu hr (by rw [hi, hl]) h
theorem step_grow2 {K : Act → World → Prop} {E : Prop} (s x : Operand) (hgd : o.guard = none) (ho : o.op = .call { callee := .builtin .append, args := #[s, x], argTypes := #[27, 27] })
    {P R : Nat → Prop} {base : Nat} {w0 : World} {v : Value} {ts : List T} {t : T} {c0 c1 c2 c3 : Value} {g0 n : Nat} (hs : a.eval s = v) (hx : a.eval x = .slice (some ⟨g0, 0, none⟩) 1 1) (hg0 : g0 = w0.heap.size) (hown : OwnG P base w0 v ts)
    (ht : RT R w0 t (.agg #[c0, c1, c2, c3])) (hR : ∀ b, R b → b < w0.heap.size → P b ∧ v.ownBlock ≠ some b) (hnl : ts.length = n) (hn : n + 1 ≤ 1099511627776) (hbase : base ≤ w0.heap.size)
    (h : ∀ g cap w', OwnG P base w' (.slice (some ⟨g, 0, none⟩) (n + 1) cap) (ts ++ [t]) → (w0.alloc (.cells #[c0, c1, c2, c3] 29)).grownBy w' v.ownBlock → Below base w0 w' → (v.ownBlock = some g ∨ w0.heap.size < g) → K (a.put o.dst (.slice (some ⟨g, 0, none⟩) (n + 1) cap)) w') :
    if Region.wanted o (yielded ops a.tmps) = true then Oper.wp Try.prog o a (w0.alloc (.cells #[c0, c1, c2, c3] 29)) K Q else E := by
  subst hg0 hnl
  have hlt := hown.block
  obtain ⟨i, hi, hz0, hz1, hz2⟩ := info_parts info29
  have hown1 : OwnT (fun b => P b ∧ b < w0.heap.size ∧ v.ownBlock ≠ some b) base (w0.alloc (.cells #[c0, c1, c2, c3] 29)) v ts := OwnT.to hown (Nat.le_refl _) (fun _ h _ => h) fun b _ hb => Below.heap_alloc _ _ _ hb
  have hl := (ht.to (S' := fun b => P b ∧ b < w0.heap.size ∧ v.ownBlock ≠ some b) (fun b hb hl => ⟨(hR b hb hl).1, hl, (hR b hb hl).2⟩) fun _ _ _ => rfl).one 29
  obtain ⟨cs, ho1, hC⟩ := hown1
  obtain ⟨au, cap, ds, e, hcap, hD, hj⟩ := hl
  simp only [Value.slice.injEq] at e
  obtain ⟨rfl, -, rfl⟩ := e
  refine step_append_lies _ hgd s x 27 ho base 29 i _ 4 56 Try.underlying27 hi hz0 hz1 hz2 rfl (by decide) v _ cs hs ho1 ⟨w0.heap.size, 0, none⟩ 1 1 ds hx (by simpa using hD.length) ?_ hD.oneCell (by decide) (by unfold maxLen; omega) (by omega) (by simp; omega) _ rfl ?_
  · intro j u' hu
    obtain ⟨b, o', e, _, hc⟩ := hj j u' hu
    simp only [Option.some.injEq] at e
    rw [e]
    unfold Addr.add
    split
    · rename_i h0; subst h0; exact hc
    · exact hc
  · intro g cap w' h1 h2 h3 h4
    have h2s := h2.size
    simp only [World.size_alloc] at h2s h3
    have hblk : ∀ b, (P b ∧ b < w0.heap.size ∧ v.ownBlock ≠ some b) → b < (w0.alloc (.cells #[c0, c1, c2, c3] 29)).heap.size → w'.heap[b]? = (w0.alloc (.cells #[c0, c1, c2, c3] 29)).heap[b]? := fun b hb hlt => h2.block b hlt (fun e => hb.2.2 e.symm)
    have hO : OwnT (fun b => P b ∧ b < w0.heap.size ∧ v.ownBlock ≠ some b) base w' (.slice (some ⟨g, 0, none⟩) (ts.length + 1) cap) (ts ++ [t]) := ⟨cs ++ ds, by simpa using h1, (hC.to (fun _ h _ => h) hblk).append (hD.to (fun _ h _ => h) hblk)⟩
    refine h g cap w' (hO.to (Nat.le_refl _) (fun b hb _ => ⟨hb.1, by have := hb.2.1; omega, fun e => ?_⟩) fun _ _ _ => rfl) h2 ?_ ?_
    · simp only [Value.ownBlock, Option.some.injEq] at e
      subst e
      rcases h3 with h5 | h5
      · exact hb.2.2 h5
      · have := hb.2.1; omega
    · exact grown_below ((Below.refl _ _).alloc hbase _) h2 (by simp; omega) fun b hb => (hlt b hb).1
    · rcases h3 with h5 | h5
      · exact .inl h5
      · exact .inr (by omega)
theorem wp_grow (s x : Operand) (hgd : o.guard = none) (ho : o.op = .call { callee := .builtin .append, args := #[s, x], argTypes := #[27, 27] })
    {P R : Nat → Prop} {base : Nat} {w0 : World} {v : Value} {ts : List T} {t : T} {c0 c1 c2 c3 : Value} {g0 n : Nat} (hs : a.eval s = v) (hx : a.eval x = .slice (some ⟨g0, 0, none⟩) 1 1) (hg0 : g0 = w0.heap.size) (hown : OwnG P base w0 v ts)
    (ht : RT R w0 t (.agg #[c0, c1, c2, c3])) (hR : ∀ b, R b → b < w0.heap.size → P b ∧ v.ownBlock ≠ some b) (hnl : ts.length = n) (hn : n + 1 ≤ 1099511627776) (hbase : base ≤ w0.heap.size)
    (h : ∀ g cap w', OwnG P base w' (.slice (some ⟨g, 0, none⟩) (n + 1) cap) (ts ++ [t]) → (w0.alloc (.cells #[c0, c1, c2, c3] 29)).grownBy w' v.ownBlock → Below base w0 w' → (v.ownBlock = some g ∨ w0.heap.size < g) → K (a.put o.dst (.slice (some ⟨g, 0, none⟩) (n + 1) cap)) w') :
    Oper.wp Try.prog o a (w0.alloc (.cells #[c0, c1, c2, c3] 29)) K Q := by
  have h1 := step_grow2 (ops := #[]) (Q := Q) (E := True) s x hgd ho hs hx hg0 hown ht hR hnl hn hbase h
  rwa [if_pos (by simp [Region.wanted, hgd])] at h1
end
end Go.Proofs.Ytedfepnekjjmnaa
