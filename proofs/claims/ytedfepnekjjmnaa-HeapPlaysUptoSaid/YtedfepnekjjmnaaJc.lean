/-
  Contracts and plain laws, joined: Bound ValP Code1 Deed Blk FitP FrameB FromP HeapP Reg Build Sum ToP. Conditions stand in each.
-/
import Derived.Deep.MidRow
import Derived.Deep.RegionHeld3
import Derived.Great.BuildSlice
import Derived.Test.YtedfepnekjjmnaaRCheck
import Derived.Test.YtedfepnekjjmnaaJa
import Derived.Test.YtedfepnekjjmnaaJb
import Derived.Test.YtedfepnekjjmnaaForm
/-
  match.Bound, clerkref.Bound: may these be what variables are bound to? No condition but a bound on how much there is.
-/
namespace Go.Proofs.Ytedfepnekjjmnaa
open Go.RowKit
set_option linter.unusedSimpArgs false
set_option linter.unusedVariables false

def bndB (t : T) : Bool := checkE t == 0 && (t.kind == 6 || closedL [t])
def boundB (l : List T) : Bool := l.length == 4 && l.all bndB
theorem boundB_any (l : List T) : boundB l = (l.length == 4 && !(l.any fun t => !bndB t)) := by
  rw [boundB]; congr 1; induction l with
  | nil => rfl
  | cons t l ih => simp only [List.all_cons, List.any_cons, Bool.not_or, Bool.not_not, ih]

set_option maxHeartbeats 400000 in
theorem free_c (t : T) (S : Nat → Prop) (w : World) (v : Value) (hv : RT S w t v) : Calls Try.prog 97 #[v] w fun e w' => e = .returned (.bool (t.kind == 6)) ∧ Below w.heap.size w w' := by
  obtain ⟨a, cap, rfl, hcap, hr⟩ := hv
  clear hr hcap
  go_enter Try.func97, Try.ntmps97
  go_wp2_with fail
  go_ret
  exact ⟨rfl, below_alloc _ _⟩

set_option maxHeartbeats 1000000 in
theorem bound1_c (t : T) (S : Nat → Prop) (w : World) (v : Value) (hv : RT S w t v) (hb : bulkL [t] ≤ 1099511627776) :
    Calls Try.prog 96 #[v] w fun e w' => e = .returned (.bool (!bndB t)) ∧ Below w.heap.size w w' := by
  obtain ⟨a, cap, rfl, hcap, hr⟩ := hv
  have HV : Hid (RT S w t _) := Lib.hid ⟨a, cap, rfl, hcap, hr⟩
  clear hr hcap
  have HR := Lib.hid (show bndB t = (checkE t == 0 && (t.kind == 6 || closedL [t])) from rfl)
  go_enter Try.func96, Try.ntmps96
  go_wp2_with fail
  refine (check_c t _ _ _ (HV.out.alloc _) hb).mono ?_
  rintro e w1 ⟨rfl, hB1⟩
  have h1 := hB1.size
  obtain ⟨hcc, -⟩ := bcell hB1
  simp only [World.size_alloc] at hcc h1
  have hs1 : w.heap.size < w1.heap.size := by omega
  have HV1 := Lib.hid ((HV.out.alloc (.cells #[.int .i64 t.kind, .int .i64 t.n, .string t.name, .slice a t.args.length cap] 29)).below hB1)
  have HB1 := Lib.hid (below_step (below_alloc _ _) (by simp) hB1)
  by_cases hc : checkE t = 0
  · have hcb : (checkE t != 0) = false := by simp [hc]
    have HC := Lib.hid hc; clear hc
    go_wp2_with fail
    refine (free_c t _ _ _ HV1.out).mono ?_
    rintro e w2 ⟨rfl, hB2⟩
    have h2 := hB2.size
    obtain ⟨hcc2, -⟩ := bcell hB2
    cases hk : (t.kind == 6)
    · have HK := Lib.hid hk; clear hk
      go_wp2_with fail
      refine (closed_c t _ _ _ (HV1.out.below hB2) hb).mono ?_
      rintro e w3 ⟨rfl, hB3⟩
      go_wp2_with fail
      go_ret
      exact ⟨ret_bool (by rw [HR.out, HC.out, HK.out]; simp), below_step (below_step HB1.out (by omega) hB2) (by omega) hB3⟩
    · have HK := Lib.hid hk; clear hk
      go_wp2_with fail
      go_ret
      exact ⟨ret_bool (by rw [HR.out, HC.out, HK.out]; simp), below_step HB1.out (by omega) hB2⟩
  · have hcb : (checkE t != 0) = true := by simp [hc]
    have HC := Lib.hid (show (checkE t == 0) = false by simp [hc])
    go_wp2_with fail
    go_ret
    exact ⟨ret_bool (by rw [HR.out, HC.out]; simp), HB1.out⟩

set_option maxHeartbeats 1000000 in
theorem bound_c (l : List T) (S : Nat → Prop) (w : World) (v : Value) (hv : RSl S w l v) (hb : bulkL l ≤ 1099511627776) :
    Calls Try.prog 62 #[v] w fun e w' => e = .returned (.bool (boundB l)) ∧ Below w.heap.size w w' := by
  have hll := length_le_bulk l
  obtain ⟨a, cap, rfl, hcap, hr⟩ := hv
  have HV : Hid (RSl S w l _) := Lib.hid ⟨a, cap, rfl, hcap, hr⟩
  clear hr hcap
  have HA := Lib.hid (boundB_any l)
  have HF : Hid (∀ x ∈ l, ∀ (W : World) (u : Value), RT S W x u → Calls Try.prog 96 #[u] W fun e w' => e = .returned (.bool (!bndB x)) ∧ Below W.heap.size W w') := Lib.hid fun x hx W u hu => bound1_c x S W u hu (by have := bulk_mem hx; omega)
  cases h4 : ((l.length : Int) == 4)
  · have h4' := Lib.hid (show (l.length == 4) = false by simp at h4 ⊢; omega)
    go_enter Try.func62, Try.ntmps62
    go_wp2_with fail
    go_ret
    exact ⟨ret_bool (by rw [HA.out, h4'.out]; rfl), Below.refl _ _⟩
  · have h4' := Lib.hid (show (l.length == 4) = true by simp at h4 ⊢; omega)
    go_enter Try.func62, Try.ntmps62
    go_wp2_with fail
    refine (containsFunc_Bound1 _ S _ _ _ HV.out (by omega) HF.out).mono ?_
    rintro e w1 ⟨rfl, hB1⟩
    go_wp2_with fail
    go_ret
    exact ⟨ret_bool (by rw [HA.out, h4'.out]; rfl), hB1⟩

set_option maxHeartbeats 1000000 in
theorem rbound_c (l : List T) (S : Nat → Prop) (w : World) (v : Value) (hv : RSl S w l v) (hS : ∀ b, S b → b < w.heap.size) (hb : bulkL l ≤ 1099511627776) :
    Calls Try.prog 20 #[v] w fun e w' => e = .returned (.bool (boundB l)) ∧ Below w.heap.size w w' := by
  have hll := length_le_bulk l
  obtain ⟨a, cap, rfl, hcap, hr⟩ := hv
  have HR := Lib.hid hr; clear hr hcap
  have HS := Lib.hid hS; clear hS
  have H0 := Lib.hid (show boundB l = (l.length == 4 && l.all bndB) from rfl)
  have H4 := Lib.hid (show ((l.length : Int) == 4) = (l.length == 4) by rw [Bool.eq_iff_iff]; simp only [beq_iff_eq]; omega)
  go_enter Try.func20, Try.ntmps20
  go_wp2_with fail
  go_loopw [3, 4] (fun ok i wr => ∃ k : Nat, k ≤ l.length ∧ i = .int .i64 k ∧ ok = .bool (l.length == 4 && (l.take k).all bndB) ∧ Below w.heap.size w wr) (fun _ i _ => l.length - (intOf i).toNat)
  case atStart => exact ⟨0, Nat.zero_le _, rfl, (by rw [H4.out]; simp), Below.refl _ _⟩
  case round =>
    obtain ⟨k, hkl, rfl, rfl, hB⟩ := hrel
    have hsz := hB.size
    by_cases hlt : k < l.length
    · obtain ⟨b, o, rfl⟩ := HR.out.addr (by omega)
      obtain ⟨a', cap', hSb, d0, d1, d2, d3, hE⟩ := (HR.out.below hB).elem k hlt
      have hbk := bulk_at hlt
      have hE := Lib.hid hE
      have HT := Lib.hid (show (l.take (k + 1)).all bndB = ((l.take k).all bndB && bndB l[k]) by rw [take_snoc' l k hlt, List.all_append]; simp)
      have HD := Lib.hid (show bndB l[k] = (checkE l[k] == 0 && (l[k].kind == 6 || closedL [l[k]])) from rfl)
      cases hp : (l.length == 4 && (l.take k).all bndB)
      · have HP := Lib.hid hp; clear hp
        go_wp2_with fail
        go_roundw
        case rel => exact ⟨k + 1, by omega, by go_num, by rw [HT.out, ← Bool.and_assoc, HP.out]; rfl, hB⟩
        case measure => simp [intOf]; omega
      have HP := Lib.hid hp; clear hp
      generalize l[k] = u at *
      go_wp2_with fail
      refine (rcheck_c u S _ _ hE.out (fun b hb => by have := HS.out b hb; omega) (by omega)).mono ?_
      rintro e w1 ⟨rfl, hB1⟩
      have h1 := hB1.size
      obtain ⟨hcc, -⟩ := bcell hB1
      have hlb : b < wr.heap.size := by have := HS.out b hSb; omega
      have hE1 := Lib.hid (hE.out.below hB1)
      have HB1 := Lib.hid (below_step hB (by omega) hB1)
      cases hc : (checkE u == 0)
      · have HC := Lib.hid hc
        go_wp2_with fail
        go_roundw
        case rel => exact ⟨k + 1, by omega, by go_num, by rw [HT.out, ← Bool.and_assoc, HP.out, HD.out, HC.out]; rfl, HB1.out⟩
        case measure => simp [intOf]; omega
      have HC := Lib.hid hc
      cases hk : (u.kind == 6)
      · have HK := Lib.hid hk
        go_wp2_with fail
        refine (rclosed_c u S _ _ hE1.out (fun b hb => by have := HS.out b hb; omega) (by omega)).mono ?_
        rintro e w2 ⟨rfl, hB2⟩
        cases hcl : closedL [u]
        all_goals
          have HCL := Lib.hid hcl
          go_wp2_with fail
          go_roundw
          case rel => exact ⟨k + 1, by omega, by go_num, by rw [HT.out, ← Bool.and_assoc, HP.out, HD.out, HC.out, HK.out, HCL.out]; rfl, below_step HB1.out (by omega) hB2⟩
          case measure => simp [intOf]; omega
      · have HK := Lib.hid hk
        go_wp2_with fail
        go_roundw
        case rel => exact ⟨k + 1, by omega, by go_num, by rw [HT.out, ← Bool.and_assoc, HP.out, HD.out, HC.out, HK.out]; rfl, HB1.out⟩
        case measure => simp [intOf]; omega
    · have hkk : k = l.length := by omega
      subst hkk
      go_wp2_with fail
      go_ret
      exact ⟨ret_bool (by rw [H0.out, List.take_of_length_le (Nat.le_refl _)]), hB⟩
end Go.Proofs.Ytedfepnekjjmnaa

/-
  What reckoning answers, in plain words. No program in sight.
-/
namespace Go.Proofs.Ytedfepnekjjmnaa
set_option linter.unusedSimpArgs false
set_option linter.unusedVariables false

def zeroT : T := ⟨0, 0, ⟨#[]⟩, []⟩
def pidT (n : Int) : T := ⟨3, n, ⟨#[]⟩, []⟩
def sSelf : ByteArray := ⟨#[115, 101, 108, 102]⟩
def sPut : ByteArray := ⟨#[112, 117, 116]⟩
def sAdd : ByteArray := ⟨#[97, 100, 100]⟩
def sumN (a b : T) : Int := Go.RowKit.wrap64 (a.n + b.n)
def sumB (a b : T) : Bool := a.kind == 1 && b.kind == 1 && inB (sumN a b) (-1099511627776) 1099511627776
def sumO (a b : T) : Option T := if sumB a b then some (numT (sumN a b)) else none
def varO (t : T) : Option T := if t.kind == 6 then none else some t
def putO (t : T) : Option T := if closedL [t] then some t else none
def valH (bd : List T) (self : Int) (x : T) (r : Option (List T)) : Option T :=
  if x.kind = 6 then none else if x.kind = 5 then varO (bd.getD x.n.toNat zeroT) else if isT x sSelf 0 then some (pidT self)
  else if isT x sPut 1 then putO (x.args.getD 1 zeroT) else if x.kind ≠ 4 then some x
  else r.bind fun vs => if isT x sAdd 2 then sumO (vs.getD 1 zeroT) (vs.getD 2 zeroT) else some (tupT vs)
def valL (bd : List T) (self : Int) : List T → Option (List T)
  | [] => some []
  | ⟨k, n, s, l⟩ :: ts => (valH bd self ⟨k, n, s, l⟩ (valL bd self l)).bind fun v => (valL bd self ts).map fun vs => v :: vs
def valT (bd : List T) (self : Int) (x : T) : Option T := valH bd self x (valL bd self x.args)
theorem valL_cons (bd : List T) (self : Int) (t : T) (ts : List T) : valL bd self (t :: ts) = (valT bd self t).bind fun v => (valL bd self ts).map fun vs => v :: vs := by
  obtain ⟨k, n, s, l⟩ := t; rw [valL]; rfl
theorem valL_nil (bd : List T) (self : Int) : valL bd self [] = some [] := by rw [valL]
theorem valL_length {bd : List T} {self : Int} {l vs : List T} (h : valL bd self l = some vs) : vs.length = l.length := by
  induction l generalizing vs with
  | nil => rw [valL_nil] at h; cases h; rfl
  | cons t l ih =>
    rw [valL_cons] at h
    obtain ⟨v, hv, h⟩ := Option.bind_eq_some_iff.1 h
    obtain ⟨us, hu, rfl⟩ := Option.map_eq_some_iff.1 h
    simp [ih hu]
theorem valL_append {bd : List T} {self : Int} (a b : List T) : valL bd self (a ++ b) = (valL bd self a).bind fun us => (valL bd self b).map fun vs => us ++ vs := by
  induction a with
  | nil => rw [valL_nil]; simp
  | cons t a ih =>
    rw [List.cons_append, valL_cons, valL_cons, ih]
    cases valT bd self t <;> cases valL bd self a <;> cases valL bd self b <;> rfl
theorem valL_snoc {bd : List T} {self : Int} {l vs : List T} {k : Nat} {t : T} (h : k < l.length) (hp : valL bd self (l.take k) = some vs) (ht : valT bd self l[k] = some t) : valL bd self (l.take (k + 1)) = some (vs ++ [t]) := by
  rw [take_snoc' l k h, valL_append, hp, valL_cons, ht, valL_nil]; rfl
theorem valL_none {bd : List T} {self : Int} {l : List T} {k : Nat} (h : k < l.length) (ht : valT bd self l[k] = none) : valL bd self l = none := by
  have e : l = l.take k ++ (l[k] :: l.drop (k + 1)) := by simp
  rw [e, valL_append, valL_cons, ht]; cases valL bd self (l.take k) <;> rfl

theorem valT_6 {bd : List T} {self : Int} {x : T} (h : x.kind = 6) : valT bd self x = none := by rw [valT, valH, if_pos h]
theorem valT_5 {bd : List T} {self : Int} {x : T} (h : x.kind = 5) {k : Nat} (hk : x.n = k) (hl : k < bd.length) : valT bd self x = varO bd[k] := by
  rw [valT, valH, if_neg (by omega), if_pos h, hk]; simp [hl]
theorem valT_o {bd : List T} {self : Int} {x : T} (h : x.kind ≠ 4) (h5 : x.kind ≠ 5) (h6 : x.kind ≠ 6) : valT bd self x = some x := by
  have e : (x.kind == 4) = false := by simpa using h
  rw [valT, valH, if_neg h6, if_neg h5, isT_kind e, isT_kind e]; simp [h]
theorem valT_self {bd : List T} {self : Int} {x : T} (h : x.kind = 4) (hs : isT x sSelf 0 = true) : valT bd self x = some (pidT self) := by
  rw [valT, valH, if_neg (by omega), if_neg (by omega), if_pos hs]
theorem valT_put {bd : List T} {self : Int} {x : T} (h : x.kind = 4) (hs : isT x sSelf 0 = false) (hp : isT x sPut 1 = true) (hl : 1 < x.args.length) : valT bd self x = putO x.args[1] := by
  rw [valT, valH, if_neg (by omega), if_neg (by omega), if_neg (by simp [hs]), if_pos hp]; simp [hl]
theorem valT_tup {bd : List T} {self : Int} {x : T} (h : x.kind = 4) (hs : isT x sSelf 0 = false) (hp : isT x sPut 1 = false) :
    valT bd self x = (valL bd self x.args).bind fun vs => if isT x sAdd 2 then sumO (vs.getD 1 zeroT) (vs.getD 2 zeroT) else some (tupT vs) := by
  rw [valT, valH, if_neg (by omega), if_neg (by omega), if_neg (by simp [hs]), if_neg (by simp [hp]), if_neg (by simp [h])]
theorem isT_length {x : T} {s : ByteArray} {n : Int} (h : isT x s n = true) : (x.args.length : Int) = n + 1 := by
  simp only [isT, Bool.and_eq_true, decide_eq_true_eq] at h; exact h.1.2

theorem form_var {x : T} (h : formL [x] = true) (hk : x.kind = 5) : ∃ k : Nat, x.n = k ∧ k < 4 := by
  rw [formL_cons] at h
  simp only [Bool.and_eq_true] at h
  have := h.1.1
  simp only [headB, hk] at this
  simp [inB] at this
  exact ⟨x.n.toNat, by omega, by omega⟩
theorem form_args {x : T} (h : formL [x] = true) {y : T} (hy : y ∈ x.args) : formL [y] = true := by
  rw [formL_cons] at h
  simp only [Bool.and_eq_true] at h
  rw [formL_all, List.all_eq_true] at h
  exact h.1.2 y hy
theorem form_rangeK {x : T} (h : formL [x] = true) : 1 ≤ x.kind ∧ x.kind ≤ 6 := by
  rw [formL_cons] at h
  simp only [Bool.and_eq_true] at h
  have := h.1.1
  simp only [headB] at this
  repeat' (split at this)
  all_goals first | omega | simp at this
end Go.Proofs.Ytedfepnekjjmnaa

/-
  code.rest, atom, word, tuple, empty; clerkref.atom: what they answer. No condition but bounds.
-/
namespace Go.Proofs.Ytedfepnekjjmnaa
open Go.RowKit
set_option linter.unusedSimpArgs false
set_option linter.unusedVariables false

theorem RTs.shift {S : Nat → Prop} {w : World} {b o : Nat} : ∀ (ts : List T) (i : Nat), RTs S w ts (some ⟨b, o, none⟩) (i + 1) → RTs S w ts (some ⟨b, o + 4, none⟩) i
  | [], _, _ => by simp [RTs]
  | t :: ts, i, h => by
    rw [RTs_cons] at h ⊢
    obtain ⟨⟨b', o', a', cap, e, hS, h0, h1, h2, h3, h4, h5⟩, hr⟩ := h
    simp only [Option.some.injEq, Addr.mk.injEq, and_true] at e
    obtain ⟨rfl, rfl⟩ := e
    have e : o + (i + 1) * 4 = o + 4 + i * 4 := by omega
    rw [e] at h0 h1 h2 h3
    exact ⟨⟨b, o + 4, a', cap, rfl, hS, h0, h1, h2, h3, h4, h5⟩, RTs.shift ts (i + 1) hr⟩
theorem RTs.tail {S : Nat → Prop} {w : World} {b o : Nat} {t : T} {ts : List T} (h : RTs S w (t :: ts) (some ⟨b, o, none⟩) 0) : RTs S w ts (some ⟨b, o + 4, none⟩) 0 := by
  rw [RTs_cons] at h; exact RTs.shift ts 0 h.2
/-- A tuple of a word: what is behind the word. -/
def restL (s : ByteArray) (t : T) : Option (List T) := if t.kind == 4 && headIs s t.args then some t.args.tail else none
theorem restL_some {s : ByteArray} {t : T} {l : List T} (h : restL s t = some l) : bulkL l < bulkL [t] ∧ l = t.args.tail ∧ t.kind = 4 ∧ headIs s t.args = true := by
  unfold restL at h
  split at h
  · rename_i hc
    simp only [Bool.and_eq_true, beq_iff_eq] at hc
    simp only [Option.some.injEq] at h
    refine ⟨?_, h.symm, hc.1, hc.2⟩
    subst h
    have h1 := bulk_args t
    cases e : t.args with
    | nil => rw [e] at h1; simpa using h1
    | cons x r => rw [e] at h1; have : bulkL (x :: r) = bulkL [x] + bulkL r := bulkL_append [x] r; simp only [List.tail_cons]; omega
  · cases h
def RestP (S : Nat → Prop) (w : World) (s : ByteArray) (t : T) (e : Ending) (w' : World) : Prop :=
  ∃ a cap, e = .returned (.tuple #[.slice a ((restL s t).getD []).length cap, .bool (restL s t).isSome]) ∧ Below w.heap.size w w' ∧ RSl S w' ((restL s t).getD []) (.slice a ((restL s t).getD []).length cap)
theorem RestP.no {S : Nat → Prop} {w : World} {s : ByteArray} {t : T} {e : Ending} {w' : World} (h : restL s t = none) (he : e = .returned (.tuple #[.slice none 0 0, .bool false])) (hB : Below w.heap.size w w') : RestP S w s t e w' := by
  refine ⟨none, 0, by rw [h]; exact he, hB, ?_⟩
  rw [h]
  exact ⟨none, 0, rfl, ⟨Nat.le_refl _, fun _ => rfl⟩, by simp [RTs]⟩

set_option maxHeartbeats 1000000 in
theorem crest_c (t : T) (s : ByteArray) (S : Nat → Prop) (w : World) (v : Value) (hv : RT S w t v) (hb : bulkL [t] ≤ 1099511627776) : Calls Try.prog 74 #[v, .string s] w (RestP S w s t) := by
  obtain ⟨a, cap, rfl, hc, hr⟩ := hv
  have hba := bulk_args t
  have hla := length_le_bulk t.args
  have hca := hc.1
  have HC := Lib.hid hc
  have HR := Lib.hid hr; clear hr hc
  cases h1 : (t.kind == 4)
  · have H1 := Lib.hid (show restL s t = none by rw [restL, h1]; rfl)
    have h1' : (t.kind != 4) = true := by simpa using h1
    go_enter Try.func74, Try.ntmps74
    go_wp2_with fail
    refine bodyPost_ret (v := .tuple #[.slice none 0 0, .bool false]) (by simp [results, Try.results74, go_sem]) rfl ?_
    exact RestP.no H1.out rfl (below_alloc _ _)
  have h1' : (t.kind != 4) = false := by simpa using h1
  by_cases h2 : t.args.length = 0
  · have H1 := Lib.hid (show restL s t = none by rw [restL, List.eq_nil_of_length_eq_zero h2]; simp [headIs])
    have h2' : ((t.args.length : Int) == 0) = true := by simp [h2]
    have H2 := Lib.hid h2
    clear h2
    go_enter Try.func74, Try.ntmps74
    go_wp2_with fail
    refine bodyPost_ret (v := .tuple #[.slice none 0 0, .bool false]) (by simp [results, Try.results74, go_sem]) rfl ?_
    exact RestP.no H1.out rfl (below_alloc _ _)
  have hpos : 0 < t.args.length := by omega
  have h2' : ((t.args.length : Int) == 0) = false := by rw [beq_eq_false_iff_ne]; omega
  obtain ⟨b, o, rfl⟩ := HR.out.addr hpos
  obtain ⟨y, r, hyr⟩ : ∃ y r, t.args = y :: r := by cases e : t.args with | nil => rw [e] at hpos; cases hpos | cons y r => exact ⟨y, r, rfl⟩
  have HT := Lib.hid (by have := HR.out; rw [hyr] at this; exact this.tail)
  obtain ⟨a', cap', hSb, d0, d1, d2, d3, hE⟩ := (HR.out.alloc (.cells #[.int .i64 t.kind, .int .i64 t.n, .string t.name, .slice (some ⟨b, o, none⟩) t.args.length cap] 29)).elem 0 hpos
  clear hE h2
  have hy : t.args[0] = y := by simp [hyr]
  have HL := Lib.hid (show t.args.length = r.length + 1 by rw [hyr]; rfl)
  simp only [Nat.zero_mul, Nat.add_zero, hy] at d0 d1 d2 d3
  have H1 := Lib.hid (show restL s t = if y.kind == 2 && y.name.toList == s.toList then some r else none by rw [restL, h1, hyr]; rfl)
  clear hyr hy
  cases h3 : (y.kind == 2)
  · have h3' : (y.kind != 2) = true := by simpa using h3
    have H2 := Lib.hid (show restL s t = none by rw [H1.out, h3]; rfl)
    go_enter Try.func74, Try.ntmps74
    go_wp2_with fail
    refine bodyPost_ret (v := .tuple #[.slice none 0 0, .bool false]) (by simp [results, Try.results74, go_sem]) rfl ?_
    exact RestP.no H2.out rfl (below_alloc _ _)
  have h3' : (y.kind != 2) = false := by simpa using h3
  cases h4 : (y.name.toList == s.toList)
  · have H2 := Lib.hid (show restL s t = none by rw [H1.out, h3, h4]; rfl)
    go_enter Try.func74, Try.ntmps74
    go_wp2_with fail
    refine bodyPost_ret (v := .tuple #[.slice none 0 0, .bool false]) (by simp [results, Try.results74, go_sem]) rfl ?_
    exact RestP.no H2.out rfl (below_alloc _ _)
  · have H2 := Lib.hid (show restL s t = some r by rw [H1.out, h3, h4]; rfl)
    have hone : (1 : Int) ≤ t.args.length := by omega
    have hcap : (t.args.length : Int) ≤ cap := by omega
    go_enter Try.func74, Try.ntmps74
    go_wp2_with fail
    · have hr0 : r = [] := List.eq_nil_of_length_eq_zero (by have := HL.out; omega)
      refine bodyPost_ret (v := .tuple #[.slice (some ⟨b, o, none⟩) (t.args.length - 1) 0, .bool true]) (by simp [results, Try.results74, go_sem]) rfl ⟨some ⟨b, o, none⟩, 0, ?_, below_alloc _ _, ?_⟩
      · rw [H2.out, HL.out]; rfl
      · rw [H2.out, hr0]
        exact ⟨_, 0, rfl, ⟨Nat.le_refl _, fun _ => rfl⟩, by simp [RTs]⟩
    · refine bodyPost_ret (v := .tuple #[.slice (some ⟨b, o + 4, none⟩) (t.args.length - 1) (cap - 1), .bool true]) (by simp [results, Try.results74, go_sem]) rfl ⟨some ⟨b, o + 4, none⟩, cap - 1, ?_, below_alloc _ _, ?_⟩
      · rw [H2.out, HL.out]; rfl
      · rw [H2.out]
        exact ⟨_, _, rfl, ⟨by have := HL.out; simp; omega, fun e => by cases e⟩, HT.out.alloc _⟩
set_option maxHeartbeats 400000 in
theorem catom_c (t : T) (a : Option Addr) (cap : Nat) (w : World) : Calls Try.prog 104 #[.agg #[.int .i64 t.kind, .int .i64 t.n, .string t.name, .slice a t.args.length cap]] w fun e w' => e = .returned (.tuple #[.string t.name, .bool (t.kind == 2)]) ∧ Below w.heap.size w w' := by
  go_enter Try.func104, Try.ntmps104
  go_wp2_with fail
  go_quiet (fail)
  go_wp2_with fail
  all_goals (refine bodyPost_ret (v := .tuple #[.string t.name, .bool (t.kind == 2)]) (by simp [results, Try.results104, go_sem]) rfl ⟨rfl, ?_⟩)
  all_goals exact (below_alloc _ _).trans ⟨rfl, rfl, rfl, Nat.le_refl _, fun _ _ => rfl⟩
set_option maxHeartbeats 400000 in
theorem word_cword (s : ByteArray) (w : World) : Calls Try.prog 79 #[.string s] w fun e w' => e = .returned (.agg #[.int .i64 2, .int .i64 0, .string s, .slice none 0 0]) ∧ Below w.heap.size w w' := by
  go_enter Try.func79, Try.ntmps79
  go_wp2_with fail
  exact bodyPost_ret (v := .agg #[.int .i64 2, .int .i64 0, .string s, .slice none 0 0]) (by simp [results, Try.results79, go_sem]) rfl ⟨rfl, below_alloc _ _⟩
set_option maxHeartbeats 400000 in
theorem word_Ratom (s : ByteArray) (w : World) : Calls Try.prog 83 #[.string s] w fun e w' => e = .returned (.agg #[.int .i64 2, .int .i64 0, .string s, .slice none 0 0]) ∧ Below w.heap.size w w' := by
  go_enter Try.func83, Try.ntmps83
  go_wp2_with fail
  exact bodyPost_ret (v := .agg #[.int .i64 2, .int .i64 0, .string s, .slice none 0 0]) (by simp [results, Try.results83, go_sem]) rfl ⟨rfl, below_alloc _ _⟩
set_option maxHeartbeats 400000 in
theorem ctuple_c (a : Option Addr) (n cap : Nat) (w : World) : Calls Try.prog 78 #[.slice a n cap] w fun e w' => e = .returned (.agg #[.int .i64 4, .int .i64 0, .string ⟨#[]⟩, .slice a n cap]) ∧ Below w.heap.size w w' := by
  go_enter Try.func78, Try.ntmps78
  go_wp2_with fail
  exact bodyPost_ret (v := .agg #[.int .i64 4, .int .i64 0, .string ⟨#[]⟩, .slice a n cap]) (by simp [results, Try.results78, go_sem]) rfl ⟨rfl, below_alloc _ _⟩
set_option maxHeartbeats 400000 in
theorem cwithin_c (n lo hi : Int) (w : World) : Calls Try.prog 80 #[.int .i64 n, .int .i64 lo, .int .i64 hi] w fun e w' => e = .returned (.bool (decide (lo ≤ n) && decide (n ≤ hi))) ∧ w' = w := by
  by_cases h1 : lo ≤ n <;> by_cases h2 : n ≤ hi <;> simp only [h1, h2, decide_true, decide_false]
  all_goals
    go_enter Try.func80, Try.ntmps80
    go_wp2_with fail
    go_ret
    exact ⟨rfl, rfl⟩
/-- Is it no term at all? -/
def emptyB (t : T) : Bool := t.kind == 0 && t.n == 0 && t.name.toList == [] && decide (t.args.length = 0)
theorem emptyB_iff (t : T) : emptyB t = true ↔ t = zeroT := by
  obtain ⟨k, n, s, l⟩ := t
  simp only [emptyB, Bool.and_eq_true, beq_iff_eq, decide_eq_true_eq, zeroT, T.mk.injEq, List.length_eq_zero_iff]
  constructor
  · rintro ⟨⟨⟨h1, h2⟩, h3⟩, h4⟩
    exact ⟨h1, h2, ba_ext (by rw [← Lib.toList_data, h3]), h4⟩
  · rintro ⟨h1, h2, rfl, h4⟩
    exact ⟨⟨⟨h1, h2⟩, by rw [Lib.toList_data]⟩, h4⟩
set_option maxHeartbeats 1000000 in
theorem cempty_c (t : T) (a : Option Addr) (cap : Nat) (w : World) : Calls Try.prog 120 #[.agg #[.int .i64 t.kind, .int .i64 t.n, .string t.name, .slice a t.args.length cap]] w fun e w' => e = .returned (.bool (emptyB t)) ∧ Below w.heap.size w w' := by
  obtain ⟨q, hq⟩ : ∃ q, decide (t.args.length = 0) = q := ⟨_, rfl⟩
  have h4 : ((t.args.length : Int) == 0) = q := by
    rw [← hq]
    by_cases h : t.args.length = 0
    · simp [h]
    · rw [decide_eq_false h, beq_eq_false_iff_ne]; omega
  cases h1 : (t.kind == 0) <;> cases h2 : (t.n == 0) <;> cases h3 : (t.name.toList == ([] : List UInt8)) <;> cases q
  all_goals
    have HE := Lib.hid (show emptyB t = _ from by rw [emptyB, h1, h2, h3, hq])
    clear hq
    go_enter Try.func120, Try.ntmps120
    go_wp2_with fail
    go_ret
    exact ⟨ret_bool (by rw [HE.out]; first | rfl | (rw [h4]; rfl)), below_alloc _ _⟩
end Go.Proofs.Ytedfepnekjjmnaa

/-
  Acts, clauses, behaviours as data, and how they lie. No condition.
-/
namespace Go.Proofs.Ytedfepnekjjmnaa
open Go.RowKit
set_option linter.unusedSimpArgs false
set_option linter.unusedVariables false

structure Deed where
  kind : Int
  «to» : T
  what : T
  name : ByteArray
  var : Int
structure Clau where
  state : T
  message : T
  acts : List Deed
  next : T
structure Behv where
  name : ByteArray
  clauses : List Clau
def deedB (d : Deed) : Nat := 1 + bulkL [d.to] + bulkL [d.what] + d.name.size
def deedsB : List Deed → Nat
  | [] => 0
  | d :: l => deedB d + deedsB l
def clauB (c : Clau) : Nat := 1 + bulkL [c.state] + bulkL [c.message] + deedsB c.acts + bulkL [c.next]
def clausB : List Clau → Nat
  | [] => 0
  | c :: l => clauB c + clausB l
def behvB (b : Behv) : Nat := 1 + b.name.size + clausB b.clauses
def behvsB : List Behv → Nat
  | [] => 0
  | b :: l => behvB b + behvsB l
theorem deedsB_len (l : List Deed) : l.length ≤ deedsB l := by
  induction l with
  | nil => simp [deedsB]
  | cons d l ih => simp only [deedsB, deedB, List.length_cons]; omega
theorem clausB_len (l : List Clau) : l.length ≤ clausB l := by
  induction l with
  | nil => simp [clausB]
  | cons d l ih => simp only [clausB, clauB, List.length_cons]; omega
theorem behvsB_len (l : List Behv) : l.length ≤ behvsB l := by
  induction l with
  | nil => simp [behvsB]
  | cons d l ih => simp only [behvsB, behvB, List.length_cons]; omega
theorem deedsB_mem {l : List Deed} {d : Deed} (h : d ∈ l) : deedB d ≤ deedsB l := by
  induction l with
  | nil => cases h
  | cons e l ih =>
    rcases List.mem_cons.1 h with rfl | h
    · simp only [deedsB]; omega
    · have := ih h; simp only [deedsB]; omega
theorem clausB_mem {l : List Clau} {d : Clau} (h : d ∈ l) : clauB d ≤ clausB l := by
  induction l with
  | nil => cases h
  | cons e l ih =>
    rcases List.mem_cons.1 h with rfl | h
    · simp only [clausB]; omega
    · have := ih h; simp only [clausB]; omega
theorem behvsB_mem {l : List Behv} {d : Behv} (h : d ∈ l) : behvB d ≤ behvsB l := by
  induction l with
  | nil => cases h
  | cons e l ih =>
    rcases List.mem_cons.1 h with rfl | h
    · simp only [behvsB]; omega
    · have := ih h; simp only [behvsB]; omega
def zeroD : Deed := ⟨0, zeroT, zeroT, ⟨#[]⟩, 0⟩

def deedC (S : Nat → Prop) (w : World) (d : Deed) (cs : List Value) : Prop :=
  ∃ a1 p1 a2 p2, cs = [.int .i64 d.kind, .int .i64 d.to.kind, .int .i64 d.to.n, .string d.to.name, .slice a1 d.to.args.length p1, .int .i64 d.what.kind, .int .i64 d.what.n, .string d.what.name, .slice a2 d.what.args.length p2, .string d.name, .int .i64 d.var] ∧
    RT S w d.to (.agg #[.int .i64 d.to.kind, .int .i64 d.to.n, .string d.to.name, .slice a1 d.to.args.length p1]) ∧ RT S w d.what (.agg #[.int .i64 d.what.kind, .int .i64 d.what.n, .string d.what.name, .slice a2 d.what.args.length p2])
def deedE : El Deed where
  k := 11
  C := deedC
  len := by rintro S w x cs ⟨a1, p1, a2, p2, rfl, -⟩; rfl
  one := by rintro S w x cs ⟨a1, p1, a2, p2, rfl, -⟩; simp [Value.oneCell']
  «to» := by rintro S S' w w' x cs ⟨a1, p1, a2, p2, rfl, h1, h2⟩ hs hc; exact ⟨a1, p1, a2, p2, rfl, h1.to hs hc, h2.to hs hc⟩
def clauC (S : Nat → Prop) (w : World) (c : Clau) (cs : List Value) : Prop :=
  ∃ a1 p1 a2 p2 a3 p3 a4 p4, cs = [.int .i64 c.state.kind, .int .i64 c.state.n, .string c.state.name, .slice a1 c.state.args.length p1, .int .i64 c.message.kind, .int .i64 c.message.n, .string c.message.name, .slice a2 c.message.args.length p2,
      .slice a3 c.acts.length p3, .int .i64 c.next.kind, .int .i64 c.next.n, .string c.next.name, .slice a4 c.next.args.length p4] ∧
    RT S w c.state (.agg #[.int .i64 c.state.kind, .int .i64 c.state.n, .string c.state.name, .slice a1 c.state.args.length p1]) ∧ RT S w c.message (.agg #[.int .i64 c.message.kind, .int .i64 c.message.n, .string c.message.name, .slice a2 c.message.args.length p2]) ∧
    RX deedE S S w c.acts (.slice a3 c.acts.length p3) ∧ RT S w c.next (.agg #[.int .i64 c.next.kind, .int .i64 c.next.n, .string c.next.name, .slice a4 c.next.args.length p4])
def clauE : El Clau where
  k := 13
  C := clauC
  len := by rintro S w x cs ⟨a1, p1, a2, p2, a3, p3, a4, p4, rfl, -⟩; rfl
  one := by rintro S w x cs ⟨a1, p1, a2, p2, a3, p3, a4, p4, rfl, -⟩; simp [Value.oneCell']
  «to» := by rintro S S' w w' x cs ⟨a1, p1, a2, p2, a3, p3, a4, p4, rfl, h1, h2, h3, h4⟩ hs hc; exact ⟨a1, p1, a2, p2, a3, p3, a4, p4, rfl, h1.to hs hc, h2.to hs hc, h3.to hs hs fun b hb => hc b (hb.elim id id), h4.to hs hc⟩
def behvC (S : Nat → Prop) (w : World) (b : Behv) (cs : List Value) : Prop :=
  ∃ a p, cs = [.string b.name, .slice a b.clauses.length p] ∧ RX clauE S S w b.clauses (.slice a b.clauses.length p)
def behvE : El Behv where
  k := 2
  C := behvC
  len := by rintro S w x cs ⟨a1, p1, rfl, -⟩; rfl
  one := by rintro S w x cs ⟨a1, p1, rfl, -⟩; simp [Value.oneCell']
  «to» := by rintro S S' w w' x cs ⟨a1, p1, rfl, h3⟩ hs hc; exact ⟨a1, p1, rfl, h3.to hs hs fun b hb => hc b (hb.elim id id)⟩
def deedF : ElT deedE where
  e := 124
  sl := 120
  bytes := 144
  z := .agg #[.int .i64 0, .int .i64 0, .int .i64 0, .string ⟨#[]⟩, .slice none 0 0, .int .i64 0, .int .i64 0, .string ⟨#[]⟩, .slice none 0 0, .string ⟨#[]⟩, .int .i64 0]
  hund := Try.underlying120
  info := by kernel_rfl
  hzs := rfl
  hk := by decide
  hb := by decide
def clauF : ElT clauE where
  e := 122
  sl := 113
  bytes := 192
  z := .agg #[.int .i64 0, .int .i64 0, .string ⟨#[]⟩, .slice none 0 0, .int .i64 0, .int .i64 0, .string ⟨#[]⟩, .slice none 0 0, .slice none 0 0, .int .i64 0, .int .i64 0, .string ⟨#[]⟩, .slice none 0 0]
  hund := Try.underlying113
  info := by kernel_rfl
  hzs := rfl
  hk := by decide
  hb := by decide
def behvF : ElT behvE where
  e := 115
  sl := 58
  bytes := 40
  z := .agg #[.string ⟨#[]⟩, .slice none 0 0]
  hund := Try.underlying58
  info := by kernel_rfl
  hzs := rfl
  hk := by decide
  hb := by decide
/-- A variable's block: its cells. -/
structure Blk (w : World) (B : Nat) (cs : List Value) : Prop where
  lt : B < w.heap.size
  cell : ∀ j u, cs[j]? = some u → w.cell? ⟨B, j, none⟩ = some u
  fr : ∀ o, w.frozen? ⟨B, o, none⟩ = false
theorem Blk.below {w w' : World} {B N : Nat} {cs : List Value} (h : Blk w B cs) (hB : Below N w w') (hN : B < N) : Blk w' B cs :=
  ⟨Nat.lt_of_lt_of_le h.lt hB.size, fun j u hu => (hB.cell (p := ⟨B, j, none⟩) hN).trans (h.cell j u hu), fun o => (hB.frozen (p := ⟨B, o, none⟩) hN).trans (h.fr o)⟩
theorem Blk.step {w w' : World} {B : Nat} {cs : List Value} (h : Blk w B cs) (hB : Below w.heap.size w w') : Blk w' B cs := h.below hB h.lt
theorem Blk.alloc {w : World} {B : Nat} {cs : List Value} (h : Blk w B cs) (o : Obj) : Blk (w.alloc o) B cs := h.step (below_alloc w o)
theorem Blk.new (w : World) (c : Array Value) (e : TypeId) (B : Nat) (hB : B = w.heap.size) : Blk (w.alloc (.cells c e)) B c.toList := by
  subst hB
  exact ⟨by simp, fun j u hu => by rw [World.cell?_alloc_new]; simpa using hu, fun o => frozen_of_row _ _ o c e (heap_alloc_new w _)⟩
/-- A variable's cells written, one by one. -/
def setAll (w : World) (B : Nat) : Nat → List Value → World
  | _, [] => w
  | i, c :: cs => setAll (w.setCell ⟨B, i, none⟩ c) B (i + 1) cs
theorem setAll_heap (w : World) (B : Nat) : ∀ (cs : List Value) (i : Nat), (setAll w B i cs).heap.size = w.heap.size ∧ ∀ b, b ≠ B → (setAll w B i cs).heap[b]? = w.heap[b]? := by
  intro cs
  induction cs generalizing w with
  | nil => intro i; exact ⟨rfl, fun _ _ => rfl⟩
  | cons c cs ih =>
    intro i
    obtain ⟨h1, h2⟩ := ih (w.setCell ⟨B, i, none⟩ c) (i + 1)
    exact ⟨by rw [setAll, h1]; simp, fun b hb => by rw [setAll, h2 b hb, setCell_other _ _ _ _ _ hb]⟩
theorem setAll_below {N : Nat} {a w : World} (h : Below N a w) (B : Nat) (hB : N ≤ B) : ∀ (cs : List Value) (i : Nat), Below N a (setAll w B i cs) := by
  intro cs
  induction cs generalizing w with
  | nil => intro i; exact h
  | cons c cs ih => intro i; exact ih (h.setCell (p := ⟨B, i, none⟩) hB c) (i + 1)
theorem Blk.set {w : World} {B : Nat} {cs : List Value} (h : Blk w B cs) (i : Nat) (c : Value) (hi : i < cs.length) : Blk (w.setCell ⟨B, i, none⟩ c) B (cs.set i c) := by
  refine ⟨by have := h.lt; simpa using this, fun j u hu => ?_, fun o => ?_⟩
  · rw [List.getElem?_set] at hu
    split at hu
    · rename_i e
      subst e
      have h0 := h.cell i cs[i] (by simp)
      rw [World.cell?_setCell_same _ _ _ h0]; exact hu
    · rename_i e
      rw [World.cell?_setCell_other _ _ _ _ (by simp only [ne_eq, Addr.mk.injEq, and_true, true_and]; exact fun h => e h)]
      exact h.cell j u hu
  · have := h.fr o
    go_simp
theorem Blk.all {w : World} {B : Nat} : ∀ (cs pre old : List Value), Blk w B (pre ++ old) → cs.length = old.length → Blk (setAll w B pre.length cs) B (pre ++ cs)
  | [], pre, old, h, hl => by
    obtain rfl : old = [] := List.eq_nil_of_length_eq_zero hl.symm
    exact h
  | c :: cs, pre, o :: old, h, hl => by
    have h1 := h.set pre.length c (by simp)
    have e : (pre ++ o :: old).set pre.length c = (pre ++ [c]) ++ old := by simp
    rw [e] at h1
    have h2 := Blk.all (w := w.setCell ⟨B, pre.length, none⟩ c) cs (pre ++ [c]) old h1 (by simpa using hl)
    simpa [setAll] using h2
  | c :: cs, pre, [], h, hl => by cases hl
theorem Blk.stored {w : World} {B : Nat} {old : List Value} (h : Blk w B old) (cs : List Value) (hl : cs.length = old.length) : Blk (setAll w B 0 cs) B cs := by
  simpa using Blk.all cs [] old (by simpa using h) hl
end Go.Proofs.Ytedfepnekjjmnaa

/-
  A struct variable stored, read and handed back whole. No condition.
-/
namespace Go.Proofs.Ytedfepnekjjmnaa
open Go.RowKit
set_option linter.unusedSimpArgs false
set_option linter.unusedVariables false

theorem Blk.range {w : World} {B : Nat} {cs : List Value} (h : Blk w B cs) : w.rangeAt B 0 cs := fun j v hv => by rw [Nat.zero_add]; exact h.cell j v hv
theorem Blk.there {w : World} {B : Nat} {cs : List Value} (h : Blk w B cs) : w.there B 0 cs.length := fun j hj => by
  rw [Nat.zero_add, h.cell j cs[j] (by simp [hj])]
  exact ⟨rfl, h.fr j⟩
theorem setCells_all (w : World) (B : Nat) : ∀ (cs : List Value) (i : Nat), w.setCells B i cs = setAll w B i cs := by
  intro cs
  induction cs generalizing w with
  | nil => intro i; rfl
  | cons c cs ih => intro i; rw [setAll, ← ih]; rfl
section
variable {ops : Array Oper} {rest : List Oper} {o : Oper} {a : Act} {Q : Exit → Act → World → Prop} {w : World}
/-- 'x = v' of a struct variable. -/
theorem store_blk (ty : TypeId) (k : Nat) (hi : (Try.prog.info? ty).map (·.size) = some k) (x y : Operand) (hgd : o.guard = none) (ho : o.op = .store ty x y) (hd : o.dst = none)
    {B : Nat} {old : List Value} {cells : Array Value} (hx : a.eval x = .pointer (some ⟨B, 0, none⟩)) (hy : a.eval y = .agg cells) (hB : Blk w B old) (hl : old.length = k) (hc : cells.size = k) (h1 : cells.toList.all (·.oneCell') = true)
    (h : ∀ w', Blk w' B cells.toList → w'.heap.size = w.heap.size → (∀ N a, N ≤ B → Below N a w → Below N a w') → (∀ b, b ≠ B → w'.heap[b]? = w.heap[b]?) → wpList Try.prog ops Q rest a w') :
    wpList Try.prog ops Q (o :: rest) a w := by
  have hk : old.length = cells.size := by omega
  refine wpList_store_mid hgd ty x y ho B 0 cells hx hy (by rw [← hk]; exact hB.there) (by rw [hi, hc]) (by rw [← Array.all_toList]; exact h1) ?_
  rw [hd, setCells_all]
  have hs := setAll_heap w B cells.toList 0
  exact h _ (hB.stored _ (by simpa using hk.symm)) hs.1 (fun N a hN hb => setAll_below hb B hN _ _) hs.2
/-- The same at a step of a region that draws its order. -/
theorem step_store_blk {K : Act → World → Prop} {E : Prop} (ty : TypeId) (k : Nat) (hi : (Try.prog.info? ty).map (·.size) = some k) (x y : Operand) (hgd : o.guard = none) (ho : o.op = .store ty x y) (hd : o.dst = none)
    {B : Nat} {old : List Value} {cells : Array Value} (hx : a.eval x = .pointer (some ⟨B, 0, none⟩)) (hy : a.eval y = .agg cells) (hB : Blk w B old) (hl : old.length = k) (hc : cells.size = k) (h1 : cells.toList.all (·.oneCell') = true)
    (h : ∀ w', Blk w' B cells.toList → w'.heap.size = w.heap.size → (∀ N a, N ≤ B → Below N a w → Below N a w') → (∀ b, b ≠ B → w'.heap[b]? = w.heap[b]?) → K a w') :
    if Region.wanted o (yielded ops a.tmps) = true then Oper.wp Try.prog o a w K Q else E := by
  have hk : old.length = cells.size := by omega
  have hw : Region.wanted o (yielded ops a.tmps) = true := by simp [Region.wanted, hgd]
  rw [if_pos hw]
  refine wp_store_mid ty x y ho B 0 cells hx hy (by rw [← hk]; exact hB.there) (by rw [hi, hc]) (by rw [← Array.all_toList]; exact h1) ?_
  rw [hd, setCells_all]
  have hs := setAll_heap w B cells.toList 0
  exact h _ (hB.stored _ (by simpa using hk.symm)) hs.1 (fun N a hN hb => setAll_below hb B hN _ _) hs.2
/-- 'x' of a struct variable, whole. -/
theorem load_blk (ty : TypeId) (k : Nat) (hi : (Try.prog.info? ty).map (·.size) = some k) (d : TypeDesc) (hu : Try.prog.underlying ty = some d) (hr : d.isRow = true) (x : Operand) (hgd : o.guard = none) (ho : o.op = .load ty x)
    {B : Nat} {cs : List Value} (hx : a.eval x = .pointer (some ⟨B, 0, none⟩)) (hB : Blk w B cs) (hl : cs.length = k)
    (h : wpList Try.prog ops Q rest (a.put o.dst (.agg cs.toArray)) w) : wpList Try.prog ops Q (o :: rest) a w :=
  wpList_load_mid hgd ty x ho B 0 hx cs d hB.range hu hr (by rw [hi, hl]) h
end
/-- A struct and something else, handed back. -/
theorem results_blk {fn : Func} {t s : Tmp} {ty k : Nat} (h : fn.results = #[.cell t ty, .tmp s]) (hi : (Try.prog.info? ty).map (·.size) = some k) (d : TypeDesc) (hu : Try.prog.underlying ty = some d) (hr : d.isRow = true)
    {tmps : Array Value} {w : World} {B : Nat} {cs : List Value} (hx : tmps.getD t undef = .pointer (some ⟨B, 0, none⟩)) (hB : Blk w B cs) (hl : cs.length = k) :
    (results fn tmps).run Try.prog w = .ok (.tuple #[.agg cs.toArray, tmps.getD s undef]) w := by
  have h1 := run_loadVar_mid (P := Try.prog) w B 0 ty cs d hB.range hu hr (by rw [hi, hl])
  have h2 : (asAddr (tmps.getD t undef)).run Try.prog w = .ok ⟨B, 0, none⟩ w := by rw [hx]; rfl
  simp only [Array.getD_eq_getD_getElem?] at h2 ⊢
  simp [results, h, h1, h2]
theorem szDeed : (Try.prog.info? 124).map (·.size) = some 11 := by kernel_rfl
theorem szClau : (Try.prog.info? 122).map (·.size) = some 13 := by kernel_rfl
theorem szBeh : (Try.prog.info? 115).map (·.size) = some 2 := by kernel_rfl
theorem szTerm : (Try.prog.info? 29).map (·.size) = some 4 := by kernel_rfl
end Go.Proofs.Ytedfepnekjjmnaa

/-
  What fits, in plain words. No program in sight.
-/
namespace Go.Proofs.Ytedfepnekjjmnaa
set_option linter.unusedSimpArgs false
set_option linter.unusedVariables false

def fitH (p t : T) (b : List T) (r : Bool × List T) : Bool × List T :=
  if p.kind = 6 then (true, b)
  else if p.kind = 5 then (if (b.getD p.n.toNat zeroT).kind = 6 then (true, b.set p.n.toNat t) else (sameT (b.getD p.n.toNat zeroT) t, b))
  else if p.kind = 4 then (if t.kind = 4 ∧ p.args.length = t.args.length then r else (false, b))
  else (sameT p t, b)
def fitL : List T → List T → List T → Bool × List T
  | ⟨k, n, s, l⟩ :: ps, t :: ts, b =>
    if (fitH ⟨k, n, s, l⟩ t b (fitL l t.args b)).1 then fitL ps ts (fitH ⟨k, n, s, l⟩ t b (fitL l t.args b)).2 else fitH ⟨k, n, s, l⟩ t b (fitL l t.args b)
  | [], _, b => (true, b)
  | _, [], b => (true, b)
def fitT (p t : T) (b : List T) : Bool × List T := fitH p t b (fitL p.args t.args b)
theorem fitL_cons (p t : T) (ps ts b : List T) : fitL (p :: ps) (t :: ts) b = if (fitT p t b).1 then fitL ps ts (fitT p t b).2 else fitT p t b := by
  obtain ⟨k, n, s, l⟩ := p; rw [fitL]; rfl
theorem fitL_nil (ts b : List T) : fitL [] ts b = (true, b) := by rw [fitL]
theorem fitL_one (p t : T) (b : List T) : fitL [p] [t] b = fitT p t b := by
  rw [fitL_cons, fitL_nil]; split
  · rename_i h; rw [← h]
  · rfl
theorem fitL_yes {p t : T} {ps ts b : List T} (h : (fitT p t b).1 = true) : fitL (p :: ps) (t :: ts) b = fitL ps ts (fitT p t b).2 := by rw [fitL_cons, if_pos h]
theorem fitL_no {p t : T} {ps ts b : List T} (h : (fitT p t b).1 = false) : fitL (p :: ps) (t :: ts) b = fitT p t b := by rw [fitL_cons, if_neg (by simp [h])]
theorem fitL_append {ps ts qs us : List T} (hl : ps.length = ts.length) (b : List T) : fitL (ps ++ qs) (ts ++ us) b = if (fitL ps ts b).1 then fitL qs us (fitL ps ts b).2 else fitL ps ts b := by
  induction ps generalizing ts b with
  | nil =>
    have : ts = [] := List.eq_nil_of_length_eq_zero (by simpa using hl.symm)
    subst this; rw [fitL_nil]; simp
  | cons p ps ih =>
    cases ts with
    | nil => simp at hl
    | cons t ts =>
      simp only [List.cons_append, fitL_cons]
      cases h : (fitT p t b).1
      · simp [h]
      · simp only [if_true]; exact ih (by simpa using hl) _

theorem fitL_snoc {ps ts b : List T} {k : Nat} (h : (fitL (ps.take k) (ts.take k) b).1 = true) (h1 : k < ps.length) (h2 : k < ts.length) : fitL (ps.take (k + 1)) (ts.take (k + 1)) b = fitT ps[k] ts[k] (fitL (ps.take k) (ts.take k) b).2 := by
  rw [take_snoc' ps k h1, take_snoc' ts k h2, fitL_append (by simp; omega), if_pos h, fitL_one]
theorem fitL_fail {ps ts b : List T} {k : Nat} (h : (fitL (ps.take k) (ts.take k) b).1 = true) (h1 : k < ps.length) (h2 : k < ts.length) (hf : (fitT ps[k] ts[k] (fitL (ps.take k) (ts.take k) b).2).1 = false) :
    fitL ps ts b = fitT ps[k] ts[k] (fitL (ps.take k) (ts.take k) b).2 := by
  have e1 : ps = ps.take k ++ (ps[k] :: ps.drop (k + 1)) := by simp
  have e2 : ts = ts.take k ++ (ts[k] :: ts.drop (k + 1)) := by simp
  have e3 : fitL ps ts b = fitL (ps.take k ++ (ps[k] :: ps.drop (k + 1))) (ts.take k ++ (ts[k] :: ts.drop (k + 1))) b := by rw [← e1, ← e2]
  rw [e3, fitL_append (by simp; omega), if_pos h, fitL_no hf]

section
variable {p t : T} {b : List T}
theorem fitT_6 (h : p.kind = 6) : fitT p t b = (true, b) := by rw [fitT, fitH, if_pos h]
theorem fitT_5a {k : Nat} (h : p.kind = 5) (hk : p.n = k) (hl : k < b.length) (h6 : b[k].kind = 6) : fitT p t b = (true, b.set k t) := by
  rw [fitT, fitH, if_neg (by omega), if_pos h, hk]; simp [hl, h6]
theorem fitT_5b {k : Nat} (h : p.kind = 5) (hk : p.n = k) (hl : k < b.length) (h6 : b[k].kind ≠ 6) : fitT p t b = (sameT b[k] t, b) := by
  rw [fitT, fitH, if_neg (by omega), if_pos h, hk]; simp [hl, h6]
theorem fitT_4a (h : p.kind = 4) (h1 : t.kind = 4) (h2 : p.args.length = t.args.length) : fitT p t b = fitL p.args t.args b := by
  rw [fitT, fitH, if_neg (by omega), if_neg (by omega), if_pos h, if_pos ⟨h1, h2⟩]
theorem fitT_4b (h : p.kind = 4) (h1 : ¬ (t.kind = 4 ∧ p.args.length = t.args.length)) : fitT p t b = (false, b) := by
  rw [fitT, fitH, if_neg (by omega), if_neg (by omega), if_pos h, if_neg h1]
theorem fitT_o (h4 : p.kind ≠ 4) (h5 : p.kind ≠ 5) (h6 : p.kind ≠ 6) : fitT p t b = (sameT p t, b) := by
  rw [fitT, fitH, if_neg h6, if_neg h5, if_neg h4]
end

theorem fitT_length (p t : T) (b : List T) : (fitT p t b).2.length = b.length := by
  have key : ∀ m (ps ts b : List T), bulkL ps ≤ m → (fitL ps ts b).2.length = b.length := by
    intro m
    induction m with
    | zero =>
      intro ps ts b hm
      cases ps with
      | nil => rw [fitL_nil]
      | cons p ps => rw [bulkL_cons] at hm; omega
    | succ m ih =>
      intro ps ts b hm
      cases ps with
      | nil => rw [fitL_nil]
      | cons p ps =>
        cases ts with
        | nil => rw [fitL]; intro h; cases h
        | cons t ts =>
          rw [bulkL_cons] at hm
          have h1 : (fitT p t b).2.length = b.length := by
            have := ih p.args t.args b (by omega)
            unfold fitT fitH
            repeat' split
            all_goals first | rfl | simp | exact this
          rw [fitL_cons]
          split
          · rw [ih ps ts _ (by omega), h1]
          · exact h1
  have := key _ [p] [t] b (Nat.le_refl _)
  rwa [fitL_one] at this

/-- What fits, or nothing. -/
def fitO (p t : T) (b : List T) : Option (List T) := if (fitT p t b).1 then some (fitT p t b).2 else none
end Go.Proofs.Ytedfepnekjjmnaa

/-
  How a program that came in reads: rows of rows of structs. No condition.
-/
namespace Go.Proofs.Ytedfepnekjjmnaa
open Go.ChangeShapes Go.WideShapes Go.ChangeAt Go.RowKit
set_option linter.unusedSimpArgs false
set_option linter.unusedVariables false

section
variable {H : Type} {enc : TypeId × Value → H} {W : World} {base : Nat} {sp : Nat → Bool} {held : Bool}

theorem add_at' (b off i j : Nat) : ((⟨b, off, none⟩ : Addr).add i).add j = ⟨b, off + i + j, none⟩ := by
  unfold Addr.add
  by_cases h1 : i = 0 <;> by_cases h2 : j = 0 <;> simp [h1, h2]
theorem flat_cells {X : Type} {k b off : Nat} : ∀ (ps : List (X × List Value)) (i0 : Nat), (∀ i (h : i < ps.length), W.cells? base ((⟨b, off, none⟩ : Addr).add ((i0 + i) * k)) k = some (ps[i].2)) →
    ∀ j u, ((ps.map (·.2)).flatten)[j]? = some u → W.cell? ⟨b, off + i0 * k + j, none⟩ = some u
  | [], _, _, j, u, h => by simp at h
  | p :: ps, i0, hp, j, u, h => by
    have h0 := World.cells?_some (hp 0 (by simp))
    simp only [List.getElem_cons_zero, Nat.add_zero] at h0
    obtain ⟨-, hl, hc⟩ := h0
    simp only [List.map_cons, List.flatten_cons] at h
    by_cases hj : j < k
    · rw [List.getElem?_append_left (by omega)] at h
      have h1 := (hc j hj).trans h
      rw [add_at'] at h1
      exact h1
    · rw [List.getElem?_append_right (by omega), hl] at h
      have h1 := flat_cells ps (i0 + 1) (fun i hi => by
        have := hp (i + 1) (by simpa using hi)
        rw [show i0 + 1 + i = i0 + (i + 1) by omega]
        simpa using this) (j - k) u h
      rw [show off + i0 * k + j = off + (i0 + 1) * k + (j - k) by rw [Nat.succ_mul]; omega]
      exact h1
theorem sum_list {X : Type} {B : X → Nat} {Bs : List X → Nat} (hB0 : Bs [] = 0) (hB1 : ∀ x l, Bs (x :: l) = B x + Bs l) : ∀ (ys : List X) (ds : List (DataW H)), ys.length = ds.length → (∀ i (h1 : i < ys.length) (h2 : i < ds.length), B ys[i] ≤ Rows.uptoBulk ds[i]) → Bs ys ≤ Rows.uptoBulkAll ds
  | [], _, _, _ => by simp [hB0]
  | t :: ts, [], h, _ => by simp at h
  | t :: ts, d :: ds, h, hp => by
    have h0 := hp 0 (by simp) (by simp)
    have := sum_list hB0 hB1 ts ds (by simpa using h) fun i h1 h2 => hp (i + 1) (by simpa using h1) (by simpa using h2)
    simp only [List.getElem_cons_zero] at h0
    rw [hB1, Rows.uptoBulkAll]
    omega
theorem cellsX_flat {X : Type} {E : El X} {S : Nat → Prop} : ∀ (ps : List (X × List Value)), (∀ i (h : i < ps.length), E.C S W ps[i].1 ps[i].2) → CellsX E S W (ps.map (·.1)) (ps.map (·.2)).flatten
  | [], _ => rfl
  | p :: ps, h => ⟨p.2, _, rfl, h 0 (by simp), cellsX_flat ps fun i hi => h (i + 1) (by simpa using hi)⟩

/-- A slice's cell that reads as data is a slice of such elements, if each element's cells that read as data are one. -/
theorem rows_of_trod {X : Type} {E : El X} (F : ElT E) (hc : Try.prog.cellsOf F.e = E.k) (B : X → Nat) (Bs : List X → Nat) (hB0 : Bs [] = 0) (hB1 : ∀ x l, Bs (x :: l) = B x + Bs l)
    (key : ∀ fuel cs x, DataW.trod enc Try.prog W base sp held fuel F.e cs = some x → ∃ y, E.C (fun b => b < W.heap.size) W y cs ∧ B y ≤ Rows.uptoBulk x.1)
    (fuel : Nat) (cs : List Value) (x : DataW H × List MemPlace) (g : DataW.trod enc Try.prog W base sp held fuel F.sl cs = some x) :
    ∃ (ys : List X) (a : Option Addr) (cap : Nat), cs = [.slice a ys.length cap] ∧ RX E (fun b => b < W.heap.size) (fun b => b < W.heap.size) W ys (.slice a ys.length cap) ∧ Bs ys ≤ Rows.uptoBulk x.1 := by
  rcases DataW.trod_slice F.hund g with ⟨rfl, rfl⟩ | ⟨a, len, cap, elems, rest, n', rfl, rfl, rfl, hb, hlc, hcm, hel, hget, -, -⟩
  · exact ⟨[], none, 0, rfl, RX.nil _ _ _, by rw [hB0]; omega⟩
  · have key2 : ∀ i, i < len → ∃ p : X × List Value, W.cells? base (a.add (i * E.k)) E.k = some p.2 ∧ E.C (fun b => b < W.heap.size) W p.1 p.2 ∧ ∃ hi : i < elems.length, B p.1 ≤ Rows.uptoBulk (elems[i]).1 := by
      intro i hi
      have h1 := hget i hi
      rw [hc, List.getElem?_eq_getElem (by omega)] at h1
      obtain ⟨cs', hcc, ht⟩ := Option.bind_eq_some_iff.1 h1
      obtain ⟨y, h2, h3⟩ := key n' cs' _ ht
      exact ⟨(y, cs'), hcc, h2, by omega, h3⟩
    obtain ⟨ps, hps, hp⟩ := choose_list len key2
    subst hps
    have hl : (ps.map (·.1)).length = ps.length := by simp
    refine ⟨ps.map (·.1), some a, cap, by rw [hl], ⟨some a, cap, (ps.map (·.2)).flatten, rfl, ⟨by omega, by simp⟩, cellsX_flat ps fun i hi => (hp i hi).2.1, fun j u hu => ?_⟩, ?_⟩
    · obtain ⟨b, off, spot⟩ := a
      have hspot : spot = none := by
        have hne : 0 < ps.length := by
          cases ps with
          | nil => simp at hu
          | cons _ _ => simp
        obtain ⟨_, hl0, hc0⟩ := World.cells?_some (hp 0 hne).1
        have hk := F.hk
        have h0 := hc0 0 hk
        rw [List.getElem?_eq_getElem (by omega)] at h0
        simpa [Addr.add] using World.cell?_spot h0
      subst hspot
      have h1 := flat_cells ps 0 (fun i hi => by rw [Nat.zero_add]; exact (hp i hi).1) j u hu
      rw [Nat.zero_mul, Nat.add_zero] at h1
      exact ⟨b, off, rfl, World.block_lt_of_cell? W _ h1, h1⟩
    · have h1 := sum_list (H := H) hB0 hB1 (ps.map (·.1)) (elems.map (·.1)) (by simp [hel]) fun i h1 h2 => by
        obtain ⟨_, _, _, h4⟩ := hp i (by simpa using h1)
        simpa using h4
      simp only [Rows.uptoBulk]
      omega

theorem cellsDeed : Try.prog.cellsOf 124 = 11 := by kernel_rfl
theorem cellsClau : Try.prog.cellsOf 122 = 13 := by kernel_rfl
theorem cellsBeh : Try.prog.cellsOf 115 = 2 := by kernel_rfl
theorem cellsStr : Try.prog.cellsOf 9 = 1 := by kernel_rfl
theorem cellsDeeds : Try.prog.cellsOf 120 = 1 := by kernel_rfl
theorem cellsClaus : Try.prog.cellsOf 113 = 1 := by kernel_rfl
theorem under_deed : ∃ f0 f1 f2 f3 f4 : Field, Try.prog.underlying 124 = some (.struct #[f0, f1, f2, f3, f4]) ∧ f0.type = 3 ∧ f0.offset = 0 ∧ f1.type = 29 ∧ f1.offset = 1 ∧ f2.type = 29 ∧ f2.offset = 5 ∧ f3.type = 9 ∧ f3.offset = 9 ∧ f4.type = 3 ∧ f4.offset = 10 :=
  ⟨_, _, _, _, _, by rw [Try.underlying124], rfl, rfl, rfl, rfl, rfl, rfl, rfl, rfl, rfl, rfl⟩
theorem under_clau : ∃ f0 f1 f2 f3 : Field, Try.prog.underlying 122 = some (.struct #[f0, f1, f2, f3]) ∧ f0.type = 29 ∧ f0.offset = 0 ∧ f1.type = 29 ∧ f1.offset = 4 ∧ f2.type = 120 ∧ f2.offset = 8 ∧ f3.type = 29 ∧ f3.offset = 9 :=
  ⟨_, _, _, _, by rw [Try.underlying122], rfl, rfl, rfl, rfl, rfl, rfl, rfl, rfl⟩
theorem under_beh : ∃ f0 f1 : Field, Try.prog.underlying 115 = some (.struct #[f0, f1]) ∧ f0.type = 9 ∧ f0.offset = 0 ∧ f1.type = 113 ∧ f1.offset = 1 :=
  ⟨_, _, by rw [Try.underlying115], rfl, rfl, rfl, rfl⟩

set_option maxRecDepth 100000 in
theorem deed_of_trod (fuel : Nat) (cs : List Value) (x : DataW H × List MemPlace) (h : DataW.trod enc Try.prog W base sp held fuel 124 cs = some x) : ∃ y, deedE.C (fun b => b < W.heap.size) W y cs ∧ deedB y ≤ Rows.uptoBulk x.1 := by
  obtain ⟨f0, f1, f2, f3, f4, hs, t0, o0, t1, o1, t2, o2, t3, o3, t4, o4⟩ := under_deed
  obtain ⟨xs, n, rfl, rfl, hl, hlen, hf⟩ := DataW.trod_struct hs h
  rw [cellsDeed] at hl
  match xs, hlen, cs, hl with
  | [y0, y1, y2, y3, y4], _, [v0, v1, v2, v3, v4, v5, v6, v7, v8, v9, v10], _ =>
    have g0 := hf 0 f0 rfl
    have g1 := hf 1 f1 rfl
    have g2 := hf 2 f2 rfl
    have g3 := hf 3 f3 rfl
    have g4 := hf 4 f4 rfl
    simp [o0, o1, o2, o3, o4, t0, t1, t2, t3, t4, cellsInt, cellsStr, cellsTerm] at g0 g1 g2 g3 g4
    obtain ⟨k, hv0, rfl, wk⟩ := DataW.trod_int Try.underlying3 g0
    obtain ⟨ta, a1, c1, e1, hc1, hr1, hb1⟩ := term_of_trod _ _ _ g1
    obtain ⟨tb, a2, c2, e2, hc2, hr2, hb2⟩ := term_of_trod _ _ _ g2
    obtain ⟨s, hv3, rfl, ws⟩ := DataW.trod_string Try.underlying9 g3
    obtain ⟨m, hv4, rfl, wm⟩ := DataW.trod_int Try.underlying3 g4
    simp only [List.cons.injEq, and_true] at hv0 e1 e2 hv3 hv4
    obtain ⟨rfl, rfl, rfl, rfl⟩ := e1
    obtain ⟨rfl, rfl, rfl, rfl⟩ := e2
    subst hv0 hv3 hv4
    have hss : s.data.toList.length = s.size := by rw [Array.length_toList]; rfl
    refine ⟨⟨k, ta, tb, s, m⟩, ⟨a1, c1, a2, c2, rfl, ⟨_, _, rfl, hc1, hr1⟩, ⟨_, _, rfl, hc2, hr2⟩⟩, ?_⟩
    simp only [deedB, Rows.uptoBulk, Rows.uptoBulkAll, List.map_cons, List.map_nil]
    omega
set_option maxRecDepth 100000 in
theorem clau_of_trod (fuel : Nat) (cs : List Value) (x : DataW H × List MemPlace) (h : DataW.trod enc Try.prog W base sp held fuel 122 cs = some x) : ∃ y, clauE.C (fun b => b < W.heap.size) W y cs ∧ clauB y ≤ Rows.uptoBulk x.1 := by
  obtain ⟨f0, f1, f2, f3, hs, t0, o0, t1, o1, t2, o2, t3, o3⟩ := under_clau
  obtain ⟨xs, n, rfl, rfl, hl, hlen, hf⟩ := DataW.trod_struct hs h
  rw [cellsClau] at hl
  match xs, hlen, cs, hl with
  | [y0, y1, y2, y3], _, [v0, v1, v2, v3, v4, v5, v6, v7, v8, v9, v10, v11, v12], _ =>
    have g0 := hf 0 f0 rfl
    have g1 := hf 1 f1 rfl
    have g2 := hf 2 f2 rfl
    have g3 := hf 3 f3 rfl
    simp [o0, o1, o2, o3, t0, t1, t2, t3, cellsDeeds, cellsTerm] at g0 g1 g2 g3
    obtain ⟨ta, a1, c1, e1, hc1, hr1, hb1⟩ := term_of_trod _ _ _ g0
    obtain ⟨tb, a2, c2, e2, hc2, hr2, hb2⟩ := term_of_trod _ _ _ g1
    obtain ⟨ys, a3, c3, e3, hr3, hb3⟩ := rows_of_trod deedF cellsDeed deedB deedsB rfl (fun _ _ => rfl) deed_of_trod _ _ _ g2
    obtain ⟨td, a4, c4, e4, hc4, hr4, hb4⟩ := term_of_trod _ _ _ g3
    simp only [List.cons.injEq, and_true] at e1 e2 e3 e4
    obtain ⟨rfl, rfl, rfl, rfl⟩ := e1
    obtain ⟨rfl, rfl, rfl, rfl⟩ := e2
    obtain ⟨rfl, rfl, rfl, rfl⟩ := e4
    subst e3
    refine ⟨⟨ta, tb, ys, td⟩, ⟨a1, c1, a2, c2, a3, c3, a4, c4, rfl, ⟨_, _, rfl, hc1, hr1⟩, ⟨_, _, rfl, hc2, hr2⟩, hr3, ⟨_, _, rfl, hc4, hr4⟩⟩, ?_⟩
    simp only [clauB, Rows.uptoBulk, Rows.uptoBulkAll, List.map_cons, List.map_nil]
    omega
set_option maxRecDepth 100000 in
theorem beh_of_trod (fuel : Nat) (cs : List Value) (x : DataW H × List MemPlace) (h : DataW.trod enc Try.prog W base sp held fuel 115 cs = some x) : ∃ y, behvE.C (fun b => b < W.heap.size) W y cs ∧ behvB y ≤ Rows.uptoBulk x.1 := by
  obtain ⟨f0, f1, hs, t0, o0, t1, o1⟩ := under_beh
  obtain ⟨xs, n, rfl, rfl, hl, hlen, hf⟩ := DataW.trod_struct hs h
  rw [cellsBeh] at hl
  match xs, hlen, cs, hl with
  | [y0, y1], _, [v0, v1], _ =>
    have g0 := hf 0 f0 rfl
    have g1 := hf 1 f1 rfl
    simp [o0, o1, t0, t1, cellsStr, cellsClaus] at g0 g1
    obtain ⟨s, hv0, rfl, ws⟩ := DataW.trod_string Try.underlying9 g0
    obtain ⟨ys, a3, c3, e3, hr3, hb3⟩ := rows_of_trod clauF cellsClau clauB clausB rfl (fun _ _ => rfl) clau_of_trod _ _ _ g1
    simp only [List.cons.injEq, and_true] at hv0 e3
    subst hv0 e3
    have hss : s.data.toList.length = s.size := by rw [Array.length_toList]; rfl
    refine ⟨⟨s, ys⟩, ⟨a3, c3, rfl, hr3⟩, ?_⟩
    simp only [behvB, Rows.uptoBulk, Rows.uptoBulkAll, List.map_cons, List.map_nil]
    omega
set_option maxRecDepth 100000 in
/-- An argument that is a program. -/
theorem open_behvs {v : Value} {d : DataW H} {p : List MemPlace} {r : Reach} (hok : Value.okWide Try.prog W r base 58 v) (h : DataW.Trod enc Try.prog W 0 sp held 58 v d p) :
    ∃ l, RX behvE (fun b => b < W.heap.size) (fun b => b < W.heap.size) W l v ∧ behvsB l ≤ Rows.uptoBulk d := by
  obtain ⟨a, len, cap, rfl⟩ := okWide_slice Try.underlying58 hok
  obtain ⟨fuel, hf⟩ := h
  obtain ⟨l, a', cap', e, h1, h2⟩ := rows_of_trod behvF cellsBeh behvB behvsB rfl (fun _ _ => rfl) beh_of_trod fuel _ _ hf
  simp only [Value.cells, List.cons.injEq, and_true] at e
  exact ⟨l, by rw [e]; exact h1, h2⟩
end
end Go.Proofs.Ytedfepnekjjmnaa

/-
  What a term tells as a program: in plain words. No program in sight.
-/
namespace Go.Proofs.Ytedfepnekjjmnaa
open Go.RowKit
set_option linter.unusedSimpArgs false
set_option linter.unusedVariables false

def sSend : ByteArray := ⟨#[115, 101, 110, 100]⟩
def sSpawn : ByteArray := ⟨#[115, 112, 97, 119, 110]⟩
def sLink : ByteArray := ⟨#[108, 105, 110, 107]⟩
def sStop : ByteArray := ⟨#[115, 116, 111, 112]⟩
def sOn : ByteArray := ⟨#[111, 110]⟩
def sBeh : ByteArray := ⟨#[98, 101, 104]⟩
def sCode : ByteArray := ⟨#[99, 111, 100, 101]⟩
/-- An act that a term tells. -/
def deedO (t : T) : Option Deed :=
  match restL sSend t with
  | some [a, b] => some ⟨1, a, b, ⟨#[]⟩, 0⟩
  | _ => match restL sSpawn t with
    | some [a, b, c] => if a.kind == 2 && c.kind == 5 then some ⟨2, zeroT, b, a.name, c.n⟩ else none
    | _ => match restL sLink t with
      | some [a] => some ⟨3, a, zeroT, ⟨#[]⟩, 0⟩
      | _ => match restL sStop t with
        | some [] => some ⟨4, zeroT, zeroT, ⟨#[]⟩, 0⟩
        | _ => none
def mapO {X : Type} (f : T → Option X) : List T → Option (List X)
  | [] => some []
  | t :: l => match f t, mapO f l with
    | some x, some r => some (x :: r)
    | _, _ => none
def clauO (t : T) : Option Clau :=
  match restL sOn t with
  | some [a, b, c, d] => if c.kind == 4 then (mapO deedO c.args).map fun l => ⟨a, b, l, d⟩ else none
  | _ => none
def behvO (t : T) : Option Behv :=
  match restL sBeh t with
  | some (a :: b :: r) => if a.kind == 2 then (mapO clauO (b :: r)).map fun l => ⟨a.name, l⟩ else none
  | _ => none
def fromO (t : T) : Option (List Behv) :=
  match restL sCode t with
  | some (b :: r) => mapO behvO (b :: r)
  | _ => none
/-- What From answers. -/
def fromA (t : T) : List Behv × Int := if checkE t = 0 then (match fromO t with | some l => (l, 0) | none => ([], 5)) else ([], checkE t)
theorem mapO_append {X : Type} (f : T → Option X) (l m : List T) : mapO f (l ++ m) = match mapO f l, mapO f m with | some a, some b => some (a ++ b) | _, _ => none := by
  induction l with
  | nil => simp only [List.nil_append, mapO]; cases mapO f m <;> rfl
  | cons t l ih =>
    simp only [List.cons_append, mapO, ih]
    cases f t <;> cases mapO f l <;> cases mapO f m <;> rfl
theorem mapO_snoc {X : Type} (f : T → Option X) {l : List T} {k : Nat} (hk : k < l.length) : mapO f (l.take (k + 1)) = match mapO f (l.take k), f l[k] with | some a, some b => some (a ++ [b]) | _, _ => none := by
  rw [take_snoc' l k hk, mapO_append]
  simp only [mapO]
  cases mapO f (l.take k) <;> cases f l[k] <;> rfl
theorem mapO_length {X : Type} {f : T → Option X} : ∀ {l : List T} {r : List X}, mapO f l = some r → r.length = l.length
  | [], r, h => by simp only [mapO, Option.some.injEq] at h; subst h; rfl
  | t :: l, r, h => by
    simp only [mapO] at h
    split at h
    · rename_i x r' h1 h2
      simp only [Option.some.injEq] at h; subst h
      simp [mapO_length h2]
    · cases h
theorem mapO_bad {X : Type} {f : T → Option X} {l : List T} {k : Nat} (hk : k < l.length) (h : f l[k] = none) : mapO f l = none := by
  rw [← List.take_append_drop (k + 1) l, mapO_append, mapO_snoc f hk, h]
  cases mapO f (l.take k) <;> rfl
/-- At most one of the words. -/
theorem restL_other {s s' : ByteArray} {t : T} {l : List T} (h : restL s t = some l) (hne : s.toList ≠ s'.toList) : restL s' t = none := by
  obtain ⟨-, -, h3, h4⟩ := restL_some h
  rw [restL, if_neg]
  simp only [Bool.and_eq_true, not_and]
  intro _
  cases e : t.args with
  | nil => rw [e] at h4; cases h4
  | cons y r =>
    rw [e] at h4
    simp only [headIs, Bool.and_eq_true, beq_iff_eq] at h4 ⊢
    intro h5
    exact hne (h4.2.symm.trans h5.2)
theorem ne_send_spawn : sSend.toList ≠ sSpawn.toList := by rw [Lib.toList_data, Lib.toList_data]; decide
theorem ne_send_link : sSend.toList ≠ sLink.toList := by rw [Lib.toList_data, Lib.toList_data]; decide
theorem ne_send_stop : sSend.toList ≠ sStop.toList := by rw [Lib.toList_data, Lib.toList_data]; decide
theorem ne_spawn_link : sSpawn.toList ≠ sLink.toList := by rw [Lib.toList_data, Lib.toList_data]; decide
theorem ne_spawn_stop : sSpawn.toList ≠ sStop.toList := by rw [Lib.toList_data, Lib.toList_data]; decide
theorem ne_link_stop : sLink.toList ≠ sStop.toList := by rw [Lib.toList_data, Lib.toList_data]; decide
/-- Which of them, if any. -/
theorem word_cases (t : T) : (∃ l, restL sSend t = some l ∧ restL sSpawn t = none ∧ restL sLink t = none ∧ restL sStop t = none) ∨ (∃ l, restL sSend t = none ∧ restL sSpawn t = some l ∧ restL sLink t = none ∧ restL sStop t = none) ∨
    (∃ l, restL sSend t = none ∧ restL sSpawn t = none ∧ restL sLink t = some l ∧ restL sStop t = none) ∨ (∃ l, restL sSend t = none ∧ restL sSpawn t = none ∧ restL sLink t = none ∧ restL sStop t = some l) ∨
    (restL sSend t = none ∧ restL sSpawn t = none ∧ restL sLink t = none ∧ restL sStop t = none) := by
  cases h1 : restL sSend t with
  | some l => exact .inl ⟨l, rfl, restL_other h1 ne_send_spawn, restL_other h1 ne_send_link, restL_other h1 ne_send_stop⟩
  | none =>
    cases h2 : restL sSpawn t with
    | some l => exact .inr (.inl ⟨l, rfl, rfl, restL_other h2 ne_spawn_link, restL_other h2 ne_spawn_stop⟩)
    | none =>
      cases h3 : restL sLink t with
      | some l => exact .inr (.inr (.inl ⟨l, rfl, rfl, rfl, restL_other h3 ne_link_stop⟩))
      | none =>
        cases h4 : restL sStop t with
        | some l => exact .inr (.inr (.inr (.inl ⟨l, rfl, rfl, rfl, rfl⟩)))
        | none => exact .inr (.inr (.inr (.inr ⟨rfl, rfl, rfl, rfl⟩)))
/-- 'is' and 'rest' ask the same. -/
theorem isT_rest (t : T) (s : ByteArray) (n : Nat) : isT t s n = match restL s t with | some l => decide (l.length = n) | none => false := by
  rw [isT, restL]
  cases h1 : (t.kind == 4)
  · rfl
  cases h2 : headIs s t.args
  · simp
  · cases e : t.args with
    | nil => rw [e] at h2; cases h2
    | cons y r => simp; omega
end Go.Proofs.Ytedfepnekjjmnaa

/-
  A heap as data: its words and names; what putting makes of it. In plain words.
-/
namespace Go.Proofs.Ytedfepnekjjmnaa
open Go.RowKit
set_option linter.unusedSimpArgs false
set_option linter.unusedVariables false

/-- A word. -/
structure Wrd where
  kind : Int
  n : Int
deriving DecidableEq
/-- A heap: its words and names. -/
structure HS where
  ws : List Wrd
  names : List ByteArray
/-- Where a name stands, the first one; -1: nowhere. -/
def nameI (s : ByteArray) (l : List ByteArray) : Int := idxI (fun x => s.toList == x.toList) l 0
/-- An atom's number, and the names then. -/
def atomH (s : ByteArray) (l : List ByteArray) : Int × List ByteArray := if nameI s l < 0 then (l.length, l ++ [s]) else (nameI s l, l)
/-- Put a row of terms; their words are laid from a place on. -/
def putA (at_ : Nat) (H : HS) : List T → HS
  | [] => H
  | ⟨k, n, s, l⟩ :: ts =>
    let r : Wrd × HS :=
      if k = 2 then (⟨2, (atomH s H.names).1⟩, ⟨H.ws, (atomH s H.names).2⟩)
      else if k = 4 then (⟨4, H.ws.length⟩, putA (H.ws.length + 1) ⟨H.ws ++ (⟨0, l.length⟩ :: List.replicate l.length ⟨0, 0⟩), H.names⟩ l)
      else (⟨k, n⟩, H)
    putA (at_ + 1) ⟨r.2.ws.set at_ r.1, r.2.names⟩ ts
/-- Put a term. -/
def putW (H : HS) (t : T) : Wrd × HS :=
  if t.kind = 2 then (⟨2, (atomH t.name H.names).1⟩, ⟨H.ws, (atomH t.name H.names).2⟩)
  else if t.kind = 4 then (⟨4, H.ws.length⟩, putA (H.ws.length + 1) ⟨H.ws ++ (⟨0, t.args.length⟩ :: List.replicate t.args.length ⟨0, 0⟩), H.names⟩ t.args)
  else (⟨t.kind, t.n⟩, H)
theorem putA_nil (i : Nat) (H : HS) : putA i H [] = H := by rw [putA]
theorem putA_cons (i : Nat) (H : HS) (t : T) (ts : List T) : putA i H (t :: ts) = putA (i + 1) ⟨(putW H t).2.ws.set i (putW H t).1, (putW H t).2.names⟩ ts := by
  obtain ⟨k, n, s, l⟩ := t; rw [putA]; rfl
theorem putA_append (i : Nat) (H : HS) (a b : List T) : putA i H (a ++ b) = putA (i + a.length) (putA i H a) b := by
  induction a generalizing i H with
  | nil => simp [putA_nil]
  | cons t ts ih => rw [List.cons_append, putA_cons, ih, putA_cons, List.length_cons]; congr 1; omega
theorem putA_snoc (i : Nat) (H : HS) {l : List T} {k : Nat} (hk : k < l.length) :
    putA i H (l.take (k + 1)) = ⟨(putW (putA i H (l.take k)) l[k]).2.ws.set (i + k) (putW (putA i H (l.take k)) l[k]).1, (putW (putA i H (l.take k)) l[k]).2.names⟩ := by
  rw [take_snoc' l k hk, putA_append, putA_cons, putA_nil]
  simp only [List.length_take, Nat.min_eq_left (Nat.le_of_lt hk)]
/-- How many words a term takes. -/
theorem putA_len : ∀ m (ts : List T) (i : Nat) (H : HS), bulkL ts ≤ m → (putA i H ts).ws.length = H.ws.length + szL ts ∧ (putA i H ts).names.length ≤ H.names.length + bulkL ts := by
  intro m
  induction m with
  | zero => intro ts i H h; cases ts with
    | nil => simp [putA_nil, szL]
    | cons t ts => rw [bulkL_cons] at h; omega
  | succ m ih =>
    intro ts i H h
    cases ts with
    | nil => simp [putA_nil, szL]
    | cons t ts =>
      rw [bulkL_cons] at h
      have h1 := ih t.args (H.ws.length + 1) ⟨H.ws ++ (⟨0, t.args.length⟩ :: List.replicate t.args.length ⟨0, 0⟩), H.names⟩ (by omega)
      have h2 := ih ts (i + 1) ⟨(putW H t).2.ws.set i (putW H t).1, (putW H t).2.names⟩ (by omega)
      rw [putA_cons, szL_cons, bulkL_cons]
      simp only [List.length_set, List.length_append, List.length_cons, List.length_replicate] at h1 h2
      have h3 : (putW H t).2.ws.length = H.ws.length + (if t.kind = 4 then 1 + t.args.length + szL t.args else 0) ∧ (putW H t).2.names.length ≤ H.names.length + 1 + bulkL t.args := by
        unfold putW
        split
        · rename_i hk
          rw [if_neg (by omega)]
          refine ⟨rfl, ?_⟩
          simp only [atomH]
          split <;> simp <;> omega
        · split
          · exact ⟨by rw [h1.1]; omega, by simp only; omega⟩
          · exact ⟨rfl, by simp only; omega⟩
      omega
theorem putW_len (H : HS) (t : T) : (putW H t).2.ws.length = H.ws.length + szL [t] ∧ (putW H t).2.names.length ≤ H.names.length + bulkL [t] := by
  have h := putA_len _ [t] 0 H (Nat.le_refl _)
  rw [putA_cons, putA_nil] at h
  simpa using h

/-! ### How it lies -/
def wrdE : El Wrd where
  k := 2
  C := fun _ _ x cs => cs = [.int .i64 x.kind, .int .i64 x.n]
  len := by rintro S w x cs rfl; rfl
  one := by rintro S w x cs rfl; simp [Value.oneCell']
  «to» := by rintro S S' w w' x cs rfl _ _; rfl
def nmE : El ByteArray where
  k := 1
  C := fun _ _ x cs => cs = [.string x]
  len := by rintro S w x cs rfl; rfl
  one := by rintro S w x cs rfl; simp [Value.oneCell']
  «to» := by rintro S S' w w' x cs rfl _ _; rfl
def wrdF : ElT wrdE where
  e := 69
  sl := 67
  bytes := 16
  z := .agg #[.int .i64 0, .int .i64 0]
  hund := Try.underlying67
  info := by kernel_rfl
  hzs := rfl
  hk := by decide
  hb := by decide
def nmF : ElT nmE where
  e := 9
  sl := 102
  bytes := 16
  z := .string ⟨#[]⟩
  hund := Try.underlying102
  info := by kernel_rfl
  hzs := rfl
  hk := by decide
  hb := by decide
end Go.Proofs.Ytedfepnekjjmnaa

/-
  A region that draws its order, gone through one operation at a time: each move by a law of its own. No condition.
-/
namespace Go.Proofs.Ytedfepnekjjmnaa
open Go.RowKit
set_option linter.unusedSimpArgs false
set_option linter.unusedVariables false

section
variable {P : Program} {ops : Array Oper} {Q : Exit → Act → World → Prop} {S : World → Prop} {fuel : Nat} {listed : Array Bool} {a : Act} {w : World} {i : Nat} {oi : Oper} {tl : List Oper}
theorem rg_at {ops : Array Oper} {i : Nat} {oi : Oper} {tl : List Oper} (h : ops.toList.drop i = oi :: tl) : ops[i]? = some oi := by
  have h1 : (ops.toList.drop i)[0]? = some oi := by rw [h]; rfl
  rw [List.getElem?_drop] at h1
  simpa using h1
/-- The beginning. -/
theorem rg_begin (S : World → Prop) {id : Nat} (hm : P.follows .mixedOrders = true) (hS : S w.drew) (h : S w.drew → wpAnyH P .any ops (NoPanic Q) S ops.size (Array.replicate ops.size false) a w.drew) : (Code.region id ops true).wp P Q a w :=
  wp_region_noPanic (wp_region_held hm (h hS))
/-- The beginning, the world behind the draw a letter. -/
theorem rg_start (S : World → Prop) {id : Nat} (hm : P.follows .mixedOrders = true) (hS : ∀ Wd, Below w.heap.size w Wd → S Wd)
    (h : ∀ Wd, Below w.heap.size w Wd → w.heap.size ≤ Wd.heap.size → Wd.heap.size ≤ w.heap.size → S Wd → wpAnyH P .any ops (NoPanic Q) S ops.size (Array.replicate ops.size false) a Wd) : (Code.region id ops true).wp P Q a w :=
  wp_region_noPanic (wp_region_held hm (h w.drew (Below.refl _ _).drew (Nat.le_refl _) (Nat.le_refl _) (hS _ (Below.refl _ _).drew)))
/-- An operation that only reads what S says. -/
theorem rg_take (v : Value) (hi : ops.toList.drop i = oi :: tl) (hs : Region.noSelect ops = true) (hf : Region.free .any ops listed i = true) (hr : (Region.ready .any ops listed).contains i = true)
    (hw : Region.wanted oi (yielded ops a.tmps) = true) (hy : ∀ w, S w → (execOp a.eval oi).run P w = .ok (.value v) w) (hS : S w)
    (h : wpAnyH P .any ops (NoPanic Q) S fuel (listed.setIfInBounds i true) (a.put oi.dst v) w) : wpAnyH P .any ops (NoPanic Q) S (fuel + 1) listed a w :=
  wpAnyH_take (rg_at hi) hs hf hr (fun _ _ _ h => h) (.inl ⟨hw, hy⟩) hS h
/-- One whose guard says no. -/
theorem rg_off (hi : ops.toList.drop i = oi :: tl) (hs : Region.noSelect ops = true) (hf : Region.free .any ops listed i = true) (hr : (Region.ready .any ops listed).contains i = true)
    (hw : Region.wanted oi (yielded ops a.tmps) = false) (hS : S w)
    (h : wpAnyH P .any ops (NoPanic Q) S fuel (listed.setIfInBounds i true) (a.put oi.dst undef) w) : wpAnyH P .any ops (NoPanic Q) S (fuel + 1) listed a w :=
  wpAnyH_take (rg_at hi) hs hf hr (fun _ _ _ h => h) (.inr ⟨hw, rfl⟩) hS h
/-- The one operation that may come up. -/
theorem rg_only (hi : ops.toList.drop i = oi :: tl) (hr : Region.ready .any ops listed = [i]) (hw : Region.wanted oi (yielded ops a.tmps) = true)
    (h : ∀ K : Act → World → Prop, Hid (∀ a' w', S w' → (S w' → wpAnyH P .any ops (NoPanic Q) S fuel (listed.setIfInBounds i true) a' w') → K a' w') → Oper.wp P oi a w K (NoPanic Q)) : wpAnyH P .any ops (NoPanic Q) S (fuel + 1) listed a w := by
  refine wpAnyH_all hr (by simp) fun j hj => ?_
  obtain rfl : j = i := by simpa using hj
  unfold wpOp
  simp only [rg_at hi, hw, if_true]
  exact .inl (h _ (Lib.hid fun a' w' h1 h2 => ⟨h1, h2 h1⟩))
/-- Two that may come up. -/
theorem rg_two {j : Nat} {oj : Oper} {tlj : List Oper} (hi : ops.toList.drop i = oi :: tl) (hj : ops.toList.drop j = oj :: tlj) (hr : Region.ready .any ops listed = [i, j]) (hw : Region.wanted oi (yielded ops a.tmps) = true) (hwj : Region.wanted oj (yielded ops a.tmps) = true)
    (h : ∀ K : Act → World → Prop, Hid (∀ a' w', S w' → (S w' → wpAnyH P .any ops (NoPanic Q) S fuel (listed.setIfInBounds i true) a' w') → K a' w') → Oper.wp P oi a w K (NoPanic Q))
    (h' : ∀ K : Act → World → Prop, Hid (∀ a' w', S w' → (S w' → wpAnyH P .any ops (NoPanic Q) S fuel (listed.setIfInBounds j true) a' w') → K a' w') → Oper.wp P oj a w K (NoPanic Q)) : wpAnyH P .any ops (NoPanic Q) S (fuel + 1) listed a w := by
  refine wpAnyH_all hr (by simp) fun m hm => ?_
  simp only [List.mem_cons, List.not_mem_nil, or_false] at hm
  rcases hm with rfl | rfl
  · unfold wpOp
    simp only [rg_at hi, hw, if_true]
    exact .inl (h _ (Lib.hid fun a' w' h1 h2 => ⟨h1, h2 h1⟩))
  · unfold wpOp
    simp only [rg_at hj, hwj, if_true]
    exact .inl (h' _ (Lib.hid fun a' w' h1 h2 => ⟨h1, h2 h1⟩))
theorem rg_done (hr : Region.ready .any ops listed = []) (h : Q .normal a w) : wpAnyH P .any ops (NoPanic Q) S fuel listed a w := wpAnyH_done hr (NoPanic.normal h) fuel
end
section
variable {o : Oper} {a : Act} {Q : Exit → Act → World → Prop} {K : Act → World → Prop} {w : World}
/-- 'x = v' of a struct variable. -/
theorem wp_store_blk (ty : TypeId) (k : Nat) (hi : (Try.prog.info? ty).map (·.size) = some k) (x y : Operand) (ho : o.op = .store ty x y) (hd : o.dst = none)
    {B : Nat} {old : List Value} {cells : Array Value} (hx : a.eval x = .pointer (some ⟨B, 0, none⟩)) (hy : a.eval y = .agg cells) (hB : Blk w B old) (hl : old.length = k) (hc : cells.size = k) (h1 : cells.toList.all (·.oneCell') = true)
    (h : ∀ w', Blk w' B cells.toList → w'.heap.size = w.heap.size → (∀ N a, N ≤ B → Below N a w → Below N a w') → (∀ b, b ≠ B → w'.heap[b]? = w.heap[b]?) → K a w') :
    Oper.wp Try.prog o a w K Q := by
  have hk : old.length = cells.size := by omega
  refine wp_store_mid ty x y ho B 0 cells hx hy (by rw [← hk]; exact hB.there) (by rw [hi, hc]) (by rw [← Array.all_toList]; exact h1) ?_
  rw [hd, setCells_all]
  have hs := setAll_heap w B cells.toList 0
  exact h _ (hB.stored _ (by simpa using hk.symm)) hs.1 (fun N a hN hb => setAll_below hb B hN _ _) hs.2
/-- 'append(s, x)', whatever the element. -/
theorem wp_growX {X : Type} {E : El X} (F : ElT E) (s x : Operand) (hgd : o.guard = none) (ho : o.op = .call { callee := .builtin .append, args := #[s, x], argTypes := #[F.sl, F.sl] })
    {P R : Nat → Prop} {base : Nat} {w0 : World} {v : Value} {xs : List X} {y : X} {c : Array Value} {g0 n : Nat} (hs : a.eval s = v) (hx : a.eval x = .slice (some ⟨g0, 0, none⟩) 1 1) (hg0 : g0 = w0.heap.size) (hown : OwnXG E F.e P base w0 v xs)
    (ht : E.C R w0 y c.toList) (hR : ∀ b, R b → b < w0.heap.size → P b ∧ v.ownBlock ≠ some b) (hnl : xs.length = n) (hn : n + 1 ≤ 274877906944) (hbase : base ≤ w0.heap.size)
    (h : ∀ g cap w', OwnXG E F.e P base w' (.slice (some ⟨g, 0, none⟩) (n + 1) cap) (xs ++ [y]) → Below base w0 w' → (w0.alloc (.cells c F.e)).grownBy w' v.ownBlock → (v.ownBlock = some g ∨ w0.heap.size < g) → K (a.put o.dst (.slice (some ⟨g, 0, none⟩) (n + 1) cap)) w') :
    Oper.wp Try.prog o a (w0.alloc (.cells c F.e)) K Q := by
  have h1 := step_growX (ops := #[]) (Q := Q) (W := True) F s x hgd ho hs hx hg0 hown ht hR hnl hn hbase h
  rwa [if_pos (by simp [Region.wanted, hgd])] at h1
end
end Go.Proofs.Ytedfepnekjjmnaa

/-
  A slice of terms written out, at an operation. No condition.
-/
namespace Go.Proofs.Ytedfepnekjjmnaa
open Go.RowKit
set_option linter.unusedSimpArgs false
set_option linter.unusedVariables false
section
variable {o : Oper} {a : Act} {Q : Exit → Act → World → Prop} {K : Act → World → Prop} {w : World}
set_option maxHeartbeats 1000000 in
theorem build1 (x0 : Operand) (ho : o.op = .buildSlice 27 1 #[(0, x0)]) {c00 c01 c02 c03 : Value} (h0 : a.eval x0 = .agg #[c00, c01, c02, c03])
    (h : K (a.put o.dst (.slice (some ⟨w.heap.size, 0, none⟩) 1 1)) (w.alloc (.cells #[c00, c01, c02, c03] 29))) : Oper.wp Try.prog o a w K Q := by
  obtain ⟨i, hi, hz, hs, hb⟩ := info_parts info29
  refine wp_buildSlice 27 29 1 _ ho #[c00, c01, c02, c03] i _ Try.underlying27 hi hz (by rw [hs]; decide) (by rw [hs]; decide) ?_ h
  rw [hs]
  have e := Great.fill_whole (s := 4) (by decide) [.agg #[c00, c01, c02, c03]] ((Array.range (1 * 4)).map ((Value.agg #[.int .i64 0, .int .i64 0, .string ⟨#[]⟩, .slice none 0 0]).cells[· % (Value.agg #[.int .i64 0, .int .i64 0, .string ⟨#[]⟩, .slice none 0 0]).cells.size]!)) (by simp [Value.cells]) (by simp)
  simp only [Array.toList_map, List.map_cons, List.map_nil, h0]
  exact e
set_option maxHeartbeats 1000000 in
theorem build2 (x0 x1 : Operand) (ho : o.op = .buildSlice 27 2 #[(0, x0), (1, x1)]) {c00 c01 c02 c03 c10 c11 c12 c13 : Value} (h0 : a.eval x0 = .agg #[c00, c01, c02, c03]) (h1 : a.eval x1 = .agg #[c10, c11, c12, c13])
    (h : K (a.put o.dst (.slice (some ⟨w.heap.size, 0, none⟩) 2 2)) (w.alloc (.cells #[c00, c01, c02, c03, c10, c11, c12, c13] 29))) : Oper.wp Try.prog o a w K Q := by
  obtain ⟨i, hi, hz, hs, hb⟩ := info_parts info29
  refine wp_buildSlice 27 29 2 _ ho #[c00, c01, c02, c03, c10, c11, c12, c13] i _ Try.underlying27 hi hz (by rw [hs]; decide) (by rw [hs]; decide) ?_ h
  rw [hs]
  have e := Great.fill_whole (s := 4) (by decide) [.agg #[c00, c01, c02, c03], .agg #[c10, c11, c12, c13]] ((Array.range (2 * 4)).map ((Value.agg #[.int .i64 0, .int .i64 0, .string ⟨#[]⟩, .slice none 0 0]).cells[· % (Value.agg #[.int .i64 0, .int .i64 0, .string ⟨#[]⟩, .slice none 0 0]).cells.size]!)) (by simp [Value.cells]) (by simp)
  simp only [Array.toList_map, List.map_cons, List.map_nil, h0, h1]
  exact e
set_option maxHeartbeats 1000000 in
theorem build3 (x0 x1 x2 : Operand) (ho : o.op = .buildSlice 27 3 #[(0, x0), (1, x1), (2, x2)]) {c00 c01 c02 c03 c10 c11 c12 c13 c20 c21 c22 c23 : Value} (h0 : a.eval x0 = .agg #[c00, c01, c02, c03]) (h1 : a.eval x1 = .agg #[c10, c11, c12, c13]) (h2 : a.eval x2 = .agg #[c20, c21, c22, c23])
    (h : K (a.put o.dst (.slice (some ⟨w.heap.size, 0, none⟩) 3 3)) (w.alloc (.cells #[c00, c01, c02, c03, c10, c11, c12, c13, c20, c21, c22, c23] 29))) : Oper.wp Try.prog o a w K Q := by
  obtain ⟨i, hi, hz, hs, hb⟩ := info_parts info29
  refine wp_buildSlice 27 29 3 _ ho #[c00, c01, c02, c03, c10, c11, c12, c13, c20, c21, c22, c23] i _ Try.underlying27 hi hz (by rw [hs]; decide) (by rw [hs]; decide) ?_ h
  rw [hs]
  have e := Great.fill_whole (s := 4) (by decide) [.agg #[c00, c01, c02, c03], .agg #[c10, c11, c12, c13], .agg #[c20, c21, c22, c23]] ((Array.range (3 * 4)).map ((Value.agg #[.int .i64 0, .int .i64 0, .string ⟨#[]⟩, .slice none 0 0]).cells[· % (Value.agg #[.int .i64 0, .int .i64 0, .string ⟨#[]⟩, .slice none 0 0]).cells.size]!)) (by simp [Value.cells]) (by simp)
  simp only [Array.toList_map, List.map_cons, List.map_nil, h0, h1, h2]
  exact e
set_option maxHeartbeats 1000000 in
theorem build4 (x0 x1 x2 x3 : Operand) (ho : o.op = .buildSlice 27 4 #[(0, x0), (1, x1), (2, x2), (3, x3)]) {c00 c01 c02 c03 c10 c11 c12 c13 c20 c21 c22 c23 c30 c31 c32 c33 : Value} (h0 : a.eval x0 = .agg #[c00, c01, c02, c03]) (h1 : a.eval x1 = .agg #[c10, c11, c12, c13]) (h2 : a.eval x2 = .agg #[c20, c21, c22, c23]) (h3 : a.eval x3 = .agg #[c30, c31, c32, c33])
    (h : K (a.put o.dst (.slice (some ⟨w.heap.size, 0, none⟩) 4 4)) (w.alloc (.cells #[c00, c01, c02, c03, c10, c11, c12, c13, c20, c21, c22, c23, c30, c31, c32, c33] 29))) : Oper.wp Try.prog o a w K Q := by
  obtain ⟨i, hi, hz, hs, hb⟩ := info_parts info29
  refine wp_buildSlice 27 29 4 _ ho #[c00, c01, c02, c03, c10, c11, c12, c13, c20, c21, c22, c23, c30, c31, c32, c33] i _ Try.underlying27 hi hz (by rw [hs]; decide) (by rw [hs]; decide) ?_ h
  rw [hs]
  have e := Great.fill_whole (s := 4) (by decide) [.agg #[c00, c01, c02, c03], .agg #[c10, c11, c12, c13], .agg #[c20, c21, c22, c23], .agg #[c30, c31, c32, c33]] ((Array.range (4 * 4)).map ((Value.agg #[.int .i64 0, .int .i64 0, .string ⟨#[]⟩, .slice none 0 0]).cells[· % (Value.agg #[.int .i64 0, .int .i64 0, .string ⟨#[]⟩, .slice none 0 0]).cells.size]!)) (by simp [Value.cells]) (by simp)
  simp only [Array.toList_map, List.map_cons, List.map_nil, h0, h1, h2, h3]
  exact e
set_option maxHeartbeats 1000000 in
theorem build5 (x0 x1 x2 x3 x4 : Operand) (ho : o.op = .buildSlice 27 5 #[(0, x0), (1, x1), (2, x2), (3, x3), (4, x4)]) {c00 c01 c02 c03 c10 c11 c12 c13 c20 c21 c22 c23 c30 c31 c32 c33 c40 c41 c42 c43 : Value} (h0 : a.eval x0 = .agg #[c00, c01, c02, c03]) (h1 : a.eval x1 = .agg #[c10, c11, c12, c13]) (h2 : a.eval x2 = .agg #[c20, c21, c22, c23]) (h3 : a.eval x3 = .agg #[c30, c31, c32, c33]) (h4 : a.eval x4 = .agg #[c40, c41, c42, c43])
    (h : K (a.put o.dst (.slice (some ⟨w.heap.size, 0, none⟩) 5 5)) (w.alloc (.cells #[c00, c01, c02, c03, c10, c11, c12, c13, c20, c21, c22, c23, c30, c31, c32, c33, c40, c41, c42, c43] 29))) : Oper.wp Try.prog o a w K Q := by
  obtain ⟨i, hi, hz, hs, hb⟩ := info_parts info29
  refine wp_buildSlice 27 29 5 _ ho #[c00, c01, c02, c03, c10, c11, c12, c13, c20, c21, c22, c23, c30, c31, c32, c33, c40, c41, c42, c43] i _ Try.underlying27 hi hz (by rw [hs]; decide) (by rw [hs]; decide) ?_ h
  rw [hs]
  have e := Great.fill_whole (s := 4) (by decide) [.agg #[c00, c01, c02, c03], .agg #[c10, c11, c12, c13], .agg #[c20, c21, c22, c23], .agg #[c30, c31, c32, c33], .agg #[c40, c41, c42, c43]] ((Array.range (5 * 4)).map ((Value.agg #[.int .i64 0, .int .i64 0, .string ⟨#[]⟩, .slice none 0 0]).cells[· % (Value.agg #[.int .i64 0, .int .i64 0, .string ⟨#[]⟩, .slice none 0 0]).cells.size]!)) (by simp [Value.cells]) (by simp)
  simp only [Array.toList_map, List.map_cons, List.map_nil, h0, h1, h2, h3, h4]
  exact e
end
end Go.Proofs.Ytedfepnekjjmnaa

/-
  reckon.sum: what it answers. No condition.
-/
namespace Go.Proofs.Ytedfepnekjjmnaa
open Go.RowKit
set_option linter.unusedSimpArgs false
set_option linter.unusedVariables false

theorem sumB_eq (x y : T) : sumB x y = (x.kind == 1 && y.kind == 1 && inB (sumN x y) (-1099511627776) 1099511627776) := rfl

set_option maxHeartbeats 2000000 in
theorem sum_c (x y : T) (S S' : Nat → Prop) (w : World) (p q : Value) (hp : RT S w x p) (hq : RT S' w y q) :
    Calls Try.prog 99 #[p, q] w fun e w' => e = .returned (.tuple #[.agg #[.int .i64 1, .int .i64 (sumN x y), .string ⟨#[]⟩, .slice none 0 0], .bool (sumB x y)]) ∧ Below w.heap.size w w' := by
  obtain ⟨a1, cap1, rfl, hc1, hr1⟩ := hp
  obtain ⟨a2, cap2, rfl, hc2, hr2⟩ := hq
  clear hc1 hr1 hc2 hr2
  have HB := Lib.hid (sumB_eq x y)
  have hN := Lib.hid (show sumN x y = wrap64 (x.n + y.n) from rfl)
  have h1 : w.heap.size < w.heap.size + 1 + 1 := by omega
  have h2 : w.heap.size < w.heap.size + 1 + 1 + 1 := by omega
  have h3 : w.heap.size + 1 < w.heap.size + 1 + 1 + 1 := by omega
  have HBB : Hid (∀ o1 o2 o3, Below w.heap.size w (((w.alloc o1).alloc o2).alloc o3)) := Lib.hid fun o1 o2 o3 => ((below_alloc _ _).alloc (by simp) _).alloc (by simp <;> omega) _
  cases hk1 : (x.kind == 1)
  · have HS2 := Lib.hid (show sumB x y = false by rw [HB.out, hk1]; rfl)
    go_enter Try.func99, Try.ntmps99
    go_wp2_with fail
    refine bodyPost_ret (v := .tuple #[.agg #[.int .i64 1, .int .i64 (sumN x y), .string ⟨#[]⟩, .slice none 0 0], .bool (sumB x y)]) (by simp [results, Try.results99, go_sem, HS2.out, sumN]) rfl ⟨rfl, ?_⟩
    repeat' (first | exact HBB.out _ _ _ | apply Below.drew | refine Below.setCell ?_ (by simp <;> omega) _)
  cases hk2 : (y.kind == 1)
  · have HS2 := Lib.hid (show sumB x y = false by rw [HB.out, hk1, hk2]; rfl)
    go_enter Try.func99, Try.ntmps99
    go_wp2_with fail
    refine bodyPost_ret (v := .tuple #[.agg #[.int .i64 1, .int .i64 (sumN x y), .string ⟨#[]⟩, .slice none 0 0], .bool (sumB x y)]) (by simp [results, Try.results99, go_sem, HS2.out, sumN]) rfl ⟨rfl, ?_⟩
    repeat' (first | exact HBB.out _ _ _ | apply Below.drew | refine Below.setCell ?_ (by simp <;> omega) _)
  have HS2 := Lib.hid (show sumB x y = inB (wrap64 (x.n + y.n)) (-1099511627776) 1099511627776 by rw [HB.out, hk1, hk2]; rfl)
  by_cases hl : -1099511627776 ≤ wrap64 (x.n + y.n)
  · by_cases hu : wrap64 (x.n + y.n) ≤ 1099511627776
    · have HS3 := Lib.hid (show sumB x y = true by rw [HS2.out]; simp [inB, hl, hu])
      go_enter Try.func99, Try.ntmps99
      go_wp2_with fail
      refine bodyPost_ret (v := .tuple #[.agg #[.int .i64 1, .int .i64 (sumN x y), .string ⟨#[]⟩, .slice none 0 0], .bool (sumB x y)]) (by simp [results, Try.results99, go_sem, HS3.out, sumN, hl, hu]) rfl ⟨rfl, ?_⟩
      repeat' (first | exact HBB.out _ _ _ | apply Below.drew | refine Below.setCell ?_ (by simp <;> omega) _)
    · have HS3 := Lib.hid (show sumB x y = false by rw [HS2.out]; simp [inB]; omega)
      go_enter Try.func99, Try.ntmps99
      go_wp2_with fail
      refine bodyPost_ret (v := .tuple #[.agg #[.int .i64 1, .int .i64 (sumN x y), .string ⟨#[]⟩, .slice none 0 0], .bool (sumB x y)]) (by simp [results, Try.results99, go_sem, HS3.out, sumN, hl, hu]; try omega) rfl ⟨rfl, ?_⟩
      repeat' (first | exact HBB.out _ _ _ | apply Below.drew | refine Below.setCell ?_ (by simp <;> omega) _)
  · have HS3 := Lib.hid (show sumB x y = false by rw [HS2.out]; simp [inB]; omega)
    go_enter Try.func99, Try.ntmps99
    go_wp2_with fail
    refine bodyPost_ret (v := .tuple #[.agg #[.int .i64 1, .int .i64 (sumN x y), .string ⟨#[]⟩, .slice none 0 0], .bool (sumB x y)]) (by simp [results, Try.results99, go_sem, HS3.out, sumN, hl]; try omega) rfl ⟨rfl, ?_⟩
    repeat' (first | exact HBB.out _ _ _ | apply Below.drew | refine Below.setCell ?_ (by simp <;> omega) _)
end Go.Proofs.Ytedfepnekjjmnaa

/-
  What a program is as a term: in plain words. No program in sight.
-/
namespace Go.Proofs.Ytedfepnekjjmnaa
open Go.RowKit
set_option linter.unusedSimpArgs false
set_option linter.unusedVariables false

def vT (n : Int) : T := ⟨5, n, ⟨#[]⟩, []⟩
def dbareB (d : Deed) : Bool := d.name.toList == [] && d.var == 0
def deedT (d : Deed) : T :=
  if d.kind = 1 then tupT [wordT sSend, d.to, d.what] else if d.kind = 2 then tupT [wordT sSpawn, wordT d.name, d.what, vT d.var] else if d.kind = 3 then tupT [wordT sLink, d.to] else if d.kind = 4 then tupT [wordT sStop] else zeroT
def deedOk (d : Deed) : Bool :=
  if d.kind = 1 then dbareB d else if d.kind = 2 then nameB d.name && (decide (0 ≤ d.var) && decide (d.var ≤ 3)) && emptyB d.to else if d.kind = 3 then dbareB d && emptyB d.what else if d.kind = 4 then dbareB d && emptyB d.to && emptyB d.what else false
def clauT (c : Clau) : T := tupT [wordT sOn, c.state, c.message, tupT (c.acts.map deedT), c.next]
def clauOk (c : Clau) : Bool := decide (c.acts.length ≤ 8) && c.acts.all deedOk
def behvT (b : Behv) : T := tupT (wordT sBeh :: wordT b.name :: b.clauses.map clauT)
def behvOk (b : Behv) : Bool := nameB b.name && (decide (1 ≤ b.clauses.length) && decide (b.clauses.length ≤ 6)) && b.clauses.all clauOk
def progT (l : List Behv) : T := tupT (wordT sCode :: l.map behvT)
def progOk (l : List Behv) : Bool := decide (1 ≤ l.length) && decide (l.length ≤ 7) && l.all behvOk
/-- What To answers. -/
def toA (l : List Behv) : T × Int := if progOk l then (if checkE (progT l) = 0 then (progT l, 0) else (zeroT, checkE (progT l))) else (zeroT, 5)
theorem allB_snoc {X : Type} (f : X → Bool) {l : List X} {k : Nat} (hk : k < l.length) : (l.take (k + 1)).all f = ((l.take k).all f && f l[k]) := by
  rw [take_snoc' l k hk, List.all_append]; simp
theorem map_snoc {X Y : Type} (f : X → Y) {l : List X} {k : Nat} (hk : k < l.length) : (l.take (k + 1)).map f = (l.take k).map f ++ [f l[k]] := by
  rw [take_snoc' l k hk, List.map_append]; rfl
theorem bulk_wordT (s : ByteArray) : bulkL [wordT s] = 1 + s.size := by simp [wordT, bulkL_cons, bulkL]
theorem bulk_tupT (l : List T) : bulkL [tupT l] = 1 + bulkL l := by simp [tupT, bulkL_cons, bulkL, ByteArray.size]
theorem bulk_cons2 (t : T) (l : List T) : bulkL (t :: l) = bulkL [t] + bulkL l := bulkL_append [t] l
theorem deedT_bulk (d : Deed) : bulkL [deedT d] ≤ 16 + 2 * deedB d := by
  have h1 : sSend.size = 4 := rfl
  have h2 : sSpawn.size = 5 := rfl
  have h3 : sLink.size = 4 := rfl
  have h4 : sStop.size = 4 := rfl
  have h5 : bulkL [vT d.var] = 1 := by simp [vT, bulkL_cons, bulkL, ByteArray.size]
  have h6 : bulkL [zeroT] = 1 := by simp [zeroT, bulkL_cons, bulkL, ByteArray.size]
  unfold deedT deedB
  split
  · rw [bulk_tupT, bulk_cons2, bulk_cons2 d.to, bulk_wordT]; omega
  split
  · rw [bulk_tupT, bulk_cons2, bulk_cons2 (wordT d.name), bulk_cons2 d.what, bulk_wordT, bulk_wordT]; omega
  split
  · rw [bulk_tupT, bulk_cons2, bulk_wordT]; omega
  split
  · rw [bulk_tupT, bulk_wordT]; omega
  · omega
theorem deedsT_bulk (l : List Deed) : bulkL (l.map deedT) ≤ 18 * deedsB l := by
  induction l with
  | nil => simp [bulkL, deedsB]
  | cons d l ih =>
    have := deedT_bulk d
    have h1 : 1 ≤ deedB d := by unfold deedB; omega
    rw [List.map_cons, bulk_cons2]; simp only [deedsB]; omega
theorem clauT_bulk (c : Clau) : bulkL [clauT c] ≤ 24 * clauB c := by
  have := deedsT_bulk c.acts
  have h1 : sOn.size = 2 := rfl
  unfold clauT clauB
  rw [bulk_tupT, bulk_cons2, bulk_cons2 c.state, bulk_cons2 c.message, bulk_cons2 (tupT _), bulk_tupT, bulk_wordT]
  omega
theorem clausT_bulk (l : List Clau) : bulkL (l.map clauT) ≤ 24 * clausB l := by
  induction l with
  | nil => simp [bulkL, clausB]
  | cons d l ih =>
    have := clauT_bulk d
    rw [List.map_cons, bulk_cons2]; simp only [clausB]; omega
theorem behvT_bulk (b : Behv) : bulkL [behvT b] ≤ 32 * behvB b := by
  have := clausT_bulk b.clauses
  unfold behvT behvB
  rw [bulk_tupT, bulk_cons2, bulk_cons2 (wordT b.name), bulk_wordT, bulk_wordT]
  have h1 : sBeh.size = 3 := rfl
  omega
theorem behvsT_bulk (l : List Behv) : bulkL (l.map behvT) ≤ 32 * behvsB l := by
  induction l with
  | nil => simp [bulkL, behvsB]
  | cons d l ih =>
    have := behvT_bulk d
    rw [List.map_cons, bulk_cons2]; simp only [behvsB]; omega
theorem progT_bulk (l : List Behv) : bulkL [progT l] ≤ 8 + 32 * behvsB l := by
  have := behvsT_bulk l
  unfold progT
  rw [bulk_tupT, bulk_cons2, bulk_wordT]
  have h1 : sCode.size = 4 := rfl
  omega
end Go.Proofs.Ytedfepnekjjmnaa
