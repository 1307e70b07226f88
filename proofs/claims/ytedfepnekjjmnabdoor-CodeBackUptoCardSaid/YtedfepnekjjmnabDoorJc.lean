/-
  Contracts and plain laws, joined: Bound ValP Code1 Deed Blk FitP Fits Fits4 FrameB FromP RbehP FromB Reg Build Rval RvalT Sum Text RText Print Tables ToP BackP SmallC ToldP Val Val5 ValPut ValT ValC Value ClosesP BindP KPut RowG. Conditions stand in each.
-/
import Derived.Deep.MidRow
import Derived.Deep.RegionHeld3
import Derived.Great.BuildSlice
import Derived.Lib.AppendIntMem
import Derived.Deep.DeepCutAuto
import Derived.Test.YtedfepnekjjmnabDoorCards
import Derived.Test.YtedfepnekjjmnabDoorTie
import Derived.Deep.DeepHandedRow
import Derived.Lib.LaidU8
import Derived.Deep.AppendLies
import Derived.Deep.RegionLaw
import Derived.Test.YtedfepnekjjmnabDoorRCheck
import Derived.Test.YtedfepnekjjmnabDoorJa
import Derived.Test.YtedfepnekjjmnabDoorJb
import Derived.Test.YtedfepnekjjmnabDoorDShelf
import Derived.Test.YtedfepnekjjmnabDoorForm
/-
  match.Bound, clerkref.Bound: may these be what variables are bound to? No condition but a bound on how much there is.
-/
namespace Go.Proofs.YtedfepnekjjmnabDoor
open Go.RowKit
set_option linter.unusedSimpArgs false
set_option linter.unusedVariables false

def bndB (t : T) : Bool := checkE t == 0 && (t.kind == 6 || closedL [t])
def boundB (l : List T) : Bool := l.length == 4 && l.all bndB
theorem boundB_any (l : List T) : boundB l = (l.length == 4 && !(l.any fun t => !bndB t)) := by
  rw [boundB]; congr 1; induction l with
  | nil => rfl
  | cons t l ih => simp only [List.all_cons, List.any_cons, Bool.not_or, Bool.not_not, ih]

end Go.Proofs.YtedfepnekjjmnabDoor

/-
  What reckoning answers, in plain words. No program in sight.
-/
namespace Go.Proofs.YtedfepnekjjmnabDoor
set_option linter.unusedSimpArgs false
set_option linter.unusedVariables false

def zeroT : T := ⟨0, 0, ⟨#[]⟩, []⟩
def pidT (n : Int) : T := ⟨3, n, ⟨#[]⟩, []⟩
def sSelf : ByteArray := ⟨#[115, 101, 108, 102]⟩
def sPut : ByteArray := ⟨#[112, 117, 116]⟩
def sAdd : ByteArray := ⟨#[97, 100, 100]⟩
def sumN (a b : T) : Int := Go.RowKit.wrap64 (a.n + b.n)
def sumB (a b : T) : Bool := a.kind == 1 && b.kind == 1 && inB (sumN a b) (-1099511627776) 1099511627776
def sumO (a b : T) : Option T := if sumB a b then some (numT (sumN a b)) else none
def varO (t : T) : Option T := if t.kind == 6 then none else some t
def putO (t : T) : Option T := if closedL [t] then some t else none
def valH (bd : List T) (self : Int) (x : T) (r : Option (List T)) : Option T :=
  if x.kind = 6 then none else if x.kind = 5 then varO (bd.getD x.n.toNat zeroT) else if isT x sSelf 0 then some (pidT self)
  else if isT x sPut 1 then putO (x.args.getD 1 zeroT) else if x.kind ≠ 4 then some x
  else r.bind fun vs => if isT x sAdd 2 then sumO (vs.getD 1 zeroT) (vs.getD 2 zeroT) else some (tupT vs)
def valL (bd : List T) (self : Int) : List T → Option (List T)
  | [] => some []
  | ⟨k, n, s, l⟩ :: ts => (valH bd self ⟨k, n, s, l⟩ (valL bd self l)).bind fun v => (valL bd self ts).map fun vs => v :: vs
def valT (bd : List T) (self : Int) (x : T) : Option T := valH bd self x (valL bd self x.args)
theorem valL_cons (bd : List T) (self : Int) (t : T) (ts : List T) : valL bd self (t :: ts) = (valT bd self t).bind fun v => (valL bd self ts).map fun vs => v :: vs := by
  obtain ⟨k, n, s, l⟩ := t; rw [valL]; rfl
theorem valL_nil (bd : List T) (self : Int) : valL bd self [] = some [] := by rw [valL]
theorem valL_length {bd : List T} {self : Int} {l vs : List T} (h : valL bd self l = some vs) : vs.length = l.length := by
  induction l generalizing vs with
  | nil => rw [valL_nil] at h; cases h; rfl
  | cons t l ih =>
    rw [valL_cons] at h
    obtain ⟨v, hv, h⟩ := Option.bind_eq_some_iff.1 h
    obtain ⟨us, hu, rfl⟩ := Option.map_eq_some_iff.1 h
    simp [ih hu]
theorem valL_append {bd : List T} {self : Int} (a b : List T) : valL bd self (a ++ b) = (valL bd self a).bind fun us => (valL bd self b).map fun vs => us ++ vs := by
  induction a with
  | nil => rw [valL_nil]; simp
  | cons t a ih =>
    rw [List.cons_append, valL_cons, valL_cons, ih]
    cases valT bd self t <;> cases valL bd self a <;> cases valL bd self b <;> rfl
theorem valL_snoc {bd : List T} {self : Int} {l vs : List T} {k : Nat} {t : T} (h : k < l.length) (hp : valL bd self (l.take k) = some vs) (ht : valT bd self l[k] = some t) : valL bd self (l.take (k + 1)) = some (vs ++ [t]) := by
  rw [take_snoc' l k h, valL_append, hp, valL_cons, ht, valL_nil]; rfl
theorem valL_none {bd : List T} {self : Int} {l : List T} {k : Nat} (h : k < l.length) (ht : valT bd self l[k] = none) : valL bd self l = none := by
  have e : l = l.take k ++ (l[k] :: l.drop (k + 1)) := by simp
  rw [e, valL_append, valL_cons, ht]; cases valL bd self (l.take k) <;> rfl

theorem valT_6 {bd : List T} {self : Int} {x : T} (h : x.kind = 6) : valT bd self x = none := by rw [valT, valH, if_pos h]
theorem valT_5 {bd : List T} {self : Int} {x : T} (h : x.kind = 5) {k : Nat} (hk : x.n = k) (hl : k < bd.length) : valT bd self x = varO bd[k] := by
  rw [valT, valH, if_neg (by omega), if_pos h, hk]; simp [hl]
theorem valT_o {bd : List T} {self : Int} {x : T} (h : x.kind ≠ 4) (h5 : x.kind ≠ 5) (h6 : x.kind ≠ 6) : valT bd self x = some x := by
  have e : (x.kind == 4) = false := by simpa using h
  rw [valT, valH, if_neg h6, if_neg h5, isT_kind e, isT_kind e]; simp [h]
theorem valT_self {bd : List T} {self : Int} {x : T} (h : x.kind = 4) (hs : isT x sSelf 0 = true) : valT bd self x = some (pidT self) := by
  rw [valT, valH, if_neg (by omega), if_neg (by omega), if_pos hs]
theorem valT_put {bd : List T} {self : Int} {x : T} (h : x.kind = 4) (hs : isT x sSelf 0 = false) (hp : isT x sPut 1 = true) (hl : 1 < x.args.length) : valT bd self x = putO x.args[1] := by
  rw [valT, valH, if_neg (by omega), if_neg (by omega), if_neg (by simp [hs]), if_pos hp]; simp [hl]
theorem valT_tup {bd : List T} {self : Int} {x : T} (h : x.kind = 4) (hs : isT x sSelf 0 = false) (hp : isT x sPut 1 = false) :
    valT bd self x = (valL bd self x.args).bind fun vs => if isT x sAdd 2 then sumO (vs.getD 1 zeroT) (vs.getD 2 zeroT) else some (tupT vs) := by
  rw [valT, valH, if_neg (by omega), if_neg (by omega), if_neg (by simp [hs]), if_neg (by simp [hp]), if_neg (by simp [h])]
theorem isT_length {x : T} {s : ByteArray} {n : Int} (h : isT x s n = true) : (x.args.length : Int) = n + 1 := by
  simp only [isT, Bool.and_eq_true, decide_eq_true_eq] at h; exact h.1.2

theorem form_var {x : T} (h : formL [x] = true) (hk : x.kind = 5) : ∃ k : Nat, x.n = k ∧ k < 4 := by
  rw [formL_cons] at h
  simp only [Bool.and_eq_true] at h
  have := h.1.1
  simp only [headB, hk] at this
  simp [inB] at this
  exact ⟨x.n.toNat, by omega, by omega⟩
theorem form_args {x : T} (h : formL [x] = true) {y : T} (hy : y ∈ x.args) : formL [y] = true := by
  rw [formL_cons] at h
  simp only [Bool.and_eq_true] at h
  rw [formL_all, List.all_eq_true] at h
  exact h.1.2 y hy
theorem form_rangeK {x : T} (h : formL [x] = true) : 1 ≤ x.kind ∧ x.kind ≤ 6 := by
  rw [formL_cons] at h
  simp only [Bool.and_eq_true] at h
  have := h.1.1
  simp only [headB] at this
  repeat' (split at this)
  all_goals first | omega | simp at this
end Go.Proofs.YtedfepnekjjmnabDoor

/-
  code.rest, atom, word, tuple, empty; clerkref.atom: what they answer. No condition but bounds.
-/
namespace Go.Proofs.YtedfepnekjjmnabDoor
open Go.RowKit
set_option linter.unusedSimpArgs false
set_option linter.unusedVariables false

theorem RTs.shift {S : Nat → Prop} {w : World} {b o : Nat} : ∀ (ts : List T) (i : Nat), RTs S w ts (some ⟨b, o, none⟩) (i + 1) → RTs S w ts (some ⟨b, o + 4, none⟩) i
  | [], _, _ => by simp [RTs]
  | t :: ts, i, h => by
    rw [RTs_cons] at h ⊢
    obtain ⟨⟨b', o', a', cap, e, hS, h0, h1, h2, h3, h4, h5⟩, hr⟩ := h
    simp only [Option.some.injEq, Addr.mk.injEq, and_true] at e
    obtain ⟨rfl, rfl⟩ := e
    have e : o + (i + 1) * 4 = o + 4 + i * 4 := by omega
    rw [e] at h0 h1 h2 h3
    exact ⟨⟨b, o + 4, a', cap, rfl, hS, h0, h1, h2, h3, h4, h5⟩, RTs.shift ts (i + 1) hr⟩
theorem RTs.tail {S : Nat → Prop} {w : World} {b o : Nat} {t : T} {ts : List T} (h : RTs S w (t :: ts) (some ⟨b, o, none⟩) 0) : RTs S w ts (some ⟨b, o + 4, none⟩) 0 := by
  rw [RTs_cons] at h; exact RTs.shift ts 0 h.2
/-- A tuple of a word: what is behind the word. -/
def restL (s : ByteArray) (t : T) : Option (List T) := if t.kind == 4 && headIs s t.args then some t.args.tail else none
theorem restL_some {s : ByteArray} {t : T} {l : List T} (h : restL s t = some l) : bulkL l < bulkL [t] ∧ l = t.args.tail ∧ t.kind = 4 ∧ headIs s t.args = true := by
  unfold restL at h
  split at h
  · rename_i hc
    simp only [Bool.and_eq_true, beq_iff_eq] at hc
    simp only [Option.some.injEq] at h
    refine ⟨?_, h.symm, hc.1, hc.2⟩
    subst h
    have h1 := bulk_args t
    cases e : t.args with
    | nil => rw [e] at h1; simpa using h1
    | cons x r => rw [e] at h1; have : bulkL (x :: r) = bulkL [x] + bulkL r := bulkL_append [x] r; simp only [List.tail_cons]; omega
  · cases h
def RestP (S : Nat → Prop) (w : World) (s : ByteArray) (t : T) (e : Ending) (w' : World) : Prop :=
  ∃ a cap, e = .returned (.tuple #[.slice a ((restL s t).getD []).length cap, .bool (restL s t).isSome]) ∧ Below w.heap.size w w' ∧ RSl S w' ((restL s t).getD []) (.slice a ((restL s t).getD []).length cap)
theorem RestP.no {S : Nat → Prop} {w : World} {s : ByteArray} {t : T} {e : Ending} {w' : World} (h : restL s t = none) (he : e = .returned (.tuple #[.slice none 0 0, .bool false])) (hB : Below w.heap.size w w') : RestP S w s t e w' := by
  refine ⟨none, 0, by rw [h]; exact he, hB, ?_⟩
  rw [h]
  exact ⟨none, 0, rfl, ⟨Nat.le_refl _, fun _ => rfl⟩, by simp [RTs]⟩

set_option maxHeartbeats 1000000 in
theorem crest_c (t : T) (s : ByteArray) (S : Nat → Prop) (w : World) (v : Value) (hv : RT S w t v) (hb : bulkL [t] ≤ 1099511627776) : Calls Tryd.prog 40 #[v, .string s] w (RestP S w s t) := by
  obtain ⟨a, cap, rfl, hc, hr⟩ := hv
  have hba := bulk_args t
  have hla := length_le_bulk t.args
  have hca := hc.1
  have HC := Lib.hid hc
  have HR := Lib.hid hr; clear hr hc
  cases h1 : (t.kind == 4)
  · have H1 := Lib.hid (show restL s t = none by rw [restL, h1]; rfl)
    have h1' : (t.kind != 4) = true := by simpa using h1
    go_enter Tryd.func40, Tryd.ntmps40
    go_wp2_with fail
    refine bodyPost_ret (v := .tuple #[.slice none 0 0, .bool false]) (by simp [results, Tryd.results40, go_sem]) rfl ?_
    exact RestP.no H1.out rfl (below_alloc _ _)
  have h1' : (t.kind != 4) = false := by simpa using h1
  by_cases h2 : t.args.length = 0
  · have H1 := Lib.hid (show restL s t = none by rw [restL, List.eq_nil_of_length_eq_zero h2]; simp [headIs])
    have h2' : ((t.args.length : Int) == 0) = true := by simp [h2]
    have H2 := Lib.hid h2
    clear h2
    go_enter Tryd.func40, Tryd.ntmps40
    go_wp2_with fail
    refine bodyPost_ret (v := .tuple #[.slice none 0 0, .bool false]) (by simp [results, Tryd.results40, go_sem]) rfl ?_
    exact RestP.no H1.out rfl (below_alloc _ _)
  have hpos : 0 < t.args.length := by omega
  have h2' : ((t.args.length : Int) == 0) = false := by rw [beq_eq_false_iff_ne]; omega
  obtain ⟨b, o, rfl⟩ := HR.out.addr hpos
  obtain ⟨y, r, hyr⟩ : ∃ y r, t.args = y :: r := by cases e : t.args with | nil => rw [e] at hpos; cases hpos | cons y r => exact ⟨y, r, rfl⟩
  have HT := Lib.hid (by have := HR.out; rw [hyr] at this; exact this.tail)
  obtain ⟨a', cap', hSb, d0, d1, d2, d3, hE⟩ := (HR.out.alloc (.cells #[.int .i64 t.kind, .int .i64 t.n, .string t.name, .slice (some ⟨b, o, none⟩) t.args.length cap] 24)).elem 0 hpos
  clear hE h2
  have hy : t.args[0] = y := by simp [hyr]
  have HL := Lib.hid (show t.args.length = r.length + 1 by rw [hyr]; rfl)
  simp only [Nat.zero_mul, Nat.add_zero, hy] at d0 d1 d2 d3
  have H1 := Lib.hid (show restL s t = if y.kind == 2 && y.name.toList == s.toList then some r else none by rw [restL, h1, hyr]; rfl)
  clear hyr hy
  cases h3 : (y.kind == 2)
  · have h3' : (y.kind != 2) = true := by simpa using h3
    have H2 := Lib.hid (show restL s t = none by rw [H1.out, h3]; rfl)
    go_enter Tryd.func40, Tryd.ntmps40
    go_wp2_with fail
    refine bodyPost_ret (v := .tuple #[.slice none 0 0, .bool false]) (by simp [results, Tryd.results40, go_sem]) rfl ?_
    exact RestP.no H2.out rfl (below_alloc _ _)
  have h3' : (y.kind != 2) = false := by simpa using h3
  cases h4 : (y.name.toList == s.toList)
  · have H2 := Lib.hid (show restL s t = none by rw [H1.out, h3, h4]; rfl)
    go_enter Tryd.func40, Tryd.ntmps40
    go_wp2_with fail
    refine bodyPost_ret (v := .tuple #[.slice none 0 0, .bool false]) (by simp [results, Tryd.results40, go_sem]) rfl ?_
    exact RestP.no H2.out rfl (below_alloc _ _)
  · have H2 := Lib.hid (show restL s t = some r by rw [H1.out, h3, h4]; rfl)
    have hone : (1 : Int) ≤ t.args.length := by omega
    have hcap : (t.args.length : Int) ≤ cap := by omega
    go_enter Tryd.func40, Tryd.ntmps40
    go_wp2_with fail
    · have hr0 : r = [] := List.eq_nil_of_length_eq_zero (by have := HL.out; omega)
      refine bodyPost_ret (v := .tuple #[.slice (some ⟨b, o, none⟩) (t.args.length - 1) 0, .bool true]) (by simp [results, Tryd.results40, go_sem]) rfl ⟨some ⟨b, o, none⟩, 0, ?_, below_alloc _ _, ?_⟩
      · rw [H2.out, HL.out]; rfl
      · rw [H2.out, hr0]
        exact ⟨_, 0, rfl, ⟨Nat.le_refl _, fun _ => rfl⟩, by simp [RTs]⟩
    · refine bodyPost_ret (v := .tuple #[.slice (some ⟨b, o + 4, none⟩) (t.args.length - 1) (cap - 1), .bool true]) (by simp [results, Tryd.results40, go_sem]) rfl ⟨some ⟨b, o + 4, none⟩, cap - 1, ?_, below_alloc _ _, ?_⟩
      · rw [H2.out, HL.out]; rfl
      · rw [H2.out]
        exact ⟨_, _, rfl, ⟨by have := HL.out; simp; omega, fun e => by cases e⟩, HT.out.alloc _⟩
set_option maxHeartbeats 400000 in
theorem catom_c (t : T) (a : Option Addr) (cap : Nat) (w : World) : Calls Tryd.prog 56 #[.agg #[.int .i64 t.kind, .int .i64 t.n, .string t.name, .slice a t.args.length cap]] w fun e w' => e = .returned (.tuple #[.string t.name, .bool (t.kind == 2)]) ∧ Below w.heap.size w w' := by
  go_enter Tryd.func56, Tryd.ntmps56
  go_wp2_with fail
  go_quiet (fail)
  go_wp2_with fail
  all_goals (refine bodyPost_ret (v := .tuple #[.string t.name, .bool (t.kind == 2)]) (by simp [results, Tryd.results56, go_sem]) rfl ⟨rfl, ?_⟩)
  all_goals exact (below_alloc _ _).trans ⟨rfl, rfl, rfl, Nat.le_refl _, fun _ _ => rfl⟩
set_option maxHeartbeats 400000 in
theorem word_cword (s : ByteArray) (w : World) : Calls Tryd.prog 37 #[.string s] w fun e w' => e = .returned (.agg #[.int .i64 2, .int .i64 0, .string s, .slice none 0 0]) ∧ Below w.heap.size w w' := by
  go_enter Tryd.func37, Tryd.ntmps37
  go_wp2_with fail
  exact bodyPost_ret (v := .agg #[.int .i64 2, .int .i64 0, .string s, .slice none 0 0]) (by simp [results, Tryd.results37, go_sem]) rfl ⟨rfl, below_alloc _ _⟩
set_option maxHeartbeats 400000 in
theorem word_Ratom (s : ByteArray) (w : World) : Calls Tryd.prog 59 #[.string s] w fun e w' => e = .returned (.agg #[.int .i64 2, .int .i64 0, .string s, .slice none 0 0]) ∧ Below w.heap.size w w' := by
  go_enter Tryd.func59, Tryd.ntmps59
  go_wp2_with fail
  exact bodyPost_ret (v := .agg #[.int .i64 2, .int .i64 0, .string s, .slice none 0 0]) (by simp [results, Tryd.results59, go_sem]) rfl ⟨rfl, below_alloc _ _⟩
set_option maxHeartbeats 400000 in
theorem ctuple_c (a : Option Addr) (n cap : Nat) (w : World) : Calls Tryd.prog 36 #[.slice a n cap] w fun e w' => e = .returned (.agg #[.int .i64 4, .int .i64 0, .string ⟨#[]⟩, .slice a n cap]) ∧ Below w.heap.size w w' := by
  go_enter Tryd.func36, Tryd.ntmps36
  go_wp2_with fail
  exact bodyPost_ret (v := .agg #[.int .i64 4, .int .i64 0, .string ⟨#[]⟩, .slice a n cap]) (by simp [results, Tryd.results36, go_sem]) rfl ⟨rfl, below_alloc _ _⟩
set_option maxHeartbeats 400000 in
theorem cwithin_c (n lo hi : Int) (w : World) : Calls Tryd.prog 38 #[.int .i64 n, .int .i64 lo, .int .i64 hi] w fun e w' => e = .returned (.bool (decide (lo ≤ n) && decide (n ≤ hi))) ∧ w' = w := by
  by_cases h1 : lo ≤ n <;> by_cases h2 : n ≤ hi <;> simp only [h1, h2, decide_true, decide_false]
  all_goals
    go_enter Tryd.func38, Tryd.ntmps38
    go_wp2_with fail
    go_ret
    exact ⟨rfl, rfl⟩
/-- Is it no term at all? -/
def emptyB (t : T) : Bool := t.kind == 0 && t.n == 0 && t.name.toList == [] && decide (t.args.length = 0)
theorem emptyB_iff (t : T) : emptyB t = true ↔ t = zeroT := by
  obtain ⟨k, n, s, l⟩ := t
  simp only [emptyB, Bool.and_eq_true, beq_iff_eq, decide_eq_true_eq, zeroT, T.mk.injEq, List.length_eq_zero_iff]
  constructor
  · rintro ⟨⟨⟨h1, h2⟩, h3⟩, h4⟩
    exact ⟨h1, h2, ba_ext (by rw [← Lib.toList_data, h3]), h4⟩
  · rintro ⟨h1, h2, rfl, h4⟩
    exact ⟨⟨⟨h1, h2⟩, by rw [Lib.toList_data]⟩, h4⟩
set_option maxHeartbeats 1000000 in
theorem cempty_c (t : T) (a : Option Addr) (cap : Nat) (w : World) : Calls Tryd.prog 64 #[.agg #[.int .i64 t.kind, .int .i64 t.n, .string t.name, .slice a t.args.length cap]] w fun e w' => e = .returned (.bool (emptyB t)) ∧ Below w.heap.size w w' := by
  obtain ⟨q, hq⟩ : ∃ q, decide (t.args.length = 0) = q := ⟨_, rfl⟩
  have h4 : ((t.args.length : Int) == 0) = q := by
    rw [← hq]
    by_cases h : t.args.length = 0
    · simp [h]
    · rw [decide_eq_false h, beq_eq_false_iff_ne]; omega
  cases h1 : (t.kind == 0) <;> cases h2 : (t.n == 0) <;> cases h3 : (t.name.toList == ([] : List UInt8)) <;> cases q
  all_goals
    have HE := Lib.hid (show emptyB t = _ from by rw [emptyB, h1, h2, h3, hq])
    clear hq
    go_enter Tryd.func64, Tryd.ntmps64
    go_wp2_with fail
    go_ret
    exact ⟨ret_bool (by rw [HE.out]; first | rfl | (rw [h4]; rfl)), below_alloc _ _⟩
end Go.Proofs.YtedfepnekjjmnabDoor

/-
  Acts, clauses, behaviours as data, and how they lie. No condition.
-/
namespace Go.Proofs.YtedfepnekjjmnabDoor
open Go.RowKit
set_option linter.unusedSimpArgs false
set_option linter.unusedVariables false

structure Deed where
  kind : Int
  «to» : T
  what : T
  name : ByteArray
  var : Int
structure Clau where
  state : T
  message : T
  acts : List Deed
  next : T
structure Behv where
  name : ByteArray
  clauses : List Clau
def deedB (d : Deed) : Nat := 1 + bulkL [d.to] + bulkL [d.what] + d.name.size
def deedsB : List Deed → Nat
  | [] => 0
  | d :: l => deedB d + deedsB l
def clauB (c : Clau) : Nat := 1 + bulkL [c.state] + bulkL [c.message] + deedsB c.acts + bulkL [c.next]
def clausB : List Clau → Nat
  | [] => 0
  | c :: l => clauB c + clausB l
def behvB (b : Behv) : Nat := 1 + b.name.size + clausB b.clauses
def behvsB : List Behv → Nat
  | [] => 0
  | b :: l => behvB b + behvsB l
theorem deedsB_len (l : List Deed) : l.length ≤ deedsB l := by
  induction l with
  | nil => simp [deedsB]
  | cons d l ih => simp only [deedsB, deedB, List.length_cons]; omega
theorem clausB_len (l : List Clau) : l.length ≤ clausB l := by
  induction l with
  | nil => simp [clausB]
  | cons d l ih => simp only [clausB, clauB, List.length_cons]; omega
theorem behvsB_len (l : List Behv) : l.length ≤ behvsB l := by
  induction l with
  | nil => simp [behvsB]
  | cons d l ih => simp only [behvsB, behvB, List.length_cons]; omega
theorem deedsB_mem {l : List Deed} {d : Deed} (h : d ∈ l) : deedB d ≤ deedsB l := by
  induction l with
  | nil => cases h
  | cons e l ih =>
    rcases List.mem_cons.1 h with rfl | h
    · simp only [deedsB]; omega
    · have := ih h; simp only [deedsB]; omega
theorem clausB_mem {l : List Clau} {d : Clau} (h : d ∈ l) : clauB d ≤ clausB l := by
  induction l with
  | nil => cases h
  | cons e l ih =>
    rcases List.mem_cons.1 h with rfl | h
    · simp only [clausB]; omega
    · have := ih h; simp only [clausB]; omega
theorem behvsB_mem {l : List Behv} {d : Behv} (h : d ∈ l) : behvB d ≤ behvsB l := by
  induction l with
  | nil => cases h
  | cons e l ih =>
    rcases List.mem_cons.1 h with rfl | h
    · simp only [behvsB]; omega
    · have := ih h; simp only [behvsB]; omega
def zeroD : Deed := ⟨0, zeroT, zeroT, ⟨#[]⟩, 0⟩

def deedC (S : Nat → Prop) (w : World) (d : Deed) (cs : List Value) : Prop :=
  ∃ a1 p1 a2 p2, cs = [.int .i64 d.kind, .int .i64 d.to.kind, .int .i64 d.to.n, .string d.to.name, .slice a1 d.to.args.length p1, .int .i64 d.what.kind, .int .i64 d.what.n, .string d.what.name, .slice a2 d.what.args.length p2, .string d.name, .int .i64 d.var] ∧
    RT S w d.to (.agg #[.int .i64 d.to.kind, .int .i64 d.to.n, .string d.to.name, .slice a1 d.to.args.length p1]) ∧ RT S w d.what (.agg #[.int .i64 d.what.kind, .int .i64 d.what.n, .string d.what.name, .slice a2 d.what.args.length p2])
def deedE : El Deed where
  k := 11
  C := deedC
  len := by rintro S w x cs ⟨a1, p1, a2, p2, rfl, -⟩; rfl
  one := by rintro S w x cs ⟨a1, p1, a2, p2, rfl, -⟩; simp [Value.oneCell']
  «to» := by rintro S S' w w' x cs ⟨a1, p1, a2, p2, rfl, h1, h2⟩ hs hc; exact ⟨a1, p1, a2, p2, rfl, h1.to hs hc, h2.to hs hc⟩
def clauC (S : Nat → Prop) (w : World) (c : Clau) (cs : List Value) : Prop :=
  ∃ a1 p1 a2 p2 a3 p3 a4 p4, cs = [.int .i64 c.state.kind, .int .i64 c.state.n, .string c.state.name, .slice a1 c.state.args.length p1, .int .i64 c.message.kind, .int .i64 c.message.n, .string c.message.name, .slice a2 c.message.args.length p2,
      .slice a3 c.acts.length p3, .int .i64 c.next.kind, .int .i64 c.next.n, .string c.next.name, .slice a4 c.next.args.length p4] ∧
    RT S w c.state (.agg #[.int .i64 c.state.kind, .int .i64 c.state.n, .string c.state.name, .slice a1 c.state.args.length p1]) ∧ RT S w c.message (.agg #[.int .i64 c.message.kind, .int .i64 c.message.n, .string c.message.name, .slice a2 c.message.args.length p2]) ∧
    RX deedE S S w c.acts (.slice a3 c.acts.length p3) ∧ RT S w c.next (.agg #[.int .i64 c.next.kind, .int .i64 c.next.n, .string c.next.name, .slice a4 c.next.args.length p4])
def clauE : El Clau where
  k := 13
  C := clauC
  len := by rintro S w x cs ⟨a1, p1, a2, p2, a3, p3, a4, p4, rfl, -⟩; rfl
  one := by rintro S w x cs ⟨a1, p1, a2, p2, a3, p3, a4, p4, rfl, -⟩; simp [Value.oneCell']
  «to» := by rintro S S' w w' x cs ⟨a1, p1, a2, p2, a3, p3, a4, p4, rfl, h1, h2, h3, h4⟩ hs hc; exact ⟨a1, p1, a2, p2, a3, p3, a4, p4, rfl, h1.to hs hc, h2.to hs hc, h3.to hs hs fun b hb => hc b (hb.elim id id), h4.to hs hc⟩
def behvC (S : Nat → Prop) (w : World) (b : Behv) (cs : List Value) : Prop :=
  ∃ a p, cs = [.string b.name, .slice a b.clauses.length p] ∧ RX clauE S S w b.clauses (.slice a b.clauses.length p)
def behvE : El Behv where
  k := 2
  C := behvC
  len := by rintro S w x cs ⟨a1, p1, rfl, -⟩; rfl
  one := by rintro S w x cs ⟨a1, p1, rfl, -⟩; simp [Value.oneCell']
  «to» := by rintro S S' w w' x cs ⟨a1, p1, rfl, h3⟩ hs hc; exact ⟨a1, p1, rfl, h3.to hs hs fun b hb => hc b (hb.elim id id)⟩
def deedF : ElT deedE where
  e := 76
  sl := 77
  bytes := 144
  z := .agg #[.int .i64 0, .int .i64 0, .int .i64 0, .string ⟨#[]⟩, .slice none 0 0, .int .i64 0, .int .i64 0, .string ⟨#[]⟩, .slice none 0 0, .string ⟨#[]⟩, .int .i64 0]
  hund := Tryd.underlying77
  info := by kernel_rfl
  hzs := rfl
  hk := by decide
  hb := by decide
def clauF : ElT clauE where
  e := 79
  sl := 60
  bytes := 192
  z := .agg #[.int .i64 0, .int .i64 0, .string ⟨#[]⟩, .slice none 0 0, .int .i64 0, .int .i64 0, .string ⟨#[]⟩, .slice none 0 0, .slice none 0 0, .int .i64 0, .int .i64 0, .string ⟨#[]⟩, .slice none 0 0]
  hund := Tryd.underlying60
  info := by kernel_rfl
  hzs := rfl
  hk := by decide
  hb := by decide
def behvF : ElT behvE where
  e := 62
  sl := 37
  bytes := 40
  z := .agg #[.string ⟨#[]⟩, .slice none 0 0]
  hund := Tryd.underlying37
  info := by kernel_rfl
  hzs := rfl
  hk := by decide
  hb := by decide
/-- A variable's block: its cells. -/
structure Blk (w : World) (B : Nat) (cs : List Value) : Prop where
  lt : B < w.heap.size
  cell : ∀ j u, cs[j]? = some u → w.cell? ⟨B, j, none⟩ = some u
  fr : ∀ o, w.frozen? ⟨B, o, none⟩ = false
theorem Blk.below {w w' : World} {B N : Nat} {cs : List Value} (h : Blk w B cs) (hB : Below N w w') (hN : B < N) : Blk w' B cs :=
  ⟨Nat.lt_of_lt_of_le h.lt hB.size, fun j u hu => (hB.cell (p := ⟨B, j, none⟩) hN).trans (h.cell j u hu), fun o => (hB.frozen (p := ⟨B, o, none⟩) hN).trans (h.fr o)⟩
theorem Blk.step {w w' : World} {B : Nat} {cs : List Value} (h : Blk w B cs) (hB : Below w.heap.size w w') : Blk w' B cs := h.below hB h.lt
theorem Blk.alloc {w : World} {B : Nat} {cs : List Value} (h : Blk w B cs) (o : Obj) : Blk (w.alloc o) B cs := h.step (below_alloc w o)
theorem Blk.new (w : World) (c : Array Value) (e : TypeId) (B : Nat) (hB : B = w.heap.size) : Blk (w.alloc (.cells c e)) B c.toList := by
  subst hB
  exact ⟨by simp, fun j u hu => by rw [World.cell?_alloc_new]; simpa using hu, fun o => frozen_of_row _ _ o c e (heap_alloc_new w _)⟩
/-- A variable's cells written, one by one. -/
def setAll (w : World) (B : Nat) : Nat → List Value → World
  | _, [] => w
  | i, c :: cs => setAll (w.setCell ⟨B, i, none⟩ c) B (i + 1) cs
theorem setAll_heap (w : World) (B : Nat) : ∀ (cs : List Value) (i : Nat), (setAll w B i cs).heap.size = w.heap.size ∧ ∀ b, b ≠ B → (setAll w B i cs).heap[b]? = w.heap[b]? := by
  intro cs
  induction cs generalizing w with
  | nil => intro i; exact ⟨rfl, fun _ _ => rfl⟩
  | cons c cs ih =>
    intro i
    obtain ⟨h1, h2⟩ := ih (w.setCell ⟨B, i, none⟩ c) (i + 1)
    exact ⟨by rw [setAll, h1]; simp, fun b hb => by rw [setAll, h2 b hb, setCell_other _ _ _ _ _ hb]⟩
theorem setAll_below {N : Nat} {a w : World} (h : Below N a w) (B : Nat) (hB : N ≤ B) : ∀ (cs : List Value) (i : Nat), Below N a (setAll w B i cs) := by
  intro cs
  induction cs generalizing w with
  | nil => intro i; exact h
  | cons c cs ih => intro i; exact ih (h.setCell (p := ⟨B, i, none⟩) hB c) (i + 1)
theorem Blk.set {w : World} {B : Nat} {cs : List Value} (h : Blk w B cs) (i : Nat) (c : Value) (hi : i < cs.length) : Blk (w.setCell ⟨B, i, none⟩ c) B (cs.set i c) := by
  refine ⟨by have := h.lt; simpa using this, fun j u hu => ?_, fun o => ?_⟩
  · rw [List.getElem?_set] at hu
    split at hu
    · rename_i e
      subst e
      have h0 := h.cell i cs[i] (by simp)
      rw [World.cell?_setCell_same _ _ _ h0]; exact hu
    · rename_i e
      rw [World.cell?_setCell_other _ _ _ _ (by simp only [ne_eq, Addr.mk.injEq, and_true, true_and]; exact fun h => e h)]
      exact h.cell j u hu
  · have := h.fr o
    go_simp
theorem Blk.all {w : World} {B : Nat} : ∀ (cs pre old : List Value), Blk w B (pre ++ old) → cs.length = old.length → Blk (setAll w B pre.length cs) B (pre ++ cs)
  | [], pre, old, h, hl => by
    obtain rfl : old = [] := List.eq_nil_of_length_eq_zero hl.symm
    exact h
  | c :: cs, pre, o :: old, h, hl => by
    have h1 := h.set pre.length c (by simp)
    have e : (pre ++ o :: old).set pre.length c = (pre ++ [c]) ++ old := by simp
    rw [e] at h1
    have h2 := Blk.all (w := w.setCell ⟨B, pre.length, none⟩ c) cs (pre ++ [c]) old h1 (by simpa using hl)
    simpa [setAll] using h2
  | c :: cs, pre, [], h, hl => by cases hl
theorem Blk.stored {w : World} {B : Nat} {old : List Value} (h : Blk w B old) (cs : List Value) (hl : cs.length = old.length) : Blk (setAll w B 0 cs) B cs := by
  simpa using Blk.all cs [] old (by simpa using h) hl
end Go.Proofs.YtedfepnekjjmnabDoor

/-
  A struct variable stored, read and handed back whole. No condition.
-/
namespace Go.Proofs.YtedfepnekjjmnabDoor
open Go.RowKit
set_option linter.unusedSimpArgs false
set_option linter.unusedVariables false

theorem Blk.range {w : World} {B : Nat} {cs : List Value} (h : Blk w B cs) : w.rangeAt B 0 cs := fun j v hv => by rw [Nat.zero_add]; exact h.cell j v hv
theorem Blk.there {w : World} {B : Nat} {cs : List Value} (h : Blk w B cs) : w.there B 0 cs.length := fun j hj => by
  rw [Nat.zero_add, h.cell j cs[j] (by simp [hj])]
  exact ⟨rfl, h.fr j⟩
theorem setCells_all (w : World) (B : Nat) : ∀ (cs : List Value) (i : Nat), w.setCells B i cs = setAll w B i cs := by
  intro cs
  induction cs generalizing w with
  | nil => intro i; rfl
  | cons c cs ih => intro i; rw [setAll, ← ih]; rfl
section
variable {ops : Array Oper} {rest : List Oper} {o : Oper} {a : Act} {Q : Exit → Act → World → Prop} {w : World}
/-- 'x = v' of a struct variable. -/
theorem store_blk (ty : TypeId) (k : Nat) (hi : (Tryd.prog.info? ty).map (·.size) = some k) (x y : Operand) (hgd : o.guard = none) (ho : o.op = .store ty x y) (hd : o.dst = none)
    {B : Nat} {old : List Value} {cells : Array Value} (hx : a.eval x = .pointer (some ⟨B, 0, none⟩)) (hy : a.eval y = .agg cells) (hB : Blk w B old) (hl : old.length = k) (hc : cells.size = k) (h1 : cells.toList.all (·.oneCell') = true)
    (h : ∀ w', Blk w' B cells.toList → w'.heap.size = w.heap.size → (∀ N a, N ≤ B → Below N a w → Below N a w') → (∀ b, b ≠ B → w'.heap[b]? = w.heap[b]?) → wpList Tryd.prog ops Q rest a w') :
    wpList Tryd.prog ops Q (o :: rest) a w := by
  have hk : old.length = cells.size := by omega
  refine wpList_store_mid hgd ty x y ho B 0 cells hx hy (by rw [← hk]; exact hB.there) (by rw [hi, hc]) (by rw [← Array.all_toList]; exact h1) ?_
  rw [hd, setCells_all]
  have hs := setAll_heap w B cells.toList 0
  exact h _ (hB.stored _ (by simpa using hk.symm)) hs.1 (fun N a hN hb => setAll_below hb B hN _ _) hs.2
/-- The same at a step of a region that draws its order. -/
theorem step_store_blk {K : Act → World → Prop} {E : Prop} (ty : TypeId) (k : Nat) (hi : (Tryd.prog.info? ty).map (·.size) = some k) (x y : Operand) (hgd : o.guard = none) (ho : o.op = .store ty x y) (hd : o.dst = none)
    {B : Nat} {old : List Value} {cells : Array Value} (hx : a.eval x = .pointer (some ⟨B, 0, none⟩)) (hy : a.eval y = .agg cells) (hB : Blk w B old) (hl : old.length = k) (hc : cells.size = k) (h1 : cells.toList.all (·.oneCell') = true)
    (h : ∀ w', Blk w' B cells.toList → w'.heap.size = w.heap.size → (∀ N a, N ≤ B → Below N a w → Below N a w') → (∀ b, b ≠ B → w'.heap[b]? = w.heap[b]?) → K a w') :
    if Region.wanted o (yielded ops a.tmps) = true then Oper.wp Tryd.prog o a w K Q else E := by
  have hk : old.length = cells.size := by omega
  have hw : Region.wanted o (yielded ops a.tmps) = true := by simp [Region.wanted, hgd]
  rw [if_pos hw]
  refine wp_store_mid ty x y ho B 0 cells hx hy (by rw [← hk]; exact hB.there) (by rw [hi, hc]) (by rw [← Array.all_toList]; exact h1) ?_
  rw [hd, setCells_all]
  have hs := setAll_heap w B cells.toList 0
  exact h _ (hB.stored _ (by simpa using hk.symm)) hs.1 (fun N a hN hb => setAll_below hb B hN _ _) hs.2
/-- 'x' of a struct variable, whole. -/
theorem load_blk (ty : TypeId) (k : Nat) (hi : (Tryd.prog.info? ty).map (·.size) = some k) (d : TypeDesc) (hu : Tryd.prog.underlying ty = some d) (hr : d.isRow = true) (x : Operand) (hgd : o.guard = none) (ho : o.op = .load ty x)
    {B : Nat} {cs : List Value} (hx : a.eval x = .pointer (some ⟨B, 0, none⟩)) (hB : Blk w B cs) (hl : cs.length = k)
    (h : wpList Tryd.prog ops Q rest (a.put o.dst (.agg cs.toArray)) w) : wpList Tryd.prog ops Q (o :: rest) a w :=
  wpList_load_mid hgd ty x ho B 0 hx cs d hB.range hu hr (by rw [hi, hl]) h
end
/-- A struct and something else, handed back. -/
theorem results_blk {fn : Func} {t s : Tmp} {ty k : Nat} (h : fn.results = #[.cell t ty, .tmp s]) (hi : (Tryd.prog.info? ty).map (·.size) = some k) (d : TypeDesc) (hu : Tryd.prog.underlying ty = some d) (hr : d.isRow = true)
    {tmps : Array Value} {w : World} {B : Nat} {cs : List Value} (hx : tmps.getD t undef = .pointer (some ⟨B, 0, none⟩)) (hB : Blk w B cs) (hl : cs.length = k) :
    (results fn tmps).run Tryd.prog w = .ok (.tuple #[.agg cs.toArray, tmps.getD s undef]) w := by
  have h1 := run_loadVar_mid (P := Tryd.prog) w B 0 ty cs d hB.range hu hr (by rw [hi, hl])
  have h2 : (asAddr (tmps.getD t undef)).run Tryd.prog w = .ok ⟨B, 0, none⟩ w := by rw [hx]; rfl
  simp only [Array.getD_eq_getD_getElem?] at h2 ⊢
  simp [results, h, h1, h2]
theorem szDeed : (Tryd.prog.info? 76).map (·.size) = some 11 := by kernel_rfl
theorem szClau : (Tryd.prog.info? 79).map (·.size) = some 13 := by kernel_rfl
theorem szBeh : (Tryd.prog.info? 62).map (·.size) = some 2 := by kernel_rfl
theorem szTerm : (Tryd.prog.info? 24).map (·.size) = some 4 := by kernel_rfl
end Go.Proofs.YtedfepnekjjmnabDoor

/-
  What fits, in plain words. No program in sight.
-/
namespace Go.Proofs.YtedfepnekjjmnabDoor
set_option linter.unusedSimpArgs false
set_option linter.unusedVariables false

def fitH (p t : T) (b : List T) (r : Bool × List T) : Bool × List T :=
  if p.kind = 6 then (true, b)
  else if p.kind = 5 then (if (b.getD p.n.toNat zeroT).kind = 6 then (true, b.set p.n.toNat t) else (sameT (b.getD p.n.toNat zeroT) t, b))
  else if p.kind = 4 then (if t.kind = 4 ∧ p.args.length = t.args.length then r else (false, b))
  else (sameT p t, b)
def fitL : List T → List T → List T → Bool × List T
  | ⟨k, n, s, l⟩ :: ps, t :: ts, b =>
    if (fitH ⟨k, n, s, l⟩ t b (fitL l t.args b)).1 then fitL ps ts (fitH ⟨k, n, s, l⟩ t b (fitL l t.args b)).2 else fitH ⟨k, n, s, l⟩ t b (fitL l t.args b)
  | [], _, b => (true, b)
  | _, [], b => (true, b)
def fitT (p t : T) (b : List T) : Bool × List T := fitH p t b (fitL p.args t.args b)
theorem fitL_cons (p t : T) (ps ts b : List T) : fitL (p :: ps) (t :: ts) b = if (fitT p t b).1 then fitL ps ts (fitT p t b).2 else fitT p t b := by
  obtain ⟨k, n, s, l⟩ := p; rw [fitL]; rfl
theorem fitL_nil (ts b : List T) : fitL [] ts b = (true, b) := by rw [fitL]
theorem fitL_one (p t : T) (b : List T) : fitL [p] [t] b = fitT p t b := by
  rw [fitL_cons, fitL_nil]; split
  · rename_i h; rw [← h]
  · rfl
theorem fitL_yes {p t : T} {ps ts b : List T} (h : (fitT p t b).1 = true) : fitL (p :: ps) (t :: ts) b = fitL ps ts (fitT p t b).2 := by rw [fitL_cons, if_pos h]
theorem fitL_no {p t : T} {ps ts b : List T} (h : (fitT p t b).1 = false) : fitL (p :: ps) (t :: ts) b = fitT p t b := by rw [fitL_cons, if_neg (by simp [h])]
theorem fitL_append {ps ts qs us : List T} (hl : ps.length = ts.length) (b : List T) : fitL (ps ++ qs) (ts ++ us) b = if (fitL ps ts b).1 then fitL qs us (fitL ps ts b).2 else fitL ps ts b := by
  induction ps generalizing ts b with
  | nil =>
    have : ts = [] := List.eq_nil_of_length_eq_zero (by simpa using hl.symm)
    subst this; rw [fitL_nil]; simp
  | cons p ps ih =>
    cases ts with
    | nil => simp at hl
    | cons t ts =>
      simp only [List.cons_append, fitL_cons]
      cases h : (fitT p t b).1
      · simp [h]
      · simp only [if_true]; exact ih (by simpa using hl) _

theorem fitL_snoc {ps ts b : List T} {k : Nat} (h : (fitL (ps.take k) (ts.take k) b).1 = true) (h1 : k < ps.length) (h2 : k < ts.length) : fitL (ps.take (k + 1)) (ts.take (k + 1)) b = fitT ps[k] ts[k] (fitL (ps.take k) (ts.take k) b).2 := by
  rw [take_snoc' ps k h1, take_snoc' ts k h2, fitL_append (by simp; omega), if_pos h, fitL_one]
theorem fitL_fail {ps ts b : List T} {k : Nat} (h : (fitL (ps.take k) (ts.take k) b).1 = true) (h1 : k < ps.length) (h2 : k < ts.length) (hf : (fitT ps[k] ts[k] (fitL (ps.take k) (ts.take k) b).2).1 = false) :
    fitL ps ts b = fitT ps[k] ts[k] (fitL (ps.take k) (ts.take k) b).2 := by
  have e1 : ps = ps.take k ++ (ps[k] :: ps.drop (k + 1)) := by simp
  have e2 : ts = ts.take k ++ (ts[k] :: ts.drop (k + 1)) := by simp
  have e3 : fitL ps ts b = fitL (ps.take k ++ (ps[k] :: ps.drop (k + 1))) (ts.take k ++ (ts[k] :: ts.drop (k + 1))) b := by rw [← e1, ← e2]
  rw [e3, fitL_append (by simp; omega), if_pos h, fitL_no hf]

section
variable {p t : T} {b : List T}
theorem fitT_6 (h : p.kind = 6) : fitT p t b = (true, b) := by rw [fitT, fitH, if_pos h]
theorem fitT_5a {k : Nat} (h : p.kind = 5) (hk : p.n = k) (hl : k < b.length) (h6 : b[k].kind = 6) : fitT p t b = (true, b.set k t) := by
  rw [fitT, fitH, if_neg (by omega), if_pos h, hk]; simp [hl, h6]
theorem fitT_5b {k : Nat} (h : p.kind = 5) (hk : p.n = k) (hl : k < b.length) (h6 : b[k].kind ≠ 6) : fitT p t b = (sameT b[k] t, b) := by
  rw [fitT, fitH, if_neg (by omega), if_pos h, hk]; simp [hl, h6]
theorem fitT_4a (h : p.kind = 4) (h1 : t.kind = 4) (h2 : p.args.length = t.args.length) : fitT p t b = fitL p.args t.args b := by
  rw [fitT, fitH, if_neg (by omega), if_neg (by omega), if_pos h, if_pos ⟨h1, h2⟩]
theorem fitT_4b (h : p.kind = 4) (h1 : ¬ (t.kind = 4 ∧ p.args.length = t.args.length)) : fitT p t b = (false, b) := by
  rw [fitT, fitH, if_neg (by omega), if_neg (by omega), if_pos h, if_neg h1]
theorem fitT_o (h4 : p.kind ≠ 4) (h5 : p.kind ≠ 5) (h6 : p.kind ≠ 6) : fitT p t b = (sameT p t, b) := by
  rw [fitT, fitH, if_neg h6, if_neg h5, if_neg h4]
end

theorem fitT_length (p t : T) (b : List T) : (fitT p t b).2.length = b.length := by
  have key : ∀ m (ps ts b : List T), bulkL ps ≤ m → (fitL ps ts b).2.length = b.length := by
    intro m
    induction m with
    | zero =>
      intro ps ts b hm
      cases ps with
      | nil => rw [fitL_nil]
      | cons p ps => rw [bulkL_cons] at hm; omega
    | succ m ih =>
      intro ps ts b hm
      cases ps with
      | nil => rw [fitL_nil]
      | cons p ps =>
        cases ts with
        | nil => rw [fitL]; intro h; cases h
        | cons t ts =>
          rw [bulkL_cons] at hm
          have h1 : (fitT p t b).2.length = b.length := by
            have := ih p.args t.args b (by omega)
            unfold fitT fitH
            repeat' split
            all_goals first | rfl | simp | exact this
          rw [fitL_cons]
          split
          · rw [ih ps ts _ (by omega), h1]
          · exact h1
  have := key _ [p] [t] b (Nat.le_refl _)
  rwa [fitL_one] at this

/-- What fits, or nothing. -/
def fitO (p t : T) (b : List T) : Option (List T) := if (fitT p t b).1 then some (fitT p t b).2 else none
end Go.Proofs.YtedfepnekjjmnabDoor

/-
  match.fits: whether it fits, and what is bound afterwards. Conditions: a formed pattern, four bound ones in a row of the call's own; bounds on how much there is.
-/
namespace Go.Proofs.YtedfepnekjjmnabDoor
open Go.RowKit
set_option linter.unusedSimpArgs false
set_option linter.unusedVariables false

def FPost (base g cap : Nat) (w : World) (r : Bool × List T) (e : Ending) (w' : World) : Prop := e = .returned (.bool r.1) ∧ Keep (fun b => b = g) w w' ∧ OwnG (fun b => base ≤ b) base w' (.slice (some ⟨g, 0, none⟩) 4 cap) r.2

section
variable {p t : T} {S : Nat → Prop} {base g cap : Nat} {w : World} {vp vt : Value} {bd : List T}
end
end Go.Proofs.YtedfepnekjjmnabDoor

/-
  match.fits on tuples, and in all.
-/
namespace Go.Proofs.YtedfepnekjjmnabDoor
open Go.RowKit
set_option linter.unusedSimpArgs false
set_option linter.unusedVariables false
section
variable {p t : T} {S : Nat → Prop} {base g cap : Nat} {w : World} {vp vt : Value} {bd : List T}
end

theorem fitT_bulk (M : Nat) (p t : T) (b : List T) (ht : bulkL [t] ≤ M) (hb : ∀ y ∈ b, bulkL [y] ≤ M) : ∀ y ∈ (fitT p t b).2, bulkL [y] ≤ M := by
  have key : ∀ m (ps ts b : List T), bulkL ps ≤ m → (∀ y ∈ ts, bulkL [y] ≤ M) → (∀ y ∈ b, bulkL [y] ≤ M) → ∀ y ∈ (fitL ps ts b).2, bulkL [y] ≤ M := by
    intro m
    induction m with
    | zero =>
      intro ps ts b hm _ hb
      cases ps with
      | nil => rw [fitL_nil]; exact hb
      | cons p ps => rw [bulkL_cons] at hm; omega
    | succ m ih =>
      intro ps ts b hm hts hb
      cases ps with
      | nil => rw [fitL_nil]; exact hb
      | cons p ps =>
        cases ts with
        | nil => rw [fitL]; exact hb; intro h; cases h
        | cons t ts =>
          rw [bulkL_cons] at hm
          have h1 : ∀ y ∈ (fitT p t b).2, bulkL [y] ≤ M := by
            have hta : ∀ y ∈ t.args, bulkL [y] ≤ M := fun y hy => by have h0 := hts t (by simp); have h1 := bulk_mem hy; have h2 := bulk_args t; omega
            have := ih p.args t.args b (by omega) hta hb
            unfold fitT fitH
            repeat' split
            all_goals first | exact hb | exact this | (intro y hy; rcases List.mem_or_eq_of_mem_set hy with hy | rfl; exact hb y hy; exact hts _ (by simp))
          rw [fitL_cons]
          split
          · exact ih ps ts _ (by omega) (fun y hy => hts y (by simp [hy])) h1
          · exact h1
  have := key _ [p] [t] b (Nat.le_refl _) (fun y hy => by simp at hy; subst hy; exact ht) hb
  rwa [fitL_one] at this
theorem fitL_bulk (M : Nat) : ∀ (ps ts b : List T), (∀ y ∈ ts, bulkL [y] ≤ M) → (∀ y ∈ b, bulkL [y] ≤ M) → ∀ y ∈ (fitL ps ts b).2, bulkL [y] ≤ M
  | [], ts, b, _, hb => by rw [fitL_nil]; exact hb
  | p :: ps, [], b, _, hb => by rw [fitL]; exact hb; intro h; cases h
  | p :: ps, t :: ts, b, ht, hb => by
    have h1 := fitT_bulk M p t b (ht t (by simp)) hb
    rw [fitL_cons]; split
    · exact fitL_bulk M ps ts _ (fun y hy => ht y (by simp [hy])) h1
    · exact h1
theorem fitL_length : ∀ (ps ts b : List T), (fitL ps ts b).2.length = b.length
  | [], ts, b => by rw [fitL_nil]
  | p :: ps, [], b => by rw [fitL]; intro h; cases h
  | p :: ps, t :: ts, b => by
    rw [fitL_cons]; split
    · rw [fitL_length ps ts _, fitT_length]
    · exact fitT_length p t b

end Go.Proofs.YtedfepnekjjmnabDoor

/-
  How a program that came in reads: rows of rows of structs. No condition.
-/
namespace Go.Proofs.YtedfepnekjjmnabDoor
open Go.ChangeShapes Go.WideShapes Go.ChangeAt Go.RowKit
set_option linter.unusedSimpArgs false
set_option linter.unusedVariables false

section
variable {H : Type} {enc : TypeId × Value → H} {W : World} {base : Nat} {sp : Nat → Bool} {held : Bool}

theorem add_at' (b off i j : Nat) : ((⟨b, off, none⟩ : Addr).add i).add j = ⟨b, off + i + j, none⟩ := by
  unfold Addr.add
  by_cases h1 : i = 0 <;> by_cases h2 : j = 0 <;> simp [h1, h2]
theorem flat_cells {X : Type} {k b off : Nat} : ∀ (ps : List (X × List Value)) (i0 : Nat), (∀ i (h : i < ps.length), W.cells? base ((⟨b, off, none⟩ : Addr).add ((i0 + i) * k)) k = some (ps[i].2)) →
    ∀ j u, ((ps.map (·.2)).flatten)[j]? = some u → W.cell? ⟨b, off + i0 * k + j, none⟩ = some u
  | [], _, _, j, u, h => by simp at h
  | p :: ps, i0, hp, j, u, h => by
    have h0 := World.cells?_some (hp 0 (by simp))
    simp only [List.getElem_cons_zero, Nat.add_zero] at h0
    obtain ⟨-, hl, hc⟩ := h0
    simp only [List.map_cons, List.flatten_cons] at h
    by_cases hj : j < k
    · rw [List.getElem?_append_left (by omega)] at h
      have h1 := (hc j hj).trans h
      rw [add_at'] at h1
      exact h1
    · rw [List.getElem?_append_right (by omega), hl] at h
      have h1 := flat_cells ps (i0 + 1) (fun i hi => by
        have := hp (i + 1) (by simpa using hi)
        rw [show i0 + 1 + i = i0 + (i + 1) by omega]
        simpa using this) (j - k) u h
      rw [show off + i0 * k + j = off + (i0 + 1) * k + (j - k) by rw [Nat.succ_mul]; omega]
      exact h1
theorem sum_list {X : Type} {B : X → Nat} {Bs : List X → Nat} (hB0 : Bs [] = 0) (hB1 : ∀ x l, Bs (x :: l) = B x + Bs l) : ∀ (ys : List X) (ds : List (DataW H)), ys.length = ds.length → (∀ i (h1 : i < ys.length) (h2 : i < ds.length), B ys[i] ≤ Rows.uptoBulk ds[i]) → Bs ys ≤ Rows.uptoBulkAll ds
  | [], _, _, _ => by simp [hB0]
  | t :: ts, [], h, _ => by simp at h
  | t :: ts, d :: ds, h, hp => by
    have h0 := hp 0 (by simp) (by simp)
    have := sum_list hB0 hB1 ts ds (by simpa using h) fun i h1 h2 => hp (i + 1) (by simpa using h1) (by simpa using h2)
    simp only [List.getElem_cons_zero] at h0
    rw [hB1, Rows.uptoBulkAll]
    omega
theorem cellsX_flat {X : Type} {E : El X} {S : Nat → Prop} : ∀ (ps : List (X × List Value)), (∀ i (h : i < ps.length), E.C S W ps[i].1 ps[i].2) → CellsX E S W (ps.map (·.1)) (ps.map (·.2)).flatten
  | [], _ => rfl
  | p :: ps, h => ⟨p.2, _, rfl, h 0 (by simp), cellsX_flat ps fun i hi => h (i + 1) (by simpa using hi)⟩

/-- A slice's cell that reads as data is a slice of such elements, if each element's cells that read as data are one. -/
theorem rows_of_trod {X : Type} {E : El X} (F : ElT E) (hc : Tryd.prog.cellsOf F.e = E.k) (B : X → Nat) (Bs : List X → Nat) (hB0 : Bs [] = 0) (hB1 : ∀ x l, Bs (x :: l) = B x + Bs l)
    (key : ∀ fuel cs x, DataW.trod enc Tryd.prog W base sp held fuel F.e cs = some x → ∃ y, E.C (fun b => b < W.heap.size) W y cs ∧ B y ≤ Rows.uptoBulk x.1)
    (fuel : Nat) (cs : List Value) (x : DataW H × List MemPlace) (g : DataW.trod enc Tryd.prog W base sp held fuel F.sl cs = some x) :
    ∃ (ys : List X) (a : Option Addr) (cap : Nat), cs = [.slice a ys.length cap] ∧ RX E (fun b => b < W.heap.size) (fun b => b < W.heap.size) W ys (.slice a ys.length cap) ∧ Bs ys ≤ Rows.uptoBulk x.1 := by
  rcases DataW.trod_slice F.hund g with ⟨rfl, rfl⟩ | ⟨a, len, cap, elems, rest, n', rfl, rfl, rfl, hb, hlc, hcm, hel, hget, -, -⟩
  · exact ⟨[], none, 0, rfl, RX.nil _ _ _, by rw [hB0]; omega⟩
  · have key2 : ∀ i, i < len → ∃ p : X × List Value, W.cells? base (a.add (i * E.k)) E.k = some p.2 ∧ E.C (fun b => b < W.heap.size) W p.1 p.2 ∧ ∃ hi : i < elems.length, B p.1 ≤ Rows.uptoBulk (elems[i]).1 := by
      intro i hi
      have h1 := hget i hi
      rw [hc, List.getElem?_eq_getElem (by omega)] at h1
      obtain ⟨cs', hcc, ht⟩ := Option.bind_eq_some_iff.1 h1
      obtain ⟨y, h2, h3⟩ := key n' cs' _ ht
      exact ⟨(y, cs'), hcc, h2, by omega, h3⟩
    obtain ⟨ps, hps, hp⟩ := choose_list len key2
    subst hps
    have hl : (ps.map (·.1)).length = ps.length := by simp
    refine ⟨ps.map (·.1), some a, cap, by rw [hl], ⟨some a, cap, (ps.map (·.2)).flatten, rfl, ⟨by omega, by simp⟩, cellsX_flat ps fun i hi => (hp i hi).2.1, fun j u hu => ?_⟩, ?_⟩
    · obtain ⟨b, off, spot⟩ := a
      have hspot : spot = none := by
        have hne : 0 < ps.length := by
          cases ps with
          | nil => simp at hu
          | cons _ _ => simp
        obtain ⟨_, hl0, hc0⟩ := World.cells?_some (hp 0 hne).1
        have hk := F.hk
        have h0 := hc0 0 hk
        rw [List.getElem?_eq_getElem (by omega)] at h0
        simpa [Addr.add] using World.cell?_spot h0
      subst hspot
      have h1 := flat_cells ps 0 (fun i hi => by rw [Nat.zero_add]; exact (hp i hi).1) j u hu
      rw [Nat.zero_mul, Nat.add_zero] at h1
      exact ⟨b, off, rfl, World.block_lt_of_cell? W _ h1, h1⟩
    · have h1 := sum_list (H := H) hB0 hB1 (ps.map (·.1)) (elems.map (·.1)) (by simp [hel]) fun i h1 h2 => by
        obtain ⟨_, _, _, h4⟩ := hp i (by simpa using h1)
        simpa using h4
      simp only [Rows.uptoBulk]
      omega

theorem cellsDeed : Tryd.prog.cellsOf 76 = 11 := by kernel_rfl
theorem cellsClau : Tryd.prog.cellsOf 79 = 13 := by kernel_rfl
theorem cellsBeh : Tryd.prog.cellsOf 62 = 2 := by kernel_rfl
theorem cellsStr : Tryd.prog.cellsOf 9 = 1 := by kernel_rfl
theorem cellsDeeds : Tryd.prog.cellsOf 77 = 1 := by kernel_rfl
theorem cellsClaus : Tryd.prog.cellsOf 60 = 1 := by kernel_rfl
theorem under_deed : ∃ f0 f1 f2 f3 f4 : Field, Tryd.prog.underlying 76 = some (.struct #[f0, f1, f2, f3, f4]) ∧ f0.type = 3 ∧ f0.offset = 0 ∧ f1.type = 24 ∧ f1.offset = 1 ∧ f2.type = 24 ∧ f2.offset = 5 ∧ f3.type = 9 ∧ f3.offset = 9 ∧ f4.type = 3 ∧ f4.offset = 10 :=
  ⟨_, _, _, _, _, by rw [Tryd.underlying76], rfl, rfl, rfl, rfl, rfl, rfl, rfl, rfl, rfl, rfl⟩
theorem under_clau : ∃ f0 f1 f2 f3 : Field, Tryd.prog.underlying 79 = some (.struct #[f0, f1, f2, f3]) ∧ f0.type = 24 ∧ f0.offset = 0 ∧ f1.type = 24 ∧ f1.offset = 4 ∧ f2.type = 77 ∧ f2.offset = 8 ∧ f3.type = 24 ∧ f3.offset = 9 :=
  ⟨_, _, _, _, by rw [Tryd.underlying79], rfl, rfl, rfl, rfl, rfl, rfl, rfl, rfl⟩
theorem under_beh : ∃ f0 f1 : Field, Tryd.prog.underlying 62 = some (.struct #[f0, f1]) ∧ f0.type = 9 ∧ f0.offset = 0 ∧ f1.type = 60 ∧ f1.offset = 1 :=
  ⟨_, _, by rw [Tryd.underlying62], rfl, rfl, rfl, rfl⟩

set_option maxRecDepth 100000 in
theorem deed_of_trod (fuel : Nat) (cs : List Value) (x : DataW H × List MemPlace) (h : DataW.trod enc Tryd.prog W base sp held fuel 76 cs = some x) : ∃ y, deedE.C (fun b => b < W.heap.size) W y cs ∧ deedB y ≤ Rows.uptoBulk x.1 := by
  obtain ⟨f0, f1, f2, f3, f4, hs, t0, o0, t1, o1, t2, o2, t3, o3, t4, o4⟩ := under_deed
  obtain ⟨xs, n, rfl, rfl, hl, hlen, hf⟩ := DataW.trod_struct hs h
  rw [cellsDeed] at hl
  match xs, hlen, cs, hl with
  | [y0, y1, y2, y3, y4], _, [v0, v1, v2, v3, v4, v5, v6, v7, v8, v9, v10], _ =>
    have g0 := hf 0 f0 rfl
    have g1 := hf 1 f1 rfl
    have g2 := hf 2 f2 rfl
    have g3 := hf 3 f3 rfl
    have g4 := hf 4 f4 rfl
    simp [o0, o1, o2, o3, o4, t0, t1, t2, t3, t4, cellsInt, cellsStr, cellsTerm] at g0 g1 g2 g3 g4
    obtain ⟨k, hv0, rfl, wk⟩ := DataW.trod_int Tryd.underlying3 g0
    obtain ⟨ta, a1, c1, e1, hc1, hr1, hb1⟩ := term_of_trod _ _ _ g1
    obtain ⟨tb, a2, c2, e2, hc2, hr2, hb2⟩ := term_of_trod _ _ _ g2
    obtain ⟨s, hv3, rfl, ws⟩ := DataW.trod_string Tryd.underlying9 g3
    obtain ⟨m, hv4, rfl, wm⟩ := DataW.trod_int Tryd.underlying3 g4
    simp only [List.cons.injEq, and_true] at hv0 e1 e2 hv3 hv4
    obtain ⟨rfl, rfl, rfl, rfl⟩ := e1
    obtain ⟨rfl, rfl, rfl, rfl⟩ := e2
    subst hv0 hv3 hv4
    have hss : s.data.toList.length = s.size := by rw [Array.length_toList]; rfl
    refine ⟨⟨k, ta, tb, s, m⟩, ⟨a1, c1, a2, c2, rfl, ⟨_, _, rfl, hc1, hr1⟩, ⟨_, _, rfl, hc2, hr2⟩⟩, ?_⟩
    simp only [deedB, Rows.uptoBulk, Rows.uptoBulkAll, List.map_cons, List.map_nil]
    omega
set_option maxRecDepth 100000 in
theorem clau_of_trod (fuel : Nat) (cs : List Value) (x : DataW H × List MemPlace) (h : DataW.trod enc Tryd.prog W base sp held fuel 79 cs = some x) : ∃ y, clauE.C (fun b => b < W.heap.size) W y cs ∧ clauB y ≤ Rows.uptoBulk x.1 := by
  obtain ⟨f0, f1, f2, f3, hs, t0, o0, t1, o1, t2, o2, t3, o3⟩ := under_clau
  obtain ⟨xs, n, rfl, rfl, hl, hlen, hf⟩ := DataW.trod_struct hs h
  rw [cellsClau] at hl
  match xs, hlen, cs, hl with
  | [y0, y1, y2, y3], _, [v0, v1, v2, v3, v4, v5, v6, v7, v8, v9, v10, v11, v12], _ =>
    have g0 := hf 0 f0 rfl
    have g1 := hf 1 f1 rfl
    have g2 := hf 2 f2 rfl
    have g3 := hf 3 f3 rfl
    simp [o0, o1, o2, o3, t0, t1, t2, t3, cellsDeeds, cellsTerm] at g0 g1 g2 g3
    obtain ⟨ta, a1, c1, e1, hc1, hr1, hb1⟩ := term_of_trod _ _ _ g0
    obtain ⟨tb, a2, c2, e2, hc2, hr2, hb2⟩ := term_of_trod _ _ _ g1
    obtain ⟨ys, a3, c3, e3, hr3, hb3⟩ := rows_of_trod deedF cellsDeed deedB deedsB rfl (fun _ _ => rfl) deed_of_trod _ _ _ g2
    obtain ⟨td, a4, c4, e4, hc4, hr4, hb4⟩ := term_of_trod _ _ _ g3
    simp only [List.cons.injEq, and_true] at e1 e2 e3 e4
    obtain ⟨rfl, rfl, rfl, rfl⟩ := e1
    obtain ⟨rfl, rfl, rfl, rfl⟩ := e2
    obtain ⟨rfl, rfl, rfl, rfl⟩ := e4
    subst e3
    refine ⟨⟨ta, tb, ys, td⟩, ⟨a1, c1, a2, c2, a3, c3, a4, c4, rfl, ⟨_, _, rfl, hc1, hr1⟩, ⟨_, _, rfl, hc2, hr2⟩, hr3, ⟨_, _, rfl, hc4, hr4⟩⟩, ?_⟩
    simp only [clauB, Rows.uptoBulk, Rows.uptoBulkAll, List.map_cons, List.map_nil]
    omega
set_option maxRecDepth 100000 in
theorem beh_of_trod (fuel : Nat) (cs : List Value) (x : DataW H × List MemPlace) (h : DataW.trod enc Tryd.prog W base sp held fuel 62 cs = some x) : ∃ y, behvE.C (fun b => b < W.heap.size) W y cs ∧ behvB y ≤ Rows.uptoBulk x.1 := by
  obtain ⟨f0, f1, hs, t0, o0, t1, o1⟩ := under_beh
  obtain ⟨xs, n, rfl, rfl, hl, hlen, hf⟩ := DataW.trod_struct hs h
  rw [cellsBeh] at hl
  match xs, hlen, cs, hl with
  | [y0, y1], _, [v0, v1], _ =>
    have g0 := hf 0 f0 rfl
    have g1 := hf 1 f1 rfl
    simp [o0, o1, t0, t1, cellsStr, cellsClaus] at g0 g1
    obtain ⟨s, hv0, rfl, ws⟩ := DataW.trod_string Tryd.underlying9 g0
    obtain ⟨ys, a3, c3, e3, hr3, hb3⟩ := rows_of_trod clauF cellsClau clauB clausB rfl (fun _ _ => rfl) clau_of_trod _ _ _ g1
    simp only [List.cons.injEq, and_true] at hv0 e3
    subst hv0 e3
    have hss : s.data.toList.length = s.size := by rw [Array.length_toList]; rfl
    refine ⟨⟨s, ys⟩, ⟨a3, c3, rfl, hr3⟩, ?_⟩
    simp only [behvB, Rows.uptoBulk, Rows.uptoBulkAll, List.map_cons, List.map_nil]
    omega
set_option maxRecDepth 100000 in
/-- An argument that is a program. -/
theorem open_behvs {v : Value} {d : DataW H} {p : List MemPlace} {r : Reach} (hok : Value.okWide Tryd.prog W r base 37 v) (h : DataW.Trod enc Tryd.prog W 0 sp held 37 v d p) :
    ∃ l, RX behvE (fun b => b < W.heap.size) (fun b => b < W.heap.size) W l v ∧ behvsB l ≤ Rows.uptoBulk d := by
  obtain ⟨a, len, cap, rfl⟩ := okWide_slice Tryd.underlying37 hok
  obtain ⟨fuel, hf⟩ := h
  obtain ⟨l, a', cap', e, h1, h2⟩ := rows_of_trod behvF cellsBeh behvB behvsB rfl (fun _ _ => rfl) beh_of_trod fuel _ _ hf
  simp only [Value.cells, List.cons.injEq, and_true] at e
  exact ⟨l, by rw [e]; exact h1, h2⟩
end
end Go.Proofs.YtedfepnekjjmnabDoor

/-
  What a term tells as a program: in plain words. No program in sight.
-/
namespace Go.Proofs.YtedfepnekjjmnabDoor
open Go.RowKit
set_option linter.unusedSimpArgs false
set_option linter.unusedVariables false

def sSend : ByteArray := ⟨#[115, 101, 110, 100]⟩
def sSpawn : ByteArray := ⟨#[115, 112, 97, 119, 110]⟩
def sLink : ByteArray := ⟨#[108, 105, 110, 107]⟩
def sStop : ByteArray := ⟨#[115, 116, 111, 112]⟩
def sOn : ByteArray := ⟨#[111, 110]⟩
def sBeh : ByteArray := ⟨#[98, 101, 104]⟩
def sCode : ByteArray := ⟨#[99, 111, 100, 101]⟩
/-- An act that a term tells. -/
def deedO (t : T) : Option Deed :=
  match restL sSend t with
  | some [a, b] => some ⟨1, a, b, ⟨#[]⟩, 0⟩
  | _ => match restL sSpawn t with
    | some [a, b, c] => if a.kind == 2 && c.kind == 5 then some ⟨2, zeroT, b, a.name, c.n⟩ else none
    | _ => match restL sLink t with
      | some [a] => some ⟨3, a, zeroT, ⟨#[]⟩, 0⟩
      | _ => match restL sStop t with
        | some [] => some ⟨4, zeroT, zeroT, ⟨#[]⟩, 0⟩
        | _ => none
def mapO {X : Type} (f : T → Option X) : List T → Option (List X)
  | [] => some []
  | t :: l => match f t, mapO f l with
    | some x, some r => some (x :: r)
    | _, _ => none
def clauO (t : T) : Option Clau :=
  match restL sOn t with
  | some [a, b, c, d] => if c.kind == 4 then (mapO deedO c.args).map fun l => ⟨a, b, l, d⟩ else none
  | _ => none
def behvO (t : T) : Option Behv :=
  match restL sBeh t with
  | some (a :: b :: r) => if a.kind == 2 then (mapO clauO (b :: r)).map fun l => ⟨a.name, l⟩ else none
  | _ => none
def fromO (t : T) : Option (List Behv) :=
  match restL sCode t with
  | some (b :: r) => mapO behvO (b :: r)
  | _ => none
/-- What From answers. -/
def fromA (t : T) : List Behv × Int := if checkE t = 0 then (match fromO t with | some l => (l, 0) | none => ([], 5)) else ([], checkE t)
theorem mapO_append {X : Type} (f : T → Option X) (l m : List T) : mapO f (l ++ m) = match mapO f l, mapO f m with | some a, some b => some (a ++ b) | _, _ => none := by
  induction l with
  | nil => simp only [List.nil_append, mapO]; cases mapO f m <;> rfl
  | cons t l ih =>
    simp only [List.cons_append, mapO, ih]
    cases f t <;> cases mapO f l <;> cases mapO f m <;> rfl
theorem mapO_snoc {X : Type} (f : T → Option X) {l : List T} {k : Nat} (hk : k < l.length) : mapO f (l.take (k + 1)) = match mapO f (l.take k), f l[k] with | some a, some b => some (a ++ [b]) | _, _ => none := by
  rw [take_snoc' l k hk, mapO_append]
  simp only [mapO]
  cases mapO f (l.take k) <;> cases f l[k] <;> rfl
theorem mapO_length {X : Type} {f : T → Option X} : ∀ {l : List T} {r : List X}, mapO f l = some r → r.length = l.length
  | [], r, h => by simp only [mapO, Option.some.injEq] at h; subst h; rfl
  | t :: l, r, h => by
    simp only [mapO] at h
    split at h
    · rename_i x r' h1 h2
      simp only [Option.some.injEq] at h; subst h
      simp [mapO_length h2]
    · cases h
theorem mapO_bad {X : Type} {f : T → Option X} {l : List T} {k : Nat} (hk : k < l.length) (h : f l[k] = none) : mapO f l = none := by
  rw [← List.take_append_drop (k + 1) l, mapO_append, mapO_snoc f hk, h]
  cases mapO f (l.take k) <;> rfl
/-- At most one of the words. -/
theorem restL_other {s s' : ByteArray} {t : T} {l : List T} (h : restL s t = some l) (hne : s.toList ≠ s'.toList) : restL s' t = none := by
  obtain ⟨-, -, h3, h4⟩ := restL_some h
  rw [restL, if_neg]
  simp only [Bool.and_eq_true, not_and]
  intro _
  cases e : t.args with
  | nil => rw [e] at h4; cases h4
  | cons y r =>
    rw [e] at h4
    simp only [headIs, Bool.and_eq_true, beq_iff_eq] at h4 ⊢
    intro h5
    exact hne (h4.2.symm.trans h5.2)
theorem ne_send_spawn : sSend.toList ≠ sSpawn.toList := by rw [Lib.toList_data, Lib.toList_data]; decide
theorem ne_send_link : sSend.toList ≠ sLink.toList := by rw [Lib.toList_data, Lib.toList_data]; decide
theorem ne_send_stop : sSend.toList ≠ sStop.toList := by rw [Lib.toList_data, Lib.toList_data]; decide
theorem ne_spawn_link : sSpawn.toList ≠ sLink.toList := by rw [Lib.toList_data, Lib.toList_data]; decide
theorem ne_spawn_stop : sSpawn.toList ≠ sStop.toList := by rw [Lib.toList_data, Lib.toList_data]; decide
theorem ne_link_stop : sLink.toList ≠ sStop.toList := by rw [Lib.toList_data, Lib.toList_data]; decide
/-- Which of them, if any. -/
theorem word_cases (t : T) : (∃ l, restL sSend t = some l ∧ restL sSpawn t = none ∧ restL sLink t = none ∧ restL sStop t = none) ∨ (∃ l, restL sSend t = none ∧ restL sSpawn t = some l ∧ restL sLink t = none ∧ restL sStop t = none) ∨
    (∃ l, restL sSend t = none ∧ restL sSpawn t = none ∧ restL sLink t = some l ∧ restL sStop t = none) ∨ (∃ l, restL sSend t = none ∧ restL sSpawn t = none ∧ restL sLink t = none ∧ restL sStop t = some l) ∨
    (restL sSend t = none ∧ restL sSpawn t = none ∧ restL sLink t = none ∧ restL sStop t = none) := by
  cases h1 : restL sSend t with
  | some l => exact .inl ⟨l, rfl, restL_other h1 ne_send_spawn, restL_other h1 ne_send_link, restL_other h1 ne_send_stop⟩
  | none =>
    cases h2 : restL sSpawn t with
    | some l => exact .inr (.inl ⟨l, rfl, rfl, restL_other h2 ne_spawn_link, restL_other h2 ne_spawn_stop⟩)
    | none =>
      cases h3 : restL sLink t with
      | some l => exact .inr (.inr (.inl ⟨l, rfl, rfl, rfl, restL_other h3 ne_link_stop⟩))
      | none =>
        cases h4 : restL sStop t with
        | some l => exact .inr (.inr (.inr (.inl ⟨l, rfl, rfl, rfl, rfl⟩)))
        | none => exact .inr (.inr (.inr (.inr ⟨rfl, rfl, rfl, rfl⟩)))
/-- 'is' and 'rest' ask the same. -/
theorem isT_rest (t : T) (s : ByteArray) (n : Nat) : isT t s n = match restL s t with | some l => decide (l.length = n) | none => false := by
  rw [isT, restL]
  cases h1 : (t.kind == 4)
  · rfl
  cases h2 : headIs s t.args
  · simp
  · cases e : t.args with
    | nil => rw [e] at h2; cases h2
    | cons y r => simp; omega
end Go.Proofs.YtedfepnekjjmnabDoor

/-
  What a term tells as a program, by the reference's questions: plain cases. No program in sight.
-/
namespace Go.Proofs.YtedfepnekjjmnabDoor
open Go.RowKit
set_option linter.unusedSimpArgs false
set_option linter.unusedVariables false

theorem rest_args {s : ByteArray} {t : T} {l : List T} (h : restL s t = some l) : ∃ hd, t.args = hd :: l := by
  obtain ⟨-, h2, -, h4⟩ := restL_some h
  cases e : t.args with
  | nil => rw [e] at h4; cases h4
  | cons y r => rw [e] at h2; exact ⟨y, by rw [h2]; rfl⟩
theorem isT_some {s : ByteArray} {t : T} {l : List T} {n : Nat} (h : restL s t = some l) (hn : l.length = n) : isT t s n = true := by rw [isT_rest, h]; simpa using hn
theorem isT_other {s : ByteArray} {t : T} {l : List T} {n : Nat} (h : restL s t = some l) (hn : l.length ≠ n) : isT t s n = false := by rw [isT_rest, h]; simpa using hn
theorem isT_none {s : ByteArray} {t : T} {n : Nat} (h : restL s t = none) : isT t s n = false := by rw [isT_rest, h]
theorem act_cases (t : T) :
    (∃ hd a b, t.args = [hd, a, b] ∧ isT t sSend 2 = true ∧ deedO t = some ⟨1, a, b, ⟨#[]⟩, 0⟩) ∨
    (∃ hd a b c, t.args = [hd, a, b, c] ∧ isT t sSend 2 = false ∧ isT t sSpawn 3 = true ∧ (a.kind == 2) = true ∧ (c.kind == 5) = true ∧ deedO t = some ⟨2, zeroT, b, a.name, c.n⟩) ∨
    (∃ hd a b c, t.args = [hd, a, b, c] ∧ isT t sSend 2 = false ∧ isT t sSpawn 3 = true ∧ (a.kind == 2) = false ∧ isT t sLink 1 = false ∧ isT t sStop 0 = false ∧ deedO t = none) ∨
    (∃ hd a b c, t.args = [hd, a, b, c] ∧ isT t sSend 2 = false ∧ isT t sSpawn 3 = true ∧ (a.kind == 2) = true ∧ (c.kind == 5) = false ∧ isT t sLink 1 = false ∧ isT t sStop 0 = false ∧ deedO t = none) ∨
    (∃ hd a, t.args = [hd, a] ∧ isT t sSend 2 = false ∧ isT t sSpawn 3 = false ∧ isT t sLink 1 = true ∧ deedO t = some ⟨3, a, zeroT, ⟨#[]⟩, 0⟩) ∨
    (isT t sSend 2 = false ∧ isT t sSpawn 3 = false ∧ isT t sLink 1 = false ∧ isT t sStop 0 = true ∧ deedO t = some ⟨4, zeroT, zeroT, ⟨#[]⟩, 0⟩) ∨
    (isT t sSend 2 = false ∧ isT t sSpawn 3 = false ∧ isT t sLink 1 = false ∧ isT t sStop 0 = false ∧ deedO t = none) := by
  have e0 : deedO t = _ := rfl
  unfold deedO at e0
  rcases word_cases t with ⟨l, h1, h2, h3, h4⟩ | ⟨l, h1, h2, h3, h4⟩ | ⟨l, h1, h2, h3, h4⟩ | ⟨l, h1, h2, h3, h4⟩ | ⟨h1, h2, h3, h4⟩
  · rw [h1, h2, h3, h4] at e0
    by_cases hl : l.length = 2
    · obtain ⟨x, y, rfl⟩ : ∃ x y, l = [x, y] := (by match l, hl with | [x, y], _ => exact ⟨x, y, rfl⟩)
      obtain ⟨hd, ha⟩ := rest_args h1
      exact .inl ⟨hd, x, y, ha, isT_some h1 hl, by unfold deedO; rw [h1]⟩
    · refine .inr (.inr (.inr (.inr (.inr (.inr ⟨isT_other h1 hl, isT_none h2, isT_none h3, isT_none h4, ?_⟩)))))
      unfold deedO; rw [h1, h2, h3, h4]
      match l, hl with
      | [], _ => rfl
      | [_], _ => rfl
      | [_, _], h => exact absurd rfl h
      | _ :: _ :: _ :: _, _ => rfl
  · by_cases hl : l.length = 3
    · obtain ⟨x, y, z, rfl⟩ : ∃ x y z, l = [x, y, z] := (by match l, hl with | [x, y, z], _ => exact ⟨x, y, z, rfl⟩)
      obtain ⟨hd, ha⟩ := rest_args h2
      have hd0 : deedO t = if x.kind == 2 && z.kind == 5 then some ⟨2, zeroT, y, x.name, z.n⟩ else none := by unfold deedO; rw [h1, h2]
      cases k1 : (x.kind == 2)
      · exact .inr (.inr (.inl ⟨hd, x, y, z, ha, isT_none h1, isT_some h2 hl, k1, isT_none h3, isT_none h4, by rw [hd0, k1]; rfl⟩))
      · cases k2 : (z.kind == 5)
        · exact .inr (.inr (.inr (.inl ⟨hd, x, y, z, ha, isT_none h1, isT_some h2 hl, k1, k2, isT_none h3, isT_none h4, by rw [hd0, k1, k2]; rfl⟩)))
        · exact .inr (.inl ⟨hd, x, y, z, ha, isT_none h1, isT_some h2 hl, k1, k2, by rw [hd0, k1, k2]; rfl⟩)
    · refine .inr (.inr (.inr (.inr (.inr (.inr ⟨isT_none h1, isT_other h2 hl, isT_none h3, isT_none h4, ?_⟩)))))
      unfold deedO; rw [h1, h2, h3, h4]
      match l, hl with
      | [], _ => rfl
      | [_], _ => rfl
      | [_, _], _ => rfl
      | [_, _, _], h => exact absurd rfl h
      | _ :: _ :: _ :: _ :: _, _ => rfl
  · by_cases hl : l.length = 1
    · obtain ⟨x, rfl⟩ := List.length_eq_one_iff.1 hl
      obtain ⟨hd, ha⟩ := rest_args h3
      exact .inr (.inr (.inr (.inr (.inl ⟨hd, x, ha, isT_none h1, isT_none h2, isT_some h3 hl, by unfold deedO; rw [h1, h2, h3]⟩))))
    · refine .inr (.inr (.inr (.inr (.inr (.inr ⟨isT_none h1, isT_none h2, isT_other h3 hl, isT_none h4, ?_⟩)))))
      unfold deedO; rw [h1, h2, h3, h4]
      match l, hl with
      | [], _ => rfl
      | [_], h => exact absurd rfl h
      | _ :: _ :: _, _ => rfl
  · by_cases hl : l.length = 0
    · obtain rfl : l = [] := List.eq_nil_of_length_eq_zero hl
      exact .inr (.inr (.inr (.inr (.inr (.inl ⟨isT_none h1, isT_none h2, isT_none h3, isT_some h4 hl, by unfold deedO; rw [h1, h2, h3, h4]⟩)))))
    · refine .inr (.inr (.inr (.inr (.inr (.inr ⟨isT_none h1, isT_none h2, isT_none h3, isT_other h4 hl, ?_⟩)))))
      unfold deedO; rw [h1, h2, h3, h4]
      match l, hl with
      | [], h => exact absurd rfl h
      | _ :: _, _ => rfl
  · exact .inr (.inr (.inr (.inr (.inr (.inr ⟨isT_none h1, isT_none h2, isT_none h3, isT_none h4, by unfold deedO; rw [h1, h2, h3, h4]⟩)))))
theorem clau_cases (t : T) : (isT t sOn 4 = false ∧ clauO t = none) ∨
    (∃ hd p q m n, t.args = [hd, p, q, m, n] ∧ isT t sOn 4 = true ∧ (m.kind != 4) = true ∧ clauO t = none) ∨
    (∃ hd p q m n, t.args = [hd, p, q, m, n] ∧ isT t sOn 4 = true ∧ (m.kind != 4) = false ∧ clauO t = (mapO deedO m.args).map fun l => ⟨p, q, l, n⟩) := by
  unfold clauO
  cases h : restL sOn t with
  | none => exact .inl ⟨isT_none h, rfl⟩
  | some l =>
    by_cases hl : l.length = 4
    · obtain ⟨x, y, z, u, rfl⟩ : ∃ x y z u, l = [x, y, z, u] := (by match l, hl with | [x, y, z, u], _ => exact ⟨x, y, z, u, rfl⟩)
      obtain ⟨hd, ha⟩ := rest_args h
      by_cases hk : z.kind = 4
      · exact .inr (.inr ⟨hd, x, y, z, u, ha, isT_some h hl, by simp [hk], by simp [hk]⟩)
      · exact .inr (.inl ⟨hd, x, y, z, u, ha, isT_some h hl, by simpa using hk, by simp [hk]⟩)
    · refine .inl ⟨isT_other h hl, ?_⟩
      match l, hl with
      | [], _ => rfl
      | [_], _ => rfl
      | [_, _], _ => rfl
      | [_, _, _], _ => rfl
      | [_, _, _, _], h => exact absurd rfl h
      | _ :: _ :: _ :: _ :: _ :: _, _ => rfl
theorem behv_cases (t : T) (h3 : 3 ≤ t.args.length) : (isT t sBeh ((t.args.length : Int) - 1) = false ∧ behvO t = none) ∨
    (∃ hd x y r, t.args = hd :: x :: y :: r ∧ isT t sBeh ((t.args.length : Int) - 1) = true ∧ (x.kind != 2) = true ∧ behvO t = none) ∨
    (∃ hd x y r, t.args = hd :: x :: y :: r ∧ isT t sBeh ((t.args.length : Int) - 1) = true ∧ (x.kind != 2) = false ∧ behvO t = (mapO clauO (y :: r)).map fun l => ⟨x.name, l⟩) := by
  have e : (t.args.length : Int) - 1 = ((t.args.length - 1 : Nat) : Int) := by omega
  rw [e]
  unfold behvO
  cases h : restL sBeh t with
  | none => exact .inl ⟨isT_none h, rfl⟩
  | some l =>
    obtain ⟨hd, ha⟩ := rest_args h
    have hl : l.length = t.args.length - 1 := by rw [ha]; simp
    match l, ha, hl, h with
    | [], ha, hl, h => rw [ha] at h3; simp at h3
    | [x], ha, hl, h => rw [ha] at h3; simp at h3
    | x :: y :: r, ha, hl, h =>
      by_cases hk : x.kind = 2
      · exact .inr (.inr ⟨hd, x, y, r, ha, isT_some h hl, by simp [hk], by simp [hk]⟩)
      · exact .inr (.inl ⟨hd, x, y, r, ha, isT_some h hl, by simpa using hk, by simp [hk]⟩)
theorem behv_short (t : T) (h3 : t.args.length < 3) : behvO t = none := by
  unfold behvO
  cases h : restL sBeh t with
  | none => rfl
  | some l =>
    obtain ⟨hd, ha⟩ := rest_args h
    match l, ha with
    | [], ha => rfl
    | [x], ha => rfl
    | x :: y :: r, ha => rw [ha] at h3; simp at h3; omega
theorem from_cases (t : T) (h2 : 2 ≤ t.args.length) : (isT t sCode ((t.args.length : Int) - 1) = false ∧ fromO t = none) ∨
    (∃ hd y r, t.args = hd :: y :: r ∧ isT t sCode ((t.args.length : Int) - 1) = true ∧ fromO t = mapO behvO (y :: r)) := by
  have e : (t.args.length : Int) - 1 = ((t.args.length - 1 : Nat) : Int) := by omega
  rw [e]
  unfold fromO
  cases h : restL sCode t with
  | none => exact .inl ⟨isT_none h, rfl⟩
  | some l =>
    obtain ⟨hd, ha⟩ := rest_args h
    have hl : l.length = t.args.length - 1 := by rw [ha]; simp
    match l, ha, hl, h with
    | [], ha, hl, h => rw [ha] at h2; simp at h2
    | y :: r, ha, hl, h => exact .inr ⟨hd, y, r, ha, isT_some h hl, rfl⟩
theorem from_short (t : T) (h2 : t.args.length < 2) : fromO t = none := by
  unfold fromO
  cases h : restL sCode t with
  | none => rfl
  | some l =>
    obtain ⟨hd, ha⟩ := rest_args h
    match l, ha with
    | [], ha => rfl
    | y :: r, ha => rw [ha] at h2; simp at h2; omega
end Go.Proofs.YtedfepnekjjmnabDoor

/-
  How much a program that a term tells holds: no more than the term. Plain words.
-/
namespace Go.Proofs.YtedfepnekjjmnabDoor
open Go.RowKit
set_option linter.unusedSimpArgs false
set_option linter.unusedVariables false

theorem rest_bulk {s : ByteArray} {t : T} {l : List T} (h : restL s t = some l) : 2 + bulkL l ≤ bulkL [t] := by
  obtain ⟨hd, ha⟩ := rest_args h
  have e : bulkL (hd :: l) = bulkL [hd] + bulkL l := bulkL_append [hd] l
  have e1 : 1 ≤ bulkL [hd] := by rw [bulkL_cons]; omega
  rw [bulkL_cons, ha, e]
  omega
theorem bulk_two (a b : T) : bulkL [a, b] = bulkL [a] + bulkL [b] := bulkL_append [a] [b]
theorem bulk_tri (a b c : T) : bulkL [a, b, c] = bulkL [a] + (bulkL [b] + bulkL [c]) := by rw [← bulk_two]; exact bulkL_append [a] [b, c]
theorem bulk_qua (a b c d : T) : bulkL [a, b, c, d] = bulkL [a] + (bulkL [b] + (bulkL [c] + bulkL [d])) := by rw [← bulk_tri]; exact bulkL_append [a] [b, c, d]
theorem bulk_zeroT : bulkL [zeroT] = 1 := by simp [zeroT, bulkL_cons, bulkL, ByteArray.size]
theorem bulk_name' (t : T) : t.name.size + 1 ≤ bulkL [t] := bulk_name t
theorem bulk_pos (t : T) : 1 ≤ bulkL [t] := by rw [bulkL_cons]; omega
theorem deedO_bulk {t : T} {d : Deed} (h : deedO t = some d) : deedB d ≤ 4 * bulkL [t] := by
  have hz := bulk_zeroT
  have h0 : (⟨#[]⟩ : ByteArray).size = 0 := rfl
  have hp := bulk_pos t
  unfold deedO at h
  split at h
  · rename_i a b h1
    have := rest_bulk h1
    simp only [Option.some.injEq] at h; subst h
    rw [bulk_two] at this
    simp only [deedB, h0]; omega
  split at h
  · rename_i a b c h1
    have := rest_bulk h1
    have hn := bulk_name' a
    split at h
    · simp only [Option.some.injEq] at h; subst h
      rw [bulk_tri] at this
      simp only [deedB, hz]; omega
    · cases h
  split at h
  · rename_i a h1
    have := rest_bulk h1
    simp only [Option.some.injEq] at h; subst h
    simp only [deedB, hz, h0]; omega
  split at h
  · simp only [Option.some.injEq] at h; subst h
    simp only [deedB, hz, h0]; omega
  · cases h
theorem deedsO_bulk : ∀ {l : List T} {r : List Deed}, mapO deedO l = some r → deedsB r ≤ 4 * bulkL l
  | [], r, h => by simp only [mapO, Option.some.injEq] at h; subst h; simp [deedsB]
  | t :: l, r, h => by
    simp only [mapO] at h
    split at h
    · rename_i x r' h1 h2
      simp only [Option.some.injEq] at h; subst h
      have := deedO_bulk h1
      have := deedsO_bulk h2
      rw [show bulkL (t :: l) = bulkL [t] + bulkL l from bulkL_append [t] l]
      simp only [deedsB]; omega
    · cases h
theorem clauO_bulk {t : T} {c : Clau} (h : clauO t = some c) : clauB c ≤ 5 * bulkL [t] := by
  have hp := bulk_pos t
  unfold clauO at h
  split at h
  · rename_i a b c' d h1
    have := rest_bulk h1
    have ha := bulk_args c'
    rw [bulk_qua] at this
    split at h
    · cases e : mapO deedO c'.args with
      | none => rw [e] at h; cases h
      | some l =>
        rw [e] at h
        simp only [Option.map_some, Option.some.injEq] at h; subst h
        have := deedsO_bulk e
        simp only [clauB]; omega
    · cases h
  · cases h
theorem clausO_bulk : ∀ {l : List T} {r : List Clau}, mapO clauO l = some r → clausB r ≤ 5 * bulkL l
  | [], r, h => by simp only [mapO, Option.some.injEq] at h; subst h; simp [clausB]
  | t :: l, r, h => by
    simp only [mapO] at h
    split at h
    · rename_i x r' h1 h2
      simp only [Option.some.injEq] at h; subst h
      have := clauO_bulk h1
      have := clausO_bulk h2
      rw [show bulkL (t :: l) = bulkL [t] + bulkL l from bulkL_append [t] l]
      simp only [clausB]; omega
    · cases h
theorem behvO_bulk {t : T} {c : Behv} (h : behvO t = some c) : behvB c ≤ 6 * bulkL [t] := by
  have hp := bulk_pos t
  unfold behvO at h
  split at h
  · rename_i a b r h1
    have := rest_bulk h1
    have hn := bulk_name' a
    rw [show bulkL (a :: b :: r) = bulkL [a] + bulkL (b :: r) from bulkL_append [a] (b :: r)] at this
    split at h
    · cases e : mapO clauO (b :: r) with
      | none => rw [e] at h; cases h
      | some l =>
        rw [e] at h
        simp only [Option.map_some, Option.some.injEq] at h; subst h
        have := clausO_bulk e
        simp only [behvB]; omega
    · cases h
  · cases h
theorem behvsO_bulk : ∀ {l : List T} {r : List Behv}, mapO behvO l = some r → behvsB r ≤ 6 * bulkL l
  | [], r, h => by simp only [mapO, Option.some.injEq] at h; subst h; simp [behvsB]
  | t :: l, r, h => by
    simp only [mapO] at h
    split at h
    · rename_i x r' h1 h2
      simp only [Option.some.injEq] at h; subst h
      have := behvO_bulk h1
      have := behvsO_bulk h2
      rw [show bulkL (t :: l) = bulkL [t] + bulkL l from bulkL_append [t] l]
      simp only [behvsB]; omega
    · cases h
theorem fromA_bulk (t : T) : behvsB (fromA t).1 ≤ 6 * bulkL [t] := by
  unfold fromA
  split
  · cases e : fromO t with
    | none => simp [behvsB]
    | some l =>
      unfold fromO at e
      split at e
      · rename_i b r h1
        have := rest_bulk h1
        have := behvsO_bulk e
        simp only; omega
      · cases e
  · simp [behvsB]
end Go.Proofs.YtedfepnekjjmnabDoor

/-
  A region that draws its order, gone through one operation at a time: each move by a law of its own. No condition.
-/
namespace Go.Proofs.YtedfepnekjjmnabDoor
open Go.RowKit
set_option linter.unusedSimpArgs false
set_option linter.unusedVariables false

section
variable {P : Program} {ops : Array Oper} {Q : Exit → Act → World → Prop} {S : World → Prop} {fuel : Nat} {listed : Array Bool} {a : Act} {w : World} {i : Nat} {oi : Oper} {tl : List Oper}
theorem rg_at {ops : Array Oper} {i : Nat} {oi : Oper} {tl : List Oper} (h : ops.toList.drop i = oi :: tl) : ops[i]? = some oi := by
  have h1 : (ops.toList.drop i)[0]? = some oi := by rw [h]; rfl
  rw [List.getElem?_drop] at h1
  simpa using h1
/-- The beginning. -/
theorem rg_begin (S : World → Prop) {id : Nat} (hm : P.follows .mixedOrders = true) (hS : S w.drew) (h : S w.drew → wpAnyH P .any ops (NoPanic Q) S ops.size (Array.replicate ops.size false) a w.drew) : (Code.region id ops true).wp P Q a w :=
  wp_region_noPanic (wp_region_held hm (h hS))
/-- The beginning, the world behind the draw a letter. -/
theorem rg_start (S : World → Prop) {id : Nat} (hm : P.follows .mixedOrders = true) (hS : ∀ Wd, Below w.heap.size w Wd → S Wd)
    (h : ∀ Wd, Below w.heap.size w Wd → w.heap.size ≤ Wd.heap.size → Wd.heap.size ≤ w.heap.size → S Wd → wpAnyH P .any ops (NoPanic Q) S ops.size (Array.replicate ops.size false) a Wd) : (Code.region id ops true).wp P Q a w :=
  wp_region_noPanic (wp_region_held hm (h w.drew (Below.refl _ _).drew (Nat.le_refl _) (Nat.le_refl _) (hS _ (Below.refl _ _).drew)))
/-- An operation that only reads what S says. -/
theorem rg_take (v : Value) (hi : ops.toList.drop i = oi :: tl) (hs : Region.noSelect ops = true) (hf : Region.free .any ops listed i = true) (hr : (Region.ready .any ops listed).contains i = true)
    (hw : Region.wanted oi (yielded ops a.tmps) = true) (hy : ∀ w, S w → (execOp a.eval oi).run P w = .ok (.value v) w) (hS : S w)
    (h : wpAnyH P .any ops (NoPanic Q) S fuel (listed.setIfInBounds i true) (a.put oi.dst v) w) : wpAnyH P .any ops (NoPanic Q) S (fuel + 1) listed a w :=
  wpAnyH_take (rg_at hi) hs hf hr (fun _ _ _ h => h) (.inl ⟨hw, hy⟩) hS h
/-- One whose guard says no. -/
theorem rg_off (hi : ops.toList.drop i = oi :: tl) (hs : Region.noSelect ops = true) (hf : Region.free .any ops listed i = true) (hr : (Region.ready .any ops listed).contains i = true)
    (hw : Region.wanted oi (yielded ops a.tmps) = false) (hS : S w)
    (h : wpAnyH P .any ops (NoPanic Q) S fuel (listed.setIfInBounds i true) (a.put oi.dst undef) w) : wpAnyH P .any ops (NoPanic Q) S (fuel + 1) listed a w :=
  wpAnyH_take (rg_at hi) hs hf hr (fun _ _ _ h => h) (.inr ⟨hw, rfl⟩) hS h
/-- The one operation that may come up. -/
theorem rg_only (hi : ops.toList.drop i = oi :: tl) (hr : Region.ready .any ops listed = [i]) (hw : Region.wanted oi (yielded ops a.tmps) = true)
    (h : ∀ K : Act → World → Prop, Hid (∀ a' w', S w' → (S w' → wpAnyH P .any ops (NoPanic Q) S fuel (listed.setIfInBounds i true) a' w') → K a' w') → Oper.wp P oi a w K (NoPanic Q)) : wpAnyH P .any ops (NoPanic Q) S (fuel + 1) listed a w := by
  refine wpAnyH_all hr (by simp) fun j hj => ?_
  obtain rfl : j = i := by simpa using hj
  unfold wpOp
  simp only [rg_at hi, hw, if_true]
  exact .inl (h _ (Lib.hid fun a' w' h1 h2 => ⟨h1, h2 h1⟩))
/-- Two that may come up. -/
theorem rg_two {j : Nat} {oj : Oper} {tlj : List Oper} (hi : ops.toList.drop i = oi :: tl) (hj : ops.toList.drop j = oj :: tlj) (hr : Region.ready .any ops listed = [i, j]) (hw : Region.wanted oi (yielded ops a.tmps) = true) (hwj : Region.wanted oj (yielded ops a.tmps) = true)
    (h : ∀ K : Act → World → Prop, Hid (∀ a' w', S w' → (S w' → wpAnyH P .any ops (NoPanic Q) S fuel (listed.setIfInBounds i true) a' w') → K a' w') → Oper.wp P oi a w K (NoPanic Q))
    (h' : ∀ K : Act → World → Prop, Hid (∀ a' w', S w' → (S w' → wpAnyH P .any ops (NoPanic Q) S fuel (listed.setIfInBounds j true) a' w') → K a' w') → Oper.wp P oj a w K (NoPanic Q)) : wpAnyH P .any ops (NoPanic Q) S (fuel + 1) listed a w := by
  refine wpAnyH_all hr (by simp) fun m hm => ?_
  simp only [List.mem_cons, List.not_mem_nil, or_false] at hm
  rcases hm with rfl | rfl
  · unfold wpOp
    simp only [rg_at hi, hw, if_true]
    exact .inl (h _ (Lib.hid fun a' w' h1 h2 => ⟨h1, h2 h1⟩))
  · unfold wpOp
    simp only [rg_at hj, hwj, if_true]
    exact .inl (h' _ (Lib.hid fun a' w' h1 h2 => ⟨h1, h2 h1⟩))
theorem rg_done (hr : Region.ready .any ops listed = []) (h : Q .normal a w) : wpAnyH P .any ops (NoPanic Q) S fuel listed a w := wpAnyH_done hr (NoPanic.normal h) fuel
end
section
variable {o : Oper} {a : Act} {Q : Exit → Act → World → Prop} {K : Act → World → Prop} {w : World}
/-- 'x = v' of a struct variable. -/
theorem wp_store_blk (ty : TypeId) (k : Nat) (hi : (Tryd.prog.info? ty).map (·.size) = some k) (x y : Operand) (ho : o.op = .store ty x y) (hd : o.dst = none)
    {B : Nat} {old : List Value} {cells : Array Value} (hx : a.eval x = .pointer (some ⟨B, 0, none⟩)) (hy : a.eval y = .agg cells) (hB : Blk w B old) (hl : old.length = k) (hc : cells.size = k) (h1 : cells.toList.all (·.oneCell') = true)
    (h : ∀ w', Blk w' B cells.toList → w'.heap.size = w.heap.size → (∀ N a, N ≤ B → Below N a w → Below N a w') → (∀ b, b ≠ B → w'.heap[b]? = w.heap[b]?) → K a w') :
    Oper.wp Tryd.prog o a w K Q := by
  have hk : old.length = cells.size := by omega
  refine wp_store_mid ty x y ho B 0 cells hx hy (by rw [← hk]; exact hB.there) (by rw [hi, hc]) (by rw [← Array.all_toList]; exact h1) ?_
  rw [hd, setCells_all]
  have hs := setAll_heap w B cells.toList 0
  exact h _ (hB.stored _ (by simpa using hk.symm)) hs.1 (fun N a hN hb => setAll_below hb B hN _ _) hs.2
/-- 'append(s, x)', whatever the element. -/
theorem wp_growX {X : Type} {E : El X} (F : ElT E) (s x : Operand) (hgd : o.guard = none) (ho : o.op = .call { callee := .builtin .append, args := #[s, x], argTypes := #[F.sl, F.sl] })
    {P R : Nat → Prop} {base : Nat} {w0 : World} {v : Value} {xs : List X} {y : X} {c : Array Value} {g0 n : Nat} (hs : a.eval s = v) (hx : a.eval x = .slice (some ⟨g0, 0, none⟩) 1 1) (hg0 : g0 = w0.heap.size) (hown : OwnXG E F.e P base w0 v xs)
    (ht : E.C R w0 y c.toList) (hR : ∀ b, R b → b < w0.heap.size → P b ∧ v.ownBlock ≠ some b) (hnl : xs.length = n) (hn : n + 1 ≤ 274877906944) (hbase : base ≤ w0.heap.size)
    (h : ∀ g cap w', OwnXG E F.e P base w' (.slice (some ⟨g, 0, none⟩) (n + 1) cap) (xs ++ [y]) → Below base w0 w' → (w0.alloc (.cells c F.e)).grownBy w' v.ownBlock → (v.ownBlock = some g ∨ w0.heap.size < g) → K (a.put o.dst (.slice (some ⟨g, 0, none⟩) (n + 1) cap)) w') :
    Oper.wp Tryd.prog o a (w0.alloc (.cells c F.e)) K Q := by
  have h1 := step_growX (ops := #[]) (Q := Q) (W := True) F s x hgd ho hs hx hg0 hown ht hR hnl hn hbase h
  rwa [if_pos (by simp [Region.wanted, hgd])] at h1
end
end Go.Proofs.YtedfepnekjjmnabDoor

/-
  A slice of terms written out, at an operation. No condition.
-/
namespace Go.Proofs.YtedfepnekjjmnabDoor
open Go.RowKit
set_option linter.unusedSimpArgs false
set_option linter.unusedVariables false
section
variable {o : Oper} {a : Act} {Q : Exit → Act → World → Prop} {K : Act → World → Prop} {w : World}
set_option maxHeartbeats 1000000 in
theorem build1 (x0 : Operand) (ho : o.op = .buildSlice 22 1 #[(0, x0)]) {c00 c01 c02 c03 : Value} (h0 : a.eval x0 = .agg #[c00, c01, c02, c03])
    (h : K (a.put o.dst (.slice (some ⟨w.heap.size, 0, none⟩) 1 1)) (w.alloc (.cells #[c00, c01, c02, c03] 24))) : Oper.wp Tryd.prog o a w K Q := by
  obtain ⟨i, hi, hz, hs, hb⟩ := info_parts info24
  refine wp_buildSlice 22 24 1 _ ho #[c00, c01, c02, c03] i _ Tryd.underlying22 hi hz (by rw [hs]; decide) (by rw [hs]; decide) ?_ h
  rw [hs]
  have e := Great.fill_whole (s := 4) (by decide) [.agg #[c00, c01, c02, c03]] ((Array.range (1 * 4)).map ((Value.agg #[.int .i64 0, .int .i64 0, .string ⟨#[]⟩, .slice none 0 0]).cells[· % (Value.agg #[.int .i64 0, .int .i64 0, .string ⟨#[]⟩, .slice none 0 0]).cells.size]!)) (by simp [Value.cells]) (by simp)
  simp only [Array.toList_map, List.map_cons, List.map_nil, h0]
  exact e
set_option maxHeartbeats 1000000 in
theorem build2 (x0 x1 : Operand) (ho : o.op = .buildSlice 22 2 #[(0, x0), (1, x1)]) {c00 c01 c02 c03 c10 c11 c12 c13 : Value} (h0 : a.eval x0 = .agg #[c00, c01, c02, c03]) (h1 : a.eval x1 = .agg #[c10, c11, c12, c13])
    (h : K (a.put o.dst (.slice (some ⟨w.heap.size, 0, none⟩) 2 2)) (w.alloc (.cells #[c00, c01, c02, c03, c10, c11, c12, c13] 24))) : Oper.wp Tryd.prog o a w K Q := by
  obtain ⟨i, hi, hz, hs, hb⟩ := info_parts info24
  refine wp_buildSlice 22 24 2 _ ho #[c00, c01, c02, c03, c10, c11, c12, c13] i _ Tryd.underlying22 hi hz (by rw [hs]; decide) (by rw [hs]; decide) ?_ h
  rw [hs]
  have e := Great.fill_whole (s := 4) (by decide) [.agg #[c00, c01, c02, c03], .agg #[c10, c11, c12, c13]] ((Array.range (2 * 4)).map ((Value.agg #[.int .i64 0, .int .i64 0, .string ⟨#[]⟩, .slice none 0 0]).cells[· % (Value.agg #[.int .i64 0, .int .i64 0, .string ⟨#[]⟩, .slice none 0 0]).cells.size]!)) (by simp [Value.cells]) (by simp)
  simp only [Array.toList_map, List.map_cons, List.map_nil, h0, h1]
  exact e
set_option maxHeartbeats 1000000 in
theorem build3 (x0 x1 x2 : Operand) (ho : o.op = .buildSlice 22 3 #[(0, x0), (1, x1), (2, x2)]) {c00 c01 c02 c03 c10 c11 c12 c13 c20 c21 c22 c23 : Value} (h0 : a.eval x0 = .agg #[c00, c01, c02, c03]) (h1 : a.eval x1 = .agg #[c10, c11, c12, c13]) (h2 : a.eval x2 = .agg #[c20, c21, c22, c23])
    (h : K (a.put o.dst (.slice (some ⟨w.heap.size, 0, none⟩) 3 3)) (w.alloc (.cells #[c00, c01, c02, c03, c10, c11, c12, c13, c20, c21, c22, c23] 24))) : Oper.wp Tryd.prog o a w K Q := by
  obtain ⟨i, hi, hz, hs, hb⟩ := info_parts info24
  refine wp_buildSlice 22 24 3 _ ho #[c00, c01, c02, c03, c10, c11, c12, c13, c20, c21, c22, c23] i _ Tryd.underlying22 hi hz (by rw [hs]; decide) (by rw [hs]; decide) ?_ h
  rw [hs]
  have e := Great.fill_whole (s := 4) (by decide) [.agg #[c00, c01, c02, c03], .agg #[c10, c11, c12, c13], .agg #[c20, c21, c22, c23]] ((Array.range (3 * 4)).map ((Value.agg #[.int .i64 0, .int .i64 0, .string ⟨#[]⟩, .slice none 0 0]).cells[· % (Value.agg #[.int .i64 0, .int .i64 0, .string ⟨#[]⟩, .slice none 0 0]).cells.size]!)) (by simp [Value.cells]) (by simp)
  simp only [Array.toList_map, List.map_cons, List.map_nil, h0, h1, h2]
  exact e
set_option maxHeartbeats 1000000 in
theorem build4 (x0 x1 x2 x3 : Operand) (ho : o.op = .buildSlice 22 4 #[(0, x0), (1, x1), (2, x2), (3, x3)]) {c00 c01 c02 c03 c10 c11 c12 c13 c20 c21 c22 c23 c30 c31 c32 c33 : Value} (h0 : a.eval x0 = .agg #[c00, c01, c02, c03]) (h1 : a.eval x1 = .agg #[c10, c11, c12, c13]) (h2 : a.eval x2 = .agg #[c20, c21, c22, c23]) (h3 : a.eval x3 = .agg #[c30, c31, c32, c33])
    (h : K (a.put o.dst (.slice (some ⟨w.heap.size, 0, none⟩) 4 4)) (w.alloc (.cells #[c00, c01, c02, c03, c10, c11, c12, c13, c20, c21, c22, c23, c30, c31, c32, c33] 24))) : Oper.wp Tryd.prog o a w K Q := by
  obtain ⟨i, hi, hz, hs, hb⟩ := info_parts info24
  refine wp_buildSlice 22 24 4 _ ho #[c00, c01, c02, c03, c10, c11, c12, c13, c20, c21, c22, c23, c30, c31, c32, c33] i _ Tryd.underlying22 hi hz (by rw [hs]; decide) (by rw [hs]; decide) ?_ h
  rw [hs]
  have e := Great.fill_whole (s := 4) (by decide) [.agg #[c00, c01, c02, c03], .agg #[c10, c11, c12, c13], .agg #[c20, c21, c22, c23], .agg #[c30, c31, c32, c33]] ((Array.range (4 * 4)).map ((Value.agg #[.int .i64 0, .int .i64 0, .string ⟨#[]⟩, .slice none 0 0]).cells[· % (Value.agg #[.int .i64 0, .int .i64 0, .string ⟨#[]⟩, .slice none 0 0]).cells.size]!)) (by simp [Value.cells]) (by simp)
  simp only [Array.toList_map, List.map_cons, List.map_nil, h0, h1, h2, h3]
  exact e
set_option maxHeartbeats 1000000 in
theorem build5 (x0 x1 x2 x3 x4 : Operand) (ho : o.op = .buildSlice 22 5 #[(0, x0), (1, x1), (2, x2), (3, x3), (4, x4)]) {c00 c01 c02 c03 c10 c11 c12 c13 c20 c21 c22 c23 c30 c31 c32 c33 c40 c41 c42 c43 : Value} (h0 : a.eval x0 = .agg #[c00, c01, c02, c03]) (h1 : a.eval x1 = .agg #[c10, c11, c12, c13]) (h2 : a.eval x2 = .agg #[c20, c21, c22, c23]) (h3 : a.eval x3 = .agg #[c30, c31, c32, c33]) (h4 : a.eval x4 = .agg #[c40, c41, c42, c43])
    (h : K (a.put o.dst (.slice (some ⟨w.heap.size, 0, none⟩) 5 5)) (w.alloc (.cells #[c00, c01, c02, c03, c10, c11, c12, c13, c20, c21, c22, c23, c30, c31, c32, c33, c40, c41, c42, c43] 24))) : Oper.wp Tryd.prog o a w K Q := by
  obtain ⟨i, hi, hz, hs, hb⟩ := info_parts info24
  refine wp_buildSlice 22 24 5 _ ho #[c00, c01, c02, c03, c10, c11, c12, c13, c20, c21, c22, c23, c30, c31, c32, c33, c40, c41, c42, c43] i _ Tryd.underlying22 hi hz (by rw [hs]; decide) (by rw [hs]; decide) ?_ h
  rw [hs]
  have e := Great.fill_whole (s := 4) (by decide) [.agg #[c00, c01, c02, c03], .agg #[c10, c11, c12, c13], .agg #[c20, c21, c22, c23], .agg #[c30, c31, c32, c33], .agg #[c40, c41, c42, c43]] ((Array.range (5 * 4)).map ((Value.agg #[.int .i64 0, .int .i64 0, .string ⟨#[]⟩, .slice none 0 0]).cells[· % (Value.agg #[.int .i64 0, .int .i64 0, .string ⟨#[]⟩, .slice none 0 0]).cells.size]!)) (by simp [Value.cells]) (by simp)
  simp only [Array.toList_map, List.map_cons, List.map_nil, h0, h1, h2, h3, h4]
  exact e
end
end Go.Proofs.YtedfepnekjjmnabDoor

/-
  clerkref.value: what it answers. Conditions: a formed term, four bound ones.
-/
namespace Go.Proofs.YtedfepnekjjmnabDoor
open Go.RowKit
set_option linter.unusedSimpArgs false
set_option linter.unusedVariables false

def VPost (S : Nat → Prop) (w : World) (o : Option T) (e : Ending) (w' : World) : Prop :=
  ∃ t v b, e = .returned (.tuple #[v, .bool b]) ∧ Below w.heap.size w w' ∧ RT (fun b => S b ∨ w.heap.size ≤ b) w' t v ∧ o = if b then some t else none
theorem VPost.of {S : Nat → Prop} {w w' : World} {o : Option T} {e : Ending} (t : T) (v : Value) (b : Bool) (he : e = .returned (.tuple #[v, .bool b])) (hB : Below w.heap.size w w')
    (hr : RT (fun b => S b ∨ w.heap.size ≤ b) w' t v) (ho : o = if b then some t else none) : VPost S w o e w' := ⟨t, v, b, he, hB, hr, ho⟩
theorem RT.slot {S : Nat → Prop} {w : World} {t : T} {v : Value} (h : RT S w t v) (B o : Nat) (u : Value) (hP : ∀ b, S b → b ≠ B) : RT S (w.setCell ⟨B, o, none⟩ u) t v :=
  h.to (fun _ h _ => h) fun b hb _ => setCell_other w B o u b (hP b hb)

section
variable {bd : List T} {self : Int} {x : T} {S : Nat → Prop} {w : World} {v vb : Value}

end
end Go.Proofs.YtedfepnekjjmnabDoor

/-
  clerkref.value on tuples, and in all.
-/
namespace Go.Proofs.YtedfepnekjjmnabDoor
open Go.RowKit
set_option linter.unusedSimpArgs false
set_option linter.unusedVariables false
section
variable {bd : List T} {self : Int} {x : T} {S : Nat → Prop} {w : World} {v vb : Value}

end
end Go.Proofs.YtedfepnekjjmnabDoor

/-
  reckon.sum: what it answers. No condition.
-/
namespace Go.Proofs.YtedfepnekjjmnabDoor
open Go.RowKit
set_option linter.unusedSimpArgs false
set_option linter.unusedVariables false

theorem sumB_eq (x y : T) : sumB x y = (x.kind == 1 && y.kind == 1 && inB (sumN x y) (-1099511627776) 1099511627776) := rfl

end Go.Proofs.YtedfepnekjjmnabDoor

/-
  term.text: what it answers for a term in form. No condition but a bound, and that the table of powers lies as its initialiser lays it.
-/
namespace Go.Proofs.YtedfepnekjjmnabDoor
open Go.RowKit
set_option linter.unusedSimpArgs false
set_option linter.unusedVariables false
set_option maxRecDepth 100000

/-! ### Rows of strings -/
def strE : El ByteArray where
  k := 1
  C := fun _ _ x cs => cs = [.string x]
  len := by rintro S w x cs rfl; rfl
  one := by rintro S w x cs rfl; simp [Value.oneCell']
  «to» := by rintro S S' w w' x cs rfl _ _; rfl
def strF : ElT strE where
  e := 9
  sl := 68
  bytes := 16
  z := .string ⟨#[]⟩
  hund := Tryd.underlying68
  info := by kernel_rfl
  hzs := rfl
  hk := by decide
  hb := by decide
theorem RX.str {R S : Nat → Prop} {w : World} {l : List ByteArray} {b o n cap : Nat} (h : RX strE R S w l (.slice (some ⟨b, o, none⟩) n cap)) (j : Nat) (x : ByteArray) (hj : l[j]? = some x) : w.cell? ⟨b, o + j, none⟩ = some (.string x) := by
  obtain ⟨hl, rfl⟩ := List.getElem?_eq_some_iff.1 hj
  obtain ⟨c, rfl, hc⟩ := h.elem j hl
  have := (hc 0 _ rfl).2
  simpa [strE] using this
/-! ### The table -/
def TabB (w : World) : Prop := Lib.TabBelow Tryd.prog w.heap.size w "internal/strconv.uint64pow10" .u64 Lib.pow10Tab
theorem TabB.on {w w' : World} (h : TabB w) (hB : Below w.heap.size w w') : TabB w' := fun w2 h2 => h w2 (below_step hB hB.size h2)
theorem grow_below (w : World) (k : Nat) (os : Array Obj) : Below w.heap.size w (Sort.grow (w.drewN k) os) := Lib.below_grow _ w (Nat.le_refl _) k os
theorem itoa_c (n : Int) (w : World) (h : TabB w) (h0 : -9223372036854775808 ≤ n) (h1 : n ≤ 9223372036854775807) : Calls Tryd.prog 24 #[.int .i64 n] w fun e w' => e = .returned (.string (bytes (Lib.itoa n))) ∧ Below w.heap.size w w' := by
  refine (Tryd.strconv_Itoa n h0 h1 w (Lib.TabBelow.here h)).mono ?_
  rintro e w' ⟨rfl, k, os, rfl⟩
  exact ⟨rfl, grow_below w k os⟩

/-! ### The text -/
def TextP (t : T) (w : World) (e : Ending) (w' : World) : Prop := e = .returned (.string (txT t)) ∧ Below w.heap.size w w'
set_option maxHeartbeats 4000000 in
theorem text_c : ∀ (t : T) (S : Nat → Prop) (w : World) (v : Value), RT S w t v → formL [t] = true → bulkL [t] ≤ 1099511627776 → TabB w → Calls Tryd.prog 25 #[v] w (TextP t w) := by
  intro t
  induction t using T.ind with
  | h t ih =>
    intro S w v hv hf hb htab
    obtain ⟨a, cap, rfl, hcap, hr⟩ := hv
    have hba := bulk_args t
    have hla := length_le_bulk t.args
    have hln := textT_len hf
    obtain ⟨hh, hfa⟩ := form_head hf
    have hn := form_n hh
    have hkk := head_kinds hh
    have ha8 := head_args8 hh
    have hlens := textL_len _ t.args (Nat.le_refl _) hfa
    obtain ⟨W0, hW0⟩ : ∃ W : World, W = w.alloc (.cells #[.int .i64 t.kind, .int .i64 t.n, .string t.name, .slice a t.args.length cap] 24) := ⟨_, rfl⟩
    have HX : Hid (Blk W0 w.heap.size [.int .i64 t.kind, .int .i64 t.n, .string t.name, .slice a t.args.length cap]) := Lib.hid (by rw [hW0]; exact Blk.new _ _ _ _ rfl)
    have HB0 : Hid (Below w.heap.size w W0) := Lib.hid (by rw [hW0]; exact below_alloc _ _)
    have HT0 : Hid (TabB W0) := Lib.hid (htab.on HB0.out)
    have HR : Hid (RTs S W0 t.args a 0) := Lib.hid (by rw [hW0]; exact hr.alloc _)
    have hs0 := HB0.out.size
    have HFA := Lib.hid hfa
    have IH := Lib.hid ih
    have hn1 := hn.1
    have hn2 := hn.2
    have HW0 := Lib.hid hW0
    clear ih hr hfa hf hh htab hW0 hn
    rcases hkk with hk | hk | hk | hk | hk | hk
    · have HT : Hid (txT t = bytes (Lib.itoa t.n)) := Lib.hid (by unfold txT textT; rw [if_pos hk])
      have k1 : (t.kind == 1) = true := by rw [hk]; rfl
      clear hk
      go_enter Tryd.func25, Tryd.ntmps25
      go_upto_region 1 with fail
      rw [← HW0.out]
      have y0 := HX.out.cell 0 _ rfl
      have y1 := HX.out.cell 1 _ rfl
      have y2 := HX.out.cell 2 _ rfl
      have y3 := HX.out.cell 3 _ rfl
      have hL : ¬ 9223372036854775807 < 1 + (bytes (Lib.itoa t.n)).size := by rw [bytes_size]; have := Lib.itoa_length_le t.n hn1 hn2; omega
      go_wp2_with fail
      refine (itoa_c t.n W0 HT0.out hn1 hn2).mono ?_
      rintro e w1 ⟨rfl, hB1⟩
      go_wp2_with fail
      go_ret
      exact ⟨by rw [HT.out]; rfl, below_step HB0.out hs0 hB1⟩
    · have HT : Hid (txT t = bytes t.name.data.toList) := Lib.hid (by unfold txT textT; rw [if_neg (by omega)]; rw [if_pos hk])
      have q1 : (t.kind == 1) = false := by rw [hk]; rfl
      have k1 : (t.kind == 2) = true := by rw [hk]; rfl
      clear hk
      go_enter Tryd.func25, Tryd.ntmps25
      go_upto_region 1 with fail
      rw [← HW0.out]
      have y0 := HX.out.cell 0 _ rfl
      have y1 := HX.out.cell 1 _ rfl
      have y2 := HX.out.cell 2 _ rfl
      have y3 := HX.out.cell 3 _ rfl
      go_wp2_with fail
      go_ret
      exact ⟨by rw [HT.out, bytes_of]; rfl, HB0.out⟩
    · have HT : Hid (txT t = bytes (35 :: Lib.itoa t.n)) := Lib.hid (by unfold txT textT; rw [if_neg (by omega)]; rw [if_neg (by omega)]; rw [if_pos hk])
      have q1 : (t.kind == 1) = false := by rw [hk]; rfl
      have q2 : (t.kind == 2) = false := by rw [hk]; rfl
      have k1 : (t.kind == 3) = true := by rw [hk]; rfl
      clear hk
      go_enter Tryd.func25, Tryd.ntmps25
      go_upto_region 1 with fail
      rw [← HW0.out]
      have y0 := HX.out.cell 0 _ rfl
      have y1 := HX.out.cell 1 _ rfl
      have y2 := HX.out.cell 2 _ rfl
      have y3 := HX.out.cell 3 _ rfl
      have hL : ¬ 9223372036854775807 < 1 + (bytes (Lib.itoa t.n)).size := by rw [bytes_size]; have := Lib.itoa_length_le t.n hn1 hn2; omega
      go_wp2_with fail
      refine (itoa_c t.n W0 HT0.out hn1 hn2).mono ?_
      rintro e w1 ⟨rfl, hB1⟩
      go_wp2_with fail
      go_ret
      exact ⟨by rw [HT.out]; rw [← bytes_cons]; rfl, below_step HB0.out hs0 hB1⟩
    · have HT : Hid (txT t = bytes (40 :: (Lib.join (textL t.args) [32] ++ [41]))) := Lib.hid (by unfold txT textT; rw [if_neg (by omega)]; rw [if_neg (by omega)]; rw [if_neg (by omega)]; rw [if_neg (by omega)]; rw [if_neg (by omega)]; skip)
      have q1 : (t.kind == 1) = false := by rw [hk]; rfl
      have q2 : (t.kind == 2) = false := by rw [hk]; rfl
      have q3 : (t.kind == 3) = false := by rw [hk]; rfl
      have q5 : (t.kind == 5) = false := by rw [hk]; rfl
      have q6 : (t.kind == 6) = false := by rw [hk]; rfl
      clear hk
      go_enter Tryd.func25, Tryd.ntmps25
      go_upto_region 1 with fail
      rw [← HW0.out]
      have y0 := HX.out.cell 0 _ rfl
      have y1 := HX.out.cell 1 _ rfl
      have y2 := HX.out.cell 2 _ rfl
      have y3 := HX.out.cell 3 _ rfl
      go_wp2_with fail
      go_loopw [3, 34] (fun s3 i wr => ∃ k : Nat, k ≤ t.args.length ∧ i = .int .i64 k ∧ OwnXG strE 9 (fun _ => True) 0 wr s3 ((t.args.take k).map txT) ∧ Below w.heap.size w wr ∧ Below W0.heap.size W0 wr ∧ ∀ b, s3.ownBlock = some b → W0.heap.size ≤ b) (fun _ i _ => t.args.length - (intOf i).toNat)
      case atStart => exact ⟨0, Nat.zero_le _, rfl, OwnXG.nil _ _ _ _, HB0.out, Below.refl _ _, by simp [Value.ownBlock]⟩
      case round =>
        obtain ⟨k, hkl, rfl, hO, hB, hBW, hOB⟩ := hrel
        obtain ⟨wq, rfl⟩ : ∃ wq : World, wq = wr := ⟨_, rfl⟩
        obtain ⟨ar, cr, hrow, -⟩ := hO.form
        have hlk : ((t.args.take k).map txT).length = k := by rw [List.length_map, List.length_take]; omega
        rw [hlk] at hrow
        subst hrow
        have hsq := hBW.size
        have HRq := Lib.hid (HR.out.below hBW)
        have HO := Lib.hid hO
        have HB := Lib.hid hB
        have HBW := Lib.hid hBW
        have HOB := Lib.hid hOB
        have HLK := Lib.hid hlk
        clear hO hB hBW hOB hlk y0 y1 y2 y3
        by_cases hlt : k < t.args.length
        · obtain ⟨b, o, rfl⟩ := HRq.out.addr (by omega)
          obtain ⟨a', cap', _, d0, d1, d2, d3, hE⟩ := HRq.out.elem k hlt
          have hbk := bulk_at hlt
          have HE := Lib.hid hE
          have HFX := Lib.hid (form_mem HFA.out (List.getElem_mem hlt))
          have HMEM := Lib.hid (List.getElem_mem hlt)
          obtain ⟨x, hx⟩ : ∃ x, x = t.args[k] := ⟨_, rfl⟩
          rw [← hx] at d0 d1 d2 d3 HE HFX HMEM hbk
          have HXE := Lib.hid hx
          clear hE hx
          go_wp2_with fail
          refine (IH.out x HMEM.out S _ _ (HE.out.alloc _) HFX.out (by omega) ((HT0.out.on HBW.out).on (below_alloc _ _))).mono ?_
          rintro e w1 ⟨rfl, hB1⟩
          have hs1 := hB1.size
          simp only [World.size_alloc] at hs1
          have HB1 : Hid (Below wq.heap.size wq w1) := Lib.hid ((below_alloc _ _).trans (hB1.mono (by simp)))
          have HO1 := Lib.hid (HO.out.below HB1.out)
          clear hB1 d0 d1 d2 d3
          go_wp2_with (at_builtin; (refine append_growX strF (v := .slice ar k cr) (y := txT x) (g0 := w1.heap.size) (n := k) _ _ rfl rfl (by rfl) (by rfl) rfl (show OwnXG strE strF.e (fun _ => True) 0 w1 (.slice ar k cr) ((t.args.take k).map txT) from HO1.out) (R := fun _ => False) rfl (fun b hb => hb.elim) HLK.out (by omega) (by omega) ?_); intro g1 c1' w8 hO8 hB8 hG8 hD8; have hs8 := hB8.size; have HO8 := Lib.hid hO8; have HB8 := Lib.hid hB8; have HG8 := Lib.hid hG8; have HD8 := Lib.hid hD8; clear hO8 hB8 hG8 hD8)
          have u1 : IntKind.i64.wrap ((k : Int) + 1) = ((k + 1 : Nat) : Int) := by rw [IntKind.wrap_i64]; omega
          have hgw : Below W0.heap.size W0 w8 := by
            have h1 : Below W0.heap.size W0 w1 := HBW.out.trans (HB1.out.mono hsq)
            refine h1.trans ⟨HB8.out.os, HB8.out.tape, HB8.out.output, hs8, fun b hb => (HG8.out.block b (by simp; omega) (fun e => by have := HOB.out b e.symm; omega)).trans (Below.heap_alloc _ _ _ (by omega))⟩
          have hmap : (t.args.take (k + 1)).map txT = (t.args.take k).map txT ++ [txT x] := by rw [take_snoc' t.args k hlt, List.map_append, ← HXE.out]; rfl
          refine ⟨⟨k + 1, by omega, rfl, by rw [hmap]; exact HO8.out, HB0.out.trans (hgw.mono hs0), hgw, fun b hb => ?_⟩, by simp [intOf]; omega⟩
          have e1 : g1 = b := by simpa [Value.ownBlock] using hb
          subst e1
          rcases HD8.out with h | h
          · exact HOB.out _ h
          · omega
        · have hkk : k = t.args.length := by omega
          subst hkk
          have htk : t.args.take t.args.length = t.args := List.take_of_length_le (by omega)
          have HO2 : Hid (OwnXG strE 9 (fun _ => True) 0 wq (.slice ar t.args.length cr) (t.args.map txT)) := Lib.hid (by have := HO.out; rw [htk] at this; exact this)
          have hxs : (t.args.map txT).map (·.data.toList) = textL t.args := by
            rw [textL_map, List.map_map]
            exact List.map_congr_left fun x _ => bytes_data _
          have hjl0 := join_len (textL t.args)
          have htl : (textL t.args).length = t.args.length := by rw [textL_map]; simp
          have hjl : (Lib.join (textL t.args) [32]).length ≤ Lib.lens (textL t.args) + t.args.length := by omega
          clear hjl0 htl
          have HJ : Hid (Calls Tryd.prog 44 #[.slice ar t.args.length cr, .string ⟨#[32]⟩] wq fun e w' => e = .returned (.string (bytes (Lib.join (textL t.args) [32]))) ∧ Below wq.heap.size wq w') := Lib.hid (by
            by_cases h0 : 0 < t.args.length
            · obtain ⟨cs, ho1, -⟩ := HO2.out
              obtain ⟨g, cap', e, -, hgl⟩ := ho1.form (by simp; omega)
              simp only [Value.slice.injEq] at e
              obtain ⟨rfl, -, -⟩ := e
              have hrx := OwnX.rx HO2.out
              have h1 := Tryd.strings_Join g 0 cr (t.args.map txT) ⟨#[32]⟩ wq (fun j x hj => by have := hrx.str j x hj; simpa using this) hgl (by simp; omega) (by obtain ⟨a', c', _, e', hc', _⟩ := hrx; simp only [Value.slice.injEq] at e'; obtain ⟨-, -, rfl⟩ := e'; exact hc'.1) (by rw [hxs]; show (Lib.join (textL t.args) [32]).length ≤ _; omega)
              rw [hxs] at h1
              simp only [List.length_map] at h1
              exact h1
            · have hl0 : t.args.length = 0 := by omega
              have h2 : t.args = [] := List.eq_nil_of_length_eq_zero hl0
              rw [hl0]
              refine (Tryd.strings_Join_none ar cr ⟨#[32]⟩ wq).mono ?_
              rintro e w' ⟨rfl, rfl⟩
              exact ⟨by rw [h2, show textL [] = [] by rw [textL]]; rfl, Below.refl _ _⟩)
          have hL1 : ¬ 9223372036854775807 < 1 + (bytes (Lib.join (textL t.args) [32])).size := by rw [bytes_size]; omega
          have hL2 : ¬ 9223372036854775807 < 1 + (bytes (Lib.join (textL t.args) [32])).size + 1 := by rw [bytes_size]; omega
          clear htk hxs HO2 HO HLK hjl
          go_wp2_with fail
          refine HJ.out.mono ?_
          rintro e w1 ⟨rfl, hB1⟩
          go_wp2_with fail
          go_ret
          exact ⟨by rw [HT.out]; exact text_tuple _, HB.out.trans (hB1.mono (by have := HB.out.size; omega))⟩
    · have HT : Hid (txT t = bytes (36 :: Lib.itoa t.n)) := Lib.hid (by unfold txT textT; rw [if_neg (by omega)]; rw [if_neg (by omega)]; rw [if_neg (by omega)]; rw [if_pos hk])
      have q1 : (t.kind == 1) = false := by rw [hk]; rfl
      have q2 : (t.kind == 2) = false := by rw [hk]; rfl
      have q3 : (t.kind == 3) = false := by rw [hk]; rfl
      have k1 : (t.kind == 5) = true := by rw [hk]; rfl
      clear hk
      go_enter Tryd.func25, Tryd.ntmps25
      go_upto_region 1 with fail
      rw [← HW0.out]
      have y0 := HX.out.cell 0 _ rfl
      have y1 := HX.out.cell 1 _ rfl
      have y2 := HX.out.cell 2 _ rfl
      have y3 := HX.out.cell 3 _ rfl
      have hL : ¬ 9223372036854775807 < 1 + (bytes (Lib.itoa t.n)).size := by rw [bytes_size]; have := Lib.itoa_length_le t.n hn1 hn2; omega
      go_wp2_with fail
      refine (itoa_c t.n W0 HT0.out hn1 hn2).mono ?_
      rintro e w1 ⟨rfl, hB1⟩
      go_wp2_with fail
      go_ret
      exact ⟨by rw [HT.out]; rw [← bytes_cons]; rfl, below_step HB0.out hs0 hB1⟩
    · have HT : Hid (txT t = bytes [95]) := Lib.hid (by unfold txT textT; rw [if_neg (by omega)]; rw [if_neg (by omega)]; rw [if_neg (by omega)]; rw [if_neg (by omega)]; rw [if_pos hk])
      have q1 : (t.kind == 1) = false := by rw [hk]; rfl
      have q2 : (t.kind == 2) = false := by rw [hk]; rfl
      have q3 : (t.kind == 3) = false := by rw [hk]; rfl
      have q5 : (t.kind == 5) = false := by rw [hk]; rfl
      have k1 : (t.kind == 6) = true := by rw [hk]; rfl
      clear hk
      go_enter Tryd.func25, Tryd.ntmps25
      go_upto_region 1 with fail
      rw [← HW0.out]
      have y0 := HX.out.cell 0 _ rfl
      have y1 := HX.out.cell 1 _ rfl
      have y2 := HX.out.cell 2 _ rfl
      have y3 := HX.out.cell 3 _ rfl
      go_wp2_with fail
      go_ret
      exact ⟨by rw [HT.out]; rfl, HB0.out⟩
end Go.Proofs.YtedfepnekjjmnabDoor

/-
  clerkref.Text: what it answers for a term in form. No condition but a bound, and that the table of powers lies as its initialiser lays it.
-/
namespace Go.Proofs.YtedfepnekjjmnabDoor
open Go.RowKit
set_option linter.unusedSimpArgs false
set_option linter.unusedVariables false
set_option maxRecDepth 100000

set_option maxHeartbeats 4000000 in
theorem rtext_c : ∀ (t : T) (S : Nat → Prop) (w : World) (v : Value), RT S w t v → formL [t] = true → bulkL [t] ≤ 1099511627776 → TabB w → Calls Tryd.prog 7 #[v] w (TextP t w) := by
  intro t
  induction t using T.ind with
  | h t ih =>
    intro S w v hv hf hb htab
    obtain ⟨a, cap, rfl, hcap, hr⟩ := hv
    have hba := bulk_args t
    have hla := length_le_bulk t.args
    have hln := textT_len hf
    obtain ⟨hh, hfa⟩ := form_head hf
    have hn := form_n hh
    have hkk := head_kinds hh
    have ha8 := head_args8 hh
    have hlens := textL_len _ t.args (Nat.le_refl _) hfa
    obtain ⟨W0, hW0⟩ : ∃ W : World, W = w.alloc (.cells #[.int .i64 t.kind, .int .i64 t.n, .string t.name, .slice a t.args.length cap] 24) := ⟨_, rfl⟩
    have HX : Hid (Blk W0 w.heap.size [.int .i64 t.kind, .int .i64 t.n, .string t.name, .slice a t.args.length cap]) := Lib.hid (by rw [hW0]; exact Blk.new _ _ _ _ rfl)
    have HB0 : Hid (Below w.heap.size w W0) := Lib.hid (by rw [hW0]; exact below_alloc _ _)
    have HT0 : Hid (TabB W0) := Lib.hid (htab.on HB0.out)
    have HR : Hid (RTs S W0 t.args a 0) := Lib.hid (by rw [hW0]; exact hr.alloc _)
    have hs0 := HB0.out.size
    have HFA := Lib.hid hfa
    have IH := Lib.hid ih
    have hn1 := hn.1
    have hn2 := hn.2
    have HW0 := Lib.hid hW0
    clear ih hr hfa hf hh htab hW0 hn
    rcases hkk with hk | hk | hk | hk | hk | hk
    · have HT : Hid (txT t = bytes (Lib.itoa t.n)) := Lib.hid (by unfold txT textT; rw [if_pos hk])
      have k1 : (t.kind == 1) = true := by rw [hk]; rfl
      clear hk
      go_enter Tryd.func7, Tryd.ntmps7
      go_upto_region 1 with fail
      rw [← HW0.out]
      have y0 := HX.out.cell 0 _ rfl
      have y1 := HX.out.cell 1 _ rfl
      have y2 := HX.out.cell 2 _ rfl
      have y3 := HX.out.cell 3 _ rfl
      have hL : ¬ 9223372036854775807 < 1 + (bytes (Lib.itoa t.n)).size := by rw [bytes_size]; have := Lib.itoa_length_le t.n hn1 hn2; omega
      go_wp2_with fail
      refine (itoa_c t.n W0 HT0.out hn1 hn2).mono ?_
      rintro e w1 ⟨rfl, hB1⟩
      go_wp2_with fail
      go_ret
      exact ⟨by rw [HT.out]; rfl, below_step HB0.out hs0 hB1⟩
    · have HT : Hid (txT t = bytes t.name.data.toList) := Lib.hid (by unfold txT textT; rw [if_neg (by omega)]; rw [if_pos hk])
      have q1 : (t.kind == 1) = false := by rw [hk]; rfl
      have k1 : (t.kind == 2) = true := by rw [hk]; rfl
      clear hk
      go_enter Tryd.func7, Tryd.ntmps7
      go_upto_region 1 with fail
      rw [← HW0.out]
      have y0 := HX.out.cell 0 _ rfl
      have y1 := HX.out.cell 1 _ rfl
      have y2 := HX.out.cell 2 _ rfl
      have y3 := HX.out.cell 3 _ rfl
      go_wp2_with fail
      go_ret
      exact ⟨by rw [HT.out, bytes_of]; rfl, HB0.out⟩
    · have HT : Hid (txT t = bytes (35 :: Lib.itoa t.n)) := Lib.hid (by unfold txT textT; rw [if_neg (by omega)]; rw [if_neg (by omega)]; rw [if_pos hk])
      have q1 : (t.kind == 1) = false := by rw [hk]; rfl
      have q2 : (t.kind == 2) = false := by rw [hk]; rfl
      have k1 : (t.kind == 3) = true := by rw [hk]; rfl
      clear hk
      go_enter Tryd.func7, Tryd.ntmps7
      go_upto_region 1 with fail
      rw [← HW0.out]
      have y0 := HX.out.cell 0 _ rfl
      have y1 := HX.out.cell 1 _ rfl
      have y2 := HX.out.cell 2 _ rfl
      have y3 := HX.out.cell 3 _ rfl
      have hL : ¬ 9223372036854775807 < 1 + (bytes (Lib.itoa t.n)).size := by rw [bytes_size]; have := Lib.itoa_length_le t.n hn1 hn2; omega
      go_wp2_with fail
      refine (itoa_c t.n W0 HT0.out hn1 hn2).mono ?_
      rintro e w1 ⟨rfl, hB1⟩
      go_wp2_with fail
      go_ret
      exact ⟨by rw [HT.out]; rw [← bytes_cons]; rfl, below_step HB0.out hs0 hB1⟩
    · have HT : Hid (txT t = bytes (40 :: (Lib.join (textL t.args) [32] ++ [41]))) := Lib.hid (by unfold txT textT; rw [if_neg (by omega)]; rw [if_neg (by omega)]; rw [if_neg (by omega)]; rw [if_neg (by omega)]; rw [if_neg (by omega)]; skip)
      have q1 : (t.kind == 1) = false := by rw [hk]; rfl
      have q2 : (t.kind == 2) = false := by rw [hk]; rfl
      have q3 : (t.kind == 3) = false := by rw [hk]; rfl
      have q5 : (t.kind == 5) = false := by rw [hk]; rfl
      have q6 : (t.kind == 6) = false := by rw [hk]; rfl
      clear hk
      go_enter Tryd.func7, Tryd.ntmps7
      go_upto_region 1 with fail
      rw [← HW0.out]
      have y0 := HX.out.cell 0 _ rfl
      have y1 := HX.out.cell 1 _ rfl
      have y2 := HX.out.cell 2 _ rfl
      have y3 := HX.out.cell 3 _ rfl
      go_wp2_with fail
      go_loopw [3, 4] (fun s3 i wr => ∃ k : Nat, k ≤ t.args.length ∧ i = .int .i64 k ∧ s3 = .string (bytes (partText t.args k)) ∧ Below w.heap.size w wr ∧ Below W0.heap.size W0 wr) (fun _ i _ => t.args.length - (intOf i).toNat)
      case atStart => exact ⟨0, Nat.zero_le _, rfl, by rw [partText_zero]; rfl, HB0.out, Below.refl _ _⟩
      case round =>
        obtain ⟨k, hkl, rfl, rfl, hB, hBW⟩ := hrel
        obtain ⟨wq, rfl⟩ : ∃ wq : World, wq = wr := ⟨_, rfl⟩
        have hsq := hBW.size
        have HRq := Lib.hid (HR.out.below hBW)
        have HB := Lib.hid hB
        have HBW := Lib.hid hBW
        have HXq := Lib.hid (HX.out.step hBW)
        have hpl := partText_len t.args k
        clear hB hBW y0 y1 y2 y3
        have y3 := HXq.out.cell 3 _ rfl
        by_cases hlt : k < t.args.length
        · obtain ⟨b, o, rfl⟩ := HRq.out.addr (by omega)
          obtain ⟨a', cap', _, d0, d1, d2, d3, hE⟩ := HRq.out.elem k hlt
          have hbk := bulk_at hlt
          have HE := Lib.hid hE
          have HFX := Lib.hid (form_mem HFA.out (List.getElem_mem hlt))
          have HMEM := Lib.hid (List.getElem_mem hlt)
          have hxl := textT_len HFX.out
          obtain ⟨x, hx⟩ : ∃ x, x = t.args[k] := ⟨_, rfl⟩
          rw [← hx] at d0 d1 d2 d3 HE HFX HMEM hbk hxl
          have HXE := Lib.hid hx
          clear hE hx
          by_cases h0 : 0 < k
          · have hs := partText_succ hlt h0
            rw [← HXE.out] at hs
            have HSX : Hid (bytes (partText t.args k) ++ (⟨#[32]⟩ : ByteArray) ++ txT x = bytes (partText t.args (k + 1))) := Lib.hid (by
              rw [hs, show (⟨#[32]⟩ : ByteArray) = bytes [32] from rfl, bytes_append, show txT x = bytes (textT x) from rfl, bytes_append])
            clear hs
            have hL1 : ¬ 9223372036854775807 < (bytes (partText t.args k)).size + 1 := by rw [bytes_size]; omega
            have hL2 : ¬ 9223372036854775807 < (bytes (partText t.args k)).size + 1 + (txT x).size := by rw [bytes_size, show (txT x).size = (textT x).length from bytes_size _]; omega
            go_wp2_with fail
            refine (IH.out x HMEM.out S _ _ HE.out HFX.out (by omega) (HT0.out.on HBW.out)).mono ?_
            rintro e w1 ⟨rfl, hB1⟩
            go_wp2_with fail
            go_roundw
            case rel => exact ⟨k + 1, by omega, by go_num, by rw [← HSX.out], HB.out.trans (hB1.mono (by have := HB.out.size; omega)), HBW.out.trans (hB1.mono (by omega))⟩
            case measure => simp [intOf]; omega
          · obtain rfl : k = 0 := by omega
            simp only [Nat.zero_mul, Nat.add_zero] at d0 d1 d2 d3
            have hs := partText_one hlt
            rw [← HXE.out] at hs
            have HSX : Hid (bytes (partText t.args 0) ++ txT x = bytes (partText t.args 1)) := Lib.hid (by
              rw [hs, partText_zero, show txT x = bytes (textT x) from rfl, bytes_append])
            clear hs
            have hL2 : ¬ 9223372036854775807 < (bytes (partText t.args 0)).size + (txT x).size := by rw [bytes_size, show (txT x).size = (textT x).length from bytes_size _]; omega
            go_wp2_with fail
            refine (IH.out x HMEM.out S _ _ HE.out HFX.out (by omega) (HT0.out.on HBW.out)).mono ?_
            rintro e w1 ⟨rfl, hB1⟩
            go_wp2_with fail
            go_roundw
            case rel => exact ⟨1, by omega, rfl, by rw [← HSX.out], HB.out.trans (hB1.mono (by have := HB.out.size; omega)), HBW.out.trans (hB1.mono (by omega))⟩
            case measure => simp [intOf]; omega
        · have hkk : k = t.args.length := by omega
          subst hkk
          have hL1 : ¬ 9223372036854775807 < (bytes (partText t.args t.args.length)).size + 1 := by rw [bytes_size]; omega
          go_wp2_with fail
          go_ret
          exact ⟨by rw [HT.out, partText_all, ← bytes_append]; rfl, HB.out⟩
    · have HT : Hid (txT t = bytes (36 :: Lib.itoa t.n)) := Lib.hid (by unfold txT textT; rw [if_neg (by omega)]; rw [if_neg (by omega)]; rw [if_neg (by omega)]; rw [if_pos hk])
      have q1 : (t.kind == 1) = false := by rw [hk]; rfl
      have q2 : (t.kind == 2) = false := by rw [hk]; rfl
      have q3 : (t.kind == 3) = false := by rw [hk]; rfl
      have k1 : (t.kind == 5) = true := by rw [hk]; rfl
      clear hk
      go_enter Tryd.func7, Tryd.ntmps7
      go_upto_region 1 with fail
      rw [← HW0.out]
      have y0 := HX.out.cell 0 _ rfl
      have y1 := HX.out.cell 1 _ rfl
      have y2 := HX.out.cell 2 _ rfl
      have y3 := HX.out.cell 3 _ rfl
      have hL : ¬ 9223372036854775807 < 1 + (bytes (Lib.itoa t.n)).size := by rw [bytes_size]; have := Lib.itoa_length_le t.n hn1 hn2; omega
      go_wp2_with fail
      refine (itoa_c t.n W0 HT0.out hn1 hn2).mono ?_
      rintro e w1 ⟨rfl, hB1⟩
      go_wp2_with fail
      go_ret
      exact ⟨by rw [HT.out]; rw [← bytes_cons]; rfl, below_step HB0.out hs0 hB1⟩
    · have HT : Hid (txT t = bytes [95]) := Lib.hid (by unfold txT textT; rw [if_neg (by omega)]; rw [if_neg (by omega)]; rw [if_neg (by omega)]; rw [if_neg (by omega)]; rw [if_pos hk])
      have q1 : (t.kind == 1) = false := by rw [hk]; rfl
      have q2 : (t.kind == 2) = false := by rw [hk]; rfl
      have q3 : (t.kind == 3) = false := by rw [hk]; rfl
      have q5 : (t.kind == 5) = false := by rw [hk]; rfl
      have k1 : (t.kind == 6) = true := by rw [hk]; rfl
      clear hk
      go_enter Tryd.func7, Tryd.ntmps7
      go_upto_region 1 with fail
      rw [← HW0.out]
      have y0 := HX.out.cell 0 _ rfl
      have y1 := HX.out.cell 1 _ rfl
      have y2 := HX.out.cell 2 _ rfl
      have y3 := HX.out.cell 3 _ rfl
      go_wp2_with fail
      go_ret
      exact ⟨by rw [HT.out]; rfl, HB0.out⟩
end Go.Proofs.YtedfepnekjjmnabDoor

/-
  term.Print: what it answers. No condition but a bound, and the table of powers as its initialiser lays it.
-/
namespace Go.Proofs.YtedfepnekjjmnabDoor
open Go.RowKit
set_option linter.unusedSimpArgs false
set_option linter.unusedVariables false
set_option maxRecDepth 100000

theorem check_form0 {t : T} (h : checkE t = 0) : formL [t] = true := by
  unfold checkE at h
  split at h
  · assumption
  · omega
def printS (t : T) : ByteArray := if checkE t = 0 then txT t else ⟨#[]⟩
def PrintP (t : T) (w : World) (e : Ending) (w' : World) : Prop := e = .returned (.tuple #[.string (printS t), .int .i64 (checkE t)]) ∧ Below w.heap.size w w'
set_option maxHeartbeats 1000000 in
theorem print_c (t : T) (S : Nat → Prop) (w : World) (v : Value) (hv : RT S w t v) (hb : bulkL [t] ≤ 1099511627776) (htab : TabB w) : Calls Tryd.prog 8 #[v] w (PrintP t w) := by
  obtain ⟨a, cap, rfl, hcap, hr⟩ := hv
  obtain ⟨W0, hW0⟩ : ∃ W : World, W = w.alloc (.cells #[.int .i64 t.kind, .int .i64 t.n, .string t.name, .slice a t.args.length cap] 24) := ⟨_, rfl⟩
  obtain ⟨g0, hg0⟩ : ∃ g, g = w.heap.size := ⟨_, rfl⟩
  have HX : Hid (Blk W0 g0 [.int .i64 t.kind, .int .i64 t.n, .string t.name, .slice a t.args.length cap]) := Lib.hid (by rw [hW0]; exact Blk.new _ _ _ _ hg0)
  have HB0 : Hid (Below w.heap.size w W0) := Lib.hid (by rw [hW0]; exact below_alloc _ _)
  have HT0 : Hid (TabB W0) := Lib.hid (htab.on HB0.out)
  have HR : Hid (RT S W0 t (.agg #[.int .i64 t.kind, .int .i64 t.n, .string t.name, .slice a t.args.length cap])) := Lib.hid (RT.below ⟨a, cap, rfl, hcap, hr⟩ HB0.out)
  have hs0 := HB0.out.size
  have HW0 := Lib.hid hW0
  have HG0 := Lib.hid hg0
  clear hr hcap htab hW0 hg0
  go_enter Tryd.func8, Tryd.ntmps8
  go_upto_region 1 with fail
  rw [← HW0.out, ← HG0.out]
  have y0 := HX.out.cell 0 _ rfl
  have y1 := HX.out.cell 1 _ rfl
  have y2 := HX.out.cell 2 _ rfl
  have y3 := HX.out.cell 3 _ rfl
  go_wp2_with fail
  refine (check_c t S W0 _ HR.out (by omega)).mono ?_
  rintro e w1 ⟨rfl, hB1⟩
  have hs1 := hB1.size
  have HB1 := Lib.hid hB1
  have HX1 := Lib.hid (HX.out.step hB1)
  clear hB1 y0 y1 y2 y3
  by_cases hck : checkE t = 0
  · have HCK := Lib.hid hck
    have hcb : (checkE t != 0) = false := by rw [hck]; rfl
    clear hck
    have y0 := HX1.out.cell 0 _ rfl
    have y1 := HX1.out.cell 1 _ rfl
    have y2 := HX1.out.cell 2 _ rfl
    have y3 := HX1.out.cell 3 _ rfl
    go_wp2_with fail
    refine (text_c t S w1 _ (HR.out.below HB1.out) (check_form0 HCK.out) hb (HT0.out.on HB1.out)).mono ?_
    rintro e w2 ⟨rfl, hB2⟩
    go_wp2_with fail
    go_ret2
    exact ⟨by unfold printS; rw [HCK.out]; rfl, HB0.out.trans ((HB1.out.trans (hB2.mono hs1)).mono hs0)⟩
  · have HCK := Lib.hid hck
    have hcb : (checkE t != 0) = true := by simp [hck]
    clear hck
    go_wp2_with fail
    go_ret2
    exact ⟨by unfold printS; rw [if_neg HCK.out]; rfl, HB0.out.trans (HB1.out.mono hs0)⟩
end Go.Proofs.YtedfepnekjjmnabDoor

/-
  The tables that the Door's rows list: what a world holds that reads them; a world for the witness. No condition.
-/
namespace Go.Proofs.YtedfepnekjjmnabDoor
open Go.ChangeShapes Go.WideShapes Go.ChangeAt Go.RowKit
set_option linter.unusedSimpArgs false
set_option linter.unusedVariables false
set_option maxRecDepth 100000

theorem gTab : Tryd.prog.globalNamed "internal/strconv.uint64pow10" = some 0 := by kernel_rfl
theorem gTabType : (Tryd.prog.globals[0]?).map (·.type) = some 108 := by kernel_rfl
theorem cellsPow : Tryd.prog.cellsOf 108 = 20 := by kernel_rfl
theorem cellsU64 : Tryd.prog.cellsOf 100 = 1 := by kernel_rfl
theorem powData : (Rows.laid_internal_strconv_uint64pow10 : DataW Unit) = Lib.tabData .u64 Lib.pow10Tab := by kernel_rfl
theorem tab_of {W : World} (h : laidMetH Tryd.prog Rows.termSaysUptoRow.laid W) : TabB W := by
  have h1 : laidMet Tryd.prog [("math/bits.deBruijn32tab", Rows.laid_math_bits_deBruijn32tab), ("math/bits.deBruijn64tab", Rows.laid_math_bits_deBruijn64tab), ("internal/strconv.uint64pow10", Rows.laid_internal_strconv_uint64pow10)] W := h
  obtain ⟨g', t', cs, fuel, p, hg', ht', hvar, hd⟩ := Lib.laidMet.reads h1 (.tail _ (.tail _ (.head _)))
  obtain rfl := Option.some.inj (gTab.symm.trans hg')
  obtain rfl := Option.some.inj (gTabType.symm.trans ht')
  rw [powData] at hd
  refine Lib.tabBelow_of_tabIs ?_
  unfold Lib.TabIs
  rw [hvar, ← Lib.cells_of_tab Tryd.underlying108 Tryd.underlying100 cellsU64 cellsPow hd]
/-- A world for the witness: the settled one, the three tables as their initialisers lay them. -/
noncomputable def setTab (g : Nat) (cs : Array Value) (h : Array Obj) : Array Obj := h.modify g fun
  | .cells _ t frozen => .cells cs t frozen
  | o => o
noncomputable def laidWorld (os : Os) : World :=
  { World.holding Tryd.prog os ⟨#[], #[], []⟩ with heap := setTab 3 #[.int .u8 0, .int .u8 1, .int .u8 56, .int .u8 2, .int .u8 57, .int .u8 49, .int .u8 28, .int .u8 3, .int .u8 61, .int .u8 58, .int .u8 42, .int .u8 50, .int .u8 38, .int .u8 29, .int .u8 17, .int .u8 4, .int .u8 62, .int .u8 47, .int .u8 59, .int .u8 36, .int .u8 45, .int .u8 43, .int .u8 51, .int .u8 22, .int .u8 53, .int .u8 39, .int .u8 33, .int .u8 30, .int .u8 24, .int .u8 18, .int .u8 12, .int .u8 5, .int .u8 63, .int .u8 55, .int .u8 48, .int .u8 27, .int .u8 60, .int .u8 41, .int .u8 37, .int .u8 16, .int .u8 46, .int .u8 35, .int .u8 44, .int .u8 21, .int .u8 52, .int .u8 32, .int .u8 23, .int .u8 11, .int .u8 54, .int .u8 26, .int .u8 40, .int .u8 15, .int .u8 34, .int .u8 20, .int .u8 31, .int .u8 10, .int .u8 25, .int .u8 14, .int .u8 19, .int .u8 9, .int .u8 13, .int .u8 8, .int .u8 7, .int .u8 6] (setTab 2 #[.int .u8 0, .int .u8 1, .int .u8 28, .int .u8 2, .int .u8 29, .int .u8 14, .int .u8 24, .int .u8 3, .int .u8 30, .int .u8 22, .int .u8 20, .int .u8 15, .int .u8 25, .int .u8 17, .int .u8 4, .int .u8 8, .int .u8 31, .int .u8 27, .int .u8 13, .int .u8 23, .int .u8 21, .int .u8 19, .int .u8 16, .int .u8 7, .int .u8 26, .int .u8 12, .int .u8 18, .int .u8 6, .int .u8 11, .int .u8 5, .int .u8 10, .int .u8 9] (setTab 0 #[.int .u64 1, .int .u64 10, .int .u64 100, .int .u64 1000, .int .u64 10000, .int .u64 100000, .int .u64 1000000, .int .u64 10000000, .int .u64 100000000, .int .u64 1000000000, .int .u64 10000000000, .int .u64 100000000000, .int .u64 1000000000000, .int .u64 10000000000000, .int .u64 100000000000000, .int .u64 1000000000000000, .int .u64 10000000000000000, .int .u64 100000000000000000, .int .u64 1000000000000000000, .int .u64 10000000000000000000] (World.holding Tryd.prog os ⟨#[], #[], []⟩).heap)) }
end Go.Proofs.YtedfepnekjjmnabDoor

/-
  What a program is as a term: in plain words. No program in sight.
-/
namespace Go.Proofs.YtedfepnekjjmnabDoor
open Go.RowKit
set_option linter.unusedSimpArgs false
set_option linter.unusedVariables false

def vT (n : Int) : T := ⟨5, n, ⟨#[]⟩, []⟩
def dbareB (d : Deed) : Bool := d.name.toList == [] && d.var == 0
def deedT (d : Deed) : T :=
  if d.kind = 1 then tupT [wordT sSend, d.to, d.what] else if d.kind = 2 then tupT [wordT sSpawn, wordT d.name, d.what, vT d.var] else if d.kind = 3 then tupT [wordT sLink, d.to] else if d.kind = 4 then tupT [wordT sStop] else zeroT
def deedOk (d : Deed) : Bool :=
  if d.kind = 1 then dbareB d else if d.kind = 2 then nameB d.name && (decide (0 ≤ d.var) && decide (d.var ≤ 3)) && emptyB d.to else if d.kind = 3 then dbareB d && emptyB d.what else if d.kind = 4 then dbareB d && emptyB d.to && emptyB d.what else false
def clauT (c : Clau) : T := tupT [wordT sOn, c.state, c.message, tupT (c.acts.map deedT), c.next]
def clauOk (c : Clau) : Bool := decide (c.acts.length ≤ 8) && c.acts.all deedOk
def behvT (b : Behv) : T := tupT (wordT sBeh :: wordT b.name :: b.clauses.map clauT)
def behvOk (b : Behv) : Bool := nameB b.name && (decide (1 ≤ b.clauses.length) && decide (b.clauses.length ≤ 6)) && b.clauses.all clauOk
def progT (l : List Behv) : T := tupT (wordT sCode :: l.map behvT)
def progOk (l : List Behv) : Bool := decide (1 ≤ l.length) && decide (l.length ≤ 7) && l.all behvOk
/-- What To answers. -/
def toA (l : List Behv) : T × Int := if progOk l then (if checkE (progT l) = 0 then (progT l, 0) else (zeroT, checkE (progT l))) else (zeroT, 5)
theorem allB_snoc {X : Type} (f : X → Bool) {l : List X} {k : Nat} (hk : k < l.length) : (l.take (k + 1)).all f = ((l.take k).all f && f l[k]) := by
  rw [take_snoc' l k hk, List.all_append]; simp
theorem map_snoc {X Y : Type} (f : X → Y) {l : List X} {k : Nat} (hk : k < l.length) : (l.take (k + 1)).map f = (l.take k).map f ++ [f l[k]] := by
  rw [take_snoc' l k hk, List.map_append]; rfl
theorem bulk_wordT (s : ByteArray) : bulkL [wordT s] = 1 + s.size := by simp [wordT, bulkL_cons, bulkL]
theorem bulk_tupT (l : List T) : bulkL [tupT l] = 1 + bulkL l := by simp [tupT, bulkL_cons, bulkL, ByteArray.size]
theorem bulk_cons2 (t : T) (l : List T) : bulkL (t :: l) = bulkL [t] + bulkL l := bulkL_append [t] l
theorem deedT_bulk (d : Deed) : bulkL [deedT d] ≤ 16 + 2 * deedB d := by
  have h1 : sSend.size = 4 := rfl
  have h2 : sSpawn.size = 5 := rfl
  have h3 : sLink.size = 4 := rfl
  have h4 : sStop.size = 4 := rfl
  have h5 : bulkL [vT d.var] = 1 := by simp [vT, bulkL_cons, bulkL, ByteArray.size]
  have h6 : bulkL [zeroT] = 1 := by simp [zeroT, bulkL_cons, bulkL, ByteArray.size]
  unfold deedT deedB
  split
  · rw [bulk_tupT, bulk_cons2, bulk_cons2 d.to, bulk_wordT]; omega
  split
  · rw [bulk_tupT, bulk_cons2, bulk_cons2 (wordT d.name), bulk_cons2 d.what, bulk_wordT, bulk_wordT]; omega
  split
  · rw [bulk_tupT, bulk_cons2, bulk_wordT]; omega
  split
  · rw [bulk_tupT, bulk_wordT]; omega
  · omega
theorem deedsT_bulk (l : List Deed) : bulkL (l.map deedT) ≤ 18 * deedsB l := by
  induction l with
  | nil => simp [bulkL, deedsB]
  | cons d l ih =>
    have := deedT_bulk d
    have h1 : 1 ≤ deedB d := by unfold deedB; omega
    rw [List.map_cons, bulk_cons2]; simp only [deedsB]; omega
theorem clauT_bulk (c : Clau) : bulkL [clauT c] ≤ 24 * clauB c := by
  have := deedsT_bulk c.acts
  have h1 : sOn.size = 2 := rfl
  unfold clauT clauB
  rw [bulk_tupT, bulk_cons2, bulk_cons2 c.state, bulk_cons2 c.message, bulk_cons2 (tupT _), bulk_tupT, bulk_wordT]
  omega
theorem clausT_bulk (l : List Clau) : bulkL (l.map clauT) ≤ 24 * clausB l := by
  induction l with
  | nil => simp [bulkL, clausB]
  | cons d l ih =>
    have := clauT_bulk d
    rw [List.map_cons, bulk_cons2]; simp only [clausB]; omega
theorem behvT_bulk (b : Behv) : bulkL [behvT b] ≤ 32 * behvB b := by
  have := clausT_bulk b.clauses
  unfold behvT behvB
  rw [bulk_tupT, bulk_cons2, bulk_cons2 (wordT b.name), bulk_wordT, bulk_wordT]
  have h1 : sBeh.size = 3 := rfl
  omega
theorem behvsT_bulk (l : List Behv) : bulkL (l.map behvT) ≤ 32 * behvsB l := by
  induction l with
  | nil => simp [bulkL, behvsB]
  | cons d l ih =>
    have := behvT_bulk d
    rw [List.map_cons, bulk_cons2]; simp only [behvsB]; omega
theorem progT_bulk (l : List Behv) : bulkL [progT l] ≤ 8 + 32 * behvsB l := by
  have := behvsT_bulk l
  unfold progT
  rw [bulk_tupT, bulk_cons2, bulk_wordT]
  have h1 : sCode.size = 4 := rfl
  omega
end Go.Proofs.YtedfepnekjjmnabDoor

/-
  CodeBack's plain law: a program told as a term is it; a term that is a program is told as it was. No program in sight.
-/
namespace Go.Proofs.YtedfepnekjjmnabDoor
open Go.RowKit
set_option linter.unusedSimpArgs false
set_option linter.unusedVariables false

theorem restL_tup (s : ByteArray) (l : List T) : restL s (tupT (wordT s :: l)) = some l := by
  unfold restL tupT headIs wordT
  simp
theorem mapO_map {X : Type} {f : T → Option X} {g : X → T} : ∀ {l : List X}, (∀ x ∈ l, f (g x) = some x) → mapO f (l.map g) = some l
  | [], _ => rfl
  | x :: l, h => by
    rw [List.map_cons]
    simp only [mapO]
    rw [h x (by simp), mapO_map fun y hy => h y (by simp [hy])]
theorem ba_nil {s : ByteArray} (h : s.toList = []) : s = ⟨#[]⟩ := ba_ext (by rw [← Lib.toList_data, h])
theorem deed_back {d : Deed} (h : deedOk d = true) : deedO (deedT d) = some d := by
  obtain ⟨k, to_, what, name, var⟩ := d
  unfold deedOk at h
  unfold deedT
  simp only at h ⊢
  by_cases k1 : k = 1
  · rw [if_pos k1] at h ⊢
    simp only [dbareB, Bool.and_eq_true, beq_iff_eq] at h
    unfold deedO
    rw [restL_tup]
    simp only
    rw [k1, ba_nil h.1, h.2]
  rw [if_neg k1] at h ⊢
  by_cases k2 : k = 2
  · rw [if_pos k2] at h ⊢
    simp only [Bool.and_eq_true, emptyB_iff] at h
    have hr := restL_tup sSpawn [wordT name, what, vT var]
    unfold deedO
    rw [restL_other hr (fun e => ne_send_spawn e.symm), hr]
    simp only
    rw [if_pos (by simp [wordT, vT]), k2, h.2]
    rfl
  rw [if_neg k2] at h ⊢
  by_cases k3 : k = 3
  · rw [if_pos k3] at h ⊢
    simp only [dbareB, Bool.and_eq_true, beq_iff_eq, emptyB_iff] at h
    have hr := restL_tup sLink [to_]
    unfold deedO
    rw [restL_other hr (fun e => ne_send_link e.symm), restL_other hr (fun e => ne_spawn_link e.symm), hr]
    simp only
    rw [k3, h.2, ba_nil h.1.1, h.1.2]
  rw [if_neg k3] at h ⊢
  by_cases k4 : k = 4
  · rw [if_pos k4] at h ⊢
    simp only [dbareB, Bool.and_eq_true, beq_iff_eq, emptyB_iff] at h
    have hr := restL_tup sStop []
    unfold deedO
    rw [restL_other hr (fun e => ne_send_stop e.symm), restL_other hr (fun e => ne_spawn_stop e.symm), restL_other hr (fun e => ne_link_stop e.symm), hr]
    simp only
    rw [k4, h.2, h.1.2, ba_nil h.1.1.1, h.1.1.2]
  · rw [if_neg k4] at h; cases h
theorem clau_back {c : Clau} (h : clauOk c = true) : clauO (clauT c) = some c := by
  unfold clauOk at h
  simp only [Bool.and_eq_true, decide_eq_true_eq] at h
  unfold clauO clauT
  rw [restL_tup]
  simp only
  rw [if_pos (by rfl), show (tupT (c.acts.map deedT)).args = c.acts.map deedT from rfl, mapO_map fun d hd => deed_back (List.all_eq_true.1 h.2 d hd)]
  rfl
theorem behv_back {b : Behv} (h : behvOk b = true) : behvO (behvT b) = some b := by
  unfold behvOk at h
  simp only [Bool.and_eq_true, decide_eq_true_eq] at h
  have hm : mapO clauO (b.clauses.map clauT) = some b.clauses := mapO_map fun d hd => clau_back (List.all_eq_true.1 h.2 d hd)
  unfold behvO behvT
  rw [restL_tup]
  obtain ⟨name, cl⟩ := b
  cases cl with
  | nil => simp at h
  | cons c r =>
    simp only [List.map_cons] at hm ⊢
    rw [if_pos (by rfl), hm]
    rfl
/-- To, then From. -/
theorem to_from {l : List Behv} (h : (toA l).2 = 0) : fromA (toA l).1 = (l, 0) := by
  have hp : progOk l = true := by
    cases e : progOk l
    · unfold toA at h; rw [e] at h; simp at h
    · rfl
  have hc : checkE (progT l) = 0 := by
    unfold toA at h
    rw [if_pos hp] at h
    by_cases e : checkE (progT l) = 0
    · exact e
    · rw [if_neg e] at h; exact absurd h e
  have ha : (toA l).1 = progT l := by unfold toA; rw [if_pos hp, if_pos hc]
  rw [ha]
  unfold fromA
  rw [if_pos hc]
  unfold progOk at hp
  simp only [Bool.and_eq_true, decide_eq_true_eq] at hp
  have hm : mapO behvO (l.map behvT) = some l := mapO_map fun d hd => behv_back (List.all_eq_true.1 hp.2 d hd)
  unfold fromO progT
  rw [restL_tup]
  cases l with
  | nil => simp at hp
  | cons b r => simp only [List.map_cons] at hm ⊢; rw [hm]

/-! ### From, then To -/
theorem formL_of {ts : List T} (h : formL ts = true) {x : T} (hx : x ∈ ts) : headB x = true ∧ formL x.args = true := by
  rw [formL_all] at h
  have h1 := List.all_eq_true.1 h x hx
  rw [formL_cons] at h1
  simp only [Bool.and_eq_true] at h1
  exact h1.1
theorem head_tup {t : T} (h : headB t = true) (hk : t.kind = 4) : t = tupT t.args ∧ t.args.length ≤ 8 := by
  obtain ⟨k, n, s, l⟩ := t
  simp only at hk
  unfold headB at h
  simp only at h
  rw [if_neg (by omega), if_neg (by omega), if_neg (by omega), if_neg (by omega), if_neg (by omega), if_pos hk] at h
  simp only [Bool.and_eq_true, decide_eq_true_eq, List.isEmpty_iff] at h
  exact ⟨by rw [hk, h.1.1, ba_nil h.1.2]; rfl, h.2⟩
theorem head_word {t : T} (h : headB t = true) (hk : t.kind = 2) : t = wordT t.name ∧ nameB t.name = true := by
  obtain ⟨k, n, s, l⟩ := t
  simp only at hk
  unfold headB at h
  simp only at h
  rw [if_neg (by omega), if_pos hk] at h
  simp only [Bool.and_eq_true, decide_eq_true_eq] at h
  exact ⟨by rw [hk, h.1.1, List.eq_nil_of_length_eq_zero h.1.2]; rfl, h.2⟩
theorem head_var {t : T} (h : headB t = true) (hk : t.kind = 5) : t = vT t.n ∧ 0 ≤ t.n ∧ t.n ≤ 3 := by
  obtain ⟨k, n, s, l⟩ := t
  simp only at hk
  unfold headB at h
  simp only at h
  rw [if_neg (by omega), if_neg (by omega), if_neg (by omega), if_pos hk] at h
  simp only [bareB, inB, Bool.and_eq_true, decide_eq_true_eq, List.isEmpty_iff] at h
  have hl : l = [] := by
    have := h.1.2
    simpa using this
  exact ⟨by rw [hk, ba_nil h.1.1, hl]; rfl, h.2.1, h.2.2⟩
/-- A tuple in form that begins with a word. -/
theorem restL_form {s : ByteArray} {t : T} {l : List T} (hh : headB t = true) (hf : formL t.args = true) (h : restL s t = some l) : t = tupT (wordT s :: l) ∧ l.length + 1 ≤ 8 ∧ formL l = true := by
  obtain ⟨-, h1, h2, h3⟩ := restL_some h
  obtain ⟨h4, h5⟩ := head_tup hh h2
  cases e : t.args with
  | nil => rw [e] at h3; cases h3
  | cons y r =>
    rw [e] at h1 h3 h4 h5 hf
    obtain rfl : l = r := by simpa using h1
    simp only [headIs, Bool.and_eq_true, beq_iff_eq] at h3
    have hy := (formL_of hf (x := y) (by simp)).1
    have hw := (head_word hy h3.1).1
    have hn : y.name = s := ba_ext (by rw [← Lib.toList_data, ← Lib.toList_data]; exact h3.2)
    rw [formL_cons] at hf
    simp only [Bool.and_eq_true] at hf
    exact ⟨by rw [h4, hw, hn], by simpa using h5, hf.2⟩
theorem deed_forth {t : T} {d : Deed} (hh : headB t = true) (hf : formL t.args = true) (h : deedO t = some d) : deedOk d = true ∧ deedT d = t := by
  have he : emptyB zeroT = true := (emptyB_iff zeroT).2 rfl
  have hz : (⟨#[]⟩ : ByteArray).toList = [] := by rw [Lib.toList_data]
  rcases word_cases t with ⟨l, h1, h2, h3, h4⟩ | ⟨l, h1, h2, h3, h4⟩ | ⟨l, h1, h2, h3, h4⟩ | ⟨l, h1, h2, h3, h4⟩ | ⟨h1, h2, h3, h4⟩ <;> unfold deedO at h <;> simp only [h1, h2, h3, h4] at h
  · obtain ⟨ht, -, -⟩ := restL_form hh hf h1
    match l, h, ht with
    | [a, b], h, ht =>
      simp only [Option.some.injEq] at h
      subst h
      exact ⟨by simp [deedOk, dbareB, hz], by rw [ht]; simp [deedT]⟩
  · obtain ⟨ht, hl, hfl⟩ := restL_form hh hf h2
    match l, h, ht, hfl with
    | [a, b, c], h, ht, hfl =>
      simp only at h
      split at h
      · rename_i hc
        simp only [Bool.and_eq_true, beq_iff_eq] at hc
        simp only [Option.some.injEq] at h
        subst h
        have ha := head_word (formL_of hfl (x := a) (by simp)).1 hc.1
        have hcv := head_var (formL_of hfl (x := c) (by simp)).1 hc.2
        refine ⟨?_, ?_⟩
        · simp only [deedOk]
          rw [if_neg (by decide), if_pos trivial, ha.2, he]
          simp [hcv.2.1, hcv.2.2]
        · simp only [deedT]
          rw [if_neg (by decide), if_pos trivial, ← ha.1, ← hcv.1, ht]
      · cases h
  · obtain ⟨ht, -, -⟩ := restL_form hh hf h3
    match l, h, ht with
    | [a], h, ht =>
      simp only [Option.some.injEq] at h
      subst h
      refine ⟨?_, ?_⟩
      · simp only [deedOk]
        rw [if_neg (by decide), if_neg (by decide), if_pos trivial, he]
        simp [dbareB, hz]
      · simp only [deedT]
        rw [if_neg (by decide), if_neg (by decide), if_pos trivial, ht]
  · obtain ⟨ht, -, -⟩ := restL_form hh hf h4
    match l, h, ht with
    | [], h, ht =>
      simp only [Option.some.injEq] at h
      subst h
      refine ⟨?_, ?_⟩
      · simp only [deedOk]
        rw [if_neg (by decide), if_neg (by decide), if_neg (by decide), if_pos trivial, he]
        simp [dbareB, hz]
      · simp only [deedT]
        rw [if_neg (by decide), if_neg (by decide), if_neg (by decide), if_pos trivial, ht]
  · cases h
theorem mapO_forth {X : Type} {f : T → Option X} {g : X → T} {p : X → Bool} : ∀ {l : List T} {r : List X}, formL l = true → (∀ t ∈ l, ∀ x, headB t = true → formL t.args = true → f t = some x → p x = true ∧ g x = t) → mapO f l = some r → r.all p = true ∧ r.map g = l
  | [], r, _, _, h => by simp only [mapO, Option.some.injEq] at h; subst h; exact ⟨rfl, rfl⟩
  | t :: l, r, hf, hs, h => by
    simp only [mapO] at h
    split at h
    · rename_i x r' h1 h2
      simp only [Option.some.injEq] at h
      subst h
      have h3 := formL_of hf (x := t) (by simp)
      rw [formL_cons] at hf
      simp only [Bool.and_eq_true] at hf
      obtain ⟨h4, h5⟩ := hs t (by simp) x h3.1 h3.2 h1
      obtain ⟨h6, h7⟩ := mapO_forth hf.2 (fun u hu => hs u (by simp [hu])) h2
      exact ⟨by simp [h4, h6], by rw [List.map_cons, h5, h7]⟩
    · cases h
theorem clau_forth {t : T} {c : Clau} (hh : headB t = true) (hf : formL t.args = true) (h : clauO t = some c) : clauOk c = true ∧ clauT c = t := by
  unfold clauO at h
  split at h
  · rename_i a b c' d hr
    obtain ⟨ht, -, hfl⟩ := restL_form hh hf hr
    split at h
    · rename_i hk
      obtain ⟨l, hl, rfl⟩ := Option.map_eq_some_iff.1 h
      have hc := formL_of hfl (x := c') (by simp)
      obtain ⟨ht4, hl8⟩ := head_tup hc.1 (by simpa using hk)
      obtain ⟨h1, h2⟩ := mapO_forth (p := deedOk) (g := deedT) hc.2 (fun u _ x k1 k2 k3 => deed_forth k1 k2 k3) hl
      have hlen := mapO_length hl
      refine ⟨?_, ?_⟩
      · simp only [clauOk, h1, Bool.and_true, decide_eq_true_eq]
        omega
      · simp only [clauT]
        rw [h2, ← ht4, ht]
    · cases h
  · cases h
theorem behv_forth {t : T} {b : Behv} (hh : headB t = true) (hf : formL t.args = true) (h : behvO t = some b) : behvOk b = true ∧ behvT b = t := by
  unfold behvO at h
  split at h
  · rename_i a b' r hr
    obtain ⟨ht, hl, hfl⟩ := restL_form hh hf hr
    split at h
    · rename_i hk
      obtain ⟨l, hm, rfl⟩ := Option.map_eq_some_iff.1 h
      have ha := head_word (formL_of hfl (x := a) (by simp)).1 (by simpa using hk)
      rw [formL_cons] at hfl
      simp only [Bool.and_eq_true] at hfl
      obtain ⟨h1, h2⟩ := mapO_forth (p := clauOk) (g := clauT) hfl.2 (fun u _ x k1 k2 k3 => clau_forth k1 k2 k3) hm
      have hlen := mapO_length hm
      simp only [List.length_cons] at hlen hl
      refine ⟨?_, ?_⟩
      · simp only [behvOk, h1, ha.2, Bool.and_true, Bool.true_and, Bool.and_eq_true, decide_eq_true_eq]
        omega
      · simp only [behvT]
        rw [h2, ← ha.1, ht]
    · cases h
  · cases h
theorem from_to {t : T} (h : (fromA t).2 = 0) : toA (fromA t).1 = (t, 0) := by
  have hc : checkE t = 0 := by
    unfold fromA at h
    by_cases e : checkE t = 0
    · exact e
    · rw [if_neg e] at h; exact absurd h e
  unfold fromA at h ⊢
  rw [if_pos hc] at h ⊢
  have hform : formL [t] = true := by
    unfold checkE at hc
    split at hc
    · assumption
    · omega
  have hft := formL_of hform (x := t) (by simp)
  cases e : fromO t with
  | none => rw [e] at h; simp at h
  | some l =>
    simp only
    unfold fromO at e
    split at e
    · rename_i b r hr
      obtain ⟨ht, hl, hfl⟩ := restL_form hft.1 hft.2 hr
      obtain ⟨h1, h2⟩ := mapO_forth (p := behvOk) (g := behvT) hfl (fun u _ x k1 k2 k3 => behv_forth k1 k2 k3) e
      have hlen := mapO_length e
      simp only [List.length_cons] at hlen hl
      have hp : progOk l = true := by
        simp only [progOk, h1, Bool.and_true, Bool.and_eq_true, decide_eq_true_eq]
        omega
      have hpt : progT l = t := by unfold progT; rw [h2, ht]
      unfold toA
      rw [if_pos hp, hpt, if_pos hc]
    · cases e
theorem from_none {t : T} (h : (fromA t).2 ≠ 0) : (fromA t).1 = [] := by
  unfold fromA at h ⊢
  split
  · rename_i hc
    rw [if_pos hc] at h
    cases e : fromO t with
    | none => rfl
    | some l => rw [e] at h; exact absurd rfl h
  · rfl
end Go.Proofs.YtedfepnekjjmnabDoor

/-
  keep.small: the small program, and how it lies. No condition.
-/
namespace Go.Proofs.YtedfepnekjjmnabDoor
open Go.RowKit
set_option linter.unusedSimpArgs false
set_option linter.unusedVariables false
set_option maxRecDepth 100000

theorem RX.lit1 {X : Type} {E : El X} {S : Nat → Prop} {w : World} {x : X} {c : Array Value} (h : E.C S w x c.toList) (ty : TypeId) {g : Nat} (hg : g = w.heap.size) : RX E (fun b => b = g) S (w.alloc (.cells c ty)) [x] (.slice (some ⟨g, 0, none⟩) 1 1) :=
  ⟨_, _, c.toList, rfl, ⟨Nat.le_refl _, by simp⟩, CellsX.single (E.to h (fun _ h _ => h) fun b _ hb => Below.heap_alloc _ _ _ hb), fun j u hu => ⟨g, 0, rfl, rfl, by rw [Nat.zero_add]; exact (Blk.new w c ty g hg).cell j u hu⟩⟩
/-- A struct handed back alone. -/
theorem result_blk1 {fn : Func} {t : Tmp} {ty k : Nat} (h : fn.results = #[.cell t ty]) (hi : (Tryd.prog.info? ty).map (·.size) = some k) (d : TypeDesc) (hu : Tryd.prog.underlying ty = some d) (hr : d.isRow = true)
    {tmps : Array Value} {w : World} {B : Nat} {cs : List Value} (hx : tmps.getD t undef = .pointer (some ⟨B, 0, none⟩)) (hB : Blk w B cs) (hl : cs.length = k) :
    (results fn tmps).run Tryd.prog w = .ok (.agg cs.toArray) w := by
  have h1 := run_loadVar_mid (P := Tryd.prog) w B 0 ty cs d hB.range hu hr (by rw [hi, hl])
  have h2 : (asAddr (tmps.getD t undef)).run Tryd.prog w = .ok ⟨B, 0, none⟩ w := by rw [hx]; rfl
  simp only [Array.getD_eq_getD_getElem?] at h2 ⊢
  simp [results, h, h1, h2]
set_option maxHeartbeats 1000000 in
theorem var_c (n : Int) (w : World) : Calls Tryd.prog 53 #[.int .i64 n] w fun e w' => e = .returned (.agg #[.int .i64 5, .int .i64 n, .string ⟨#[]⟩, .slice none 0 0]) ∧ Below w.heap.size w w' := by
  have HX := Lib.hid (Blk.new w #[.int .i64 0, .int .i64 0, .string ⟨#[]⟩, .slice none 0 0] 24 _ rfl)
  go_enter Tryd.func53, Tryd.ntmps53
  go_wp2_with (refine store_blk 24 4 szTerm _ _ rfl rfl rfl rfl rfl HX.out rfl rfl rfl ?_; intro W' hF hs' hBW hoth; have HF := Lib.hid hF; have HBW := Lib.hid hBW; clear hF hBW hoth hs')
  refine bodyPost_ret (result_blk1 Tryd.results53 szTerm _ Tryd.underlying24 rfl rfl HF.out rfl) rfl ⟨rfl, ?_⟩
  exact HBW.out _ _ (Nat.le_refl _) (below_alloc _ _)
def sN : ByteArray := ⟨#[110]⟩
def sAdd' : ByteArray := ⟨#[97, 100, 100]⟩
def sRelay : ByteArray := ⟨#[114, 101, 108, 97, 121]⟩
def smMsg : T := tupT [wordT sN, vT 1]
def smAdd : T := tupT [wordT sAdd', vT 1, numT 1]
def smWhat : T := tupT [wordT sN, smAdd]
def smDeed : Deed := ⟨1, vT 0, smWhat, ⟨#[]⟩, 0⟩
def smClau : Clau := ⟨vT 0, smMsg, [smDeed], vT 0⟩
def smBehv : Behv := ⟨sRelay, [smClau]⟩
theorem vT_rt (S : Nat → Prop) (w : World) (n : Int) : RT S w (vT n) (.agg #[.int .i64 5, .int .i64 n, .string ⟨#[]⟩, .slice none 0 0]) := ⟨none, 0, rfl, ⟨Nat.le_refl _, fun _ => rfl⟩, by simp [vT, RTs]⟩
/-- A tuple of terms written out. -/
theorem sm_tup {N : Nat} {w : World} {ts : List T} {cs : List Value} {n : Nat} (hC : CellsT (fun b => N ≤ b) w ts cs) (hn : ts.length = n) (hN : N ≤ w.heap.size) {g : Nat} (hg : g = w.heap.size) :
    RT (fun b => N ≤ b) (w.alloc (.cells cs.toArray 24)) (tupT ts) (.agg #[.int .i64 4, .int .i64 0, .string ⟨#[]⟩, .slice (some ⟨g, 0, none⟩) n n]) := by
  subst hn hg
  exact tupT_rt ((RSl2.lit hC 24).rsl.mono fun b hb => by
    rcases hb with hb | hb
    · omega
    · exact hb)
theorem CellsT.one {S : Nat → Prop} {w : World} {t : T} {ts : List T} {cs : List Value} {c0 c1 c2 c3 : Value} (ht : RT S w t (.agg #[c0, c1, c2, c3])) (h : CellsT S w ts cs) : CellsT S w (t :: ts) (c0 :: c1 :: c2 :: c3 :: cs) := by
  obtain ⟨a, cap, e, h1, h2⟩ := ht
  simp only [Value.agg.injEq, Array.mk.injEq, List.cons.injEq, and_true] at e
  obtain ⟨rfl, rfl, rfl, rfl⟩ := e
  exact ⟨a, cap, cs, rfl, h1, h2, h⟩
def SmallP (w : World) (e : Ending) (w' : World) : Prop := ∃ g, e = .returned (.slice (some ⟨g, 0, none⟩) 1 1) ∧ Below w.heap.size w w' ∧ RX behvE (fun b => w.heap.size ≤ b) (fun b => w.heap.size ≤ b) w' [smBehv] (.slice (some ⟨g, 0, none⟩) 1 1)
set_option maxHeartbeats 8000000 in
theorem small_c (w : World) : Calls Tryd.prog 35 #[] w (SmallP w) := by
  go_enter Tryd.func35, Tryd.ntmps35
  go_wp2_with fail
  refine (var_c 0 w).mono ?_
  rintro e w1 ⟨rfl, hB⟩
  have hs1 : w.heap.size ≤ w1.heap.size := by have := hB.size; omega
  have HB1 : Hid (Below w.heap.size w w1) := Lib.hid (hB)
  clear hB
  go_wp2_with fail
  refine (word_c sN w1).mono ?_
  rintro e w2 ⟨rfl, hB⟩
  have hs2 : w.heap.size ≤ w2.heap.size := by have := hB.size; omega
  have HB2 : Hid (Below w.heap.size w w2) := Lib.hid (below_step HB1.out hs1 hB)
  clear hB
  go_wp2_with fail
  refine (var_c 1 w2).mono ?_
  rintro e w3 ⟨rfl, hB⟩
  have hs3 : w.heap.size ≤ w3.heap.size := by have := hB.size; omega
  have HB3 : Hid (Below w.heap.size w w3) := Lib.hid (below_step HB2.out hs2 hB)
  clear hB
  go_wp2_with fail
  obtain ⟨w4, hw⟩ : ∃ W : World, W = w3.alloc (.cells #[.int .i64 2, .int .i64 0, .string sN, .slice none 0 0, .int .i64 5, .int .i64 1, .string ⟨#[]⟩, .slice none 0 0] 24) := ⟨_, rfl⟩
  obtain ⟨g7, hg⟩ : ∃ g, g = w3.heap.size := ⟨_, rfl⟩
  have HM_4 : Hid (RT (fun b => w.heap.size ≤ b) w4 smMsg (.agg #[.int .i64 4, .int .i64 0, .string ⟨#[]⟩, .slice (some ⟨g7, 0, none⟩) 2 2])) := Lib.hid (by rw [hw]; exact sm_tup (CellsT.one (wordT_rt _ _ sN) (CellsT.one (vT_rt _ _ 1) (show CellsT _ _ [] [] from rfl))) rfl hs3 hg)
  have hB : Below w3.heap.size w3 w4 := by rw [hw]; exact below_alloc _ _
  rw [← hw, ← hg]
  have hgl : w.heap.size ≤ g7 := by omega
  clear hw hg
  have hs4 : w.heap.size ≤ w4.heap.size := by have := hB.size; omega
  have HB4 : Hid (Below w.heap.size w w4) := Lib.hid (below_step HB3.out hs3 hB)
  clear hB
  refine (tuple_c _ _ _ _).mono ?_
  rintro e w5 ⟨rfl, hB⟩
  have hs5 : w.heap.size ≤ w5.heap.size := by have := hB.size; omega
  have HB5 : Hid (Below w.heap.size w w5) := Lib.hid (below_step HB4.out hs4 hB)
  have HM_5 := Lib.hid (HM_4.out.below hB)
  clear hB
  go_wp2_with fail
  refine (var_c 0 w5).mono ?_
  rintro e w6 ⟨rfl, hB⟩
  have hs6 : w.heap.size ≤ w6.heap.size := by have := hB.size; omega
  have HB6 : Hid (Below w.heap.size w w6) := Lib.hid (below_step HB5.out hs5 hB)
  have HM_6 := Lib.hid (HM_5.out.below hB)
  clear hB
  go_wp2_with fail
  refine (word_c sN w6).mono ?_
  rintro e w7 ⟨rfl, hB⟩
  have hs7 : w.heap.size ≤ w7.heap.size := by have := hB.size; omega
  have HB7 : Hid (Below w.heap.size w w7) := Lib.hid (below_step HB6.out hs6 hB)
  have HM_7 := Lib.hid (HM_6.out.below hB)
  clear hB
  go_wp2_with fail
  refine (word_c sAdd' w7).mono ?_
  rintro e w8 ⟨rfl, hB⟩
  have hs8 : w.heap.size ≤ w8.heap.size := by have := hB.size; omega
  have HB8 : Hid (Below w.heap.size w w8) := Lib.hid (below_step HB7.out hs7 hB)
  have HM_8 := Lib.hid (HM_7.out.below hB)
  clear hB
  go_wp2_with fail
  refine (var_c 1 w8).mono ?_
  rintro e w9 ⟨rfl, hB⟩
  have hs9 : w.heap.size ≤ w9.heap.size := by have := hB.size; omega
  have HB9 : Hid (Below w.heap.size w w9) := Lib.hid (below_step HB8.out hs8 hB)
  have HM_9 := Lib.hid (HM_8.out.below hB)
  clear hB
  go_wp2_with fail
  refine (num_c 1 w9).mono ?_
  rintro e w10 ⟨rfl, hB⟩
  have hs10 : w.heap.size ≤ w10.heap.size := by have := hB.size; omega
  have HB10 : Hid (Below w.heap.size w w10) := Lib.hid (below_step HB9.out hs9 hB)
  have HM_10 := Lib.hid (HM_9.out.below hB)
  clear hB
  go_wp2_with fail
  obtain ⟨w11, hw⟩ : ∃ W : World, W = w10.alloc (.cells #[.int .i64 2, .int .i64 0, .string sAdd', .slice none 0 0, .int .i64 5, .int .i64 1, .string ⟨#[]⟩, .slice none 0 0, .int .i64 1, .int .i64 1, .string ⟨#[]⟩, .slice none 0 0] 24) := ⟨_, rfl⟩
  obtain ⟨g16, hg⟩ : ∃ g, g = w10.heap.size := ⟨_, rfl⟩
  have HA_11 : Hid (RT (fun b => w.heap.size ≤ b) w11 smAdd (.agg #[.int .i64 4, .int .i64 0, .string ⟨#[]⟩, .slice (some ⟨g16, 0, none⟩) 3 3])) := Lib.hid (by rw [hw]; exact sm_tup (CellsT.one (wordT_rt _ _ sAdd') (CellsT.one (vT_rt _ _ 1) (CellsT.one (numT_rt _ _ 1) (show CellsT _ _ [] [] from rfl)))) rfl hs10 hg)
  have hB : Below w10.heap.size w10 w11 := by rw [hw]; exact below_alloc _ _
  rw [← hw, ← hg]
  have hgl : w.heap.size ≤ g16 := by omega
  clear hw hg
  have hs11 : w.heap.size ≤ w11.heap.size := by have := hB.size; omega
  have HB11 : Hid (Below w.heap.size w w11) := Lib.hid (below_step HB10.out hs10 hB)
  have HM_11 := Lib.hid (HM_10.out.below hB)
  clear hB
  refine (tuple_c _ _ _ _).mono ?_
  rintro e w12 ⟨rfl, hB⟩
  have hs12 : w.heap.size ≤ w12.heap.size := by have := hB.size; omega
  have HB12 : Hid (Below w.heap.size w w12) := Lib.hid (below_step HB11.out hs11 hB)
  have HM_12 := Lib.hid (HM_11.out.below hB)
  have HA_12 := Lib.hid (HA_11.out.below hB)
  clear hB
  go_wp2_with fail
  obtain ⟨w13, hw⟩ : ∃ W : World, W = w12.alloc (.cells #[.int .i64 2, .int .i64 0, .string sN, .slice none 0 0, .int .i64 4, .int .i64 0, .string ⟨#[]⟩, .slice (some ⟨g16, 0, none⟩) 3 3] 24) := ⟨_, rfl⟩
  obtain ⟨g18, hg⟩ : ∃ g, g = w12.heap.size := ⟨_, rfl⟩
  have HW_13 : Hid (RT (fun b => w.heap.size ≤ b) w13 smWhat (.agg #[.int .i64 4, .int .i64 0, .string ⟨#[]⟩, .slice (some ⟨g18, 0, none⟩) 2 2])) := Lib.hid (by rw [hw]; exact sm_tup (CellsT.one (wordT_rt _ _ sN) (CellsT.one HA_12.out (show CellsT _ _ [] [] from rfl))) rfl hs12 hg)
  have hB : Below w12.heap.size w12 w13 := by rw [hw]; exact below_alloc _ _
  rw [← hw, ← hg]
  have hgl : w.heap.size ≤ g18 := by omega
  clear hw hg
  have hs13 : w.heap.size ≤ w13.heap.size := by have := hB.size; omega
  have HB13 : Hid (Below w.heap.size w w13) := Lib.hid (below_step HB12.out hs12 hB)
  have HM_13 := Lib.hid (HM_12.out.below hB)
  have HA_13 := Lib.hid (HA_12.out.below hB)
  clear hB
  refine (tuple_c _ _ _ _).mono ?_
  rintro e w14 ⟨rfl, hB⟩
  have hs14 : w.heap.size ≤ w14.heap.size := by have := hB.size; omega
  have HB14 : Hid (Below w.heap.size w w14) := Lib.hid (below_step HB13.out hs13 hB)
  have HM_14 := Lib.hid (HM_13.out.below hB)
  have HA_14 := Lib.hid (HA_13.out.below hB)
  have HW_14 := Lib.hid (HW_13.out.below hB)
  clear hB
  go_wp2_with fail
  obtain ⟨w15, hw⟩ : ∃ W : World, W = w14.alloc (.cells #[.int .i64 1, .int .i64 5, .int .i64 0, .string ⟨#[]⟩, .slice none 0 0, .int .i64 4, .int .i64 0, .string ⟨#[]⟩, .slice (some ⟨g18, 0, none⟩) 2 2, .string ⟨#[]⟩, .int .i64 0] 76) := ⟨_, rfl⟩
  obtain ⟨g21, hg⟩ : ∃ g, g = w14.heap.size := ⟨_, rfl⟩
  have HD_15 : Hid (RX deedE (fun b => w.heap.size ≤ b) (fun b => w.heap.size ≤ b) w15 [smDeed] (.slice (some ⟨g21, 0, none⟩) 1 1)) := Lib.hid (by rw [hw]; exact (RX.lit1 (E := deedE) (x := smDeed) ⟨none, 0, _, _, rfl, vT_rt _ _ 0, HW_14.out⟩ _ hg).mono (fun b hb => by omega) fun _ h => h)
  have hB : Below w14.heap.size w14 w15 := by rw [hw]; exact below_alloc _ _
  rw [← hw, ← hg]
  have hgl : w.heap.size ≤ g21 := by omega
  clear hw hg
  have hs15 : w.heap.size ≤ w15.heap.size := by have := hB.size; omega
  have HB15 : Hid (Below w.heap.size w w15) := Lib.hid (below_step HB14.out hs14 hB)
  have HM_15 := Lib.hid (HM_14.out.below hB)
  have HA_15 := Lib.hid (HA_14.out.below hB)
  have HW_15 := Lib.hid (HW_14.out.below hB)
  clear hB
  refine (var_c 0 w15).mono ?_
  rintro e w16 ⟨rfl, hB⟩
  have hs16 : w.heap.size ≤ w16.heap.size := by have := hB.size; omega
  have HB16 : Hid (Below w.heap.size w w16) := Lib.hid (below_step HB15.out hs15 hB)
  have HM_16 := Lib.hid (HM_15.out.below hB)
  have HA_16 := Lib.hid (HA_15.out.below hB)
  have HW_16 := Lib.hid (HW_15.out.below hB)
  have HD_16 := Lib.hid (HD_15.out.below hB)
  clear hB
  go_wp2_with fail
  have hC : RX clauE (fun b => w.heap.size ≤ b) (fun b => w.heap.size ≤ b) (w16.alloc (.cells #[.int .i64 5, .int .i64 0, .string ⟨#[]⟩, .slice none 0 0, .int .i64 4, .int .i64 0, .string ⟨#[]⟩, .slice (some ⟨g7, 0, none⟩) 2 2, .slice (some ⟨g21, 0, none⟩) 1 1, .int .i64 5, .int .i64 0, .string ⟨#[]⟩, .slice none 0 0] 79)) [smClau] (.slice (some ⟨w16.heap.size, 0, none⟩) 1 1) :=
    (RX.lit1 (E := clauE) (x := smClau) ⟨none, 0, some ⟨g7, 0, none⟩, 2, some ⟨g21, 0, none⟩, 1, none, 0, rfl, vT_rt _ _ 0, HM_16.out, HD_16.out, vT_rt _ _ 0⟩ _ rfl).mono (fun b hb => by omega) fun _ h => h
  have hBe : RX behvE (fun b => w.heap.size ≤ b) (fun b => w.heap.size ≤ b) ((w16.alloc (.cells #[.int .i64 5, .int .i64 0, .string ⟨#[]⟩, .slice none 0 0, .int .i64 4, .int .i64 0, .string ⟨#[]⟩, .slice (some ⟨g7, 0, none⟩) 2 2, .slice (some ⟨g21, 0, none⟩) 1 1, .int .i64 5, .int .i64 0, .string ⟨#[]⟩, .slice none 0 0] 79)).alloc (.cells #[.string sRelay, .slice (some ⟨w16.heap.size, 0, none⟩) 1 1] 62)) [smBehv] (.slice (some ⟨w16.heap.size + 1, 0, none⟩) 1 1) :=
    (RX.lit1 (E := behvE) (x := smBehv) ⟨some ⟨w16.heap.size, 0, none⟩, 1, rfl, hC⟩ _ (by simp)).mono (fun b hb => by omega) fun _ h => h
  have hBB : Below w.heap.size w ((w16.alloc (.cells #[.int .i64 5, .int .i64 0, .string ⟨#[]⟩, .slice none 0 0, .int .i64 4, .int .i64 0, .string ⟨#[]⟩, .slice (some ⟨g7, 0, none⟩) 2 2, .slice (some ⟨g21, 0, none⟩) 1 1, .int .i64 5, .int .i64 0, .string ⟨#[]⟩, .slice none 0 0] 79)).alloc (.cells #[.string sRelay, .slice (some ⟨w16.heap.size, 0, none⟩) 1 1] 62)) := (HB16.out.alloc hs16 _).alloc (by simp; omega) _
  go_ret
  exact ⟨_, rfl, hBB, hBe⟩
end Go.Proofs.YtedfepnekjjmnabDoor

/-
  The small program: as a term, and as a text. No program in sight.
-/
namespace Go.Proofs.YtedfepnekjjmnabDoor
open Go.RowKit
set_option linter.unusedSimpArgs false
set_option linter.unusedVariables false
set_option maxRecDepth 100000

theorem itoa0 : Lib.itoa 0 = [48] := by
  unfold Lib.itoa Lib.decDigits; rfl
theorem itoa1 : Lib.itoa 1 = [49] := by
  unfold Lib.itoa Lib.decDigits; rfl
def smText : ByteArray := ⟨#[40, 99, 111, 100, 101, 32, 40, 98, 101, 104, 32, 114, 101, 108, 97, 121, 32, 40, 111, 110, 32, 36, 48, 32, 40, 110, 32, 36, 49, 41, 32, 40, 40, 115, 101, 110, 100, 32, 36, 48, 32, 40, 110, 32, 40, 97, 100, 100, 32, 36, 49, 32, 49, 41, 41, 41, 41, 32, 36, 48, 41, 41, 41]⟩
theorem small_prog : progOk [smBehv] = true := by
  simp [progOk, behvOk, smBehv, clauOk, smClau, deedOk, smDeed, dbareB, nameB, sRelay, ByteArray.size, Lib.toList_data, lowB]
theorem small_check : checkE (progT [smBehv]) = 0 := by
  simp [checkE, progT, behvT, clauT, deedT, smBehv, smClau, smDeed, smMsg, smWhat, smAdd, tupT, wordT, numT, vT, formL_cons, formL, headB, bareB, dpL_cons, dpL, szL_cons, szL, inB, nameB, sRelay, sN, sAdd', sCode, sBeh, sOn, sSend, ByteArray.size, lowB, Lib.toList_data]
theorem small_to : toA [smBehv] = (progT [smBehv], 0) := by unfold toA; rw [if_pos small_prog, if_pos small_check]
theorem small_from : fromA (progT [smBehv]) = ([smBehv], 0) := by
  have := to_from (l := [smBehv]) (by rw [small_to])
  rw [small_to] at this
  exact this
theorem small_text : printS (progT [smBehv]) = smText := by
  unfold printS
  rw [if_pos small_check]
  unfold txT smText
  have h : textT (progT [smBehv]) = [40, 99, 111, 100, 101, 32, 40, 98, 101, 104, 32, 114, 101, 108, 97, 121, 32, 40, 111, 110, 32, 36, 48, 32, 40, 110, 32, 36, 49, 41, 32, 40, 40, 115, 101, 110, 100, 32, 36, 48, 32, 40, 110, 32, 40, 97, 100, 100, 32, 36, 49, 32, 49, 41, 41, 41, 41, 32, 36, 48, 41, 41, 41] := by
    simp [textT, textL_cons, textL, progT, behvT, clauT, deedT, smBehv, smClau, smDeed, smMsg, smWhat, smAdd, tupT, wordT, numT, vT, itoa0, itoa1, sRelay, sN, sAdd', sCode, sBeh, sOn, sSend, Lib.join, List.intercalate, List.intersperse]
  rw [h]; rfl
theorem small_bulk : behvsB [smBehv] ≤ 100 ∧ bulkL [progT [smBehv]] ≤ 8000 := by
  have h : behvsB [smBehv] ≤ 100 := by
    simp [behvsB, behvB, clausB, clauB, deedsB, deedB, smBehv, smClau, smDeed, smMsg, smWhat, smAdd, tupT, wordT, numT, vT, bulkL_cons, bulkL, ByteArray.size, sRelay, sN, sAdd']
  have := progT_bulk [smBehv]
  exact ⟨h, by omega⟩
end Go.Proofs.YtedfepnekjjmnabDoor

/-
  reckon.value: what it answers, the cases without a loop. Conditions: a formed term, four bound ones.
-/
namespace Go.Proofs.YtedfepnekjjmnabDoor
open Go.RowKit
set_option linter.unusedSimpArgs false
set_option linter.unusedVariables false
section
variable {bd : List T} {self : Int} {x : T} {S : Nat → Prop} {w : World} {v vb : Value}

end
end Go.Proofs.YtedfepnekjjmnabDoor

/-
  reckon.value: a variable; what was put.
-/
namespace Go.Proofs.YtedfepnekjjmnabDoor
open Go.RowKit
set_option linter.unusedSimpArgs false
set_option linter.unusedVariables false
section
variable {bd : List T} {self : Int} {x : T} {S : Nat → Prop} {w : World} {v vb : Value}

end
end Go.Proofs.YtedfepnekjjmnabDoor

/-
  reckon.value: what was put.
-/
namespace Go.Proofs.YtedfepnekjjmnabDoor
open Go.RowKit
set_option linter.unusedSimpArgs false
set_option linter.unusedVariables false
section
variable {bd : List T} {self : Int} {x : T} {S : Nat → Prop} {w : World} {v vb : Value}

end
end Go.Proofs.YtedfepnekjjmnabDoor

/-
  reckon.value on tuples.
-/
namespace Go.Proofs.YtedfepnekjjmnabDoor
open Go.RowKit
set_option linter.unusedSimpArgs false
set_option linter.unusedVariables false
section
variable {bd : List T} {self : Int} {x : T} {S : Nat → Prop} {w : World} {v vb : Value}

end
end Go.Proofs.YtedfepnekjjmnabDoor

/-
  clerkref.value, reckon.value: what they answer, all cases; how much what they answer holds. Conditions: a formed term, four bound ones.
-/
namespace Go.Proofs.YtedfepnekjjmnabDoor
open Go.RowKit
set_option linter.unusedSimpArgs false
set_option linter.unusedVariables false

theorem bulk_tup (l : List T) : bulkL [tupT l] = 1 + bulkL l := by simp [tupT, bulkL, ByteArray.size]
theorem bulk_num (n : Int) : bulkL [numT n] = 1 := by simp [numT, bulkL, ByteArray.size]
theorem bulk_pid (n : Int) : bulkL [pidT n] = 1 := by simp [pidT, bulkL, ByteArray.size]
theorem bulk_one (t : T) : bulkL [t] = 1 + t.name.size + bulkL t.args := by rw [bulkL_cons]; simp [bulkL]
theorem mul_split (a b c B : Nat) : (a + b + c) * B = a * B + b * B + c * B := by rw [Nat.add_mul, Nat.add_mul]
theorem le_mul_pos (a B : Nat) (h : 1 ≤ B) : a ≤ a * B := Nat.le_mul_of_pos_right a h

/-- A value holds at most as much as its term has parts, each one as great as a bound one. -/
theorem valT_bulk (bd : List T) (self : Int) (hl : bd.length = 4) : ∀ (x t : T), formL [x] = true → valT bd self x = some t → bulkL [t] ≤ bulkL [x] * (bulkL bd + 1) := by
  intro x
  induction x using T.ind with
  | h x ih =>
    intro t hf hv
    have h1 := bulk_one x
    have hB : 1 ≤ bulkL bd + 1 := by omega
    have hX := le_mul_pos (bulkL [x]) _ hB
    have hA := le_mul_pos (bulkL x.args) _ hB
    have hN := le_mul_pos x.name.size _ hB
    have hM := mul_split 1 x.name.size (bulkL x.args) (bulkL bd + 1)
    rw [← h1] at hM
    generalize hM1 : bulkL [x] * (bulkL bd + 1) = m1 at *
    generalize hM3 : bulkL x.args * (bulkL bd + 1) = m3 at *
    generalize hM4 : x.name.size * (bulkL bd + 1) = m4 at *
    by_cases h6 : x.kind = 6
    · rw [valT_6 h6] at hv; cases hv
    by_cases h5 : x.kind = 5
    · obtain ⟨k, hk, hk4⟩ := form_var hf h5
      rw [valT_5 h5 hk (by omega)] at hv
      have := bulk_at (ts := bd) (i := k) (by omega)
      unfold varO at hv
      split at hv
      · cases hv
      · simp only [Option.some.injEq] at hv; subst hv; omega
    by_cases h4 : x.kind = 4
    · cases hs : isT x sSelf 0
      · cases hp : isT x sPut 1
        · rw [valT_tup h4 hs hp] at hv
          obtain ⟨vs, hvs, hv⟩ := Option.bind_eq_some_iff.1 hv
          have key : ∀ (l us : List T), (∀ y ∈ l, y ∈ x.args) → valL bd self l = some us → bulkL us ≤ bulkL l * (bulkL bd + 1) := by
            intro l
            induction l with
            | nil => intro us _ h; rw [valL_nil] at h; cases h; simp [bulkL]
            | cons y l ihl =>
              intro us hm h
              rw [valL_cons] at h
              obtain ⟨u, hu, h⟩ := Option.bind_eq_some_iff.1 h
              obtain ⟨us', hus, rfl⟩ := Option.map_eq_some_iff.1 h
              have g1 := ih y (hm y (by simp)) u (form_args hf (hm y (by simp))) hu
              have g2 := ihl us' (fun z hz => hm z (by simp [hz])) hus
              have e1 : bulkL (u :: us') = bulkL [u] + bulkL us' := bulkL_append [u] us'
              have e2 : bulkL (y :: l) = bulkL [y] + bulkL l := bulkL_append [y] l
              rw [e1, e2, Nat.add_mul]; omega
          have g := key _ _ (fun y h => h) hvs
          rw [hM3] at g
          split at hv
          · unfold sumO at hv
            split at hv
            · simp only [Option.some.injEq] at hv; subst hv; rw [bulk_num]; omega
            · cases hv
          · simp only [Option.some.injEq] at hv; subst hv; rw [bulk_tup]; omega
        · have hln := isT_length hp
          rw [valT_put h4 hs hp (by omega)] at hv
          have := bulk_at (ts := x.args) (i := 1) (by omega)
          unfold putO at hv
          split at hv
          · simp only [Option.some.injEq] at hv; subst hv; omega
          · cases hv
      · rw [valT_self h4 hs] at hv; simp only [Option.some.injEq] at hv; subst hv; rw [bulk_pid]; omega
    · rw [valT_o h4 h5 h6] at hv; simp only [Option.some.injEq] at hv; subst hv; omega

/-- The last limit. -/
def valF (bd : List T) (self : Int) (x : T) : Option T := (valT bd self x).bind fun t => if checkE t = 0 then some t else none
theorem valF_none {bd : List T} {self : Int} {x : T} (h : valT bd self x = none) : valF bd self x = none := by rw [valF, h]; rfl
theorem valF_some {bd : List T} {self : Int} {x t : T} (h : valT bd self x = some t) (hc : checkE t = 0) : valF bd self x = some t := by rw [valF, h]; simp [hc]
theorem valF_bad {bd : List T} {self : Int} {x t : T} (h : valT bd self x = some t) (hc : checkE t ≠ 0) : valF bd self x = none := by rw [valF, h]; simp [hc]
theorem four_mul (a m : Nat) : 4 * (a * m) ≤ (a + m) * (a + m) := by
  rcases Nat.le_total a m with h | h
  · obtain ⟨d, rfl⟩ := Nat.le.dest h
    have e : (a + (a + d)) * (a + (a + d)) = 4 * (a * (a + d)) + d * d := by
      simp only [Nat.mul_add, Nat.add_mul, Nat.mul_comm d a]; omega
    omega
  · obtain ⟨d, rfl⟩ := Nat.le.dest h
    have e : (m + d + m) * (m + d + m) = 4 * ((m + d) * m) + d * d := by
      simp only [Nat.mul_add, Nat.add_mul, Nat.mul_comm d m]; omega
    omega
theorem mul_small (a b : Nat) (h : a + b ≤ 2000000) : a * (b + 1) ≤ 1099511627776 := by
  have h1 := four_mul a (b + 1)
  have h2 : (a + (b + 1)) * (a + (b + 1)) ≤ 2000001 * 2000001 := Nat.mul_le_mul (by omega) (by omega)
  omega
theorem zeroT_rt (S : Nat → Prop) (w : World) : RT S w zeroT (.agg #[.int .i64 0, .int .i64 0, .string ⟨#[]⟩, .slice none 0 0]) := ⟨none, 0, rfl, ⟨Nat.le_refl _, fun _ => rfl⟩, by simp [zeroT, RTs]⟩
end Go.Proofs.YtedfepnekjjmnabDoor

/-
  clerkref.Value, reckon.Value: what they answer. Conditions: bounds on how much there is; for the first one a formed term and four bound ones.
-/
namespace Go.Proofs.YtedfepnekjjmnabDoor
open Go.RowKit
set_option linter.unusedSimpArgs false
set_option linter.unusedVariables false

def VF (S : Nat → Prop) (w : World) (o : Option T) (e : Ending) (w' : World) : Prop :=
  ∃ v, e = .returned (.tuple #[v, .bool o.isSome]) ∧ Below w.heap.size w w' ∧ RT (fun b => S b ∨ w.heap.size ≤ b) w' (o.getD zeroT) v
theorem VF.none {S : Nat → Prop} {w w' : World} {e : Ending} {o : Option T} (ho : o = Option.none) (he : e = .returned (.tuple #[.agg #[.int .i64 0, .int .i64 0, .string ⟨#[]⟩, .slice Option.none 0 0], .bool false])) (hB : Below w.heap.size w w') : VF S w o e w' := by
  subst ho; exact ⟨_, he, hB, zeroT_rt _ _⟩
theorem VF.some {S : Nat → Prop} {w w' : World} {e : Ending} {o : Option T} {t : T} {v : Value} (ho : o = Option.some t) (he : e = .returned (.tuple #[v, .bool true])) (hB : Below w.heap.size w w') (hr : RT (fun b => S b ∨ w.heap.size ≤ b) w' t v) : VF S w o e w' := by
  subst ho; exact ⟨_, he, hB, hr⟩

theorem RT.bound {S : Nat → Prop} {w : World} {t : T} {v : Value} (h : RT S w t v) : RT (fun b => b < w.heap.size) w t v := h.to (fun _ _ hl => hl) fun _ _ _ => rfl
theorem RSl.bound {S : Nat → Prop} {w : World} {t : List T} {v : Value} (h : RSl S w t v) : RSl (fun b => b < w.heap.size) w t v := h.to (fun _ _ hl => hl) fun _ _ _ => rfl

/-- What reckon.Value answers. -/
def reckO (bd : List T) (self : Int) (x : T) : T × Int :=
  if checkE x ≠ 0 then (zeroT, checkE x) else if boundB bd = false then (zeroT, 5) else if inB self 1 99 = false then (zeroT, 1) else match valF bd self x with | some t => (t, 0) | none => (zeroT, 7)
section
variable {bd : List T} {self : Int} {x : T}
theorem reckO_check (h : checkE x ≠ 0) : reckO bd self x = (zeroT, checkE x) := by rw [reckO, if_pos h]
theorem reckO_bound (h : checkE x = 0) (hb : boundB bd = false) : reckO bd self x = (zeroT, 5) := by rw [reckO, if_neg (by simp [h]), if_pos hb]
theorem reckO_self (h : checkE x = 0) (hb : boundB bd = true) (hs : inB self 1 99 = false) : reckO bd self x = (zeroT, 1) := by rw [reckO, if_neg (by simp [h]), if_neg (by simp [hb]), if_pos hs]
theorem reckO_none (h : checkE x = 0) (hb : boundB bd = true) (hs : inB self 1 99 = true) (hv : valF bd self x = none) : reckO bd self x = (zeroT, 7) := by rw [reckO, if_neg (by simp [h]), if_neg (by simp [hb]), if_neg (by simp [hs]), hv]
theorem reckO_some {t : T} (h : checkE x = 0) (hb : boundB bd = true) (hs : inB self 1 99 = true) (hv : valF bd self x = some t) : reckO bd self x = (t, 0) := by rw [reckO, if_neg (by simp [h]), if_neg (by simp [hb]), if_neg (by simp [hs]), hv]
theorem boundB_len (h : boundB bd = true) : bd.length = 4 := by simp only [boundB, Bool.and_eq_true, beq_iff_eq] at h; exact h.1
theorem check_form' {t : T} (h : checkE t = 0) : formL [t] = true := by
  unfold checkE at h
  split at h
  · assumption
  · omega
end
def RO (S : Nat → Prop) (w : World) (o : T × Int) (e : Ending) (w' : World) : Prop :=
  ∃ v, e = .returned (.tuple #[v, .int .i64 o.2]) ∧ Below w.heap.size w w' ∧ RT (fun b => S b ∨ w.heap.size ≤ b) w' o.1 v
theorem RO.open {S : Nat → Prop} {w w' : World} {e : Ending} {t : T} {n : Int} (h : RO S w (t, n) e w') : ∃ a cap, e = .returned (.tuple #[.agg #[.int .i64 t.kind, .int .i64 t.n, .string t.name, .slice a t.args.length cap], .int .i64 n]) ∧ Below w.heap.size w w' ∧
    RT (fun b => S b ∨ w.heap.size ≤ b) w' t (.agg #[.int .i64 t.kind, .int .i64 t.n, .string t.name, .slice a t.args.length cap]) := by
  obtain ⟨v, he, hB, a, cap, rfl, hc, hr⟩ := h; exact ⟨a, cap, he, hB, a, cap, rfl, hc, hr⟩
theorem RO.zero {S : Nat → Prop} {w w' : World} {e : Ending} {o : T × Int} {n : Int} (ho : o = (zeroT, n)) (he : e = .returned (.tuple #[.agg #[.int .i64 0, .int .i64 0, .string ⟨#[]⟩, .slice none 0 0], .int .i64 n])) (hB : Below w.heap.size w w') : RO S w o e w' := by
  subst ho; exact ⟨_, he, hB, zeroT_rt _ _⟩
theorem RO.some {S : Nat → Prop} {w w' : World} {e : Ending} {o : T × Int} {t : T} {v : Value} (ho : o = (t, 0)) (he : e = .returned (.tuple #[v, .int .i64 0])) (hB : Below w.heap.size w w') (hr : RT (fun b => S b ∨ w.heap.size ≤ b) w' t v) : RO S w o e w' := by
  subst ho; exact ⟨_, he, hB, hr⟩

end Go.Proofs.YtedfepnekjjmnabDoor

/-
  What is reckoned is closed; sums don't hang on the order: in plain words. No program in sight.
-/
namespace Go.Proofs.YtedfepnekjjmnabDoor
set_option linter.unusedSimpArgs false
set_option linter.unusedVariables false



theorem any_bnd : bndB anyT = true := by simp [bndB, checkE, formL_cons, formL, headB, bareB, dpL_cons, dpL, szL_cons, szL, anyT]
theorem freeL_bound : boundB freeL = true := by simp [boundB, freeL, any_bnd]
theorem form_bare {x : T} (h : formL [x] = true) (h4 : x.kind ≠ 4) : x.args = [] := by
  rw [formL_cons] at h
  simp only [Bool.and_eq_true] at h
  have h1 := h.1.1
  simp only [headB, bareB] at h1
  repeat' (split at h1)
  all_goals first | omega | (simp at h1; done) | (simp only [Bool.and_eq_true, decide_eq_true_eq, beq_iff_eq] at h1; exact List.eq_nil_of_length_eq_zero (by omega))
theorem closed_leaf {x : T} (h : formL [x] = true) (h4 : x.kind ≠ 4) (h5 : x.kind ≠ 5) (h6 : x.kind ≠ 6) : closedL [x] = true := by
  rw [closedL_cons, form_bare h h4]; simp [closedL, h5, h6]
theorem closed_tup (l : List T) : closedL [tupT l] = closedL l := by rw [closedL_cons]; simp [tupT, closedL]
theorem closed_num (n : Int) : closedL [numT n] = true := by rw [closedL_cons]; simp [numT, closedL]
theorem closed_pid (n : Int) : closedL [pidT n] = true := by rw [closedL_cons]; simp [pidT, closedL]
theorem bound_closed {bd : List T} (hb : boundB bd = true) {t : T} (ht : t ∈ bd) (h6 : t.kind ≠ 6) : closedL [t] = true := by
  simp only [boundB, Bool.and_eq_true, List.all_eq_true] at hb
  have := hb.2 t ht
  simp only [bndB, Bool.and_eq_true, Bool.or_eq_true, beq_iff_eq] at this
  rcases this.2 with h | h
  · exact absurd h h6
  · exact h
theorem closedL_pair (t : T) (l : List T) : closedL (t :: l) = (closedL [t] && closedL l) := by rw [closedL_cons, closedL_cons]; simp [closedL]
theorem valL_closed {bd : List T} {self : Int} : ∀ (l vs : List T), (∀ y ∈ l, ∀ t, valT bd self y = some t → closedL [t] = true) → valL bd self l = some vs → closedL vs = true
  | [], vs, _, h => by rw [valL_nil] at h; cases h; simp [closedL]
  | y :: l, vs, hy, h => by
    rw [valL_cons] at h
    obtain ⟨v, hv, h⟩ := Option.bind_eq_some_iff.1 h
    obtain ⟨us, hu, rfl⟩ := Option.map_eq_some_iff.1 h
    rw [closedL_pair, hy y (by simp) v hv, valL_closed l us (fun z hz => hy z (by simp [hz])) hu]; rfl
theorem valT_closed {bd : List T} {self : Int} (hb : boundB bd = true) : ∀ (x : T), formL [x] = true → ∀ t, valT bd self x = some t → closedL [t] = true := by
  intro x
  induction x using T.ind with
  | h x ih =>
    intro hf t ht
    by_cases h6 : x.kind = 6
    · rw [valT_6 h6] at ht; cases ht
    by_cases h5 : x.kind = 5
    · obtain ⟨k, hk, hk4⟩ := form_var hf h5
      have hl := boundB_len hb
      rw [valT_5 h5 hk (by omega)] at ht
      unfold varO at ht
      split at ht
      · cases ht
      · rename_i hn
        simp only [Option.some.injEq] at ht
        subst ht
        exact bound_closed hb (List.getElem_mem _) (by simpa using hn)
    by_cases h4 : x.kind = 4
    · cases hs : isT x sSelf 0
      · cases hp : isT x sPut 1
        · rw [valT_tup h4 hs hp] at ht
          obtain ⟨vs, hv, ht⟩ := Option.bind_eq_some_iff.1 ht
          have hc := valL_closed x.args vs (fun y hy => ih y hy (form_args hf hy)) hv
          split at ht
          · unfold sumO at ht
            split at ht
            · simp only [Option.some.injEq] at ht; subst ht; exact closed_num _
            · cases ht
          · simp only [Option.some.injEq] at ht; subst ht; rw [closed_tup]; exact hc
        · have hl := isT_length hp
          rw [valT_put h4 hs hp (by omega)] at ht
          unfold putO at ht
          split at ht
          · simp only [Option.some.injEq] at ht; subst ht; assumption
          · cases ht
      · rw [valT_self h4 hs] at ht
        simp only [Option.some.injEq] at ht; subst ht; exact closed_pid _
    · rw [valT_o h4 h5 h6] at ht
      simp only [Option.some.injEq] at ht; subst ht; exact closed_leaf hf h4 h5 h6
theorem valF_check {bd : List T} {self : Int} {x t : T} (h : valF bd self x = some t) : valT bd self x = some t ∧ checkE t = 0 := by
  obtain ⟨u, hu, h⟩ := Option.bind_eq_some_iff.1 h
  split at h
  · simp only [Option.some.injEq] at h; subst h; exact ⟨hu, by assumption⟩
  · cases h
/-- A right answer is closed, and right. -/
theorem reckO_good {bd : List T} {self : Int} {x : T} (h : (reckO bd self x).2 = 0) : closedL [(reckO bd self x).1] = true ∧ checkE (reckO bd self x).1 = 0 := by
  unfold reckO at h ⊢
  split
  · rename_i h1; rw [if_pos h1] at h; exact absurd h h1
  rename_i h1
  rw [if_neg h1] at h
  split
  · rename_i h2; rw [if_pos h2] at h; cases h
  rename_i h2
  rw [if_neg h2] at h
  split
  · rename_i h3; rw [if_pos h3] at h; cases h
  rename_i h3
  rw [if_neg h3] at h
  cases hv : valF bd self x with
  | none => rw [hv] at h; cases h
  | some t => exact ⟨valT_closed (by simpa using h2) x (check_form' (by simpa using h1)) t (valF_check hv).1, (valF_check hv).2⟩

theorem isT_tup (s u : ByteArray) (l : List T) (n : Int) : isT (tupT (wordT s :: l)) u n = (decide ((l.length : Int) + 1 = n + 1) && (s.toList == u.toList)) := by
  simp [isT, tupT, wordT, headIs]
theorem reckO_put {bd : List T} {self : Int} {t : T} (hb : boundB bd = true) (hs : inB self 1 99 = true) (ht : checkE t = 0) (hc : closedL [t] = true) (hp : checkE (tupT [wordT sPut, t]) = 0) :
    reckO bd self (tupT [wordT sPut, t]) = (t, 0) := by
  refine reckO_some hp hb hs (valF_some ?_ ht)
  rw [valT_put rfl (by rw [isT_tup]; rfl) (by rw [isT_tup]; simp) (by simp [tupT])]
  simp [tupT, putO, hc]
def addT (x y : T) : T := tupT [wordT sAdd, x, y]
theorem formL_pair (t : T) (l : List T) : formL (t :: l) = (formL [t] && formL l) := by rw [formL_cons, formL_cons]; simp [formL]
theorem check_add (x y : T) : checkE (addT x y) = checkE (addT y x) := by
  have h1 : formL [addT x y] = formL [addT y x] := by
    rw [formL_cons, formL_cons]
    have e : headB (addT x y) = headB (addT y x) := by simp [headB, addT, tupT]
    rw [e]; congr 2
    simp only [addT, tupT]
    rw [formL_pair, formL_pair x [y], formL_pair _ [y, x], formL_pair y [x], Bool.and_comm (formL [x])]
  have h2 : dpL [addT x y] = dpL [addT y x] := by
    rw [dpL_cons, dpL_cons]
    simp only [addT, tupT, if_true]
    rw [dpL_cons, dpL_cons x, dpL_cons _ [y, x], dpL_cons y, dpL_cons y, dpL_cons x]
    omega
  have h3 : szL [addT x y] = szL [addT y x] := by
    rw [szL_cons, szL_cons]
    simp only [addT, tupT, if_true, List.length_cons, List.length_nil]
    rw [szL_cons, szL_cons x, szL_cons _ [y, x], szL_cons y, szL_cons y, szL_cons x]
    omega
  rw [checkE, checkE, h1, h2, h3]
theorem sumO_comm (a b : T) : sumO a b = sumO b a := by
  have : sumN a b = sumN b a := by rw [sumN, sumN, Int.add_comm]
  rw [sumO, sumO, sumB, sumB, this, Bool.and_comm (a.kind == 1)]
theorem val_add_eq {bd : List T} {self : Int} (x y : T) : valT bd self (addT x y) = (valT bd self x).bind fun a => (valT bd self y).bind fun b => sumO a b := by
  have e : isT (addT x y) sAdd 2 = true := by rw [addT, isT_tup]; simp
  rw [valT_tup rfl (by rw [addT, isT_tup]; rfl) (by rw [addT, isT_tup]; rfl)]
  simp only [e, if_true]
  simp only [addT, tupT]
  rw [valL_cons, valT_o (by simp [wordT]) (by simp [wordT]) (by simp [wordT]), valL_cons, valL_cons, valL_nil]
  cases valT bd self x <;> cases valT bd self y <;> rfl
theorem val_add {bd : List T} {self : Int} (x y : T) : valT bd self (addT x y) = valT bd self (addT y x) := by
  rw [val_add_eq, val_add_eq]
  cases valT bd self x <;> cases valT bd self y <;> first | rfl | exact sumO_comm _ _
theorem reckO_add {bd : List T} {self : Int} (x y : T) : reckO bd self (addT x y) = reckO bd self (addT y x) := by
  rw [reckO, reckO, check_add x y, valF, valF, val_add x y]
theorem reckO_five : reckO freeL 1 (addT (numT 2) (numT 3)) = (numT 5, 0) := by
  have e1 : checkE (addT (numT 2) (numT 3)) = 0 := by simp [checkE, formL_cons, formL, headB, bareB, dpL_cons, dpL, szL_cons, szL, addT, tupT, wordT, numT, sAdd, nameB, lowB, inB, ByteArray.size]
  have e2 : checkE (numT 5) = 0 := by simp [checkE, formL_cons, formL, headB, bareB, dpL_cons, dpL, szL_cons, szL, numT, inB]
  refine reckO_some e1 freeL_bound (by decide) (valF_some ?_ e2)
  rw [val_add_eq, valT_o (by simp [numT]) (by simp [numT]) (by simp [numT]), valT_o (by simp [numT]) (by simp [numT]) (by simp [numT])]
  simp [sumO, sumB, sumN, numT, inB, RowKit.wrap64]
end Go.Proofs.YtedfepnekjjmnabDoor

/-
  What is bound, put into a pattern: the pattern then fits just so. In plain words, no program in sight.
-/
namespace Go.Proofs.YtedfepnekjjmnabDoor
set_option linter.unusedSimpArgs false
set_option linter.unusedVariables false

def bindL (b : List T) : List T → List T
  | [] => []
  | ⟨k, n, s, l⟩ :: ts => (if k = 5 then b.getD n.toNat zeroT else ⟨k, n, s, bindL b l⟩) :: bindL b ts
def bindT (b : List T) (p : T) : T := if p.kind = 5 then b.getD p.n.toNat zeroT else ⟨p.kind, p.n, p.name, bindL b p.args⟩
theorem bindL_nil (b : List T) : bindL b [] = [] := by rw [bindL]
theorem bindL_cons (b : List T) (p : T) (ps : List T) : bindL b (p :: ps) = bindT b p :: bindL b ps := by obtain ⟨k, n, s, l⟩ := p; rw [bindL]; rfl
theorem bindL_map (b : List T) (ps : List T) : bindL b ps = ps.map (bindT b) := by
  induction ps with
  | nil => rw [bindL_nil]; rfl
  | cons p ps ih => rw [bindL_cons, ih]; rfl
theorem bindT_5 {b : List T} {p : T} {k : Nat} (h : p.kind = 5) (hk : p.n = k) (hl : k < b.length) : bindT b p = b[k] := by rw [bindT, if_pos h, hk]; simp [hl]
theorem bindT_o {b : List T} {p : T} (h : p.kind ≠ 5) : bindT b p = ⟨p.kind, p.n, p.name, bindL b p.args⟩ := by rw [bindT, if_neg h]

/-- x is t, but for parts of which it says nothing. -/
inductive Sub : T → T → Prop
  | any (t : T) : Sub anyT t
  | same (t : T) : Sub t t
  | tup (l m : List T) (hl : l.length = m.length) (h : ∀ i (h1 : i < l.length) (h2 : i < m.length), Sub l[i] m[i]) : Sub (tupT l) (tupT m)

/-- Who was bound stays so. -/
def Stay (b c : List T) : Prop := b.length = c.length ∧ ∀ i (h1 : i < b.length) (h2 : i < c.length), b[i].kind ≠ 6 → c[i] = b[i]
theorem Stay.refl (b : List T) : Stay b b := ⟨rfl, fun _ _ _ _ => rfl⟩
theorem Stay.trans {a b c : List T} (h : Stay a b) (k : Stay b c) : Stay a c :=
  ⟨h.1.trans k.1, fun i h1 h2 hn => by
    have h3 : i < b.length := by have := h.1; omega
    have e := h.2 i h1 h3 hn
    rw [k.2 i h3 h2 (by rw [e]; exact hn), e]⟩
theorem Stay.set {b : List T} {k : Nat} (hk : k < b.length) (h6 : b[k].kind = 6) (t : T) : Stay b (b.set k t) := by
  refine ⟨by simp, fun i h1 h2 hn => ?_⟩
  have : k ≠ i := fun e => by subst e; exact hn h6
  simp [List.getElem_set, this]
theorem stay_list : ∀ (ps ts b : List T), (∀ p ∈ ps, ∀ t b, Stay b (fitT p t b).2) → Stay b (fitL ps ts b).2
  | [], ts, b, _ => by rw [fitL_nil]; exact Stay.refl b
  | p :: ps, [], b, _ => by
    have : fitL (p :: ps) [] b = (true, b) := by rw [fitL]; intro h; cases h
    rw [this]; exact Stay.refl b
  | p :: ps, t :: ts, b, h => by
    rw [fitL_cons]
    split
    · exact (h p (by simp) t b).trans (stay_list ps ts _ fun q hq => h q (by simp [hq]))
    · exact h p (by simp) t b
theorem fitT_stay (p : T) : ∀ (t : T) (b : List T), Stay b (fitT p t b).2 := by
  induction p using T.ind with
  | h p ih =>
    intro t b
    unfold fitT fitH
    repeat' split
    all_goals first
      | exact Stay.refl b
      | exact stay_list _ _ _ ih
      | skip
    rename_i h6
    by_cases hk : p.n.toNat < b.length
    · exact Stay.set hk (by simpa [hk] using h6) t
    · rw [List.set_eq_of_length_le (by omega)]; exact Stay.refl b
theorem fitL_stay (ps ts b : List T) : Stay b (fitL ps ts b).2 := stay_list ps ts b fun p _ t b => fitT_stay p t b

theorem ba_toList (s : ByteArray) : s.toList = s.data.toList := by rw [ByteArray.toList_eq]
theorem T.eta4 {t : T} (h : formL [t] = true) (h4 : t.kind = 4) : t = tupT t.args := by
  rw [formL_cons] at h
  simp only [Bool.and_eq_true] at h
  have h1 := h.1.1
  simp only [headB, h4] at h1
  obtain ⟨k, n, s, l⟩ := t
  simp at h1 h4 ⊢
  subst h4
  simp only [tupT, T.mk.injEq, true_and, and_true]
  refine ⟨by omega, ?_⟩
  have h2 : s.toList = [] := by simpa using h1.1.2
  exact ba_ext (by rw [ba_toList] at h2; simpa using h2)
theorem T.eta6 {t : T} (h : formL [t] = true) (h6 : t.kind = 6) : t = anyT := by
  have ha := form_bare h (by omega)
  rw [formL_cons] at h
  simp only [Bool.and_eq_true] at h
  have h1 := h.1.1
  simp only [headB, h6, bareB] at h1
  obtain ⟨k, n, s, l⟩ := t
  simp at h1 h6 ha ⊢
  subst h6 ha
  simp only [anyT, T.mk.injEq, true_and, and_true]
  refine ⟨by omega, ?_⟩
  have h2 : s.toList = [] := by simpa using h1.1
  exact ba_ext (by rw [ba_toList] at h2; simpa using h2)
theorem T.etaLeaf {b : List T} {p : T} (h : formL [p] = true) (h4 : p.kind ≠ 4) (h5 : p.kind ≠ 5) : bindT b p = p := by
  have ha := form_bare h h4
  rw [bindT_o h5, ha, bindL_nil]
  obtain ⟨k, n, s, l⟩ := p
  simp at ha; subst ha; rfl
theorem closed_at {l : List T} (h : closedL l = true) {y : T} (hy : y ∈ l) : closedL [y] = true := by
  induction l with
  | nil => cases hy
  | cons x l ih =>
    rw [closedL_pair, Bool.and_eq_true] at h
    rcases List.mem_cons.1 hy with rfl | hy
    · exact h.1
    · exact ih h.2 hy
theorem closed_args {t : T} (h : closedL [t] = true) {y : T} (hy : y ∈ t.args) : closedL [y] = true := by
  rw [closedL_cons, Bool.and_eq_true, Bool.and_eq_true] at h
  exact closed_at h.1.2 hy
theorem closed_kind {t : T} (h : closedL [t] = true) : t.kind ≠ 5 ∧ t.kind ≠ 6 := by
  rw [closedL_cons] at h; simp at h; exact ⟨h.1.1.1, h.1.1.2⟩

theorem bind_sub : ∀ (p t : T) (b c : List T), formL [p] = true → formL [t] = true → closedL [t] = true → b.length = 4 → (fitT p t b).1 = true → Stay (fitT p t b).2 c → Sub (bindT c p) t := by
  intro p
  induction p using T.ind with
  | h p ih =>
    intro t b c hf ht hc hb hfit hst
    by_cases h6 : p.kind = 6
    · rw [T.etaLeaf hf (by omega) (by omega), T.eta6 hf h6]; exact Sub.any t
    by_cases h5 : p.kind = 5
    · obtain ⟨k, hk, hk4⟩ := form_var hf h5
      by_cases hb6 : (b[k]'(by omega)).kind = 6
      · rw [fitT_5a h5 hk (by omega) hb6] at hst
        have hcl : k < c.length := by have := hst.1; simp at this; omega
        have := hst.2 k (by simp; omega) hcl (by simp [closed_kind hc])
        rw [bindT_5 h5 hk hcl, this]
        simp only [List.getElem_set_self]
        exact Sub.same t
      · rw [fitT_5b h5 hk (by omega) hb6] at hst hfit
        have e := (sameT_iff _ _).1 hfit
        have hcl : k < c.length := by have := hst.1; simp at this; omega
        rw [bindT_5 h5 hk hcl, hst.2 k (by simp; omega) hcl hb6]; simp only [e]
        exact Sub.same t
    by_cases h4 : p.kind = 4
    · by_cases ht4 : t.kind = 4 ∧ p.args.length = t.args.length
      · obtain ⟨ht4, hl⟩ := ht4
        rw [fitT_4a h4 ht4 hl] at hst hfit
        have key : ∀ (ps ts b : List T), (∀ q ∈ ps, ∀ (t : T) (b : List T), formL [q] = true → formL [t] = true → closedL [t] = true → b.length = 4 → (fitT q t b).1 = true → Stay (fitT q t b).2 c → Sub (bindT c q) t) →
            (∀ q ∈ ps, formL [q] = true) → (∀ t ∈ ts, formL [t] = true ∧ closedL [t] = true) → b.length = 4 → (fitL ps ts b).1 = true → Stay (fitL ps ts b).2 c → ps.length = ts.length → ∀ i (h1 : i < (bindL c ps).length) (h2 : i < ts.length), Sub (bindL c ps)[i] ts[i] := by
          intro ps
          induction ps with
          | nil => intro ts b _ _ _ _ _ _ hl i h1 h2; simp at hl; omega
          | cons q ps ihl =>
            intro ts b hq hfq hts hb hfit hst hl i h1 h2
            cases ts with
            | nil => simp at hl
            | cons t ts =>
              cases h : (fitT q t b).1
              · rw [fitL_no h, h] at hfit; cases hfit
              rw [fitL_yes h] at hfit hst
              have hs := fitL_stay ps ts (fitT q t b).2
              simp only [bindL_cons]
              cases i with
              | zero => exact hq q (by simp) t b (hfq q (by simp)) (hts t (by simp)).1 (hts t (by simp)).2 hb h (hs.trans hst)
              | succ i =>
                exact ihl ts _ (fun q' h' => hq q' (by simp [h'])) (fun q' h' => hfq q' (by simp [h'])) (fun t' h' => hts t' (by simp [h'])) (by rw [fitT_length]; exact hb) hfit hst (by simpa using hl) i (by simpa [bindL_cons] using h1) (by simpa using h2)
        have hsub := key p.args t.args b (fun q hq t b a1 a2 a3 a4 a5 a6 => ih q hq t b c a1 a2 a3 a4 a5 a6) (fun q hq => form_args hf hq) (fun y hy => ⟨form_args ht hy, closed_args hc hy⟩) hb hfit hst hl
        rw [bindT_o h5, T.eta4 ht ht4]
        have e := T.eta4 hf h4
        have e1 : p.n = 0 := by rw [e]; rfl
        have e2 : p.name = ⟨#[]⟩ := by rw [e]; rfl
        rw [h4, e1, e2]
        exact Sub.tup _ _ (by rw [bindL_map]; simpa using hl) hsub
      · rw [fitT_4b h4 ht4] at hfit; cases hfit
    · rw [fitT_o h4 h5 h6] at hfit
      have e := (sameT_iff _ _).1 hfit
      rw [T.etaLeaf hf h4 h5, e]; exact Sub.same t

theorem list_le {f : List T → Nat} (h0 : f [] = 0) (hc : ∀ t ts, f (t :: ts) = f [t] + f ts) : ∀ (l m : List T), l.length = m.length → (∀ i (h1 : i < l.length) (h2 : i < m.length), f [l[i]] ≤ f [m[i]]) → f l ≤ f m
  | [], [], _, _ => Nat.le_refl _
  | [], _ :: _, h, _ => by simp at h
  | _ :: _, [], h, _ => by simp at h
  | x :: l, y :: m, hl, h => by
    rw [hc x, hc y]
    have h1 := h 0 (by simp) (by simp)
    have h2 := list_le h0 hc l m (by simpa using hl) fun i a b => h (i + 1) (by simpa using a) (by simpa using b)
    simp only [List.getElem_cons_zero] at h1
    omega
theorem list_max {f : List T → Nat} (h0 : f [] = 0) (hc : ∀ t ts, f (t :: ts) = max (f [t]) (f ts)) : ∀ (l m : List T), l.length = m.length → (∀ i (h1 : i < l.length) (h2 : i < m.length), f [l[i]] ≤ f [m[i]]) → f l ≤ f m
  | [], [], _, _ => Nat.le_refl _
  | [], _ :: _, h, _ => by simp at h
  | _ :: _, [], h, _ => by simp at h
  | x :: l, y :: m, hl, h => by
    rw [hc x, hc y]
    have h1 := h 0 (by simp) (by simp)
    have h2 := list_max h0 hc l m (by simpa using hl) fun i a b => h (i + 1) (by simpa using a) (by simpa using b)
    simp only [List.getElem_cons_zero] at h1
    omega
theorem szL_pair (t : T) (ts : List T) : szL (t :: ts) = szL [t] + szL ts := by rw [szL_cons, szL_cons t []]; simp [szL]
theorem dpL_pair (t : T) (ts : List T) : dpL (t :: ts) = max (dpL [t]) (dpL ts) := by rw [dpL_cons, dpL_cons t []]; simp [dpL]
theorem bulkL_pair (t : T) (ts : List T) : bulkL (t :: ts) = bulkL [t] + bulkL ts := bulkL_append [t] ts
theorem sub_le {x t : T} (h : Sub x t) : szL [x] ≤ szL [t] ∧ dpL [x] ≤ dpL [t] ∧ bulkL [x] ≤ bulkL [t] := by
  induction h with
  | any t => exact ⟨by simp [szL_cons, anyT, szL], by simp [dpL_cons, anyT, dpL], by rw [show bulkL [anyT] = 1 by rw [bulkL_cons]; simp [anyT, bulkL, ByteArray.size], bulkL_cons]; omega⟩
  | same t => exact ⟨Nat.le_refl _, Nat.le_refl _, Nat.le_refl _⟩
  | tup l m hl h ih =>
    have h1 := list_le (f := szL) (by simp [szL]) szL_pair l m hl fun i a b => (ih i a b).1
    have h2 := list_max (f := dpL) (by simp [dpL]) dpL_pair l m hl fun i a b => (ih i a b).2.1
    have h3 := list_le (f := bulkL) (by simp [bulkL]) bulkL_pair l m hl fun i a b => (ih i a b).2.2
    refine ⟨?_, ?_, ?_⟩
    · rw [szL_cons, szL_cons]; simp [tupT, szL]; omega
    · rw [dpL_cons, dpL_cons]; simp [tupT, dpL]; omega
    · rw [bulkL_cons, bulkL_cons]; simp [tupT, bulkL]; omega
theorem sub_form {x t : T} (h : Sub x t) (ht : formL [t] = true) : formL [x] = true := by
  induction h with
  | any t => simp [formL_cons, formL, headB, bareB, anyT]
  | same t => exact ht
  | tup l m hl h ih =>
    rw [formL_cons] at ht ⊢
    have e : headB (tupT l) = headB (tupT m) := by unfold headB tupT; simp only [hl]; rfl
    simp only [Bool.and_eq_true] at ht ⊢
    refine ⟨⟨by rw [e]; exact ht.1.1, ?_⟩, ht.2⟩
    rw [formL_all, List.all_eq_true]
    intro y hy
    obtain ⟨i, hi, rfl⟩ := List.getElem_of_mem hy
    have hm := ht.1.2
    rw [formL_all, List.all_eq_true] at hm
    have hi' : i < m.length := by have := hl; simp only [tupT] at hi; omega
    exact ih i hi hi' (hm _ (by simp only [tupT]; exact List.getElem_mem _))
theorem sub_check {x t : T} (h : Sub x t) (ht : checkE t = 0) : checkE x = 0 := by
  have hf := check_form' ht
  unfold checkE at ht ⊢
  rw [if_pos (sub_form h hf)]
  rw [if_pos hf] at ht
  have := sub_le h
  split at ht
  · rw [if_pos (by omega)]
  · cases ht
theorem sub_closed {x t : T} (h : Sub x t) (hx : closedL [x] = true) : x = t := by
  induction h with
  | any t => simp [closedL_cons, anyT] at hx
  | same t => rfl
  | tup l m hl h ih =>
    rw [closed_tup] at hx
    congr 1
    refine List.ext_getElem hl fun i h1 h2 => ih i h1 h2 (closed_at hx (List.getElem_mem _))
theorem fit_list {c : List T} : ∀ (l m : List T), l.length = m.length → (∀ i (h1 : i < l.length) (h2 : i < m.length), fitT l[i] m[i] c = (true, c)) → fitL l m c = (true, c)
  | [], m, _, _ => fitL_nil m c
  | _ :: _, [], h, _ => by simp at h
  | x :: l, y :: m, hl, h => by
    have h0 := h 0 (by simp) (by simp)
    simp only [List.getElem_cons_zero] at h0
    rw [fitL_yes (by rw [h0]), h0]
    exact fit_list l m (by simpa using hl) fun i a b => h (i + 1) (by simpa using a) (by simpa using b)
theorem fit_self : ∀ (t : T) (c : List T), closedL [t] = true → fitT t t c = (true, c) := by
  intro t
  induction t using T.ind with
  | h t ih =>
    intro c hc
    obtain ⟨h5, h6⟩ := closed_kind hc
    by_cases h4 : t.kind = 4
    · rw [fitT_4a h4 h4 rfl]
      exact fit_list _ _ rfl fun i h1 h2 => ih _ (List.getElem_mem _) c (closed_args hc (List.getElem_mem _))
    · rw [fitT_o h4 h5 h6, (sameT_iff t t).2 rfl]
theorem fit_sub {x t : T} (h : Sub x t) (hc : closedL [t] = true) (c : List T) : fitT x t c = (true, c) := by
  induction h with
  | any t => exact fitT_6 rfl
  | same t => exact fit_self t c hc
  | tup l m hl h ih =>
    rw [fitT_4a rfl rfl hl]
    rw [closed_tup] at hc
    exact fit_list l m hl fun i h1 h2 => ih i h1 h2 (closed_at hc (List.getElem_mem _))

/-- What all of a term's parts and all bound ones have, all that are bound have. -/
theorem fitL_all {Q : T → Prop} : ∀ (ps ts b : List T), (∀ p ∈ ps, ∀ (t : T) (b : List T), Q t → (∀ y ∈ b, Q y) → ∀ y ∈ (fitT p t b).2, Q y) → (∀ y ∈ ts, Q y) → (∀ y ∈ b, Q y) → ∀ y ∈ (fitL ps ts b).2, Q y
  | [], ts, b, _, _, hb => by rw [fitL_nil]; exact hb
  | p :: ps, [], b, _, _, hb => by
    have : fitL (p :: ps) [] b = (true, b) := by rw [fitL]; intro h; cases h
    rw [this]; exact hb
  | p :: ps, t :: ts, b, h, ht, hb => by
    have h1 := h p (by simp) t b (ht t (by simp)) hb
    rw [fitL_cons]
    split
    · exact fitL_all ps ts _ (fun q hq => h q (by simp [hq])) (fun y hy => ht y (by simp [hy])) h1
    · exact h1
theorem fitT_all {Q : T → Prop} (hQ : ∀ t, Q t → ∀ y ∈ t.args, Q y) (p : T) : ∀ (t : T) (b : List T), Q t → (∀ y ∈ b, Q y) → ∀ y ∈ (fitT p t b).2, Q y := by
  induction p using T.ind with
  | h p ih =>
    intro t b ht hb
    unfold fitT fitH
    repeat' split
    all_goals first
      | exact hb
      | exact fitL_all _ _ _ (fun q hq t b => ih q hq t b) (hQ t ht) hb
      | skip
    intro y hy
    rcases List.mem_or_eq_of_mem_set hy with hy | rfl
    · exact hb y hy
    · exact ht
theorem check_args {t : T} (h : checkE t = 0) {y : T} (hy : y ∈ t.args) : checkE y = 0 := by
  have hf := check_form' h
  have hfy := form_args hf hy
  have h4 : t.kind = 4 := by
    by_cases h4 : t.kind = 4
    · exact h4
    · rw [form_bare hf h4] at hy; cases hy
  unfold checkE at h ⊢
  rw [if_pos hfy]
  rw [if_pos hf] at h
  have h1 : ∀ (l : List T), y ∈ l → szL [y] ≤ szL l ∧ dpL [y] ≤ dpL l := by
    intro l
    induction l with
    | nil => intro h; cases h
    | cons x l ih =>
      intro hm
      rw [szL_pair x, dpL_pair x]
      rcases List.mem_cons.1 hm with rfl | hm
      · omega
      · have := ih hm; omega
  have h2 := h1 t.args hy
  have h3 : szL [t] = 1 + t.args.length + szL t.args := by rw [szL_cons, if_pos h4]; simp [szL]
  have h5 : dpL [t] = 1 + dpL t.args := by rw [dpL_cons, if_pos h4]; simp [dpL]
  split at h
  · rw [if_pos (by omega)]
  · cases h
theorem fit_bound {p t : T} {b : List T} (hb : boundB b = true) (ht : checkE t = 0) (hc : closedL [t] = true) : boundB (fitT p t b).2 = true := by
  have hl := boundB_len hb
  rw [boundB, fitT_length, hl]
  simp only [beq_self_eq_true, Bool.true_and, List.all_eq_true]
  have hb' := hb
  simp only [boundB, Bool.and_eq_true, List.all_eq_true] at hb'
  refine fitT_all (Q := fun y => bndB y = true) ?_ p t b (by simp [bndB, ht, hc]) hb'.2
  intro t ht y hy
  simp only [bndB, Bool.and_eq_true, Bool.or_eq_true, beq_iff_eq] at ht ⊢
  refine ⟨check_args ht.1 hy, .inr ?_⟩
  rcases ht.2 with h6 | hc
  · rw [form_bare (check_form' ht.1) (by omega)] at hy; cases hy
  · exact closed_args hc hy
end Go.Proofs.YtedfepnekjjmnabDoor

/-
  clerkkeep.put: what is bound, put into a pattern. Conditions: a formed pattern, four bound ones, a bound on how much there is.
-/
namespace Go.Proofs.YtedfepnekjjmnabDoor
open Go.RowKit
set_option linter.unusedSimpArgs false
set_option linter.unusedVariables false
set_option maxRecDepth 100000

section
variable {ops : Array Oper} {o : Oper} {a : Act} {Q : Exit → Act → World → Prop}
/-- 'append(s, x)' at a step of a region that draws its order. -/
theorem step_grow {K : Act → World → Prop} {E : Prop} (s x : Operand) (hgd : o.guard = none) (ho : o.op = .call { callee := .builtin .append, args := #[s, x], argTypes := #[22, 22] })
    {P R : Nat → Prop} {base : Nat} {w0 : World} {v : Value} {ts : List T} {t : T} {c0 c1 c2 c3 : Value} {g0 n : Nat} (hs : a.eval s = v) (hx : a.eval x = .slice (some ⟨g0, 0, none⟩) 1 1) (hg0 : g0 = w0.heap.size) (hown : OwnG P base w0 v ts)
    (ht : RT R w0 t (.agg #[c0, c1, c2, c3])) (hR : ∀ b, R b → b < w0.heap.size → P b ∧ v.ownBlock ≠ some b) (hnl : ts.length = n) (hn : n + 1 ≤ 1099511627776) (hbase : base ≤ w0.heap.size)
    (h : ∀ g cap w', OwnG P base w' (.slice (some ⟨g, 0, none⟩) (n + 1) cap) (ts ++ [t]) → (w0.alloc (.cells #[c0, c1, c2, c3] 24)).grownBy w' v.ownBlock → Below base w0 w' → K (a.put o.dst (.slice (some ⟨g, 0, none⟩) (n + 1) cap)) w') :
    if Region.wanted o (yielded ops a.tmps) = true then Oper.wp Tryd.prog o a (w0.alloc (.cells #[c0, c1, c2, c3] 24)) K Q else E := by
  subst hg0 hnl
  have hlt := hown.block
  obtain ⟨i, hi, hz0, hz1, hz2⟩ := info_parts info24
  have hown1 : OwnT (fun b => P b ∧ b < w0.heap.size ∧ v.ownBlock ≠ some b) base (w0.alloc (.cells #[c0, c1, c2, c3] 24)) v ts := OwnT.to hown (Nat.le_refl _) (fun _ h _ => h) fun b _ hb => Below.heap_alloc _ _ _ hb
  have hl := (ht.to (S' := fun b => P b ∧ b < w0.heap.size ∧ v.ownBlock ≠ some b) (fun b hb hl => ⟨(hR b hb hl).1, hl, (hR b hb hl).2⟩) fun _ _ _ => rfl).one 24
  obtain ⟨cs, ho1, hC⟩ := hown1
  obtain ⟨au, cap, ds, e, hcap, hD, hj⟩ := hl
  simp only [Value.slice.injEq] at e
  obtain ⟨rfl, -, rfl⟩ := e
  refine step_append_lies _ hgd s x 22 ho base 24 i _ 4 56 Tryd.underlying22 hi hz0 hz1 hz2 rfl (by decide) v _ cs hs ho1 ⟨w0.heap.size, 0, none⟩ 1 1 ds hx (by simpa using hD.length) ?_ hD.oneCell (by decide) (by unfold maxLen; omega) (by omega) (by simp; omega) _ rfl ?_
  · intro j u' hu
    obtain ⟨b, o', e, _, hc⟩ := hj j u' hu
    simp only [Option.some.injEq] at e
    rw [e]
    unfold Addr.add
    split
    · rename_i h0; subst h0; exact hc
    · exact hc
  · intro g cap w' h1 h2 h3 h4
    have h2s := h2.size
    simp only [World.size_alloc] at h2s h3
    have hblk : ∀ b, (P b ∧ b < w0.heap.size ∧ v.ownBlock ≠ some b) → b < (w0.alloc (.cells #[c0, c1, c2, c3] 24)).heap.size → w'.heap[b]? = (w0.alloc (.cells #[c0, c1, c2, c3] 24)).heap[b]? := fun b hb hlt => h2.block b hlt (fun e => hb.2.2 e.symm)
    have hO : OwnT (fun b => P b ∧ b < w0.heap.size ∧ v.ownBlock ≠ some b) base w' (.slice (some ⟨g, 0, none⟩) (ts.length + 1) cap) (ts ++ [t]) := ⟨cs ++ ds, by simpa using h1, (hC.to (fun _ h _ => h) hblk).append (hD.to (fun _ h _ => h) hblk)⟩
    refine h g cap w' (hO.to (Nat.le_refl _) (fun b hb _ => ⟨hb.1, by have := hb.2.1; omega, fun e => ?_⟩) fun _ _ _ => rfl) h2 ?_
    · simp only [Value.ownBlock, Option.some.injEq] at e
      subst e
      rcases h3 with h5 | h5
      · exact hb.2.2 h5
      · have := hb.2.1; omega
    · exact grown_below ((Below.refl _ _).alloc hbase _) h2 (by simp; omega) fun b hb => (hlt b hb).1
end
theorem grown_box {w0 w' : World} {ob : Option Nat} {B : Nat} {c0 c1 c2 c3 : Value} (h : Box w0 B c0 c1 c2 c3) (hg : w0.grownBy w' ob) (hB : ob ≠ some B) : Box w' B c0 c1 c2 c3 := by
  have hl := h.lt
  have e : ∀ o, w'.cell? ⟨B, o, none⟩ = w0.cell? ⟨B, o, none⟩ := fun o => World.cell?_of_block (w := w0) (hg.block B hl (fun e => hB e.symm))
  exact ⟨by rw [e]; exact h.1, by rw [e]; exact h.2.1, by rw [e]; exact h.2.2.1, by rw [e]; exact h.2.2.2⟩

end Go.Proofs.YtedfepnekjjmnabDoor

/-
  Rows of terms of one's own, more laws: written out, stored beside, grown at a drawn step; a struct read out of the midst of a row. No condition.
-/
namespace Go.Proofs.YtedfepnekjjmnabDoor
open Go.RowKit
set_option linter.unusedSimpArgs false
set_option linter.unusedVariables false

theorem OwnG.store1 {P : Nat → Prop} {base : Nat} {w : World} {v : Value} {ts : List T} (h : OwnG P base w v ts) (B o : Nat) (u : Value) (hB : v.ownBlock ≠ some B) (hP : ¬ P B) : OwnG P base (w.setCell ⟨B, o, none⟩ u) v ts :=
  h.to (by simp) fun b hb _ => setCell_other w B o u b fun e => by
    subst e
    rcases hb with hb | hb
    · exact hP hb
    · exact hB hb
theorem OwnG.lit {P S : Nat → Prop} {base : Nat} {w : World} {ts : List T} {cs : List Value} (h : CellsT S w ts cs) (hS : ∀ b, S b → b < w.heap.size → P b) (hb : base ≤ w.heap.size) {n : Nat} (hn : ts.length = n) (hm : n ≤ 1099511627776) {B : Nat} (hB : B = w.heap.size) :
    OwnG P base (w.alloc (.cells cs.toArray 24)) (.slice (some ⟨B, 0, none⟩) n n) ts := by
  subst hn hB
  have h1 := World.ownsRow_lit (e := 24) (size := 4) (base := base) w cs.toArray ts.length hb (by unfold maxLen; omega) (by simpa using h.length)
  refine ⟨cs, by simpa using h1, ?_⟩
  exact ((h.to (S' := fun b => P b ∧ b < w.heap.size + 1 ∧ b ≠ w.heap.size) (fun b hb hl => ⟨hS b hb hl, by omega, by omega⟩) fun b _ hl => Below.heap_alloc _ _ _ hl).to (fun b hb _ => ⟨hb.1, by simpa using hb.2.1, fun e => hb.2.2 (by simpa [Value.ownBlock] using e.symm)⟩) fun _ _ _ => rfl)
theorem CellsT.tup {S : Nat → Prop} {w : World} {l : List T} {a : Option Addr} {n cap : Nat} {ts : List T} {cs : List Value} (ht : RT S w (tupT l) (.agg #[.int .i64 4, .int .i64 0, .string ⟨#[]⟩, .slice a n cap])) (h : CellsT S w ts cs) : CellsT S w (tupT l :: ts) (.int .i64 4 :: .int .i64 0 :: .string ⟨#[]⟩ :: .slice a n cap :: cs) := by
  obtain ⟨a', cap', e, h1, h2⟩ := ht
  simp only [tupT, Value.agg.injEq, Array.mk.injEq, List.cons.injEq, Value.slice.injEq, and_true, true_and] at e
  obtain ⟨rfl, rfl, rfl⟩ := e
  exact ⟨_, _, cs, rfl, h1, h2, h⟩
theorem Blk.heap {w w' : World} {B : Nat} {cs : List Value} (h : Blk w B cs) (he : w'.heap[B]? = w.heap[B]?) : Blk w' B cs := by
  have hlt : B < w'.heap.size := by
    have h1 : w.heap[B]? = some (w.heap[B]'h.lt) := Array.getElem?_eq_getElem h.lt
    rw [h1] at he
    exact (Array.getElem?_eq_some_iff.1 he).1
  exact ⟨hlt, fun j u hu => (World.cell?_of_block (w := w) (a := ⟨B, j, none⟩) he).trans (h.cell j u hu), fun o => (World.frozen?_of_block (w := w) (a := ⟨B, o, none⟩) he).trans (h.fr o)⟩
section
variable {ops : Array Oper} {rest : List Oper} {o : Oper} {a : Act} {Q : Exit → Act → World → Prop} {K : Act → World → Prop} {w : World}
theorem load_at (ty : TypeId) (k : Nat) (hi : (Tryd.prog.info? ty).map (·.size) = some k) (d : TypeDesc) (hu : Tryd.prog.underlying ty = some d) (hr : d.isRow = true) (x : Operand) (hgd : o.guard = none) (ho : o.op = .load ty x)
    {b off : Nat} {cs : List Value} (hx : a.eval x = .pointer (some ⟨b, off, none⟩)) (hR : w.rangeAt b off cs) (hl : cs.length = k)
    (h : wpList Tryd.prog ops Q rest (a.put o.dst (.agg cs.toArray)) w) : wpList Tryd.prog ops Q (o :: rest) a w :=
  wpList_load_mid hgd ty x ho b off hx cs d hR hu hr (by rw [hi, hl]) h
theorem step_grow2 {K : Act → World → Prop} {E : Prop} (s x : Operand) (hgd : o.guard = none) (ho : o.op = .call { callee := .builtin .append, args := #[s, x], argTypes := #[22, 22] })
    {P R : Nat → Prop} {base : Nat} {w0 : World} {v : Value} {ts : List T} {t : T} {c0 c1 c2 c3 : Value} {g0 n : Nat} (hs : a.eval s = v) (hx : a.eval x = .slice (some ⟨g0, 0, none⟩) 1 1) (hg0 : g0 = w0.heap.size) (hown : OwnG P base w0 v ts)
    (ht : RT R w0 t (.agg #[c0, c1, c2, c3])) (hR : ∀ b, R b → b < w0.heap.size → P b ∧ v.ownBlock ≠ some b) (hnl : ts.length = n) (hn : n + 1 ≤ 1099511627776) (hbase : base ≤ w0.heap.size)
    (h : ∀ g cap w', OwnG P base w' (.slice (some ⟨g, 0, none⟩) (n + 1) cap) (ts ++ [t]) → (w0.alloc (.cells #[c0, c1, c2, c3] 24)).grownBy w' v.ownBlock → Below base w0 w' → (v.ownBlock = some g ∨ w0.heap.size < g) → K (a.put o.dst (.slice (some ⟨g, 0, none⟩) (n + 1) cap)) w') :
    if Region.wanted o (yielded ops a.tmps) = true then Oper.wp Tryd.prog o a (w0.alloc (.cells #[c0, c1, c2, c3] 24)) K Q else E := by
  subst hg0 hnl
  have hlt := hown.block
  obtain ⟨i, hi, hz0, hz1, hz2⟩ := info_parts info24
  have hown1 : OwnT (fun b => P b ∧ b < w0.heap.size ∧ v.ownBlock ≠ some b) base (w0.alloc (.cells #[c0, c1, c2, c3] 24)) v ts := OwnT.to hown (Nat.le_refl _) (fun _ h _ => h) fun b _ hb => Below.heap_alloc _ _ _ hb
  have hl := (ht.to (S' := fun b => P b ∧ b < w0.heap.size ∧ v.ownBlock ≠ some b) (fun b hb hl => ⟨(hR b hb hl).1, hl, (hR b hb hl).2⟩) fun _ _ _ => rfl).one 24
  obtain ⟨cs, ho1, hC⟩ := hown1
  obtain ⟨au, cap, ds, e, hcap, hD, hj⟩ := hl
  simp only [Value.slice.injEq] at e
  obtain ⟨rfl, -, rfl⟩ := e
  refine step_append_lies _ hgd s x 22 ho base 24 i _ 4 56 Tryd.underlying22 hi hz0 hz1 hz2 rfl (by decide) v _ cs hs ho1 ⟨w0.heap.size, 0, none⟩ 1 1 ds hx (by simpa using hD.length) ?_ hD.oneCell (by decide) (by unfold maxLen; omega) (by omega) (by simp; omega) _ rfl ?_
  · intro j u' hu
    obtain ⟨b, o', e, _, hc⟩ := hj j u' hu
    simp only [Option.some.injEq] at e
    rw [e]
    unfold Addr.add
    split
    · rename_i h0; subst h0; exact hc
    · exact hc
  · intro g cap w' h1 h2 h3 h4
    have h2s := h2.size
    simp only [World.size_alloc] at h2s h3
    have hblk : ∀ b, (P b ∧ b < w0.heap.size ∧ v.ownBlock ≠ some b) → b < (w0.alloc (.cells #[c0, c1, c2, c3] 24)).heap.size → w'.heap[b]? = (w0.alloc (.cells #[c0, c1, c2, c3] 24)).heap[b]? := fun b hb hlt => h2.block b hlt (fun e => hb.2.2 e.symm)
    have hO : OwnT (fun b => P b ∧ b < w0.heap.size ∧ v.ownBlock ≠ some b) base w' (.slice (some ⟨g, 0, none⟩) (ts.length + 1) cap) (ts ++ [t]) := ⟨cs ++ ds, by simpa using h1, (hC.to (fun _ h _ => h) hblk).append (hD.to (fun _ h _ => h) hblk)⟩
    refine h g cap w' (hO.to (Nat.le_refl _) (fun b hb _ => ⟨hb.1, by have := hb.2.1; omega, fun e => ?_⟩) fun _ _ _ => rfl) h2 ?_ ?_
    · simp only [Value.ownBlock, Option.some.injEq] at e
      subst e
      rcases h3 with h5 | h5
      · exact hb.2.2 h5
      · have := hb.2.1; omega
    · exact grown_below ((Below.refl _ _).alloc hbase _) h2 (by simp; omega) fun b hb => (hlt b hb).1
    · rcases h3 with h5 | h5
      · exact .inl h5
      · exact .inr (by omega)
theorem wp_grow (s x : Operand) (hgd : o.guard = none) (ho : o.op = .call { callee := .builtin .append, args := #[s, x], argTypes := #[22, 22] })
    {P R : Nat → Prop} {base : Nat} {w0 : World} {v : Value} {ts : List T} {t : T} {c0 c1 c2 c3 : Value} {g0 n : Nat} (hs : a.eval s = v) (hx : a.eval x = .slice (some ⟨g0, 0, none⟩) 1 1) (hg0 : g0 = w0.heap.size) (hown : OwnG P base w0 v ts)
    (ht : RT R w0 t (.agg #[c0, c1, c2, c3])) (hR : ∀ b, R b → b < w0.heap.size → P b ∧ v.ownBlock ≠ some b) (hnl : ts.length = n) (hn : n + 1 ≤ 1099511627776) (hbase : base ≤ w0.heap.size)
    (h : ∀ g cap w', OwnG P base w' (.slice (some ⟨g, 0, none⟩) (n + 1) cap) (ts ++ [t]) → (w0.alloc (.cells #[c0, c1, c2, c3] 24)).grownBy w' v.ownBlock → Below base w0 w' → (v.ownBlock = some g ∨ w0.heap.size < g) → K (a.put o.dst (.slice (some ⟨g, 0, none⟩) (n + 1) cap)) w') :
    Oper.wp Tryd.prog o a (w0.alloc (.cells #[c0, c1, c2, c3] 24)) K Q := by
  have h1 := step_grow2 (ops := #[]) (Q := Q) (E := True) s x hgd ho hs hx hg0 hown ht hR hnl hn hbase h
  rwa [if_pos (by simp [Region.wanted, hgd])] at h1
end
end Go.Proofs.YtedfepnekjjmnabDoor
