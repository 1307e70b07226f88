/-
  Contracts and plain laws, joined: Bound ValP Code1 Deed Blk FitP Fits Fits4 FrameB FromP HeapP MFits MFitsO ProcF Reg Build Proc9 Proc10 Rval RvalT Sum ToP BackP Val Val5 ValN ValNT ValPut ValT ValC Value ClosesP BindP KPut RowG. Conditions stand in each.
-/
import Derived.Deep.MidRow
import Derived.Deep.RegionHeld3
import Derived.Great.BuildSlice
import Derived.Deep.CutBlock
import Derived.Deep.DeepCutAuto
import Derived.Deep.AppendLies
import Derived.Deep.RegionLaw
import Derived.Test.YtedfepnekjjmnabRCheck
import Derived.Test.YtedfepnekjjmnabJa
import Derived.Test.YtedfepnekjjmnabJb
import Derived.Test.YtedfepnekjjmnabForm
/-
 match.Bound, clerkref.Bound: may these be what variables are bound to? No condition but a bound on how much there is.
-/
namespace Go.Proofs.Ytedfepnekjjmnab
open Go.RowKit
set_option linter.unusedSimpArgs false
set_option linter.unusedVariables false

def bndB (t : T) : Bool := checkE t == 0 && (t.kind == 6 || closedL [t])
def boundB (l : List T) : Bool := l.length == 4 && l.all bndB
theorem boundB_any (l : List T) : boundB l = (l.length == 4 && !(l.any fun t => !bndB t)) := by
 rw [boundB]; congr 1; induction l with
 | nil => rfl
 | cons t l ih => simp only [List.all_cons, List.any_cons, Bool.not_or, Bool.not_not, ih]

set_option maxHeartbeats 400000 in
theorem free_c (t : T) (S : Nat → Prop) (w : World) (v : Value) (hv : RT S w t v) : Calls Try.prog 101 #[v] w fun e w' => e = .returned (.bool (t.kind == 6)) ∧ Below w.heap.size w w' := by
 obtain ⟨a, cap, rfl, hcap, hr⟩ := hv
 clear hr hcap
 go_enter Try.func101, Try.ntmps101
 go_wp2_with fail
 go_ret
 exact ⟨rfl, below_alloc _ _⟩

set_option maxHeartbeats 1000000 in
theorem bound1_c (t : T) (S : Nat → Prop) (w : World) (v : Value) (hv : RT S w t v) (hb : bulkL [t] ≤ 1099511627776) :
  Calls Try.prog 126 #[v] w fun e w' => e = .returned (.bool (!bndB t)) ∧ Below w.heap.size w w' := by
 obtain ⟨a, cap, rfl, hcap, hr⟩ := hv
 have HV : Hid (RT S w t _) := Lib.hid ⟨a, cap, rfl, hcap, hr⟩
 clear hr hcap
 have HR := Lib.hid (show bndB t = (checkE t == 0 && (t.kind == 6 || closedL [t])) from rfl)
 go_enter Try.func126, Try.ntmps126
 go_wp2_with fail
 refine (check_c t _ _ _ (HV.out.alloc _) hb).mono ?_
 rintro e w1 ⟨rfl, hB1⟩
 have h1 := hB1.size
 obtain ⟨hcc, -⟩ := bcell hB1
 simp only [World.size_alloc] at hcc h1
 have hs1 : w.heap.size < w1.heap.size := by omega
 have HV1 := Lib.hid ((HV.out.alloc (.cells #[.int .i64 t.kind, .int .i64 t.n, .string t.name, .slice a t.args.length cap] 24)).below hB1)
 have HB1 := Lib.hid (below_step (below_alloc _ _) (by simp) hB1)
 by_cases hc : checkE t = 0
 ·have hcb : (checkE t != 0) = false := by simp [hc]
  have HC := Lib.hid hc; clear hc
  go_wp2_with fail
  refine (free_c t _ _ _ HV1.out).mono ?_
  rintro e w2 ⟨rfl, hB2⟩
  have h2 := hB2.size
  obtain ⟨hcc2, -⟩ := bcell hB2
  cases hk : (t.kind == 6)
  ·have HK := Lib.hid hk; clear hk
   go_wp2_with fail
   refine (closed_c t _ _ _ (HV1.out.below hB2) hb).mono ?_
   rintro e w3 ⟨rfl, hB3⟩
   go_wp2_with fail
   go_ret
   exact ⟨ret_bool (by rw [HR.out, HC.out, HK.out]; simp), below_step (below_step HB1.out (by omega) hB2) (by omega) hB3⟩
  ·have HK := Lib.hid hk; clear hk
   go_wp2_with fail
   go_ret
   exact ⟨ret_bool (by rw [HR.out, HC.out, HK.out]; simp), below_step HB1.out (by omega) hB2⟩
 ·have hcb : (checkE t != 0) = true := by simp [hc]
  have HC := Lib.hid (show (checkE t == 0) = false by simp [hc])
  go_wp2_with fail
  go_ret
  exact ⟨ret_bool (by rw [HR.out, HC.out]; simp), HB1.out⟩

set_option maxHeartbeats 1000000 in
theorem bound_c (l : List T) (S : Nat → Prop) (w : World) (v : Value) (hv : RSl S w l v) (hb : bulkL l ≤ 1099511627776) :
  Calls Try.prog 112 #[v] w fun e w' => e = .returned (.bool (boundB l)) ∧ Below w.heap.size w w' := by
 have hll := length_le_bulk l
 obtain ⟨a, cap, rfl, hcap, hr⟩ := hv
 have HV : Hid (RSl S w l _) := Lib.hid ⟨a, cap, rfl, hcap, hr⟩
 clear hr hcap
 have HA := Lib.hid (boundB_any l)
 have HF : Hid (∀ x ∈ l, ∀ (W : World) (u : Value), RT S W x u → Calls Try.prog 126 #[u] W fun e w' => e = .returned (.bool (!bndB x)) ∧ Below W.heap.size W w') := Lib.hid fun x hx W u hu => bound1_c x S W u hu (by have := bulk_mem hx; omega)
 cases h4 : ((l.length : Int) == 4)
 ·have h4' := Lib.hid (show (l.length == 4) = false by simp at h4 ⊢; omega)
  go_enter Try.func112, Try.ntmps112
  go_wp2_with fail
  go_ret
  exact ⟨ret_bool (by rw [HA.out, h4'.out]; rfl), Below.refl _ _⟩
 ·have h4' := Lib.hid (show (l.length == 4) = true by simp at h4 ⊢; omega)
  go_enter Try.func112, Try.ntmps112
  go_wp2_with fail
  refine (containsFunc_Bound1 _ S _ _ _ HV.out (by omega) HF.out).mono ?_
  rintro e w1 ⟨rfl, hB1⟩
  go_wp2_with fail
  go_ret
  exact ⟨ret_bool (by rw [HA.out, h4'.out]; rfl), hB1⟩

end Go.Proofs.Ytedfepnekjjmnab

/-
 What reckoning answers, in plain words. No program in sight.
-/
namespace Go.Proofs.Ytedfepnekjjmnab
set_option linter.unusedSimpArgs false
set_option linter.unusedVariables false

def zeroT : T := ⟨0, 0, ⟨#[]⟩, []⟩
def pidT (n : Int) : T := ⟨3, n, ⟨#[]⟩, []⟩
def sSelf : ByteArray := ⟨#[115, 101, 108, 102]⟩
def sPut : ByteArray := ⟨#[112, 117, 116]⟩
def sAdd : ByteArray := ⟨#[97, 100, 100]⟩
def sumN (a b : T) : Int := Go.RowKit.wrap64 (a.n + b.n)
def sumB (a b : T) : Bool := a.kind == 1 && b.kind == 1 && inB (sumN a b) (-1099511627776) 1099511627776
def sumO (a b : T) : Option T := if sumB a b then some (numT (sumN a b)) else none
def varO (t : T) : Option T := if t.kind == 6 then none else some t
def putO (t : T) : Option T := if closedL [t] then some t else none
def valH (bd : List T) (self : Int) (x : T) (r : Option (List T)) : Option T :=
 if x.kind = 6 then none else if x.kind = 5 then varO (bd.getD x.n.toNat zeroT) else if isT x sSelf 0 then some (pidT self)
 else if isT x sPut 1 then putO (x.args.getD 1 zeroT) else if x.kind ≠ 4 then some x
 else r.bind fun vs => if isT x sAdd 2 then sumO (vs.getD 1 zeroT) (vs.getD 2 zeroT) else some (tupT vs)
def valL (bd : List T) (self : Int) : List T → Option (List T)
 | [] => some []
 | ⟨k, n, s, l⟩ :: ts => (valH bd self ⟨k, n, s, l⟩ (valL bd self l)).bind fun v => (valL bd self ts).map fun vs => v :: vs
def valT (bd : List T) (self : Int) (x : T) : Option T := valH bd self x (valL bd self x.args)
theorem valL_cons (bd : List T) (self : Int) (t : T) (ts : List T) : valL bd self (t :: ts) = (valT bd self t).bind fun v => (valL bd self ts).map fun vs => v :: vs := by
 obtain ⟨k, n, s, l⟩ := t; rw [valL]; rfl
theorem valL_nil (bd : List T) (self : Int) : valL bd self [] = some [] := by rw [valL]
theorem valL_length {bd : List T} {self : Int} {l vs : List T} (h : valL bd self l = some vs) : vs.length = l.length := by
 induction l generalizing vs with
 | nil => rw [valL_nil] at h; cases h; rfl
 | cons t l ih =>
  rw [valL_cons] at h
  obtain ⟨v, hv, h⟩ := Option.bind_eq_some_iff.1 h
  obtain ⟨us, hu, rfl⟩ := Option.map_eq_some_iff.1 h
  simp [ih hu]
theorem valL_append {bd : List T} {self : Int} (a b : List T) : valL bd self (a ++ b) = (valL bd self a).bind fun us => (valL bd self b).map fun vs => us ++ vs := by
 induction a with
 | nil => rw [valL_nil]; simp
 | cons t a ih =>
  rw [List.cons_append, valL_cons, valL_cons, ih]
  cases valT bd self t <;> cases valL bd self a <;> cases valL bd self b <;> rfl
theorem valL_snoc {bd : List T} {self : Int} {l vs : List T} {k : Nat} {t : T} (h : k < l.length) (hp : valL bd self (l.take k) = some vs) (ht : valT bd self l[k] = some t) : valL bd self (l.take (k + 1)) = some (vs ++ [t]) := by
 rw [take_snoc' l k h, valL_append, hp, valL_cons, ht, valL_nil]; rfl
theorem valL_none {bd : List T} {self : Int} {l : List T} {k : Nat} (h : k < l.length) (ht : valT bd self l[k] = none) : valL bd self l = none := by
 have e : l = l.take k ++ (l[k] :: l.drop (k + 1)) := by simp
 rw [e, valL_append, valL_cons, ht]; cases valL bd self (l.take k) <;> rfl

theorem valT_6 {bd : List T} {self : Int} {x : T} (h : x.kind = 6) : valT bd self x = none := by rw [valT, valH, if_pos h]
theorem valT_5 {bd : List T} {self : Int} {x : T} (h : x.kind = 5) {k : Nat} (hk : x.n = k) (hl : k < bd.length) : valT bd self x = varO bd[k] := by
 rw [valT, valH, if_neg (by omega), if_pos h, hk]; simp [hl]
theorem valT_o {bd : List T} {self : Int} {x : T} (h : x.kind ≠ 4) (h5 : x.kind ≠ 5) (h6 : x.kind ≠ 6) : valT bd self x = some x := by
 have e : (x.kind == 4) = false := by simpa using h
 rw [valT, valH, if_neg h6, if_neg h5, isT_kind e, isT_kind e]; simp [h]
theorem valT_self {bd : List T} {self : Int} {x : T} (h : x.kind = 4) (hs : isT x sSelf 0 = true) : valT bd self x = some (pidT self) := by
 rw [valT, valH, if_neg (by omega), if_neg (by omega), if_pos hs]
theorem valT_put {bd : List T} {self : Int} {x : T} (h : x.kind = 4) (hs : isT x sSelf 0 = false) (hp : isT x sPut 1 = true) (hl : 1 < x.args.length) : valT bd self x = putO x.args[1] := by
 rw [valT, valH, if_neg (by omega), if_neg (by omega), if_neg (by simp [hs]), if_pos hp]; simp [hl]
theorem valT_tup {bd : List T} {self : Int} {x : T} (h : x.kind = 4) (hs : isT x sSelf 0 = false) (hp : isT x sPut 1 = false) :
  valT bd self x = (valL bd self x.args).bind fun vs => if isT x sAdd 2 then sumO (vs.getD 1 zeroT) (vs.getD 2 zeroT) else some (tupT vs) := by
 rw [valT, valH, if_neg (by omega), if_neg (by omega), if_neg (by simp [hs]), if_neg (by simp [hp]), if_neg (by simp [h])]
theorem isT_length {x : T} {s : ByteArray} {n : Int} (h : isT x s n = true) : (x.args.length : Int) = n + 1 := by
 simp only [isT, Bool.and_eq_true, decide_eq_true_eq] at h; exact h.1.2

theorem form_var {x : T} (h : formL [x] = true) (hk : x.kind = 5) : ∃ k : Nat, x.n = k ∧ k < 4 := by
 rw [formL_cons] at h
 simp only [Bool.and_eq_true] at h
 have := h.1.1
 simp only [headB, hk] at this
 simp [inB] at this
 exact ⟨x.n.toNat, by omega, by omega⟩
theorem form_args {x : T} (h : formL [x] = true) {y : T} (hy : y ∈ x.args) : formL [y] = true := by
 rw [formL_cons] at h
 simp only [Bool.and_eq_true] at h
 rw [formL_all, List.all_eq_true] at h
 exact h.1.2 y hy
end Go.Proofs.Ytedfepnekjjmnab

/-
 code.rest, atom, word, tuple, empty; clerkref.atom: what they answer. No condition but bounds.
-/
namespace Go.Proofs.Ytedfepnekjjmnab
open Go.RowKit
set_option linter.unusedSimpArgs false
set_option linter.unusedVariables false

theorem RTs.shift {S : Nat → Prop} {w : World} {b o : Nat} : ∀ (ts : List T) (i : Nat), RTs S w ts (some ⟨b, o, none⟩) (i + 1) → RTs S w ts (some ⟨b, o + 4, none⟩) i
 | [], _, _ => by simp [RTs]
 | t :: ts, i, h => by
  rw [RTs_cons] at h ⊢
  obtain ⟨⟨b', o', a', cap, e, hS, h0, h1, h2, h3, h4, h5⟩, hr⟩ := h
  simp only [Option.some.injEq, Addr.mk.injEq, and_true] at e
  obtain ⟨rfl, rfl⟩ := e
  have e : o + (i + 1) * 4 = o + 4 + i * 4 := by omega
  rw [e] at h0 h1 h2 h3
  exact ⟨⟨b, o + 4, a', cap, rfl, hS, h0, h1, h2, h3, h4, h5⟩, RTs.shift ts (i + 1) hr⟩
theorem RTs.tail {S : Nat → Prop} {w : World} {b o : Nat} {t : T} {ts : List T} (h : RTs S w (t :: ts) (some ⟨b, o, none⟩) 0) : RTs S w ts (some ⟨b, o + 4, none⟩) 0 := by
 rw [RTs_cons] at h; exact RTs.shift ts 0 h.2
/-- A tuple of a word: what is behind the word. -/
def restL (s : ByteArray) (t : T) : Option (List T) := if t.kind == 4 && headIs s t.args then some t.args.tail else none
def RestP (S : Nat → Prop) (w : World) (s : ByteArray) (t : T) (e : Ending) (w' : World) : Prop :=
 ∃ a cap, e = .returned (.tuple #[.slice a ((restL s t).getD []).length cap, .bool (restL s t).isSome]) ∧ Below w.heap.size w w' ∧ RSl S w' ((restL s t).getD []) (.slice a ((restL s t).getD []).length cap)
theorem RestP.no {S : Nat → Prop} {w : World} {s : ByteArray} {t : T} {e : Ending} {w' : World} (h : restL s t = none) (he : e = .returned (.tuple #[.slice none 0 0, .bool false])) (hB : Below w.heap.size w w') : RestP S w s t e w' := by
 refine ⟨none, 0, by rw [h]; exact he, hB, ?_⟩
 rw [h]
 exact ⟨none, 0, rfl, ⟨Nat.le_refl _, fun _ => rfl⟩, by simp [RTs]⟩

set_option maxHeartbeats 400000 in
theorem word_cword (s : ByteArray) (w : World) : Calls Try.prog 93 #[.string s] w fun e w' => e = .returned (.agg #[.int .i64 2, .int .i64 0, .string s, .slice none 0 0]) ∧ Below w.heap.size w w' := by
 go_enter Try.func93, Try.ntmps93
 go_wp2_with fail
 exact bodyPost_ret (v := .agg #[.int .i64 2, .int .i64 0, .string s, .slice none 0 0]) (by simp [results, Try.results93, go_sem]) rfl ⟨rfl, below_alloc _ _⟩
set_option maxHeartbeats 400000 in
theorem ctuple_c (a : Option Addr) (n cap : Nat) (w : World) : Calls Try.prog 92 #[.slice a n cap] w fun e w' => e = .returned (.agg #[.int .i64 4, .int .i64 0, .string ⟨#[]⟩, .slice a n cap]) ∧ Below w.heap.size w w' := by
 go_enter Try.func92, Try.ntmps92
 go_wp2_with fail
 exact bodyPost_ret (v := .agg #[.int .i64 4, .int .i64 0, .string ⟨#[]⟩, .slice a n cap]) (by simp [results, Try.results92, go_sem]) rfl ⟨rfl, below_alloc _ _⟩
set_option maxHeartbeats 400000 in
theorem cwithin_c (n lo hi : Int) (w : World) : Calls Try.prog 94 #[.int .i64 n, .int .i64 lo, .int .i64 hi] w fun e w' => e = .returned (.bool (decide (lo ≤ n) && decide (n ≤ hi))) ∧ w' = w := by
 by_cases h1 : lo ≤ n <;> by_cases h2 : n ≤ hi <;> simp only [h1, h2, decide_true, decide_false]
 all_goals
  go_enter Try.func94, Try.ntmps94
  go_wp2_with fail
  go_ret
  exact ⟨rfl, rfl⟩
/-- Is it no term at all? -/
def emptyB (t : T) : Bool := t.kind == 0 && t.n == 0 && t.name.toList == [] && decide (t.args.length = 0)
set_option maxHeartbeats 1000000 in
theorem cempty_c (t : T) (a : Option Addr) (cap : Nat) (w : World) : Calls Try.prog 125 #[.agg #[.int .i64 t.kind, .int .i64 t.n, .string t.name, .slice a t.args.length cap]] w fun e w' => e = .returned (.bool (emptyB t)) ∧ Below w.heap.size w w' := by
 obtain ⟨q, hq⟩ : ∃ q, decide (t.args.length = 0) = q := ⟨_, rfl⟩
 have h4 : ((t.args.length : Int) == 0) = q := by
  rw [← hq]
  by_cases h : t.args.length = 0
  ·simp [h]
  ·rw [decide_eq_false h, beq_eq_false_iff_ne]; omega
 cases h1 : (t.kind == 0) <;> cases h2 : (t.n == 0) <;> cases h3 : (t.name.toList == ([] : List UInt8)) <;> cases q
 all_goals
  have HE := Lib.hid (show emptyB t = _ from by rw [emptyB, h1, h2, h3, hq])
  clear hq
  go_enter Try.func125, Try.ntmps125
  go_wp2_with fail
  go_ret
  exact ⟨ret_bool (by rw [HE.out]; first | rfl | (rw [h4]; rfl)), below_alloc _ _⟩
end Go.Proofs.Ytedfepnekjjmnab

/-
 Acts, clauses, behaviours as data, and how they lie. No condition.
-/
namespace Go.Proofs.Ytedfepnekjjmnab
open Go.RowKit
set_option linter.unusedSimpArgs false
set_option linter.unusedVariables false

structure Deed where
 kind : Int
 «to» : T
 what : T
 name : ByteArray
 var : Int
structure Clau where
 state : T
 message : T
 acts : List Deed
 next : T
structure Behv where
 name : ByteArray
 clauses : List Clau
def deedB (d : Deed) : Nat := 1 + bulkL [d.to] + bulkL [d.what] + d.name.size
def deedsB : List Deed → Nat
 | [] => 0
 | d :: l => deedB d + deedsB l
def clauB (c : Clau) : Nat := 1 + bulkL [c.state] + bulkL [c.message] + deedsB c.acts + bulkL [c.next]
def clausB : List Clau → Nat
 | [] => 0
 | c :: l => clauB c + clausB l
def behvB (b : Behv) : Nat := 1 + b.name.size + clausB b.clauses
def behvsB : List Behv → Nat
 | [] => 0
 | b :: l => behvB b + behvsB l
theorem deedsB_len (l : List Deed) : l.length ≤ deedsB l := by
 induction l with
 | nil => simp [deedsB]
 | cons d l ih => simp only [deedsB, deedB, List.length_cons]; omega
theorem clausB_len (l : List Clau) : l.length ≤ clausB l := by
 induction l with
 | nil => simp [clausB]
 | cons d l ih => simp only [clausB, clauB, List.length_cons]; omega
theorem behvsB_len (l : List Behv) : l.length ≤ behvsB l := by
 induction l with
 | nil => simp [behvsB]
 | cons d l ih => simp only [behvsB, behvB, List.length_cons]; omega
theorem deedsB_mem {l : List Deed} {d : Deed} (h : d ∈ l) : deedB d ≤ deedsB l := by
 induction l with
 | nil => cases h
 | cons e l ih =>
  rcases List.mem_cons.1 h with rfl | h
  ·simp only [deedsB]; omega
  ·have := ih h; simp only [deedsB]; omega
theorem clausB_mem {l : List Clau} {d : Clau} (h : d ∈ l) : clauB d ≤ clausB l := by
 induction l with
 | nil => cases h
 | cons e l ih =>
  rcases List.mem_cons.1 h with rfl | h
  ·simp only [clausB]; omega
  ·have := ih h; simp only [clausB]; omega
theorem behvsB_mem {l : List Behv} {d : Behv} (h : d ∈ l) : behvB d ≤ behvsB l := by
 induction l with
 | nil => cases h
 | cons e l ih =>
  rcases List.mem_cons.1 h with rfl | h
  ·simp only [behvsB]; omega
  ·have := ih h; simp only [behvsB]; omega
def deedC (S : Nat → Prop) (w : World) (d : Deed) (cs : List Value) : Prop :=
 ∃ a1 p1 a2 p2, cs = [.int .i64 d.kind, .int .i64 d.to.kind, .int .i64 d.to.n, .string d.to.name, .slice a1 d.to.args.length p1, .int .i64 d.what.kind, .int .i64 d.what.n, .string d.what.name, .slice a2 d.what.args.length p2, .string d.name, .int .i64 d.var] ∧
  RT S w d.to (.agg #[.int .i64 d.to.kind, .int .i64 d.to.n, .string d.to.name, .slice a1 d.to.args.length p1]) ∧ RT S w d.what (.agg #[.int .i64 d.what.kind, .int .i64 d.what.n, .string d.what.name, .slice a2 d.what.args.length p2])
def deedE : El Deed where
 k := 11
 C := deedC
 len := by rintro S w x cs ⟨a1, p1, a2, p2, rfl, -⟩; rfl
 one := by rintro S w x cs ⟨a1, p1, a2, p2, rfl, -⟩; simp [Value.oneCell']
 «to» := by rintro S S' w w' x cs ⟨a1, p1, a2, p2, rfl, h1, h2⟩ hs hc; exact ⟨a1, p1, a2, p2, rfl, h1.to hs hc, h2.to hs hc⟩
def clauC (S : Nat → Prop) (w : World) (c : Clau) (cs : List Value) : Prop :=
  ∃ a1 p1 a2 p2 a3 p3 a4 p4, cs = [.int .i64 c.state.kind, .int .i64 c.state.n, .string c.state.name, .slice a1 c.state.args.length p1, .int .i64 c.message.kind, .int .i64 c.message.n, .string c.message.name, .slice a2 c.message.args.length p2,
      .slice a3 c.acts.length p3, .int .i64 c.next.kind, .int .i64 c.next.n, .string c.next.name, .slice a4 c.next.args.length p4] ∧
    RT S w c.state (.agg #[.int .i64 c.state.kind, .int .i64 c.state.n, .string c.state.name, .slice a1 c.state.args.length p1]) ∧ RT S w c.message (.agg #[.int .i64 c.message.kind, .int .i64 c.message.n, .string c.message.name, .slice a2 c.message.args.length p2]) ∧
    RX deedE S S w c.acts (.slice a3 c.acts.length p3) ∧ RT S w c.next (.agg #[.int .i64 c.next.kind, .int .i64 c.next.n, .string c.next.name, .slice a4 c.next.args.length p4])
def clauE : El Clau where
 k := 13
 C := clauC
 len := by rintro S w x cs ⟨a1, p1, a2, p2, a3, p3, a4, p4, rfl, -⟩; rfl
 one := by rintro S w x cs ⟨a1, p1, a2, p2, a3, p3, a4, p4, rfl, -⟩; simp [Value.oneCell']
 «to» := by rintro S S' w w' x cs ⟨a1, p1, a2, p2, a3, p3, a4, p4, rfl, h1, h2, h3, h4⟩ hs hc; exact ⟨a1, p1, a2, p2, a3, p3, a4, p4, rfl, h1.to hs hc, h2.to hs hc, h3.to hs hs fun b hb => hc b (hb.elim id id), h4.to hs hc⟩
def behvC (S : Nat → Prop) (w : World) (b : Behv) (cs : List Value) : Prop :=
 ∃ a p, cs = [.string b.name, .slice a b.clauses.length p] ∧ RX clauE S S w b.clauses (.slice a b.clauses.length p)
def behvE : El Behv where
 k := 2
 C := behvC
 len := by rintro S w x cs ⟨a1, p1, rfl, -⟩; rfl
 one := by rintro S w x cs ⟨a1, p1, rfl, -⟩; simp [Value.oneCell']
 «to» := by rintro S S' w w' x cs ⟨a1, p1, rfl, h3⟩ hs hc; exact ⟨a1, p1, rfl, h3.to hs hs fun b hb => hc b (hb.elim id id)⟩
def deedF : ElT deedE where
 e := 140
 sl := 130
 bytes := 144
 z := .agg #[.int .i64 0, .int .i64 0, .int .i64 0, .string ⟨#[]⟩, .slice none 0 0, .int .i64 0, .int .i64 0, .string ⟨#[]⟩, .slice none 0 0, .string ⟨#[]⟩, .int .i64 0]
 hund := Try.underlying130
 info := by kernel_rfl
 hzs := rfl
 hk := by decide
 hb := by decide
def clauF : ElT clauE where
 e := 132
 sl := 125
 bytes := 192
 z := .agg #[.int .i64 0, .int .i64 0, .string ⟨#[]⟩, .slice none 0 0, .int .i64 0, .int .i64 0, .string ⟨#[]⟩, .slice none 0 0, .slice none 0 0, .int .i64 0, .int .i64 0, .string ⟨#[]⟩, .slice none 0 0]
 hund := Try.underlying125
 info := by kernel_rfl
 hzs := rfl
 hk := by decide
 hb := by decide
def behvF : ElT behvE where
 e := 127
 sl := 68
 bytes := 40
 z := .agg #[.string ⟨#[]⟩, .slice none 0 0]
 hund := Try.underlying68
 info := by kernel_rfl
 hzs := rfl
 hk := by decide
 hb := by decide
/-- A variable's block: its cells. -/
structure Blk (w : World) (B : Nat) (cs : List Value) : Prop where
 lt : B < w.heap.size
 cell : ∀ j u, cs[j]? = some u → w.cell? ⟨B, j, none⟩ = some u
 fr : ∀ o, w.frozen? ⟨B, o, none⟩ = false
theorem Blk.below {w w' : World} {B N : Nat} {cs : List Value} (h : Blk w B cs) (hB : Below N w w') (hN : B < N) : Blk w' B cs :=
 ⟨Nat.lt_of_lt_of_le h.lt hB.size, fun j u hu => (hB.cell (p := ⟨B, j, none⟩) hN).trans (h.cell j u hu), fun o => (hB.frozen (p := ⟨B, o, none⟩) hN).trans (h.fr o)⟩
theorem Blk.step {w w' : World} {B : Nat} {cs : List Value} (h : Blk w B cs) (hB : Below w.heap.size w w') : Blk w' B cs := h.below hB h.lt
theorem Blk.alloc {w : World} {B : Nat} {cs : List Value} (h : Blk w B cs) (o : Obj) : Blk (w.alloc o) B cs := h.step (below_alloc w o)
theorem Blk.new (w : World) (c : Array Value) (e : TypeId) (B : Nat) (hB : B = w.heap.size) : Blk (w.alloc (.cells c e)) B c.toList := by
 subst hB
 exact ⟨by simp, fun j u hu => by rw [World.cell?_alloc_new]; simpa using hu, fun o => frozen_of_row _ _ o c e (heap_alloc_new w _)⟩
/-- A variable's cells written, one by one. -/
def setAll (w : World) (B : Nat) : Nat → List Value → World
 | _, [] => w
 | i, c :: cs => setAll (w.setCell ⟨B, i, none⟩ c) B (i + 1) cs
theorem setAll_heap (w : World) (B : Nat) : ∀ (cs : List Value) (i : Nat), (setAll w B i cs).heap.size = w.heap.size ∧ ∀ b, b ≠ B → (setAll w B i cs).heap[b]? = w.heap[b]? := by
 intro cs
 induction cs generalizing w with
 | nil => intro i; exact ⟨rfl, fun _ _ => rfl⟩
 | cons c cs ih =>
  intro i
  obtain ⟨h1, h2⟩ := ih (w.setCell ⟨B, i, none⟩ c) (i + 1)
  exact ⟨by rw [setAll, h1]; simp, fun b hb => by rw [setAll, h2 b hb, setCell_other _ _ _ _ _ hb]⟩
theorem setAll_below {N : Nat} {a w : World} (h : Below N a w) (B : Nat) (hB : N ≤ B) : ∀ (cs : List Value) (i : Nat), Below N a (setAll w B i cs) := by
 intro cs
 induction cs generalizing w with
 | nil => intro i; exact h
 | cons c cs ih => intro i; exact ih (h.setCell (p := ⟨B, i, none⟩) hB c) (i + 1)
theorem Blk.set {w : World} {B : Nat} {cs : List Value} (h : Blk w B cs) (i : Nat) (c : Value) (hi : i < cs.length) : Blk (w.setCell ⟨B, i, none⟩ c) B (cs.set i c) := by
 refine ⟨by have := h.lt; simpa using this, fun j u hu => ?_, fun o => ?_⟩
 ·rw [List.getElem?_set] at hu
  split at hu
  ·rename_i e
   subst e
   have h0 := h.cell i cs[i] (by simp)
   rw [World.cell?_setCell_same _ _ _ h0]; exact hu
  ·rename_i e
   rw [World.cell?_setCell_other _ _ _ _ (by simp only [ne_eq, Addr.mk.injEq, and_true, true_and]; exact fun h => e h)]
   exact h.cell j u hu
 ·have := h.fr o
  go_simp
theorem Blk.all {w : World} {B : Nat} : ∀ (cs pre old : List Value), Blk w B (pre ++ old) → cs.length = old.length → Blk (setAll w B pre.length cs) B (pre ++ cs)
 | [], pre, old, h, hl => by
  obtain rfl : old = [] := List.eq_nil_of_length_eq_zero hl.symm
  exact h
 | c :: cs, pre, o :: old, h, hl => by
  have h1 := h.set pre.length c (by simp)
  have e : (pre ++ o :: old).set pre.length c = (pre ++ [c]) ++ old := by simp
  rw [e] at h1
  have h2 := Blk.all (w := w.setCell ⟨B, pre.length, none⟩ c) cs (pre ++ [c]) old h1 (by simpa using hl)
  simpa [setAll] using h2
 | c :: cs, pre, [], h, hl => by cases hl
theorem Blk.stored {w : World} {B : Nat} {old : List Value} (h : Blk w B old) (cs : List Value) (hl : cs.length = old.length) : Blk (setAll w B 0 cs) B cs := by
 simpa using Blk.all cs [] old (by simpa using h) hl
end Go.Proofs.Ytedfepnekjjmnab

/-
 A struct variable stored, read and handed back whole. No condition.
-/
namespace Go.Proofs.Ytedfepnekjjmnab
open Go.RowKit
set_option linter.unusedSimpArgs false
set_option linter.unusedVariables false

theorem Blk.range {w : World} {B : Nat} {cs : List Value} (h : Blk w B cs) : w.rangeAt B 0 cs := fun j v hv => by rw [Nat.zero_add]; exact h.cell j v hv
theorem Blk.there {w : World} {B : Nat} {cs : List Value} (h : Blk w B cs) : w.there B 0 cs.length := fun j hj => by
 rw [Nat.zero_add, h.cell j cs[j] (by simp [hj])]
 exact ⟨rfl, h.fr j⟩
theorem setCells_all (w : World) (B : Nat) : ∀ (cs : List Value) (i : Nat), w.setCells B i cs = setAll w B i cs := by
 intro cs
 induction cs generalizing w with
 | nil => intro i; rfl
 | cons c cs ih => intro i; rw [setAll, ← ih]; rfl
section
variable {ops : Array Oper} {rest : List Oper} {o : Oper} {a : Act} {Q : Exit → Act → World → Prop} {w : World}
/-- 'x = v' of a struct variable. -/
theorem store_blk (ty : TypeId) (k : Nat) (hi : (Try.prog.info? ty).map (·.size) = some k) (x y : Operand) (hgd : o.guard = none) (ho : o.op = .store ty x y) (hd : o.dst = none)
  {B : Nat} {old : List Value} {cells : Array Value} (hx : a.eval x = .pointer (some ⟨B, 0, none⟩)) (hy : a.eval y = .agg cells) (hB : Blk w B old) (hl : old.length = k) (hc : cells.size = k) (h1 : cells.toList.all (·.oneCell') = true)
  (h : ∀ w', Blk w' B cells.toList → w'.heap.size = w.heap.size → (∀ N a, N ≤ B → Below N a w → Below N a w') → (∀ b, b ≠ B → w'.heap[b]? = w.heap[b]?) → wpList Try.prog ops Q rest a w') :
  wpList Try.prog ops Q (o :: rest) a w := by
 have hk : old.length = cells.size := by omega
 refine wpList_store_mid hgd ty x y ho B 0 cells hx hy (by rw [← hk]; exact hB.there) (by rw [hi, hc]) (by rw [← Array.all_toList]; exact h1) ?_
 rw [hd, setCells_all]
 have hs := setAll_heap w B cells.toList 0
 exact h _ (hB.stored _ (by simpa using hk.symm)) hs.1 (fun N a hN hb => setAll_below hb B hN _ _) hs.2
/-- 'x' of a struct variable, whole. -/
theorem load_blk (ty : TypeId) (k : Nat) (hi : (Try.prog.info? ty).map (·.size) = some k) (d : TypeDesc) (hu : Try.prog.underlying ty = some d) (hr : d.isRow = true) (x : Operand) (hgd : o.guard = none) (ho : o.op = .load ty x)
  {B : Nat} {cs : List Value} (hx : a.eval x = .pointer (some ⟨B, 0, none⟩)) (hB : Blk w B cs) (hl : cs.length = k)
  (h : wpList Try.prog ops Q rest (a.put o.dst (.agg cs.toArray)) w) : wpList Try.prog ops Q (o :: rest) a w :=
 wpList_load_mid hgd ty x ho B 0 hx cs d hB.range hu hr (by rw [hi, hl]) h
end
/-- A struct and something else, handed back. -/
theorem results_blk {fn : Func} {t s : Tmp} {ty k : Nat} (h : fn.results = #[.cell t ty, .tmp s]) (hi : (Try.prog.info? ty).map (·.size) = some k) (d : TypeDesc) (hu : Try.prog.underlying ty = some d) (hr : d.isRow = true)
  {tmps : Array Value} {w : World} {B : Nat} {cs : List Value} (hx : tmps.getD t undef = .pointer (some ⟨B, 0, none⟩)) (hB : Blk w B cs) (hl : cs.length = k) :
  (results fn tmps).run Try.prog w = .ok (.tuple #[.agg cs.toArray, tmps.getD s undef]) w := by
 have h1 := run_loadVar_mid (P := Try.prog) w B 0 ty cs d hB.range hu hr (by rw [hi, hl])
 have h2 : (asAddr (tmps.getD t undef)).run Try.prog w = .ok ⟨B, 0, none⟩ w := by rw [hx]; rfl
 simp only [Array.getD_eq_getD_getElem?] at h2 ⊢
 simp [results, h, h1, h2]
theorem szDeed : (Try.prog.info? 140).map (·.size) = some 11 := by kernel_rfl
theorem szClau : (Try.prog.info? 132).map (·.size) = some 13 := by kernel_rfl
theorem szBeh : (Try.prog.info? 127).map (·.size) = some 2 := by kernel_rfl
theorem szTerm : (Try.prog.info? 24).map (·.size) = some 4 := by kernel_rfl
end Go.Proofs.Ytedfepnekjjmnab

/-
 What fits, in plain words. No program in sight.
-/
namespace Go.Proofs.Ytedfepnekjjmnab
set_option linter.unusedSimpArgs false
set_option linter.unusedVariables false

def fitH (p t : T) (b : List T) (r : Bool × List T) : Bool × List T :=
 if p.kind = 6 then (true, b)
 else if p.kind = 5 then (if (b.getD p.n.toNat zeroT).kind = 6 then (true, b.set p.n.toNat t) else (sameT (b.getD p.n.toNat zeroT) t, b))
 else if p.kind = 4 then (if t.kind = 4 ∧ p.args.length = t.args.length then r else (false, b))
 else (sameT p t, b)
def fitL : List T → List T → List T → Bool × List T
 | ⟨k, n, s, l⟩ :: ps, t :: ts, b =>
  if (fitH ⟨k, n, s, l⟩ t b (fitL l t.args b)).1 then fitL ps ts (fitH ⟨k, n, s, l⟩ t b (fitL l t.args b)).2 else fitH ⟨k, n, s, l⟩ t b (fitL l t.args b)
 | [], _, b => (true, b)
 | _, [], b => (true, b)
def fitT (p t : T) (b : List T) : Bool × List T := fitH p t b (fitL p.args t.args b)
theorem fitL_cons (p t : T) (ps ts b : List T) : fitL (p :: ps) (t :: ts) b = if (fitT p t b).1 then fitL ps ts (fitT p t b).2 else fitT p t b := by
 obtain ⟨k, n, s, l⟩ := p; rw [fitL]; rfl
theorem fitL_nil (ts b : List T) : fitL [] ts b = (true, b) := by rw [fitL]
theorem fitL_one (p t : T) (b : List T) : fitL [p] [t] b = fitT p t b := by
 rw [fitL_cons, fitL_nil]; split
 ·rename_i h; rw [← h]
 ·rfl
theorem fitL_yes {p t : T} {ps ts b : List T} (h : (fitT p t b).1 = true) : fitL (p :: ps) (t :: ts) b = fitL ps ts (fitT p t b).2 := by rw [fitL_cons, if_pos h]
theorem fitL_no {p t : T} {ps ts b : List T} (h : (fitT p t b).1 = false) : fitL (p :: ps) (t :: ts) b = fitT p t b := by rw [fitL_cons, if_neg (by simp [h])]
theorem fitL_append {ps ts qs us : List T} (hl : ps.length = ts.length) (b : List T) : fitL (ps ++ qs) (ts ++ us) b = if (fitL ps ts b).1 then fitL qs us (fitL ps ts b).2 else fitL ps ts b := by
 induction ps generalizing ts b with
 | nil =>
  have : ts = [] := List.eq_nil_of_length_eq_zero (by simpa using hl.symm)
  subst this; rw [fitL_nil]; simp
 | cons p ps ih =>
  cases ts with
  | nil => simp at hl
  | cons t ts =>
   simp only [List.cons_append, fitL_cons]
   cases h : (fitT p t b).1
   ·simp [h]
   ·simp only [if_true]; exact ih (by simpa using hl) _

theorem fitL_snoc {ps ts b : List T} {k : Nat} (h : (fitL (ps.take k) (ts.take k) b).1 = true) (h1 : k < ps.length) (h2 : k < ts.length) : fitL (ps.take (k + 1)) (ts.take (k + 1)) b = fitT ps[k] ts[k] (fitL (ps.take k) (ts.take k) b).2 := by
 rw [take_snoc' ps k h1, take_snoc' ts k h2, fitL_append (by simp; omega), if_pos h, fitL_one]
theorem fitL_fail {ps ts b : List T} {k : Nat} (h : (fitL (ps.take k) (ts.take k) b).1 = true) (h1 : k < ps.length) (h2 : k < ts.length) (hf : (fitT ps[k] ts[k] (fitL (ps.take k) (ts.take k) b).2).1 = false) :
  fitL ps ts b = fitT ps[k] ts[k] (fitL (ps.take k) (ts.take k) b).2 := by
 have e1 : ps = ps.take k ++ (ps[k] :: ps.drop (k + 1)) := by simp
 have e2 : ts = ts.take k ++ (ts[k] :: ts.drop (k + 1)) := by simp
 have e3 : fitL ps ts b = fitL (ps.take k ++ (ps[k] :: ps.drop (k + 1))) (ts.take k ++ (ts[k] :: ts.drop (k + 1))) b := by rw [← e1, ← e2]
 rw [e3, fitL_append (by simp; omega), if_pos h, fitL_no hf]

section
variable {p t : T} {b : List T}
theorem fitT_6 (h : p.kind = 6) : fitT p t b = (true, b) := by rw [fitT, fitH, if_pos h]
theorem fitT_5a {k : Nat} (h : p.kind = 5) (hk : p.n = k) (hl : k < b.length) (h6 : b[k].kind = 6) : fitT p t b = (true, b.set k t) := by
 rw [fitT, fitH, if_neg (by omega), if_pos h, hk]; simp [hl, h6]
theorem fitT_5b {k : Nat} (h : p.kind = 5) (hk : p.n = k) (hl : k < b.length) (h6 : b[k].kind ≠ 6) : fitT p t b = (sameT b[k] t, b) := by
 rw [fitT, fitH, if_neg (by omega), if_pos h, hk]; simp [hl, h6]
theorem fitT_4a (h : p.kind = 4) (h1 : t.kind = 4) (h2 : p.args.length = t.args.length) : fitT p t b = fitL p.args t.args b := by
 rw [fitT, fitH, if_neg (by omega), if_neg (by omega), if_pos h, if_pos ⟨h1, h2⟩]
theorem fitT_4b (h : p.kind = 4) (h1 : ¬ (t.kind = 4 ∧ p.args.length = t.args.length)) : fitT p t b = (false, b) := by
 rw [fitT, fitH, if_neg (by omega), if_neg (by omega), if_pos h, if_neg h1]
theorem fitT_o (h4 : p.kind ≠ 4) (h5 : p.kind ≠ 5) (h6 : p.kind ≠ 6) : fitT p t b = (sameT p t, b) := by
 rw [fitT, fitH, if_neg h6, if_neg h5, if_neg h4]
end

theorem fitT_length (p t : T) (b : List T) : (fitT p t b).2.length = b.length := by
 have key : ∀ m (ps ts b : List T), bulkL ps ≤ m → (fitL ps ts b).2.length = b.length := by
  intro m
  induction m with
  | zero =>
   intro ps ts b hm
   cases ps with
   | nil => rw [fitL_nil]
   | cons p ps => rw [bulkL_cons] at hm; omega
  | succ m ih =>
   intro ps ts b hm
   cases ps with
   | nil => rw [fitL_nil]
   | cons p ps =>
    cases ts with
    | nil => rw [fitL]; intro h; cases h
    | cons t ts =>
     rw [bulkL_cons] at hm
     have h1 : (fitT p t b).2.length = b.length := by
      have := ih p.args t.args b (by omega)
      unfold fitT fitH
      repeat' split
      all_goals first | rfl | simp | exact this
     rw [fitL_cons]
     split
     ·rw [ih ps ts _ (by omega), h1]
     ·exact h1
 have := key _ [p] [t] b (Nat.le_refl _)
 rwa [fitL_one] at this

/-- What fits, or nothing. -/
def fitO (p t : T) (b : List T) : Option (List T) := if (fitT p t b).1 then some (fitT p t b).2 else none
end Go.Proofs.Ytedfepnekjjmnab

/-
 match.fits: whether it fits, and what is bound afterwards. Conditions: a formed pattern, four bound ones in a row of the call's own; bounds on how much there is.
-/
namespace Go.Proofs.Ytedfepnekjjmnab
open Go.RowKit
set_option linter.unusedSimpArgs false
set_option linter.unusedVariables false

def FPost (base g cap : Nat) (w : World) (r : Bool × List T) (e : Ending) (w' : World) : Prop := e = .returned (.bool r.1) ∧ Keep (fun b => b = g) w w' ∧ OwnG (fun b => base ≤ b) base w' (.slice (some ⟨g, 0, none⟩) 4 cap) r.2

section
variable {p t : T} {S : Nat → Prop} {base g cap : Nat} {w : World} {vp vt : Value} {bd : List T}
theorem fits_6 (hp : RT S w p vp) (ht : RT S w t vt) (ho : OwnG (fun b => base ≤ b) base w (.slice (some ⟨g, 0, none⟩) 4 cap) bd) (hbs : base ≤ w.heap.size) (hk : p.kind = 6) :
  Calls Try.prog 113 #[vp, vt, .slice (some ⟨g, 0, none⟩) 4 cap] w (FPost base g cap w (fitT p t bd)) := by
 obtain ⟨a, capp, rfl, hcap, hr⟩ := hp
 obtain ⟨a2, cap2, rfl, hcap2, hr2⟩ := ht
 clear hcap hr hcap2 hr2
 have HO := Lib.hid ho; clear ho
 rw [fitT_6 hk]
 go_enter Try.func113, Try.ntmps113
 go_wp2_with fail
 go_ret
 exact ⟨rfl, ((Keep.refl _ _).alloc _).alloc _, (HO.out.alloc _).alloc _⟩

set_option maxHeartbeats 1000000 in
theorem fits_o (hp : RT S w p vp) (ht : RT S w t vt) (ho : OwnG (fun b => base ≤ b) base w (.slice (some ⟨g, 0, none⟩) 4 cap) bd) (hbs : base ≤ w.heap.size) (hbp : bulkL [p] ≤ 1099511627776) (hbt : bulkL [t] ≤ 1099511627776)
  (hk4 : p.kind ≠ 4) (hk5 : p.kind ≠ 5) (hk6 : p.kind ≠ 6) :
  Calls Try.prog 113 #[vp, vt, .slice (some ⟨g, 0, none⟩) 4 cap] w (FPost base g cap w (fitT p t bd)) := by
 obtain ⟨a, capp, rfl, hcap, hr⟩ := hp
 obtain ⟨a2, cap2, rfl, hcap2, hr2⟩ := ht
 have HP : Hid (RT S w p _) := Lib.hid ⟨a, capp, rfl, hcap, hr⟩
 have HT : Hid (RT S w t _) := Lib.hid ⟨a2, cap2, rfl, hcap2, hr2⟩
 clear hcap hr hcap2 hr2
 have HO := Lib.hid ho; clear ho
 rw [fitT_o hk4 hk5 hk6]
 have h4 : (p.kind == 4) = false := by simpa using hk4
 have h5 : (p.kind == 5) = false := by simpa using hk5
 have h6 : (p.kind == 6) = false := by simpa using hk6
 have h1 : w.heap.size < w.heap.size + 1 + 1 := by omega
 clear hk4 hk5 hk6
 go_enter Try.func113, Try.ntmps113
 go_wp2_with fail
 refine (order_c p t S _ _ _ ((HP.out.alloc _).alloc _) ((HT.out.alloc _).alloc _) hbp hbt).mono ?_
 rintro e w1 ⟨rfl, hB1⟩
 go_wp2_with fail
 go_ret
 exact ⟨rfl, (((Keep.refl _ _).alloc _).alloc _).then hB1, ((HO.out.alloc _).alloc _).below hB1⟩

set_option maxHeartbeats 2000000 in
theorem fits_5 (hp : RT S w p vp) (ht : RT S w t vt) (ho : OwnG (fun b => base ≤ b) base w (.slice (some ⟨g, 0, none⟩) 4 cap) bd) (hbs : base ≤ w.heap.size) (hS : ∀ b, S b → b < base) (hl : bd.length = 4) (hbt : bulkL [t] ≤ 1099511627776)
    (hbb : ∀ y ∈ bd, bulkL [y] ≤ 1099511627776) (hk : p.kind = 5) (hn : ∃ k : Nat, p.n = k ∧ k < 4) :
    Calls Try.prog 113 #[vp, vt, .slice (some ⟨g, 0, none⟩) 4 cap] w (FPost base g cap w (fitT p t bd)) := by
  obtain ⟨a, capp, rfl, hcap, hr⟩ := hp
  obtain ⟨a2, cap2, rfl, hcap2, hr2⟩ := ht
  obtain ⟨k, hn, hk4⟩ := hn
  have HT : Hid (RT S w t _) := Lib.hid ⟨a2, cap2, rfl, hcap2, hr2⟩
  clear hcap hr hcap2 hr2
  have hg := ho.block g rfl
  have HO := Lib.hid ho; clear ho
  have hkl : k < bd.length := by omega
  obtain ⟨a', cap', _, d0, d1, d2, d3, hE⟩ := (OwnT.rsl2 HO.out).elem k hkl
  rw [Nat.zero_add] at d0 d1 d2 d3
  have HE := Lib.hid hE; clear hE
  have hbu := hbb _ (List.getElem_mem hkl)
  have HL := Lib.hid hl
  have HF := Lib.hid (fun h6 => fitT_5a (t := t) hk hn hkl h6)
  have HF2 := Lib.hid (fun h6 => fitT_5b (t := t) hk hn hkl h6)
  clear hl
  rw [hn, hk]
  have hkl : (k : Int) < 4 := by omega
  have hk0 : (0 : Int) ≤ k := by omega
  have g1 : g < w.heap.size + 1 := by omega
  have g2 : g < w.heap.size + 1 + 1 := by omega
  have hg1 := hg.1
  have hg2 := hg.2
  clear hg
  generalize hu : bd[k] = u at *
  have HU := Lib.hid hu; clear hu
  go_enter Try.func113, Try.ntmps113
  go_wp2_with fail
  refine (free_c u _ _ _ ((HE.out.alloc _).alloc _)).mono ?_
  rintro e w1 ⟨rfl, hB1⟩
  have hs1 := hB1.size
  obtain ⟨hcc, hff⟩ := bcell hB1
  simp only [World.size_alloc] at hs1 hcc hff
  have HB1 : Hid (Below w.heap.size w w1) := Lib.hid (below_step ((below_alloc _ _).alloc (by simp) _) (by simp <;> omega) hB1)
  have q1 : w.heap.size < w1.heap.size := by omega
  have q2 : w.heap.size + 1 < w1.heap.size := by omega
  have q3 : g < w1.heap.size := by omega
  have hsd : w1.drew.heap.size = w1.heap.size := rfl
  have HO1 := Lib.hid (HO.out.below HB1.out)
  have HT1 := Lib.hid ((HT.out.below HB1.out).below (Below.drew (Below.refl w1.heap.size w1)))
  have HE1 := Lib.hid ((HE.out.below HB1.out).below (Below.drew (Below.refl w1.heap.size w1)))
  have hx : w.heap.size + 1 < w.heap.size + 1 + 1 := by omega
  have hx0 : w.heap.size < w.heap.size + 1 + 1 := by omega
  have hq0 : w1.cell? ⟨w.heap.size, 1, none⟩ = some (.int .i64 k) ∧ w1.cell? ⟨w.heap.size + 1, 0, none⟩ = some (.int .i64 t.kind) ∧ w1.cell? ⟨w.heap.size + 1, 1, none⟩ = some (.int .i64 t.n) ∧ w1.cell? ⟨w.heap.size + 1, 2, none⟩ = some (.string t.name) ∧ w1.cell? ⟨w.heap.size + 1, 3, none⟩ = some (.slice a2 t.args.length cap2) ∧
      w1.cell? ⟨g, k * 4, none⟩ = some (.int .i64 u.kind) ∧ w1.cell? ⟨g, k * 4 + 1, none⟩ = some (.int .i64 u.n) ∧ w1.cell? ⟨g, k * 4 + 2, none⟩ = some (.string u.name) ∧ w1.cell? ⟨g, k * 4 + 3, none⟩ = some (.slice a' u.args.length cap') := by
    rw [hcc _ _ hx0, hcc _ _ hx, hcc _ _ hx, hcc _ _ hx, hcc _ _ hx, hcc _ _ g2, hcc _ _ g2, hcc _ _ g2, hcc _ _ g2]; go_simp
  have hq : ∀ w3 : World, Below w1.drew.heap.size w1.drew w3 → w3.cell? ⟨w.heap.size, 1, none⟩ = some (.int .i64 k) ∧ w3.cell? ⟨w.heap.size + 1, 0, none⟩ = some (.int .i64 t.kind) ∧ w3.cell? ⟨w.heap.size + 1, 1, none⟩ = some (.int .i64 t.n) ∧ w3.cell? ⟨w.heap.size + 1, 2, none⟩ = some (.string t.name) ∧ w3.cell? ⟨w.heap.size + 1, 3, none⟩ = some (.slice a2 t.args.length cap2) ∧
      w3.cell? ⟨g, k * 4, none⟩ = some (.int .i64 u.kind) ∧ w3.cell? ⟨g, k * 4 + 1, none⟩ = some (.int .i64 u.n) ∧ w3.cell? ⟨g, k * 4 + 2, none⟩ = some (.string u.name) ∧ w3.cell? ⟨g, k * 4 + 3, none⟩ = some (.slice a' u.args.length cap') := fun w3 h => by
    obtain ⟨q, -⟩ := bcell h
    rw [q _ _ q1, q _ _ q2, q _ _ q2, q _ _ q2, q _ _ q2, q _ _ q3, q _ _ q3, q _ _ q3, q _ _ q3]; exact hq0
  have hf1 : ∀ w3 : World, Below w1.drew.heap.size w1.drew w3 → ∀ o, w3.frozen? ⟨g, o, none⟩ = false := fun w3 h o => by
    obtain ⟨-, r⟩ := bcell h
    rw [r _ _ q3]; exact HO1.out.frozen o
  clear hcc hff hB1 d0 d1 d2 d3 HE
  cases h6 : (u.kind == 6)
  · have HF3 := Lib.hid (HF2.out (by simpa using h6)); clear h6
    go_wp2_with fail
    go_region_held3 (fun w' => w'.cell? ⟨w.heap.size, 1, none⟩ = some (.int .i64 k) ∧ w'.cell? ⟨w.heap.size + 1, 0, none⟩ = some (.int .i64 t.kind) ∧ w'.cell? ⟨w.heap.size + 1, 1, none⟩ = some (.int .i64 t.n) ∧ w'.cell? ⟨w.heap.size + 1, 2, none⟩ = some (.string t.name) ∧ w'.cell? ⟨w.heap.size + 1, 3, none⟩ = some (.slice a2 t.args.length cap2) ∧
        w'.cell? ⟨g, k * 4, none⟩ = some (.int .i64 u.kind) ∧ w'.cell? ⟨g, k * 4 + 1, none⟩ = some (.int .i64 u.n) ∧ w'.cell? ⟨g, k * 4 + 2, none⟩ = some (.string u.name) ∧ w'.cell? ⟨g, k * 4 + 3, none⟩ = some (.slice a' u.args.length cap'))
      (first | exact hq0 | exact hq _ hBB | go_keep)
      (first | (go_at_call 127; refine (order_c u t (fun _ => True) _ _ _ (HE1.out.mono fun _ _ => trivial) (HT1.out.mono fun _ _ => trivial) hbu hbt).mono ?_; rintro e wc ⟨rfl, hBB⟩))
    go_wp2_with fail
    go_ret
    rw [HF3.out]
    exact ⟨rfl, (Keep.of HB1.out).drew.then hBB, (HO1.out.below (Below.drew (Below.refl w1.heap.size w1))).below hBB⟩
  · have HF3 := Lib.hid (HF.out (by simpa using h6)); clear h6
    have hkeep : ∀ (w4 : World) (u0 u1 u2 u3 : Value), w4.cell? ⟨w.heap.size, 1, none⟩ = some (.int .i64 k) ∧ w4.cell? ⟨w.heap.size + 1, 0, none⟩ = some (.int .i64 t.kind) ∧ w4.cell? ⟨w.heap.size + 1, 1, none⟩ = some (.int .i64 t.n) ∧ w4.cell? ⟨w.heap.size + 1, 2, none⟩ = some (.string t.name) ∧ w4.cell? ⟨w.heap.size + 1, 3, none⟩ = some (.slice a2 t.args.length cap2) →
        (fun w' : World => w'.cell? ⟨w.heap.size, 1, none⟩ = some (.int .i64 k) ∧ w'.cell? ⟨w.heap.size + 1, 0, none⟩ = some (.int .i64 t.kind) ∧ w'.cell? ⟨w.heap.size + 1, 1, none⟩ = some (.int .i64 t.n) ∧ w'.cell? ⟨w.heap.size + 1, 2, none⟩ = some (.string t.name) ∧ w'.cell? ⟨w.heap.size + 1, 3, none⟩ = some (.slice a2 t.args.length cap2)) ((((w4.setCell ⟨g, k * 4, none⟩ u0).setCell ⟨g, k * 4 + 1, none⟩ u1).setCell ⟨g, k * 4 + 2, none⟩ u2).setCell ⟨g, k * 4 + 3, none⟩ u3) := fun w4 u0 u1 u2 u3 h => by
      have e : ∀ b' o', b' ≠ g → ((((w4.setCell ⟨g, k * 4, none⟩ u0).setCell ⟨g, k * 4 + 1, none⟩ u1).setCell ⟨g, k * 4 + 2, none⟩ u2).setCell ⟨g, k * 4 + 3, none⟩ u3).cell? ⟨b', o', none⟩ = w4.cell? ⟨b', o', none⟩ := fun b' o' hne => by
        refine World.cell?_of_block ?_
        simp only [setCell_other _ _ _ _ _ hne]
      have n1 : w.heap.size ≠ g := by omega
      have n2 : w.heap.size + 1 ≠ g := by omega
      simp only [e _ _ n1, e _ _ n2]
      exact h
    simp only [] at hkeep
    have hr0 : w1.cell? ⟨w.heap.size, 1, none⟩ = some (.int .i64 k) ∧ w1.cell? ⟨w.heap.size + 1, 0, none⟩ = some (.int .i64 t.kind) ∧ w1.cell? ⟨w.heap.size + 1, 1, none⟩ = some (.int .i64 t.n) ∧ w1.cell? ⟨w.heap.size + 1, 2, none⟩ = some (.string t.name) ∧ w1.cell? ⟨w.heap.size + 1, 3, none⟩ = some (.slice a2 t.args.length cap2) := ⟨hq0.1, hq0.2.1, hq0.2.2.1, hq0.2.2.2.1, hq0.2.2.2.2.1⟩
    go_wp2_with fail
    go_region_held3 (fun w' => w'.cell? ⟨w.heap.size, 1, none⟩ = some (.int .i64 k) ∧ w'.cell? ⟨w.heap.size + 1, 0, none⟩ = some (.int .i64 t.kind) ∧ w'.cell? ⟨w.heap.size + 1, 1, none⟩ = some (.int .i64 t.n) ∧ w'.cell? ⟨w.heap.size + 1, 2, none⟩ = some (.string t.name) ∧ w'.cell? ⟨w.heap.size + 1, 3, none⟩ = some (.slice a2 t.args.length cap2))
      (first | exact hr0 | exact ⟨y0, y1, y2, y3, y4⟩ | exact hkeep _ _ _ _ _ ⟨y0, y1, y2, y3, y4⟩ | go_keep)
      (first | (go_at_call 56; refine (copied_c t S _ _ HT1.out hbt).mono ?_; rintro e wc ⟨vc, rfl, hBB, ac, capc, rfl, hcp, hrc⟩; obtain ⟨y0, y1, y2, y3, y4, z0, z1, z2, z3⟩ := hq _ hBB; have zf := hf1 _ hBB; have hsc := hBB.size; simp only [World.size_drew] at hsc))
    go_wp2_with fail
    go_ret
    rw [HF3.out]
    refine ⟨rfl, ?_, ?_⟩
    · repeat refine Keep.setCell ?_ _ (.inl rfl)
      exact (Keep.of HB1.out).drew.then hBB
    · refine OwnG.store ((HO1.out.below (Below.drew (Below.refl w1.heap.size w1))).below hBB) (by have := HL.out; omega) ⟨ac, capc, rfl, hcp, hrc⟩ fun b hb _ => ⟨by simp at hb; omega, by simp at hb; omega⟩

end
end Go.Proofs.Ytedfepnekjjmnab

/-
 match.fits on tuples, and in all.
-/
namespace Go.Proofs.Ytedfepnekjjmnab
open Go.RowKit
set_option linter.unusedSimpArgs false
set_option linter.unusedVariables false
section
variable {p t : T} {S : Nat → Prop} {base g cap : Nat} {w : World} {vp vt : Value} {bd : List T}
set_option maxHeartbeats 4000000 in
set_option maxRecDepth 100000 in
theorem fits_4 (hp : RT S w p vp) (ht : RT S w t vt) (ho : OwnG (fun b => base ≤ b) base w (.slice (some ⟨g, 0, none⟩) 4 cap) bd) (hbs : base ≤ w.heap.size) (hS : ∀ b, S b → b < base) (hbp : bulkL [p] ≤ 1099511627776) (hbt : bulkL [t] ≤ 1099511627776) (hk : p.kind = 4)
    (ih : ∀ (j : Nat) (h1 : j < p.args.length) (h2 : j < t.args.length) (W : World) (vp vt : Value), RT S W p.args[j] vp → RT S W t.args[j] vt → OwnG (fun b => base ≤ b) base W (.slice (some ⟨g, 0, none⟩) 4 cap) (fitL (p.args.take j) (t.args.take j) bd).2 → base ≤ W.heap.size →
      Calls Try.prog 113 #[vp, vt, .slice (some ⟨g, 0, none⟩) 4 cap] W (FPost base g cap W (fitT p.args[j] t.args[j] (fitL (p.args.take j) (t.args.take j) bd).2))) :
    Calls Try.prog 113 #[vp, vt, .slice (some ⟨g, 0, none⟩) 4 cap] w (FPost base g cap w (fitT p t bd)) := by
  obtain ⟨a, capp, rfl, hcap, hr⟩ := hp
  obtain ⟨a2, cap2, rfl, hcap2, hr2⟩ := ht
  have HP : Hid (RTs S w p.args a 0) := Lib.hid hr
  have HT : Hid (RTs S w t.args a2 0) := Lib.hid hr2
  clear hcap hr hcap2 hr2
  have hba := bulk_args p
  have hbb := bulk_args t
  have hla := length_le_bulk p.args
  have hlb := length_le_bulk t.args
  have IH := Lib.hid ih; clear ih
  have hg := ho.block g rfl
  have hg1 := hg.1
  have hg2 := hg.2
  have HO := Lib.hid ho; clear ho hg
  have h4 : (p.kind == 4) = true := by simp [hk]
  have h5 : (p.kind == 5) = false := by simp [hk]
  have h6 : (p.kind == 6) = false := by simp [hk]
  have h1 : w.heap.size < w.heap.size + 1 + 1 := by omega
  have HKB : Hid (∀ o1 o2, Keep (fun b => b = g) w ((w.alloc o1).alloc o2)) := Lib.hid fun o1 o2 => ((Keep.refl _ _).alloc _).alloc _
  by_cases hkt : t.kind = 4
  · have h7 : (t.kind != 4) = false := by simp [hkt]
    by_cases hl : p.args.length = t.args.length
    · have HF := Lib.hid (fitT_4a (b := bd) hk hkt hl)
      have HL := Lib.hid hl
      have hl1 : p.args.length ≤ t.args.length := by omega
      have hl2 : t.args.length ≤ p.args.length := by omega
      have hln : ((p.args.length : Int) != t.args.length) = false := by simp [hl]
      clear hk hkt hl
      go_enter Try.func113, Try.ntmps113
      go_wp2_with fail
      go_loopw [51] (fun i wr => ∃ k : Nat, k ≤ p.args.length ∧ i = .int .i64 k ∧ (fitL (p.args.take k) (t.args.take k) bd).1 = true ∧ OwnG (fun b => base ≤ b) base wr (.slice (some ⟨g, 0, none⟩) 4 cap) (fitL (p.args.take k) (t.args.take k) bd).2 ∧ Keep (fun b => b = g) w wr ∧ w.heap.size + 1 < wr.heap.size ∧
          wr.cell? ⟨w.heap.size, 3, none⟩ = some (.slice a p.args.length capp) ∧ wr.cell? ⟨w.heap.size + 1, 3, none⟩ = some (.slice a2 t.args.length cap2)) (fun i _ => p.args.length - (intOf i).toNat)
      case atStart => exact ⟨0, Nat.zero_le _, rfl, by rw [List.take_zero, fitL_nil], by rw [List.take_zero, fitL_nil]; exact (HO.out.alloc _).alloc _, HKB.out _ _, by simp, by go_simp, by go_simp⟩
      case round =>
        obtain ⟨k, hkx, rfl, hok, hown, hK, hsw, x3, y3⟩ := hrel
        have HOK := Lib.hid hok; clear hok
        have HOW := Lib.hid hown; clear hown
        have HK := Lib.hid hK
        have hs0 : w.heap.size < wr.heap.size := by omega
        clear hK
        by_cases hlt : k < p.args.length
        · obtain ⟨b, o, rfl⟩ := HP.out.addr (by omega)
          obtain ⟨b2, o2, rfl⟩ := HT.out.addr (by omega)
          have hlt2 : k < t.args.length := by omega
          have hSg : ∀ b, S b → ¬ b = g := fun b hb => by have := hS b hb; omega
          obtain ⟨a', cap', hSb, d0, d1, d2, d3, hE⟩ := (HP.out.keep HK.out hSg).elem k hlt
          obtain ⟨a2', cap2', hSb2, e0, e1, e2, e3, hE2⟩ := (HT.out.keep HK.out hSg).elem k hlt2
          have HSN := Lib.hid (fitL_snoc HOK.out hlt hlt2)
          have HFL := Lib.hid (fitL_fail HOK.out hlt hlt2)
          have hk0 : (0 : Int) ≤ (k : Int) := Int.natCast_nonneg _
          have hk1 : (k : Int) < (p.args.length : Int) := by omega
          have hk2 : (k : Int) < (t.args.length : Int) := by omega
          have HC := Lib.hid (fun W (hW : Below wr.heap.size wr W) => IH.out k hlt hlt2 W _ _ (hE.below hW) (hE2.below hW) (HOW.out.below hW) (by have := hW.size; omega))
          clear hE hE2
          have hb1 : b < wr.heap.size := World.block_lt_of_cell? wr _ d0
          have hb2 : b2 < wr.heap.size := World.block_lt_of_cell? wr _ e0
          generalize p.args[k] = xx at *
          generalize t.args[k] = yy at *
          have HQ : Hid (∀ w1, Keep (fun b => b = g) wr.drew w1 → w1.cell? ⟨w.heap.size, 3, none⟩ = some (.slice (some ⟨b, o, none⟩) p.args.length capp) ∧ w1.cell? ⟨w.heap.size + 1, 3, none⟩ = some (.slice (some ⟨b2, o2, none⟩) t.args.length cap2) ∧
              w1.cell? ⟨b, o + k * 4, none⟩ = some (.int .i64 xx.kind) ∧ w1.cell? ⟨b, o + k * 4 + 1, none⟩ = some (.int .i64 xx.n) ∧ w1.cell? ⟨b, o + k * 4 + 2, none⟩ = some (.string xx.name) ∧ w1.cell? ⟨b, o + k * 4 + 3, none⟩ = some (.slice a' xx.args.length cap') ∧
              w1.cell? ⟨b2, o2 + k * 4, none⟩ = some (.int .i64 yy.kind) ∧ w1.cell? ⟨b2, o2 + k * 4 + 1, none⟩ = some (.int .i64 yy.n) ∧ w1.cell? ⟨b2, o2 + k * 4 + 2, none⟩ = some (.string yy.name) ∧ w1.cell? ⟨b2, o2 + k * 4 + 3, none⟩ = some (.slice a2' yy.args.length cap2')) := Lib.hid fun w1 hK1 => by
            have hSg1 := hS b hSb
            have hSg2 := hS b2 hSb2
            have q := fun b' o' (h : b' < wr.heap.size) (h' : b' ≠ g) => hK1.cell b' o' h h'
            rw [q _ _ hs0 (by omega), q _ _ hsw (by omega), q _ _ hb1 (by omega), q _ _ hb1 (by omega), q _ _ hb1 (by omega), q _ _ hb1 (by omega), q _ _ hb2 (by omega), q _ _ hb2 (by omega), q _ _ hb2 (by omega), q _ _ hb2 (by omega)]
            exact ⟨x3, y3, d0, d1, d2, d3, e0, e1, e2, e3⟩
          go_wp2_with fail
          go_region_held3 (fun w' => w'.cell? ⟨w.heap.size, 3, none⟩ = some (.slice (some ⟨b, o, none⟩) p.args.length capp) ∧ w'.cell? ⟨w.heap.size + 1, 3, none⟩ = some (.slice (some ⟨b2, o2, none⟩) t.args.length cap2) ∧
              w'.cell? ⟨b, o + k * 4, none⟩ = some (.int .i64 xx.kind) ∧ w'.cell? ⟨b, o + k * 4 + 1, none⟩ = some (.int .i64 xx.n) ∧ w'.cell? ⟨b, o + k * 4 + 2, none⟩ = some (.string xx.name) ∧ w'.cell? ⟨b, o + k * 4 + 3, none⟩ = some (.slice a' xx.args.length cap') ∧
              w'.cell? ⟨b2, o2 + k * 4, none⟩ = some (.int .i64 yy.kind) ∧ w'.cell? ⟨b2, o2 + k * 4 + 1, none⟩ = some (.int .i64 yy.n) ∧ w'.cell? ⟨b2, o2 + k * 4 + 2, none⟩ = some (.string yy.name) ∧ w'.cell? ⟨b2, o2 + k * 4 + 3, none⟩ = some (.slice a2' yy.args.length cap2'))
            (first | exact ⟨z0, z1, z2, z3, z4, z5, z6, z7, z8, z9⟩ | go_keep)
            (first | (go_at_call 113; refine (HC.out _ ?_).mono ?_; (repeat' (first | exact Below.refl _ _ | apply Below.drew | refine Below.alloc ?_ (by simp <;> omega) _)); rintro e w1 ⟨rfl, hK1, ho1⟩; obtain ⟨z0, z1, z2, z3, z4, z5, z6, z7, z8, z9⟩ := HQ.out _ hK1))
          have hs1 : wr.heap.size ≤ w1.heap.size := hK1.size
          have HK1 := Lib.hid (HK.out.drew.trans hK1)
          have HO1 := Lib.hid ho1; clear ho1 hK1
          cases hz : (fitT xx yy (fitL (p.args.take k) (t.args.take k) bd).2).1
          · have HZ := Lib.hid (HFL.out hz)
            go_wp2_with fail
            go_ret
            rw [HF.out, HZ.out]
            exact ⟨ret_bool (by rw [hz]), HK1.out, HO1.out⟩
          · have HZ := Lib.hid hz; clear hz
            go_wp2_with fail
            go_roundw
            case rel => exact ⟨k + 1, by omega, by go_num, by rw [HSN.out, HZ.out], by rw [HSN.out]; exact HO1.out, HK1.out, by omega, z0, z1⟩
            case measure => simp [intOf]; omega
        · have hkk : k = p.args.length := by omega
          subst hkk
          go_wp2_with fail
          go_ret
          have h := HOW.out
          have h' := HOK.out
          rw [List.take_length, HL.out, List.take_length] at h h'
          rw [HF.out]
          exact ⟨ret_bool (by rw [h']), HK.out, h⟩
    · have HF := Lib.hid (fitT_4b (t := t) (b := bd) hk (fun h => hl h.2))
      have hln : ((p.args.length : Int) != t.args.length) = true := by simp; omega
      clear hk hkt hl
      go_enter Try.func113, Try.ntmps113
      go_wp2_with fail
      go_ret
      rw [HF.out]
      exact ⟨rfl, HKB.out _ _, (HO.out.alloc _).alloc _⟩
  · have h7 : (t.kind != 4) = true := by simpa using hkt
    have HF := Lib.hid (fitT_4b (t := t) (b := bd) hk (fun h => hkt h.1))
    clear hk hkt
    go_enter Try.func113, Try.ntmps113
    go_wp2_with fail
    go_ret
    rw [HF.out]
    exact ⟨rfl, HKB.out _ _, (HO.out.alloc _).alloc _⟩
end

theorem fitT_bulk (M : Nat) (p t : T) (b : List T) (ht : bulkL [t] ≤ M) (hb : ∀ y ∈ b, bulkL [y] ≤ M) : ∀ y ∈ (fitT p t b).2, bulkL [y] ≤ M := by
 have key : ∀ m (ps ts b : List T), bulkL ps ≤ m → (∀ y ∈ ts, bulkL [y] ≤ M) → (∀ y ∈ b, bulkL [y] ≤ M) → ∀ y ∈ (fitL ps ts b).2, bulkL [y] ≤ M := by
  intro m
  induction m with
  | zero =>
   intro ps ts b hm _ hb
   cases ps with
   | nil => rw [fitL_nil]; exact hb
   | cons p ps => rw [bulkL_cons] at hm; omega
  | succ m ih =>
   intro ps ts b hm hts hb
   cases ps with
   | nil => rw [fitL_nil]; exact hb
   | cons p ps =>
    cases ts with
    | nil => rw [fitL]; exact hb; intro h; cases h
    | cons t ts =>
     rw [bulkL_cons] at hm
     have h1 : ∀ y ∈ (fitT p t b).2, bulkL [y] ≤ M := by
      have hta : ∀ y ∈ t.args, bulkL [y] ≤ M := fun y hy => by have h0 := hts t (by simp); have h1 := bulk_mem hy; have h2 := bulk_args t; omega
      have := ih p.args t.args b (by omega) hta hb
      unfold fitT fitH
      repeat' split
      all_goals first | exact hb | exact this | (intro y hy; rcases List.mem_or_eq_of_mem_set hy with hy | rfl; exact hb y hy; exact hts _ (by simp))
     rw [fitL_cons]
     split
     ·exact ih ps ts _ (by omega) (fun y hy => hts y (by simp [hy])) h1
     ·exact h1
 have := key _ [p] [t] b (Nat.le_refl _) (fun y hy => by simp at hy; subst hy; exact ht) hb
 rwa [fitL_one] at this
theorem fitL_bulk (M : Nat) : ∀ (ps ts b : List T), (∀ y ∈ ts, bulkL [y] ≤ M) → (∀ y ∈ b, bulkL [y] ≤ M) → ∀ y ∈ (fitL ps ts b).2, bulkL [y] ≤ M
 | [], ts, b, _, hb => by rw [fitL_nil]; exact hb
 | p :: ps, [], b, _, hb => by rw [fitL]; exact hb; intro h; cases h
 | p :: ps, t :: ts, b, ht, hb => by
  have h1 := fitT_bulk M p t b (ht t (by simp)) hb
  rw [fitL_cons]; split
  ·exact fitL_bulk M ps ts _ (fun y hy => ht y (by simp [hy])) h1
  ·exact h1
theorem fitL_length : ∀ (ps ts b : List T), (fitL ps ts b).2.length = b.length
 | [], ts, b => by rw [fitL_nil]
 | p :: ps, [], b => by rw [fitL]; intro h; cases h
 | p :: ps, t :: ts, b => by
  rw [fitL_cons]; split
  ·rw [fitL_length ps ts _, fitT_length]
  ·exact fitT_length p t b

theorem fits_c : ∀ (p t : T) (S : Nat → Prop) (base g cap : Nat) (w : World) (vp vt : Value) (bd : List T), RT S w p vp → RT S w t vt → OwnG (fun b => base ≤ b) base w (.slice (some ⟨g, 0, none⟩) 4 cap) bd → base ≤ w.heap.size → (∀ b, S b → b < base) → bd.length = 4 →
  bulkL [p] ≤ 1099511627776 → bulkL [t] ≤ 1099511627776 → (∀ y ∈ bd, bulkL [y] ≤ 1099511627776) → formL [p] = true →
  Calls Try.prog 113 #[vp, vt, .slice (some ⟨g, 0, none⟩) 4 cap] w (FPost base g cap w (fitT p t bd)) := by
 intro p
 induction p using T.ind with
 | h p ih =>
  intro t S base g cap w vp vt bd hp ht ho hbs hS hl hbp hbt hbb hf
  by_cases h6 : p.kind = 6
  ·exact fits_6 hp ht ho hbs h6
  by_cases h5 : p.kind = 5
  ·exact fits_5 hp ht ho hbs hS hl hbt hbb h5 (form_var hf h5)
  by_cases h4 : p.kind = 4
  ·refine fits_4 hp ht ho hbs hS hbp hbt h4 fun j h1 h2 W vp vt g1 g2 g3 g4 => ih _ (List.getElem_mem h1) _ S base g cap W vp vt _ g1 g2 g3 g4 hS (by rw [fitL_length]; exact hl) ?_ ?_ ?_ (form_args hf (List.getElem_mem h1))
   ·have := bulk_at h1; have := bulk_args p; omega
   ·have := bulk_at h2; have := bulk_args t; omega
   ·exact fitL_bulk _ _ _ _ (fun y hy => by have := bulk_mem (List.mem_of_mem_take hy); have := bulk_args t; omega) hbb
  ·exact fits_o hp ht ho hbs hbp hbt h4 h5 h6
end Go.Proofs.Ytedfepnekjjmnab

/-
 How a program that came in reads: rows of rows of structs. No condition.
-/
namespace Go.Proofs.Ytedfepnekjjmnab
open Go.ChangeShapes Go.WideShapes Go.ChangeAt Go.RowKit
set_option linter.unusedSimpArgs false
set_option linter.unusedVariables false

section
variable {H : Type} {enc : TypeId × Value → H} {W : World} {base : Nat} {sp : Nat → Bool} {held : Bool}

theorem add_at' (b off i j : Nat) : ((⟨b, off, none⟩ : Addr).add i).add j = ⟨b, off + i + j, none⟩ := by
 unfold Addr.add
 by_cases h1 : i = 0 <;> by_cases h2 : j = 0 <;> simp [h1, h2]
theorem flat_cells {X : Type} {k b off : Nat} : ∀ (ps : List (X × List Value)) (i0 : Nat), (∀ i (h : i < ps.length), W.cells? base ((⟨b, off, none⟩ : Addr).add ((i0 + i) * k)) k = some (ps[i].2)) →
  ∀ j u, ((ps.map (·.2)).flatten)[j]? = some u → W.cell? ⟨b, off + i0 * k + j, none⟩ = some u
 | [], _, _, j, u, h => by simp at h
 | p :: ps, i0, hp, j, u, h => by
  have h0 := World.cells?_some (hp 0 (by simp))
  simp only [List.getElem_cons_zero, Nat.add_zero] at h0
  obtain ⟨-, hl, hc⟩ := h0
  simp only [List.map_cons, List.flatten_cons] at h
  by_cases hj : j < k
  ·rw [List.getElem?_append_left (by omega)] at h
   have h1 := (hc j hj).trans h
   rw [add_at'] at h1
   exact h1
  ·rw [List.getElem?_append_right (by omega), hl] at h
   have h1 := flat_cells ps (i0 + 1) (fun i hi => by
    have := hp (i + 1) (by simpa using hi)
    rw [show i0 + 1 + i = i0 + (i + 1) by omega]
    simpa using this) (j - k) u h
   rw [show off + i0 * k + j = off + (i0 + 1) * k + (j - k) by rw [Nat.succ_mul]; omega]
   exact h1
theorem sum_list {X : Type} {B : X → Nat} {Bs : List X → Nat} (hB0 : Bs [] = 0) (hB1 : ∀ x l, Bs (x :: l) = B x + Bs l) : ∀ (ys : List X) (ds : List (DataW H)), ys.length = ds.length → (∀ i (h1 : i < ys.length) (h2 : i < ds.length), B ys[i] ≤ Rows.uptoBulk ds[i]) → Bs ys ≤ Rows.uptoBulkAll ds
 | [], _, _, _ => by simp [hB0]
 | t :: ts, [], h, _ => by simp at h
 | t :: ts, d :: ds, h, hp => by
  have h0 := hp 0 (by simp) (by simp)
  have := sum_list hB0 hB1 ts ds (by simpa using h) fun i h1 h2 => hp (i + 1) (by simpa using h1) (by simpa using h2)
  simp only [List.getElem_cons_zero] at h0
  rw [hB1, Rows.uptoBulkAll]
  omega
theorem cellsX_flat {X : Type} {E : El X} {S : Nat → Prop} : ∀ (ps : List (X × List Value)), (∀ i (h : i < ps.length), E.C S W ps[i].1 ps[i].2) → CellsX E S W (ps.map (·.1)) (ps.map (·.2)).flatten
 | [], _ => rfl
 | p :: ps, h => ⟨p.2, _, rfl, h 0 (by simp), cellsX_flat ps fun i hi => h (i + 1) (by simpa using hi)⟩

/-- A slice's cell that reads as data is a slice of such elements, if each element's cells that read as data are one. -/
theorem rows_of_trod {X : Type} {E : El X} (F : ElT E) (hc : Try.prog.cellsOf F.e = E.k) (B : X → Nat) (Bs : List X → Nat) (hB0 : Bs [] = 0) (hB1 : ∀ x l, Bs (x :: l) = B x + Bs l)
  (key : ∀ fuel cs x, DataW.trod enc Try.prog W base sp held fuel F.e cs = some x → ∃ y, E.C (fun b => b < W.heap.size) W y cs ∧ B y ≤ Rows.uptoBulk x.1)
  (fuel : Nat) (cs : List Value) (x : DataW H × List MemPlace) (g : DataW.trod enc Try.prog W base sp held fuel F.sl cs = some x) :
  ∃ (ys : List X) (a : Option Addr) (cap : Nat), cs = [.slice a ys.length cap] ∧ RX E (fun b => b < W.heap.size) (fun b => b < W.heap.size) W ys (.slice a ys.length cap) ∧ Bs ys ≤ Rows.uptoBulk x.1 := by
 rcases DataW.trod_slice F.hund g with ⟨rfl, rfl⟩ | ⟨a, len, cap, elems, rest, n', rfl, rfl, rfl, hb, hlc, hcm, hel, hget, -, -⟩
 ·exact ⟨[], none, 0, rfl, RX.nil _ _ _, by rw [hB0]; omega⟩
 ·have key2 : ∀ i, i < len → ∃ p : X × List Value, W.cells? base (a.add (i * E.k)) E.k = some p.2 ∧ E.C (fun b => b < W.heap.size) W p.1 p.2 ∧ ∃ hi : i < elems.length, B p.1 ≤ Rows.uptoBulk (elems[i]).1 := by
   intro i hi
   have h1 := hget i hi
   rw [hc, List.getElem?_eq_getElem (by omega)] at h1
   obtain ⟨cs', hcc, ht⟩ := Option.bind_eq_some_iff.1 h1
   obtain ⟨y, h2, h3⟩ := key n' cs' _ ht
   exact ⟨(y, cs'), hcc, h2, by omega, h3⟩
  obtain ⟨ps, hps, hp⟩ := choose_list len key2
  subst hps
  have hl : (ps.map (·.1)).length = ps.length := by simp
  refine ⟨ps.map (·.1), some a, cap, by rw [hl], ⟨some a, cap, (ps.map (·.2)).flatten, rfl, ⟨by omega, by simp⟩, cellsX_flat ps fun i hi => (hp i hi).2.1, fun j u hu => ?_⟩, ?_⟩
  ·obtain ⟨b, off, spot⟩ := a
   have hspot : spot = none := by
    have hne : 0 < ps.length := by
     cases ps with
     | nil => simp at hu
     | cons _ _ => simp
    obtain ⟨_, hl0, hc0⟩ := World.cells?_some (hp 0 hne).1
    have hk := F.hk
    have h0 := hc0 0 hk
    rw [List.getElem?_eq_getElem (by omega)] at h0
    simpa [Addr.add] using World.cell?_spot h0
   subst hspot
   have h1 := flat_cells ps 0 (fun i hi => by rw [Nat.zero_add]; exact (hp i hi).1) j u hu
   rw [Nat.zero_mul, Nat.add_zero] at h1
   exact ⟨b, off, rfl, World.block_lt_of_cell? W _ h1, h1⟩
  ·have h1 := sum_list (H := H) hB0 hB1 (ps.map (·.1)) (elems.map (·.1)) (by simp [hel]) fun i h1 h2 => by
    obtain ⟨_, _, _, h4⟩ := hp i (by simpa using h1)
    simpa using h4
   simp only [Rows.uptoBulk]
   omega

theorem cellsDeed : Try.prog.cellsOf 140 = 11 := by kernel_rfl
theorem cellsClau : Try.prog.cellsOf 132 = 13 := by kernel_rfl
theorem cellsBeh : Try.prog.cellsOf 127 = 2 := by kernel_rfl
theorem cellsStr : Try.prog.cellsOf 9 = 1 := by kernel_rfl
theorem cellsDeeds : Try.prog.cellsOf 130 = 1 := by kernel_rfl
theorem cellsClaus : Try.prog.cellsOf 125 = 1 := by kernel_rfl
theorem under_deed : ∃ f0 f1 f2 f3 f4 : Field, Try.prog.underlying 140 = some (.struct #[f0, f1, f2, f3, f4]) ∧ f0.type = 3 ∧ f0.offset = 0 ∧ f1.type = 24 ∧ f1.offset = 1 ∧ f2.type = 24 ∧ f2.offset = 5 ∧ f3.type = 9 ∧ f3.offset = 9 ∧ f4.type = 3 ∧ f4.offset = 10 :=
 ⟨_, _, _, _, _, by rw [Try.underlying140], rfl, rfl, rfl, rfl, rfl, rfl, rfl, rfl, rfl, rfl⟩
theorem under_clau : ∃ f0 f1 f2 f3 : Field, Try.prog.underlying 132 = some (.struct #[f0, f1, f2, f3]) ∧ f0.type = 24 ∧ f0.offset = 0 ∧ f1.type = 24 ∧ f1.offset = 4 ∧ f2.type = 130 ∧ f2.offset = 8 ∧ f3.type = 24 ∧ f3.offset = 9 :=
 ⟨_, _, _, _, by rw [Try.underlying132], rfl, rfl, rfl, rfl, rfl, rfl, rfl, rfl⟩
theorem under_beh : ∃ f0 f1 : Field, Try.prog.underlying 127 = some (.struct #[f0, f1]) ∧ f0.type = 9 ∧ f0.offset = 0 ∧ f1.type = 125 ∧ f1.offset = 1 :=
 ⟨_, _, by rw [Try.underlying127], rfl, rfl, rfl, rfl⟩

set_option maxRecDepth 100000 in
theorem deed_of_trod (fuel : Nat) (cs : List Value) (x : DataW H × List MemPlace) (h : DataW.trod enc Try.prog W base sp held fuel 140 cs = some x) : ∃ y, deedE.C (fun b => b < W.heap.size) W y cs ∧ deedB y ≤ Rows.uptoBulk x.1 := by
 obtain ⟨f0, f1, f2, f3, f4, hs, t0, o0, t1, o1, t2, o2, t3, o3, t4, o4⟩ := under_deed
 obtain ⟨xs, n, rfl, rfl, hl, hlen, hf⟩ := DataW.trod_struct hs h
 rw [cellsDeed] at hl
 match xs, hlen, cs, hl with
 | [y0, y1, y2, y3, y4], _, [v0, v1, v2, v3, v4, v5, v6, v7, v8, v9, v10], _ =>
  have g0 := hf 0 f0 rfl
  have g1 := hf 1 f1 rfl
  have g2 := hf 2 f2 rfl
  have g3 := hf 3 f3 rfl
  have g4 := hf 4 f4 rfl
  simp [o0, o1, o2, o3, o4, t0, t1, t2, t3, t4, cellsInt, cellsStr, cellsTerm] at g0 g1 g2 g3 g4
  obtain ⟨k, hv0, rfl, wk⟩ := DataW.trod_int Try.underlying3 g0
  obtain ⟨ta, a1, c1, e1, hc1, hr1, hb1⟩ := term_of_trod _ _ _ g1
  obtain ⟨tb, a2, c2, e2, hc2, hr2, hb2⟩ := term_of_trod _ _ _ g2
  obtain ⟨s, hv3, rfl, ws⟩ := DataW.trod_string Try.underlying9 g3
  obtain ⟨m, hv4, rfl, wm⟩ := DataW.trod_int Try.underlying3 g4
  simp only [List.cons.injEq, and_true] at hv0 e1 e2 hv3 hv4
  obtain ⟨rfl, rfl, rfl, rfl⟩ := e1
  obtain ⟨rfl, rfl, rfl, rfl⟩ := e2
  subst hv0 hv3 hv4
  have hss : s.data.toList.length = s.size := by rw [Array.length_toList]; rfl
  refine ⟨⟨k, ta, tb, s, m⟩, ⟨a1, c1, a2, c2, rfl, ⟨_, _, rfl, hc1, hr1⟩, ⟨_, _, rfl, hc2, hr2⟩⟩, ?_⟩
  simp only [deedB, Rows.uptoBulk, Rows.uptoBulkAll, List.map_cons, List.map_nil]
  omega
set_option maxRecDepth 100000 in
theorem clau_of_trod (fuel : Nat) (cs : List Value) (x : DataW H × List MemPlace) (h : DataW.trod enc Try.prog W base sp held fuel 132 cs = some x) : ∃ y, clauE.C (fun b => b < W.heap.size) W y cs ∧ clauB y ≤ Rows.uptoBulk x.1 := by
 obtain ⟨f0, f1, f2, f3, hs, t0, o0, t1, o1, t2, o2, t3, o3⟩ := under_clau
 obtain ⟨xs, n, rfl, rfl, hl, hlen, hf⟩ := DataW.trod_struct hs h
 rw [cellsClau] at hl
 match xs, hlen, cs, hl with
 | [y0, y1, y2, y3], _, [v0, v1, v2, v3, v4, v5, v6, v7, v8, v9, v10, v11, v12], _ =>
  have g0 := hf 0 f0 rfl
  have g1 := hf 1 f1 rfl
  have g2 := hf 2 f2 rfl
  have g3 := hf 3 f3 rfl
  simp [o0, o1, o2, o3, t0, t1, t2, t3, cellsDeeds, cellsTerm] at g0 g1 g2 g3
  obtain ⟨ta, a1, c1, e1, hc1, hr1, hb1⟩ := term_of_trod _ _ _ g0
  obtain ⟨tb, a2, c2, e2, hc2, hr2, hb2⟩ := term_of_trod _ _ _ g1
  obtain ⟨ys, a3, c3, e3, hr3, hb3⟩ := rows_of_trod deedF cellsDeed deedB deedsB rfl (fun _ _ => rfl) deed_of_trod _ _ _ g2
  obtain ⟨td, a4, c4, e4, hc4, hr4, hb4⟩ := term_of_trod _ _ _ g3
  simp only [List.cons.injEq, and_true] at e1 e2 e3 e4
  obtain ⟨rfl, rfl, rfl, rfl⟩ := e1
  obtain ⟨rfl, rfl, rfl, rfl⟩ := e2
  obtain ⟨rfl, rfl, rfl, rfl⟩ := e4
  subst e3
  refine ⟨⟨ta, tb, ys, td⟩, ⟨a1, c1, a2, c2, a3, c3, a4, c4, rfl, ⟨_, _, rfl, hc1, hr1⟩, ⟨_, _, rfl, hc2, hr2⟩, hr3, ⟨_, _, rfl, hc4, hr4⟩⟩, ?_⟩
  simp only [clauB, Rows.uptoBulk, Rows.uptoBulkAll, List.map_cons, List.map_nil]
  omega
set_option maxRecDepth 100000 in
theorem beh_of_trod (fuel : Nat) (cs : List Value) (x : DataW H × List MemPlace) (h : DataW.trod enc Try.prog W base sp held fuel 127 cs = some x) : ∃ y, behvE.C (fun b => b < W.heap.size) W y cs ∧ behvB y ≤ Rows.uptoBulk x.1 := by
 obtain ⟨f0, f1, hs, t0, o0, t1, o1⟩ := under_beh
 obtain ⟨xs, n, rfl, rfl, hl, hlen, hf⟩ := DataW.trod_struct hs h
 rw [cellsBeh] at hl
 match xs, hlen, cs, hl with
 | [y0, y1], _, [v0, v1], _ =>
  have g0 := hf 0 f0 rfl
  have g1 := hf 1 f1 rfl
  simp [o0, o1, t0, t1, cellsStr, cellsClaus] at g0 g1
  obtain ⟨s, hv0, rfl, ws⟩ := DataW.trod_string Try.underlying9 g0
  obtain ⟨ys, a3, c3, e3, hr3, hb3⟩ := rows_of_trod clauF cellsClau clauB clausB rfl (fun _ _ => rfl) clau_of_trod _ _ _ g1
  simp only [List.cons.injEq, and_true] at hv0 e3
  subst hv0 e3
  have hss : s.data.toList.length = s.size := by rw [Array.length_toList]; rfl
  refine ⟨⟨s, ys⟩, ⟨a3, c3, rfl, hr3⟩, ?_⟩
  simp only [behvB, Rows.uptoBulk, Rows.uptoBulkAll, List.map_cons, List.map_nil]
  omega
set_option maxRecDepth 100000 in
/-- An argument that is a program. -/
theorem open_behvs {v : Value} {d : DataW H} {p : List MemPlace} {r : Reach} (hok : Value.okWide Try.prog W r base 68 v) (h : DataW.Trod enc Try.prog W 0 sp held 68 v d p) :
  ∃ l, RX behvE (fun b => b < W.heap.size) (fun b => b < W.heap.size) W l v ∧ behvsB l ≤ Rows.uptoBulk d := by
 obtain ⟨a, len, cap, rfl⟩ := okWide_slice Try.underlying68 hok
 obtain ⟨fuel, hf⟩ := h
 obtain ⟨l, a', cap', e, h1, h2⟩ := rows_of_trod behvF cellsBeh behvB behvsB rfl (fun _ _ => rfl) beh_of_trod fuel _ _ hf
 simp only [Value.cells, List.cons.injEq, and_true] at e
 exact ⟨l, by rw [e]; exact h1, h2⟩
end
end Go.Proofs.Ytedfepnekjjmnab

/-
 What a term tells as a program: in plain words. No program in sight.
-/
namespace Go.Proofs.Ytedfepnekjjmnab
open Go.RowKit
set_option linter.unusedSimpArgs false
set_option linter.unusedVariables false

def sSend : ByteArray := ⟨#[115, 101, 110, 100]⟩
def sSpawn : ByteArray := ⟨#[115, 112, 97, 119, 110]⟩
def sLink : ByteArray := ⟨#[108, 105, 110, 107]⟩
def sStop : ByteArray := ⟨#[115, 116, 111, 112]⟩
def sOn : ByteArray := ⟨#[111, 110]⟩
def sBeh : ByteArray := ⟨#[98, 101, 104]⟩
def sCode : ByteArray := ⟨#[99, 111, 100, 101]⟩
/-- An act that a term tells. -/
def deedO (t : T) : Option Deed :=
 match restL sSend t with
 | some [a, b] => some ⟨1, a, b, ⟨#[]⟩, 0⟩
 | _ => match restL sSpawn t with
  | some [a, b, c] => if a.kind == 2 && c.kind == 5 then some ⟨2, zeroT, b, a.name, c.n⟩ else none
  | _ => match restL sLink t with
   | some [a] => some ⟨3, a, zeroT, ⟨#[]⟩, 0⟩
   | _ => match restL sStop t with
    | some [] => some ⟨4, zeroT, zeroT, ⟨#[]⟩, 0⟩
    | _ => none
def mapO {X : Type} (f : T → Option X) : List T → Option (List X)
 | [] => some []
 | t :: l => match f t, mapO f l with
  | some x, some r => some (x :: r)
  | _, _ => none
def clauO (t : T) : Option Clau :=
 match restL sOn t with
 | some [a, b, c, d] => if c.kind == 4 then (mapO deedO c.args).map fun l => ⟨a, b, l, d⟩ else none
 | _ => none
end Go.Proofs.Ytedfepnekjjmnab

/-
 A heap as data: its words and names; what putting makes of it. In plain words.
-/
namespace Go.Proofs.Ytedfepnekjjmnab
open Go.RowKit
set_option linter.unusedSimpArgs false
set_option linter.unusedVariables false

/-- A word. -/
structure Wrd where
 kind : Int
 n : Int
deriving DecidableEq
/-- A heap: its words and names. -/
structure HS where
 ws : List Wrd
 names : List ByteArray
/-- Where a name stands, the first one; -1: nowhere. -/
def nameI (s : ByteArray) (l : List ByteArray) : Int := idxI (fun x => s.toList == x.toList) l 0
/-- An atom's number, and the names then. -/
def atomH (s : ByteArray) (l : List ByteArray) : Int × List ByteArray := if nameI s l < 0 then (l.length, l ++ [s]) else (nameI s l, l)
/-- Put a row of terms; their words are laid from a place on. -/
def putA (at_ : Nat) (H : HS) : List T → HS
 | [] => H
 | ⟨k, n, s, l⟩ :: ts =>
  let r : Wrd × HS :=
   if k = 2 then (⟨2, (atomH s H.names).1⟩, ⟨H.ws, (atomH s H.names).2⟩)
   else if k = 4 then (⟨4, H.ws.length⟩, putA (H.ws.length + 1) ⟨H.ws ++ (⟨0, l.length⟩ :: List.replicate l.length ⟨0, 0⟩), H.names⟩ l)
   else (⟨k, n⟩, H)
  putA (at_ + 1) ⟨r.2.ws.set at_ r.1, r.2.names⟩ ts
/-- Put a term. -/
def putW (H : HS) (t : T) : Wrd × HS :=
 if t.kind = 2 then (⟨2, (atomH t.name H.names).1⟩, ⟨H.ws, (atomH t.name H.names).2⟩)
 else if t.kind = 4 then (⟨4, H.ws.length⟩, putA (H.ws.length + 1) ⟨H.ws ++ (⟨0, t.args.length⟩ :: List.replicate t.args.length ⟨0, 0⟩), H.names⟩ t.args)
 else (⟨t.kind, t.n⟩, H)
theorem putA_nil (i : Nat) (H : HS) : putA i H [] = H := by rw [putA]
theorem putA_cons (i : Nat) (H : HS) (t : T) (ts : List T) : putA i H (t :: ts) = putA (i + 1) ⟨(putW H t).2.ws.set i (putW H t).1, (putW H t).2.names⟩ ts := by
 obtain ⟨k, n, s, l⟩ := t; rw [putA]; rfl
theorem putA_append (i : Nat) (H : HS) (a b : List T) : putA i H (a ++ b) = putA (i + a.length) (putA i H a) b := by
 induction a generalizing i H with
 | nil => simp [putA_nil]
 | cons t ts ih => rw [List.cons_append, putA_cons, ih, putA_cons, List.length_cons]; congr 1; omega
theorem putA_snoc (i : Nat) (H : HS) {l : List T} {k : Nat} (hk : k < l.length) :
  putA i H (l.take (k + 1)) = ⟨(putW (putA i H (l.take k)) l[k]).2.ws.set (i + k) (putW (putA i H (l.take k)) l[k]).1, (putW (putA i H (l.take k)) l[k]).2.names⟩ := by
 rw [take_snoc' l k hk, putA_append, putA_cons, putA_nil]
 simp only [List.length_take, Nat.min_eq_left (Nat.le_of_lt hk)]
/-- How many words a term takes. -/
theorem putA_len : ∀ m (ts : List T) (i : Nat) (H : HS), bulkL ts ≤ m → (putA i H ts).ws.length = H.ws.length + szL ts ∧ (putA i H ts).names.length ≤ H.names.length + bulkL ts := by
 intro m
 induction m with
 | zero => intro ts i H h; cases ts with
  | nil => simp [putA_nil, szL]
  | cons t ts => rw [bulkL_cons] at h; omega
 | succ m ih =>
  intro ts i H h
  cases ts with
  | nil => simp [putA_nil, szL]
  | cons t ts =>
   rw [bulkL_cons] at h
   have h1 := ih t.args (H.ws.length + 1) ⟨H.ws ++ (⟨0, t.args.length⟩ :: List.replicate t.args.length ⟨0, 0⟩), H.names⟩ (by omega)
   have h2 := ih ts (i + 1) ⟨(putW H t).2.ws.set i (putW H t).1, (putW H t).2.names⟩ (by omega)
   rw [putA_cons, szL_cons, bulkL_cons]
   simp only [List.length_set, List.length_append, List.length_cons, List.length_replicate] at h1 h2
   have h3 : (putW H t).2.ws.length = H.ws.length + (if t.kind = 4 then 1 + t.args.length + szL t.args else 0) ∧ (putW H t).2.names.length ≤ H.names.length + 1 + bulkL t.args := by
    unfold putW
    split
    ·rename_i hk
     rw [if_neg (by omega)]
     refine ⟨rfl, ?_⟩
     simp only [atomH]
     split <;> simp <;> omega
    ·split
     ·exact ⟨by rw [h1.1]; omega, by simp only; omega⟩
     ·exact ⟨rfl, by simp only; omega⟩
   omega
theorem putW_len (H : HS) (t : T) : (putW H t).2.ws.length = H.ws.length + szL [t] ∧ (putW H t).2.names.length ≤ H.names.length + bulkL [t] := by
 have h := putA_len _ [t] 0 H (Nat.le_refl _)
 rw [putA_cons, putA_nil] at h
 simpa using h

/-! ### How it lies -/
def wrdE : El Wrd where
 k := 2
 C := fun _ _ x cs => cs = [.int .i64 x.kind, .int .i64 x.n]
 len := by rintro S w x cs rfl; rfl
 one := by rintro S w x cs rfl; simp [Value.oneCell']
 «to» := by rintro S S' w w' x cs rfl _ _; rfl
def nmE : El ByteArray where
 k := 1
 C := fun _ _ x cs => cs = [.string x]
 len := by rintro S w x cs rfl; rfl
 one := by rintro S w x cs rfl; simp [Value.oneCell']
 «to» := by rintro S S' w w' x cs rfl _ _; rfl
def wrdF : ElT wrdE where
 e := 31
 sl := 37
 bytes := 16
 z := .agg #[.int .i64 0, .int .i64 0]
 hund := Try.underlying37
 info := by kernel_rfl
 hzs := rfl
 hk := by decide
 hb := by decide
def nmF : ElT nmE where
 e := 9
 sl := 97
 bytes := 16
 z := .string ⟨#[]⟩
 hund := Try.underlying97
 info := by kernel_rfl
 hzs := rfl
 hk := by decide
 hb := by decide
end Go.Proofs.Ytedfepnekjjmnab

/-
 match.Fits: what it answers. Condition: a bound on how much there is.
-/
namespace Go.Proofs.Ytedfepnekjjmnab
open Go.RowKit
set_option linter.unusedSimpArgs false
set_option linter.unusedVariables false

def fitsR (p t : T) (bd : List T) : Int × Option (List T) :=
 if checkE p ≠ 0 then (checkE p, none) else if checkE t ≠ 0 then (checkE t, none) else if (closedL [t] && boundB bd) = false then (5, none) else (0, fitO p t bd)
theorem fitsR_bad {p t : T} {bd : List T} {k : Nat} (hk : k < 2) (hp : k = 1 → checkE p = 0) (hu : checkE ([p, t][k]) ≠ 0) : fitsR p t bd = (checkE ([p, t][k]), none) := by
 match k, hk, hp, hu with
 | 0, _, _, hu => rw [fitsR, if_pos (show checkE p ≠ 0 from hu)]; rfl
 | 1, _, hp, hu => rw [fitsR, if_neg (by simp [hp rfl]), if_pos (show checkE t ≠ 0 from hu)]; rfl
theorem fitsR_form {p t : T} {bd : List T} (hp : checkE p = 0) (ht : checkE t = 0) (h : (closedL [t] && boundB bd) = false) : fitsR p t bd = (5, none) := by rw [fitsR, if_neg (by simp [hp]), if_neg (by simp [ht]), if_pos h]
theorem fitsR_ok {p t : T} {bd : List T} (hp : checkE p = 0) (ht : checkE t = 0) (h : (closedL [t] && boundB bd) = true) : fitsR p t bd = (0, fitO p t bd) := by rw [fitsR, if_neg (by simp [hp]), if_neg (by simp [ht]), if_neg (by simp [h])]
theorem fitO_no {p t : T} {bd : List T} (h : (fitT p t bd).1 = false) : fitO p t bd = none := by rw [fitO, if_neg (by simp [h])]
theorem fitO_yes {p t : T} {bd : List T} (h : (fitT p t bd).1 = true) : fitO p t bd = some (fitT p t bd).2 := by rw [fitO, if_pos h]

def FO (S : Nat → Prop) (w : World) (o : Int × Option (List T)) (e : Ending) (w' : World) : Prop :=
 ∃ v, e = .returned (.tuple #[v, .bool o.2.isSome, .int .i64 o.1]) ∧ Below w.heap.size w w' ∧ RSl S w' (o.2.getD []) v
theorem RSl.nil (S : Nat → Prop) (w : World) : RSl S w [] (.slice none 0 0) := ⟨none, 0, rfl, ⟨Nat.le_refl _, fun _ => rfl⟩, by simp [RTs]⟩
theorem FO.none {S : Nat → Prop} {w w' : World} {e : Ending} {o : Int × Option (List T)} {n : Int} (ho : o = (n, Option.none)) (he : e = .returned (.tuple #[.slice Option.none 0 0, .bool false, .int .i64 n])) (hB : Below w.heap.size w w') : FO S w o e w' := by
 subst ho; exact ⟨_, he, hB, RSl.nil _ _⟩
theorem FO.some {S : Nat → Prop} {w w' : World} {e : Ending} {o : Int × Option (List T)} {l : List T} {v : Value} (ho : o = (0, Option.some l)) (he : e = .returned (.tuple #[v, .bool true, .int .i64 0])) (hB : Below w.heap.size w w') (hr : RSl S w' l v) : FO S w o e w' := by
 subst ho; exact ⟨_, he, hB, hr⟩
theorem OwnG.full {P : Nat → Prop} {base : Nat} {w : World} {v : Value} {ts : List T} (h : OwnG P base w v ts) (hl : 0 < ts.length) : ∃ g cap, v = .slice (some ⟨g, 0, none⟩) ts.length cap := by
 obtain ⟨cs, ⟨h1, h2⟩, hC⟩ := h
 rcases h2 with ⟨_, h2⟩ | ⟨g', cap', cur, ev, _⟩
 ·omega
 ·exact ⟨g', cap', ev⟩
theorem check_form4 {t : T} (h : checkE t = 0) : formL [t] = true := by
 unfold checkE at h
 split at h
 ·assumption
 ·omega
theorem boundB_len4 {bd : List T} (h : boundB bd = true) : bd.length = 4 := by simp only [boundB, Bool.and_eq_true, beq_iff_eq] at h; exact h.1

end Go.Proofs.Ytedfepnekjjmnab

/-
 match.Fits, with what is bound as a row of one's own. No condition but bounds. Printed by mfo.py.
-/
namespace Go.Proofs.Ytedfepnekjjmnab
open Go.RowKit
set_option linter.unusedSimpArgs false
set_option linter.unusedVariables false

def FOo (S : Nat → Prop) (w : World) (o : Int × Option (List T)) (e : Ending) (w' : World) : Prop :=
 ∃ v, e = .returned (.tuple #[v, .bool o.2.isSome, .int .i64 o.1]) ∧ Below w.heap.size w w' ∧ RSl S w' (o.2.getD []) v ∧
  (o.2.isSome = true → ∃ base g cap, w.heap.size ≤ base ∧ v = .slice (some ⟨g, 0, none⟩) 4 cap ∧ OwnG (fun b => base ≤ b) base w' v (o.2.getD []))
theorem FOo.none {S : Nat → Prop} {w w' : World} {e : Ending} {o : Int × Option (List T)} {n : Int} (ho : o = (n, Option.none)) (he : e = .returned (.tuple #[.slice Option.none 0 0, .bool false, .int .i64 n])) (hB : Below w.heap.size w w') : FOo S w o e w' := by
 subst ho; exact ⟨_, he, hB, RSl.nil _ _, fun h => by cases h⟩
theorem FOo.some {S : Nat → Prop} {w w' : World} {e : Ending} {o : Int × Option (List T)} {l : List T} {v : Value} (ho : o = (0, Option.some l)) (he : e = .returned (.tuple #[v, .bool true, .int .i64 0])) (hB : Below w.heap.size w w') (hr : RSl S w' l v) (hO : ∃ base g cap, w.heap.size ≤ base ∧ v = .slice (Option.some ⟨g, 0, Option.none⟩) 4 cap ∧ OwnG (fun b => base ≤ b) base w' v l) : FOo S w o e w' := by
 subst ho; exact ⟨_, he, hB, hr, fun _ => hO⟩
set_option maxHeartbeats 4000000 in
set_option maxRecDepth 100000 in
theorem mfitsO_c (p t : T) (bd : List T) (w : World) (vp vt vb : Value) (hp : RT (fun b => b < w.heap.size) w p vp) (ht : RT (fun b => b < w.heap.size) w t vt) (hb : RSl (fun b => b < w.heap.size) w bd vb)
    (hbp : bulkL [p] ≤ 1099511627776) (hbt : bulkL [t] ≤ 1099511627776) (hbb : bulkL bd ≤ 1099511627776) :
    Calls Try.prog 98 #[vp, vt, vb] w (FOo (fun b => w.heap.size ≤ b) w (fitsR p t bd)) := by
  obtain ⟨a1, cap1, rfl, hc1, hr1⟩ := hp
  obtain ⟨a2, cap2, rfl, hc2, hr2⟩ := ht
  obtain ⟨ab, capb, rfl, hcb, hrb⟩ := hb
  have HP : Hid (RT (fun b => b < w.heap.size) w p _) := Lib.hid ⟨a1, cap1, rfl, hc1, hr1⟩
  have HT : Hid (RT (fun b => b < w.heap.size) w t _) := Lib.hid ⟨a2, cap2, rfl, hc2, hr2⟩
  have HB : Hid (RSl (fun b => b < w.heap.size) w bd _) := Lib.hid ⟨ab, capb, rfl, hcb, hrb⟩
  have HR := Lib.hid hrb
  have HC : Hid (CellsT (fun b => b < w.heap.size) w [p, t] [.int .i64 p.kind, .int .i64 p.n, .string p.name, .slice a1 p.args.length cap1, .int .i64 t.kind, .int .i64 t.n, .string t.name, .slice a2 t.args.length cap2]) :=
    Lib.hid ⟨a1, cap1, _, rfl, hc1, hr1, a2, cap2, _, rfl, hc2, hr2, rfl⟩
  have hlb := length_le_bulk bd
  clear hr1 hr2 hrb hc1 hc2 hcb
  go_enter Try.func98, Try.ntmps98
  go_wp2_with fail
  obtain ⟨W, hW⟩ : ∃ W : World, W = (((w.alloc (.cells #[.int .i64 p.kind, .int .i64 p.n, .string p.name, .slice a1 p.args.length cap1] 24)).alloc (.cells #[.int .i64 t.kind, .int .i64 t.n, .string t.name, .slice a2 t.args.length cap2] 24)).alloc
    (.cells #[.int .i64 p.kind, .int .i64 p.n, .string p.name, .slice a1 p.args.length cap1, .int .i64 t.kind, .int .i64 t.n, .string t.name, .slice a2 t.args.length cap2] 24)) := ⟨_, rfl⟩
  rw [← hW]
  have hWs : W.heap.size = w.heap.size + 1 + 1 + 1 := by rw [hW]; simp
  have hWB : Below w.heap.size w W := by rw [hW]; exact ((below_alloc _ _).alloc (by simp) _).alloc (by simp <;> omega) _
  have HL : Hid (RSl2 (fun b => b = w.heap.size + 1 + 1) (fun b => b < w.heap.size) W [p, t] (.slice (some ⟨w.heap.size + 1 + 1, 0, none⟩) 2 2)) := Lib.hid (by
    rw [hW]
    have hB0 : Below w.heap.size w ((w.alloc (.cells #[.int .i64 p.kind, .int .i64 p.n, .string p.name, .slice a1 p.args.length cap1] 24)).alloc (.cells #[.int .i64 t.kind, .int .i64 t.n, .string t.name, .slice a2 t.args.length cap2] 24)) := (below_alloc _ _).alloc (by simp) _
    have h := RSl2.lit (HC.out.to (S' := fun b => b < w.heap.size) (fun _ h _ => h) (fun b _ hb => hB0.block b hb)) 24
    simp only [World.size_alloc] at h
    exact h)
  have HWx : Hid (W.cell? ⟨w.heap.size, 0, none⟩ = some (.int .i64 p.kind) ∧ W.cell? ⟨w.heap.size, 1, none⟩ = some (.int .i64 p.n) ∧ W.cell? ⟨w.heap.size, 2, none⟩ = some (.string p.name) ∧ W.cell? ⟨w.heap.size, 3, none⟩ = some (.slice a1 p.args.length cap1) ∧
      W.cell? ⟨w.heap.size + 1, 0, none⟩ = some (.int .i64 t.kind) ∧ W.cell? ⟨w.heap.size + 1, 1, none⟩ = some (.int .i64 t.n) ∧ W.cell? ⟨w.heap.size + 1, 2, none⟩ = some (.string t.name) ∧ W.cell? ⟨w.heap.size + 1, 3, none⟩ = some (.slice a2 t.args.length cap2)) := Lib.hid (by rw [hW]; go_simp)
  have HWB := Lib.hid hWB
  clear hW hWB
  go_loopw [19] (fun i wr => ∃ k : Nat, k ≤ 2 ∧ i = .int .i64 k ∧ (1 ≤ k → checkE p = 0) ∧ (2 ≤ k → checkE t = 0) ∧ Below W.heap.size W wr) (fun i _ => 2 - (intOf i).toNat)
  case atStart => exact ⟨0, by omega, rfl, by omega, by omega, Below.refl _ _⟩
  case round =>
    obtain ⟨k, hkl, rfl, hp0, ht0, hB⟩ := hrel
    have HP0 := Lib.hid hp0
    have HT0 := Lib.hid ht0
    have hsr := hB.size
    have HBr := Lib.hid (below_step HWB.out (by omega) hB)
    clear hp0 ht0
    by_cases hlt : k < 2
    · obtain ⟨a', cap', _, d0, d1, d2, d3, hE⟩ := (HL.out.below hB).elem k hlt
      have HFB := Lib.hid (fun h => fitsR_bad (p := p) (t := t) (bd := bd) hlt (fun h1 => HP0.out (by omega)) h)
      have HN1 : Hid (1 ≤ k + 1 → checkE [p, t][k] = 0 → checkE p = 0) := Lib.hid (fun _ h => by
        match k, hlt, h with
        | 0, _, h => exact h
        | 1, _, _ => exact HP0.out (by omega))
      have HN2 : Hid (2 ≤ k + 1 → checkE [p, t][k] = 0 → checkE t = 0) := Lib.hid (fun h2 h => by
        match k, hlt, h2, h with
        | 0, _, h2, _ => omega
        | 1, _, _, h => exact h)
      have hbe : bulkL [[p, t][k]] ≤ 1099511627776 := by
        match k, hlt with
        | 0, _ => exact hbp
        | 1, _ => exact hbt
      generalize [p, t][k] = u at *
      rw [Nat.zero_add] at d0 d1 d2 d3
      have hE := Lib.hid hE
      go_wp2_with fail
      refine (check_c u _ _ _ (hE.out.alloc _) (by omega)).mono ?_
      rintro e w7 ⟨rfl, hB7⟩
      by_cases hu : checkE u = 0
      · have hub : (checkE u != 0) = false := by simp [hu]
        have HU := Lib.hid hu
        clear hu
        go_wp2_with fail
        go_roundw
        case rel => exact ⟨k + 1, by omega, by go_num, fun h => HN1.out h HU.out, fun h => HN2.out h HU.out, below_step (hB.alloc (by omega) _) (by simp <;> omega) hB7⟩
        case measure => simp [intOf]; omega
      · have hub : (checkE u != 0) = true := by simp [hu]
        have HU := Lib.hid (HFB.out hu)
        clear hu
        go_wp2_with fail
        go_ret3
        exact FOo.none HU.out rfl (below_step (HBr.out.alloc (by omega) _) (by simp; omega) hB7)
    · have hk2 : k = 2 := by omega
      subst hk2
      obtain ⟨wo, rfl⟩ : ∃ wo : World, wo = wr := ⟨_, rfl⟩
      have HPC := Lib.hid (HP0.out (by omega))
      have HTC := Lib.hid (HT0.out (by omega))
      obtain ⟨x0, x1, x2, x3, y0, y1, y2, y3⟩ := HWx.out
      have n1 : w.heap.size < W.heap.size := by omega
      have n2 : w.heap.size + 1 < W.heap.size := by omega
      obtain ⟨hcc, -⟩ := bcell hB
      have HPr := Lib.hid (HP.out.below HBr.out)
      have HTr := Lib.hid (HT.out.below HBr.out)
      clear hB
      go_wp2_with fail
      refine (closed_c t _ _ _ HTr.out hbt).mono ?_
      rintro e w2 ⟨rfl, hB2⟩
      have h2 := hB2.size
      have HB2 := Lib.hid (below_step HBr.out (by omega) hB2)
      obtain ⟨hcc2, -⟩ := bcell hB2
      have n3 : w.heap.size < wo.heap.size := by omega
      have n4 : w.heap.size + 1 < wo.heap.size := by omega
      clear hB2
      cases hcl : closedL [t]
      · have HF := Lib.hid (fitsR_form (bd := bd) HPC.out HTC.out (by simp [hcl]))
        go_wp2_with fail
        go_ret3
        exact FOo.none HF.out rfl HB2.out
      have HCL := Lib.hid hcl; clear hcl
      go_wp2_with fail
      refine (bound_c bd _ _ _ (HB.out.below HB2.out) hbb).mono ?_
      rintro e w3 ⟨rfl, hB3⟩
      have h3 := hB3.size
      have HB3 := Lib.hid (below_step HB2.out (by omega) hB3)
      obtain ⟨hcc3, -⟩ := bcell hB3
      have n5 : w.heap.size < w2.heap.size := by omega
      have n6 : w.heap.size + 1 < w2.heap.size := by omega
      clear hB3
      cases hbd : boundB bd
      · have HF := Lib.hid (fitsR_form (bd := bd) HPC.out HTC.out (by simp [hbd]))
        go_wp2_with fail
        go_ret3
        exact FOo.none HF.out rfl HB3.out
      have HBD := Lib.hid hbd; clear hbd
      have hlen := Lib.hid (boundB_len4 HBD.out)
      have HFR := Lib.hid (fitsR_ok (bd := bd) HPC.out HTC.out (by rw [HCL.out, HBD.out]; rfl))
      obtain ⟨X0, X1, X2, X3⟩ : w3.cell? ⟨w.heap.size, 0, none⟩ = some (.int .i64 p.kind) ∧ w3.cell? ⟨w.heap.size, 1, none⟩ = some (.int .i64 p.n) ∧ w3.cell? ⟨w.heap.size, 2, none⟩ = some (.string p.name) ∧ w3.cell? ⟨w.heap.size, 3, none⟩ = some (.slice a1 p.args.length cap1) := by
        rw [hcc3 _ _ n5, hcc3 _ _ n5, hcc3 _ _ n5, hcc3 _ _ n5, hcc2 _ _ n3, hcc2 _ _ n3, hcc2 _ _ n3, hcc2 _ _ n3, hcc _ _ n1, hcc _ _ n1, hcc _ _ n1, hcc _ _ n1]; exact ⟨x0, x1, x2, x3⟩
      obtain ⟨Y0, Y1, Y2, Y3⟩ : w3.cell? ⟨w.heap.size + 1, 0, none⟩ = some (.int .i64 t.kind) ∧ w3.cell? ⟨w.heap.size + 1, 1, none⟩ = some (.int .i64 t.n) ∧ w3.cell? ⟨w.heap.size + 1, 2, none⟩ = some (.string t.name) ∧ w3.cell? ⟨w.heap.size + 1, 3, none⟩ = some (.slice a2 t.args.length cap2) := by
        rw [hcc3 _ _ n6, hcc3 _ _ n6, hcc3 _ _ n6, hcc3 _ _ n6, hcc2 _ _ n4, hcc2 _ _ n4, hcc2 _ _ n4, hcc2 _ _ n4, hcc _ _ n2, hcc _ _ n2, hcc _ _ n2, hcc _ _ n2]; exact ⟨y0, y1, y2, y3⟩
      clear hcc hcc2 hcc3 x0 x1 x2 x3 y0 y1 y2 y3
      go_wp2_with fail
      have hw3 : w.heap.size + 1 < w3.heap.size := by omega
      go_loopw [12, 39] (fun out i wr => ∃ k : Nat, k ≤ bd.length ∧ i = .int .i64 k ∧ OwnG (fun b => w3.heap.size ≤ b) w3.heap.size wr out (bd.take k) ∧ Below w3.heap.size w3 wr) (fun _ i _ => bd.length - (intOf i).toNat)
      case atStart => exact ⟨0, Nat.zero_le _, rfl, OwnG.nil _ _ _, Below.refl _ _⟩
      case round =>
        obtain ⟨k, hkl, rfl, hT, hB⟩ := hrel
        have hsz := hB.size
        have HT4 := Lib.hid hT; clear hT
        have HB4 := Lib.hid (below_step HB3.out (by omega) hB)
        by_cases hlt : k < bd.length
        · obtain ⟨b, o, rfl⟩ := HR.out.addr (by omega)
          obtain ⟨a', cap', hSb, d0, d1, d2, d3, hE⟩ := (HR.out.below HB4.out).elem k hlt
          have hbk := bulk_at hlt
          have hE := Lib.hid hE
          go_wp2_with fail
          refine (copied_c _ _ _ _ (hE.out.alloc _) (by omega)).mono ?_
          rintro e w5 ⟨v1, rfl, hB5, hr1⟩
          have hs1 := hB5.size
          simp only [World.size_alloc] at hs1
          obtain ⟨a5, cap5, rfl, hcap5, hr5⟩ := hr1
          have HR1 : Hid (RT (fun b => wr.heap.size + 1 ≤ b) w5 (bd[k]) _) := Lib.hid ⟨a5, cap5, rfl, hcap5, by simpa using hr5⟩
          have HT1 := Lib.hid ((HT4.out.alloc (.cells #[.int .i64 bd[k].kind, .int .i64 bd[k].n, .string bd[k].name, .slice a' bd[k].args.length cap'] 24)).below hB5)
          have HT0 := Lib.hid HT4.out.block
          clear d0 d1 d2 d3 hcap5 hr5
          have hnn : (bd.take k).length + 1 ≤ 1099511627776 := by simp; omega
          go_wp2_with (at_builtin; refine append_grow _ _ rfl rfl rfl rfl HT1.out HR1.out (fun b hb hl => ⟨by omega, fun he => by have := HT0.out b he; omega⟩) hnn (by omega) ?_; intro v6 w6 hT6 hB6 hw6; have hs6 := hB6.size; have H6 := Lib.hid hT6; clear hT6 hw6)
          go_roundw
          case rel => exact ⟨k + 1, by omega, by go_num, by rw [take_snoc' _ k hlt]; exact H6.out, (below_step (hB.alloc (by omega) _) (by simp <;> omega) hB5).trans hB6⟩
          case measure => simp [intOf]; omega
        · have hkk : k = bd.length := by omega
          subst hkk
          have hT := HT4.out
          rw [List.take_length] at hT
          obtain ⟨g, capg, rfl⟩ := hT.full (by have := hlen.out; omega)
          rw [hlen.out] at hT ⊢
          have HO := Lib.hid hT; clear hT
          obtain ⟨hcc, -⟩ := bcell hB
          have hg := HO.out.block g rfl
          have m1 : w.heap.size < w3.heap.size := by omega
          go_wp2_with fail
          refine (fits_c p t (fun b => b < w.heap.size) w3.heap.size g capg _ _ _ bd (HP.out.below HB4.out) (HT.out.below HB4.out) HO.out (by omega) (fun b hb => by omega) hlen.out hbp hbt (fun y hy => by have := bulk_mem hy; omega) (check_form4 HPC.out)).mono ?_
          rintro e w7 ⟨rfl, hK7, hO7⟩
          have HB7 := Lib.hid (HB4.out.trans (hK7.below (B := w.heap.size) (by omega) (fun b hb => by omega)))
          have HO7 := Lib.hid hO7
          clear hK7 hO7
          cases hz : (fitT p t bd).1
          · have HF := Lib.hid (show fitsR p t bd = (0, none) by rw [HFR.out, fitO_no hz])
            go_wp2_with fail
            go_ret3
            exact FOo.none HF.out rfl HB7.out
          · have HF := Lib.hid (show fitsR p t bd = (0, some (fitT p t bd).2) by rw [HFR.out, fitO_yes hz])
            go_wp2_with fail
            go_ret3
            exact FOo.some HF.out rfl HB7.out ((HO7.out.rsl fun b hb => hb).mono fun b hb => by omega) ⟨w3.heap.size, g, capg, by omega, rfl, HO7.out⟩
end Go.Proofs.Ytedfepnekjjmnab

/-
 Which message fits, and its clause: in plain words. No condition.
-/
namespace Go.Proofs.Ytedfepnekjjmnab
open Go.RowKit
set_option linter.unusedSimpArgs false
set_option linter.unusedVariables false

/-- What is bound where a clause fits a state and a message. -/
def clFit (c : Clau) (st m : T) : Option (List T) := (fitsR c.state st freeL).2.bind fun bd => (fitsR c.message m bd).2
/-- The first clause that fits. -/
def clFirst (st m : T) : List Clau → Option (Clau × List T)
 | [] => none
 | c :: cs => match clFit c st m with
  | some bd => some (c, bd)
  | none => clFirst st m cs
/-- The first message that a clause fits, counted from k. -/
def msFirst (cs : List Clau) (st : T) : Nat → List T → Option (Nat × Clau × List T)
 | _, [] => none
 | k, m :: ms => match clFirst st m cs with
  | some (c, bd) => some (k, c, bd)
  | none => msFirst cs st (k + 1) ms
theorem clFirst_none (st m : T) (cs : List Clau) : (∀ c ∈ cs, clFit c st m = none) → clFirst st m cs = none := by
 induction cs with
 | nil => intro _; rfl
 | cons c cs ih =>
  intro h
  unfold clFirst
  rw [h c (List.mem_cons_self ..)]
  exact ih fun d hd => h d (List.mem_cons_of_mem _ hd)
theorem clFirst_some (st m : T) (cs : List Clau) (k : Nat) (hk : k < cs.length) (hn : ∀ j (h : j < cs.length), j < k → clFit cs[j] st m = none) {bd : List T} (h : clFit cs[k] st m = some bd) : clFirst st m cs = some (cs[k], bd) := by
 induction cs generalizing k with
 | nil => cases hk
 | cons c cs ih =>
  cases k with
  | zero =>
   have h : clFit c st m = some bd := h
   unfold clFirst
   rw [h]; rfl
  | succ k =>
   have h0 : clFit c st m = none := hn 0 (by simp) (by omega)
   unfold clFirst
   rw [h0]
   exact ih k (Nat.lt_of_succ_lt_succ hk) (fun j hj hjk => hn (j + 1) (Nat.succ_lt_succ hj) (by omega)) h
theorem msFirst_none (cs : List Clau) (st : T) (ms : List T) : ∀ k, (∀ j (h : j < ms.length), clFirst st ms[j] cs = none) → msFirst cs st k ms = none := by
 induction ms with
 | nil => intro _ _; rfl
 | cons m ms ih =>
  intro k h
  have h0 : clFirst st m cs = none := h 0 (by simp)
  unfold msFirst
  rw [h0]
  exact ih (k + 1) fun j hj => h (j + 1) (Nat.succ_lt_succ hj)
theorem msFirst_some (cs : List Clau) (st : T) (ms : List T) : ∀ (k i : Nat) (hi : i < ms.length), (∀ j (h : j < ms.length), j < i → clFirst st ms[j] cs = none) → ∀ {c : Clau} {bd : List T}, clFirst st ms[i] cs = some (c, bd) → msFirst cs st k ms = some (k + i, c, bd) := by
 induction ms with
 | nil => intro k i hi; cases hi
 | cons m ms ih =>
  intro k i hi hn c bd h
  cases i with
  | zero =>
   have h : clFirst st m cs = some (c, bd) := h
   unfold msFirst
   rw [h]; rfl
  | succ i =>
   have h0 : clFirst st m cs = none := hn 0 (by simp) (by omega)
   unfold msFirst
   rw [h0]
   have := ih (k + 1) i (Nat.lt_of_succ_lt_succ hi) (fun j hj hjk => hn (j + 1) (Nat.succ_lt_succ hj) (by omega)) h
   rw [this, show k + 1 + i = k + (i + 1) by omega]
/-- What fits has four places. -/
theorem fitsR_len {p t : T} {bd l : List T} (h : (fitsR p t bd).2 = some l) : checkE p = 0 ∧ checkE t = 0 ∧ closedL [t] = true ∧ boundB bd = true := by
 unfold fitsR at h
 split at h
 ·cases h
 ·split at h
  ·cases h
  ·split at h
   ·cases h
   ·rename_i h1 h2 h3
    have h3 : (closedL [t] && boundB bd) = true := by simpa using h3
    rw [Bool.and_eq_true] at h3
    exact ⟨by simpa using h1, by simpa using h2, h3.1, h3.2⟩
theorem fitsR_out {p t : T} {bd l : List T} (h : (fitsR p t bd).2 = some l) (ht : bulkL [t] ≤ 2000) (hb : ∀ y ∈ bd, bulkL [y] ≤ 2000) : l.length = 4 ∧ ∀ y ∈ l, bulkL [y] ≤ 2000 := by
 obtain ⟨h1, h2, h3, h4⟩ := fitsR_len h
 rw [fitsR_ok h1 h2 (by rw [h3, h4]; rfl)] at h
 have h : fitO p t bd = some l := h
 unfold fitO at h
 split at h
 ·simp only [Option.some.injEq] at h
  subst h
  exact ⟨by rw [fitT_length, boundB_len4 h4], fitT_bulk 2000 p t bd ht hb⟩
 ·cases h
theorem freeL_small : ∀ y ∈ freeL, bulkL [y] ≤ 2000 := by
 intro y hy
 have h := bulk_mem hy
 have : bulkL freeL ≤ 2000 := by simp [freeL, anyT, bulkL, ByteArray.size]
 omega
theorem bulk_eachP (M : Nat) : ∀ l : List T, (∀ y ∈ l, bulkL [y] ≤ M) → bulkL l ≤ l.length * M
 | [], _ => by simp [bulkL]
 | t :: l, h => by
  have e : bulkL (t :: l) = bulkL [t] + bulkL l := bulkL_append [t] l
  have h1 := h t (by simp)
  have h2 := bulk_eachP M l fun y hy => h y (by simp [hy])
  rw [e, List.length_cons, Nat.add_mul]; omega
end Go.Proofs.Ytedfepnekjjmnab

/-
 A region that draws its order, gone through one operation at a time: each move by a law of its own. No condition.
-/
namespace Go.Proofs.Ytedfepnekjjmnab
open Go.RowKit
set_option linter.unusedSimpArgs false
set_option linter.unusedVariables false

section
variable {P : Program} {ops : Array Oper} {Q : Exit → Act → World → Prop} {S : World → Prop} {fuel : Nat} {listed : Array Bool} {a : Act} {w : World} {i : Nat} {oi : Oper} {tl : List Oper}
theorem rg_at {ops : Array Oper} {i : Nat} {oi : Oper} {tl : List Oper} (h : ops.toList.drop i = oi :: tl) : ops[i]? = some oi := by
 have h1 : (ops.toList.drop i)[0]? = some oi := by rw [h]; rfl
 rw [List.getElem?_drop] at h1
 simpa using h1
/-- The beginning, the world behind the draw a letter. -/
theorem rg_start (S : World → Prop) {id : Nat} (hm : P.follows .mixedOrders = true) (hS : ∀ Wd, Below w.heap.size w Wd → S Wd)
  (h : ∀ Wd, Below w.heap.size w Wd → w.heap.size ≤ Wd.heap.size → Wd.heap.size ≤ w.heap.size → S Wd → wpAnyH P .any ops (NoPanic Q) S ops.size (Array.replicate ops.size false) a Wd) : (Code.region id ops true).wp P Q a w :=
 wp_region_noPanic (wp_region_held hm (h w.drew (Below.refl _ _).drew (Nat.le_refl _) (Nat.le_refl _) (hS _ (Below.refl _ _).drew)))
/-- An operation that only reads what S says. -/
theorem rg_take (v : Value) (hi : ops.toList.drop i = oi :: tl) (hs : Region.noSelect ops = true) (hf : Region.free .any ops listed i = true) (hr : (Region.ready .any ops listed).contains i = true)
  (hw : Region.wanted oi (yielded ops a.tmps) = true) (hy : ∀ w, S w → (execOp a.eval oi).run P w = .ok (.value v) w) (hS : S w)
  (h : wpAnyH P .any ops (NoPanic Q) S fuel (listed.setIfInBounds i true) (a.put oi.dst v) w) : wpAnyH P .any ops (NoPanic Q) S (fuel + 1) listed a w :=
 wpAnyH_take (rg_at hi) hs hf hr (fun _ _ _ h => h) (.inl ⟨hw, hy⟩) hS h
theorem rg_tk (i : Nat) (v : Value) {oi : Oper} {tl : List Oper} (hi : ops.toList.drop i = oi :: tl) (hc : (Region.noSelect ops && Region.free .any ops listed i && (Region.ready .any ops listed).contains i) = true)
  (hw : Region.wanted oi (yielded ops a.tmps) = true) (hy : ∀ w, S w → (execOp a.eval oi).run P w = .ok (.value v) w) (hS : S w)
  (h : wpAnyH P .any ops (NoPanic Q) S fuel (listed.setIfInBounds i true) (a.put oi.dst v) w) : wpAnyH P .any ops (NoPanic Q) S (fuel + 1) listed a w := by
 simp only [Bool.and_eq_true] at hc
 exact rg_take v hi hc.1.1 hc.1.2 hc.2 hw hy hS h
/-- One whose guard says no. -/
theorem rg_off (hi : ops.toList.drop i = oi :: tl) (hs : Region.noSelect ops = true) (hf : Region.free .any ops listed i = true) (hr : (Region.ready .any ops listed).contains i = true)
  (hw : Region.wanted oi (yielded ops a.tmps) = false) (hS : S w)
  (h : wpAnyH P .any ops (NoPanic Q) S fuel (listed.setIfInBounds i true) (a.put oi.dst undef) w) : wpAnyH P .any ops (NoPanic Q) S (fuel + 1) listed a w :=
 wpAnyH_take (rg_at hi) hs hf hr (fun _ _ _ h => h) (.inr ⟨hw, rfl⟩) hS h
/-- The one operation that may come up. -/
theorem rg_only (hi : ops.toList.drop i = oi :: tl) (hr : Region.ready .any ops listed = [i]) (hw : Region.wanted oi (yielded ops a.tmps) = true)
  (h : ∀ K : Act → World → Prop, Hid (∀ a' w', S w' → (S w' → wpAnyH P .any ops (NoPanic Q) S fuel (listed.setIfInBounds i true) a' w') → K a' w') → Oper.wp P oi a w K (NoPanic Q)) : wpAnyH P .any ops (NoPanic Q) S (fuel + 1) listed a w := by
 refine wpAnyH_all hr (by simp) fun j hj => ?_
 obtain rfl : j = i := by simpa using hj
 unfold wpOp
 simp only [rg_at hi, hw, if_true]
 exact .inl (h _ (Lib.hid fun a' w' h1 h2 => ⟨h1, h2 h1⟩))
/-- Two that may come up. -/
theorem rg_two {j : Nat} {oj : Oper} {tlj : List Oper} (hi : ops.toList.drop i = oi :: tl) (hj : ops.toList.drop j = oj :: tlj) (hr : Region.ready .any ops listed = [i, j]) (hw : Region.wanted oi (yielded ops a.tmps) = true) (hwj : Region.wanted oj (yielded ops a.tmps) = true)
  (h : ∀ K : Act → World → Prop, Hid (∀ a' w', S w' → (S w' → wpAnyH P .any ops (NoPanic Q) S fuel (listed.setIfInBounds i true) a' w') → K a' w') → Oper.wp P oi a w K (NoPanic Q))
  (h' : ∀ K : Act → World → Prop, Hid (∀ a' w', S w' → (S w' → wpAnyH P .any ops (NoPanic Q) S fuel (listed.setIfInBounds j true) a' w') → K a' w') → Oper.wp P oj a w K (NoPanic Q)) : wpAnyH P .any ops (NoPanic Q) S (fuel + 1) listed a w := by
 refine wpAnyH_all hr (by simp) fun m hm => ?_
 simp only [List.mem_cons, List.not_mem_nil, or_false] at hm
 rcases hm with rfl | rfl
 ·unfold wpOp
  simp only [rg_at hi, hw, if_true]
  exact .inl (h _ (Lib.hid fun a' w' h1 h2 => ⟨h1, h2 h1⟩))
 ·unfold wpOp
  simp only [rg_at hj, hwj, if_true]
  exact .inl (h' _ (Lib.hid fun a' w' h1 h2 => ⟨h1, h2 h1⟩))
theorem rg_done (hr : Region.ready .any ops listed = []) (h : Q .normal a w) : wpAnyH P .any ops (NoPanic Q) S fuel listed a w := wpAnyH_done hr (NoPanic.normal h) fuel
end
section
variable {o : Oper} {a : Act} {Q : Exit → Act → World → Prop} {K : Act → World → Prop} {w : World}
/-- 'x = v' of a struct variable. -/
theorem wp_store_blk (ty : TypeId) (k : Nat) (hi : (Try.prog.info? ty).map (·.size) = some k) (x y : Operand) (ho : o.op = .store ty x y) (hd : o.dst = none)
  {B : Nat} {old : List Value} {cells : Array Value} (hx : a.eval x = .pointer (some ⟨B, 0, none⟩)) (hy : a.eval y = .agg cells) (hB : Blk w B old) (hl : old.length = k) (hc : cells.size = k) (h1 : cells.toList.all (·.oneCell') = true)
  (h : ∀ w', Blk w' B cells.toList → w'.heap.size = w.heap.size → (∀ N a, N ≤ B → Below N a w → Below N a w') → (∀ b, b ≠ B → w'.heap[b]? = w.heap[b]?) → K a w') :
  Oper.wp Try.prog o a w K Q := by
 have hk : old.length = cells.size := by omega
 refine wp_store_mid ty x y ho B 0 cells hx hy (by rw [← hk]; exact hB.there) (by rw [hi, hc]) (by rw [← Array.all_toList]; exact h1) ?_
 rw [hd, setCells_all]
 have hs := setAll_heap w B cells.toList 0
 exact h _ (hB.stored _ (by simpa using hk.symm)) hs.1 (fun N a hN hb => setAll_below hb B hN _ _) hs.2
/-- 'append(s, x)', whatever the element. -/
theorem wp_growX {X : Type} {E : El X} (F : ElT E) (s x : Operand) (hgd : o.guard = none) (ho : o.op = .call { callee := .builtin .append, args := #[s, x], argTypes := #[F.sl, F.sl] })
  {P R : Nat → Prop} {base : Nat} {w0 : World} {v : Value} {xs : List X} {y : X} {c : Array Value} {g0 n : Nat} (hs : a.eval s = v) (hx : a.eval x = .slice (some ⟨g0, 0, none⟩) 1 1) (hg0 : g0 = w0.heap.size) (hown : OwnXG E F.e P base w0 v xs)
  (ht : E.C R w0 y c.toList) (hR : ∀ b, R b → b < w0.heap.size → P b ∧ v.ownBlock ≠ some b) (hnl : xs.length = n) (hn : n + 1 ≤ 274877906944) (hbase : base ≤ w0.heap.size)
  (h : ∀ g cap w', OwnXG E F.e P base w' (.slice (some ⟨g, 0, none⟩) (n + 1) cap) (xs ++ [y]) → Below base w0 w' → (w0.alloc (.cells c F.e)).grownBy w' v.ownBlock → (v.ownBlock = some g ∨ w0.heap.size < g) → K (a.put o.dst (.slice (some ⟨g, 0, none⟩) (n + 1) cap)) w') :
  Oper.wp Try.prog o a (w0.alloc (.cells c F.e)) K Q := by
 have h1 := step_growX (ops := #[]) (Q := Q) (W := True) F s x hgd ho hs hx hg0 hown ht hR hnl hn hbase h
 rwa [if_pos (by simp [Region.wanted, hgd])] at h1
end
end Go.Proofs.Ytedfepnekjjmnab

/-
 A slice of terms written out, at an operation. No condition.
-/
namespace Go.Proofs.Ytedfepnekjjmnab
open Go.RowKit
set_option linter.unusedSimpArgs false
set_option linter.unusedVariables false
section
variable {o : Oper} {a : Act} {Q : Exit → Act → World → Prop} {K : Act → World → Prop} {w : World}
set_option maxHeartbeats 1000000 in
theorem build1 (x0 : Operand) (ho : o.op = .buildSlice 22 1 #[(0, x0)]) {c00 c01 c02 c03 : Value} (h0 : a.eval x0 = .agg #[c00, c01, c02, c03])
  (h : K (a.put o.dst (.slice (some ⟨w.heap.size, 0, none⟩) 1 1)) (w.alloc (.cells #[c00, c01, c02, c03] 24))) : Oper.wp Try.prog o a w K Q := by
 obtain ⟨i, hi, hz, hs, hb⟩ := info_parts info24
 refine wp_buildSlice 22 24 1 _ ho #[c00, c01, c02, c03] i _ Try.underlying22 hi hz (by rw [hs]; decide) (by rw [hs]; decide) ?_ h
 rw [hs]
 have e := Great.fill_whole (s := 4) (by decide) [.agg #[c00, c01, c02, c03]] ((Array.range (1 * 4)).map ((Value.agg #[.int .i64 0, .int .i64 0, .string ⟨#[]⟩, .slice none 0 0]).cells[· % (Value.agg #[.int .i64 0, .int .i64 0, .string ⟨#[]⟩, .slice none 0 0]).cells.size]!)) (by simp [Value.cells]) (by simp)
 simp only [Array.toList_map, List.map_cons, List.map_nil, h0]
 exact e
set_option maxHeartbeats 1000000 in
theorem build2 (x0 x1 : Operand) (ho : o.op = .buildSlice 22 2 #[(0, x0), (1, x1)]) {c00 c01 c02 c03 c10 c11 c12 c13 : Value} (h0 : a.eval x0 = .agg #[c00, c01, c02, c03]) (h1 : a.eval x1 = .agg #[c10, c11, c12, c13])
  (h : K (a.put o.dst (.slice (some ⟨w.heap.size, 0, none⟩) 2 2)) (w.alloc (.cells #[c00, c01, c02, c03, c10, c11, c12, c13] 24))) : Oper.wp Try.prog o a w K Q := by
 obtain ⟨i, hi, hz, hs, hb⟩ := info_parts info24
 refine wp_buildSlice 22 24 2 _ ho #[c00, c01, c02, c03, c10, c11, c12, c13] i _ Try.underlying22 hi hz (by rw [hs]; decide) (by rw [hs]; decide) ?_ h
 rw [hs]
 have e := Great.fill_whole (s := 4) (by decide) [.agg #[c00, c01, c02, c03], .agg #[c10, c11, c12, c13]] ((Array.range (2 * 4)).map ((Value.agg #[.int .i64 0, .int .i64 0, .string ⟨#[]⟩, .slice none 0 0]).cells[· % (Value.agg #[.int .i64 0, .int .i64 0, .string ⟨#[]⟩, .slice none 0 0]).cells.size]!)) (by simp [Value.cells]) (by simp)
 simp only [Array.toList_map, List.map_cons, List.map_nil, h0, h1]
 exact e
end
end Go.Proofs.Ytedfepnekjjmnab

/-
 code.Named: the first behaviour of a name. No condition but the row's length.
-/
namespace Go.Proofs.Ytedfepnekjjmnab
open Go.RowKit
set_option linter.unusedSimpArgs false
set_option linter.unusedVariables false
set_option maxRecDepth 100000

set_option maxHeartbeats 1000000 in
theorem named1_c (s nm : ByteArray) (a : Option Addr) (n cap : Nat) (g : Nat) (w : World) (h : w.cell? ⟨g, 0, none⟩ = some (.string s)) :
  Calls Try.prog 97 #[.agg #[.string nm, .slice a n cap], .pointer (some ⟨g, 0, none⟩)] w fun e w' => e = .returned (.bool (nm.toList == s.toList)) ∧ Below w.heap.size w w' := by
 have hl := World.block_lt_of_cell? w _ h
 go_enter Try.func97, Try.ntmps97
 go_wp2_with fail
 go_ret
 exact ⟨rfl, below_alloc _ _⟩
/-- Where the first behaviour of a name is; -1: there is none. -/
def namedI (s : ByteArray) : List Behv → Int
 | [] => -1
 | b :: l => if b.name.toList == s.toList then 0 else (if namedI s l < 0 then -1 else namedI s l + 1)
theorem namedI_none (s : ByteArray) : ∀ l : List Behv, (∀ j (h : j < l.length), (l[j].name.toList == s.toList) = false) → namedI s l = -1
 | [], _ => rfl
 | b :: l, h => by
  have h0 : (b.name.toList == s.toList) = false := h 0 (by simp)
  have h1 := namedI_none s l fun j hj => h (j + 1) (Nat.succ_lt_succ hj)
  unfold namedI
  rw [h0, h1]; rfl
theorem namedI_some (s : ByteArray) : ∀ (l : List Behv) (k : Nat) (hk : k < l.length), (∀ j (h : j < l.length), j < k → (l[j].name.toList == s.toList) = false) → (l[k].name.toList == s.toList) = true → namedI s l = k
 | b :: l, 0, _, _, h => by
  have h0 : (b.name.toList == s.toList) = true := h
  unfold namedI
  rw [h0]; rfl
 | b :: l, k + 1, hk, hn, h => by
  have h0 : (b.name.toList == s.toList) = false := hn 0 (by simp) (by omega)
  have h1 := namedI_some s l k (by simpa using hk) (fun j hj hjk => hn (j + 1) (Nat.succ_lt_succ hj) (by omega)) h
  unfold namedI
  rw [h0, h1, if_neg (by simp), if_neg (by omega)]; omega
set_option maxHeartbeats 2000000 in
theorem indexB_c (l : List Behv) (s : ByteArray) (S : Nat → Prop) (a : Option Addr) (cap : Nat) (g : Nat) (w : World) (hv : RX behvE S S w l (.slice a l.length cap)) (h : w.cell? ⟨g, 0, none⟩ = some (.string s)) (hl : l.length ≤ 1099511627776) :
  Calls Try.prog 96 #[.slice a l.length cap, .func (.func 97) #[] #[.pointer (some ⟨g, 0, none⟩)]] w fun e w' => e = .returned (.int .i64 (namedI s l)) ∧ Below w.heap.size w w' := by
 have HV := Lib.hid hv
 have HC := Lib.hid h
 clear hv h
 go_enter Try.func96, Try.ntmps96
 go_wp2_with fail
 go_loopw [8] (fun i wr => ∃ k : Nat, k ≤ l.length ∧ i = .int .i64 (k : Int) ∧ Below w.heap.size w wr ∧ ∀ j (h : j < l.length), j < k → (l[j].name.toList == s.toList) = false) (fun i _ => l.length - (intOf i).toNat)
 case atStart => exact ⟨0, Nat.zero_le _, rfl, Below.refl _ _, fun j _ h => absurd h (Nat.not_lt_zero _)⟩
 case round =>
  obtain ⟨k, hk, rfl, hB, hN⟩ := hrel
  have HB := Lib.hid hB; have HN := Lib.hid hN
  clear hB hN
  by_cases hlt : k < l.length
  ·obtain ⟨b, o, rfl⟩ := HV.out.addr (by decide) (by omega)
   obtain ⟨c, ⟨ac, pc, rfl, -⟩, hc2⟩ := HV.out.elem k hlt
   have x0 := (HB.out.cell (World.block_lt_of_cell? _ _ (hc2 0 _ rfl).2)).trans (hc2 0 _ rfl).2
   have x1 := (HB.out.cell (World.block_lt_of_cell? _ _ (hc2 1 _ rfl).2)).trans (hc2 1 _ rfl).2
   obtain ⟨bh, hbh⟩ : ∃ bh, bh = l[k] := ⟨_, rfl⟩
   rw [← hbh] at x0 x1
   have x0 : wr.cell? ⟨b, o + k * 2, none⟩ = some (.string bh.name) := x0
   have x1 : wr.cell? ⟨b, o + k * 2 + 1, none⟩ = some (.slice ac bh.clauses.length pc) := x1
   have HBH := Lib.hid hbh
   clear hc2 hbh
   go_wp2_with fail
   refine (named1_c s bh.name ac bh.clauses.length pc g wr ((HB.out.cell (World.block_lt_of_cell? _ _ HC.out)).trans HC.out)).mono ?_
   rintro e w1 ⟨rfl, hB1⟩
   have HB1 : Hid (Below w.heap.size w w1) := Lib.hid (below_step HB.out HB.out.size hB1)
   clear hB1 x0 x1
   cases hq : (bh.name.toList == s.toList)
   ·have HQ := Lib.hid hq
    clear hq
    go_wp2_with fail
    go_roundw
    case rel => exact ⟨k + 1, by omega, by go_num, HB1.out, fun j hj hjk => by
     rcases Nat.lt_or_ge j k with h | h
     ·exact HN.out j hj h
     ·obtain rfl : j = k := by omega
      rw [← HBH.out]; exact HQ.out⟩
    case measure => simp [intOf]; omega
   ·have HI : Hid (namedI s l = k) := Lib.hid (namedI_some s l k hlt HN.out (by rw [← HBH.out]; exact hq))
    clear hq
    go_wp2_with fail
    go_ret
    exact ⟨by rw [HI.out]; rfl, HB1.out⟩
  ·have hk2 : k = l.length := by omega
   have HI : Hid (namedI s l = -1) := Lib.hid (namedI_none s l fun j hj => HN.out j hj (by omega))
   subst hk2
   go_wp2_with fail
   go_ret
   exact ⟨by rw [HI.out]; rfl, HB.out⟩
end Go.Proofs.Ytedfepnekjjmnab

/-
 code.Named: the first behaviour of a name. No condition but the row's length.
-/
namespace Go.Proofs.Ytedfepnekjjmnab
open Go.RowKit
set_option linter.unusedSimpArgs false
set_option linter.unusedVariables false
set_option maxRecDepth 100000

theorem szBehN : (Try.prog.info? 127).map (·.size) = some 2 := by kernel_rfl
theorem namedI_cases (s : ByteArray) : ∀ l : List Behv, namedI s l = -1 ∨ ∃ k : Nat, namedI s l = k ∧ k < l.length
 | [] => .inl rfl
 | b :: l => by
  unfold namedI
  by_cases h : (b.name.toList == s.toList) = true
  ·rw [if_pos h]; exact .inr ⟨0, rfl, by simp⟩
  ·rw [if_neg h]
   rcases namedI_cases s l with h1 | ⟨k, h1, h2⟩
   ·rw [h1]; exact .inl rfl
   ·rw [h1, if_neg (by omega)]; exact .inr ⟨k + 1, by omega, Nat.succ_lt_succ h2⟩
/-- What Named answers. -/
def NamedP (S : Nat → Prop) (w : World) (l : List Behv) (s : ByteArray) (e : Ending) (w' : World) : Prop :=
 Below w.heap.size w w' ∧ ((namedI s l = -1 ∧ e = .returned (.tuple #[.agg #[.string ⟨#[]⟩, .slice none 0 0], .bool false])) ∨
  ∃ (k : Nat) (hk : k < l.length) (a : Option Addr) (p : Nat), namedI s l = k ∧ e = .returned (.tuple #[.agg #[.string l[k].name, .slice a l[k].clauses.length p], .bool true]) ∧ RX clauE S S w' l[k].clauses (.slice a l[k].clauses.length p))
set_option maxHeartbeats 2000000 in
theorem named_c (l : List Behv) (s : ByteArray) (S : Nat → Prop) (a : Option Addr) (cap : Nat) (w : World) (hv : RX behvE S S w l (.slice a l.length cap)) (hS : ∀ b, S b → b < w.heap.size) (hl : l.length ≤ 1099511627776) :
  Calls Try.prog 66 #[.slice a l.length cap, .string s] w (NamedP S w l s) := by
 obtain ⟨W0, hW0⟩ : ∃ W : World, W = (w.alloc (.cells #[.string s] 9)).alloc (.cells #[.string ⟨#[]⟩, .slice none 0 0] 127) := ⟨_, rfl⟩
 obtain ⟨g3, hg3⟩ : ∃ g, g = w.heap.size := ⟨_, rfl⟩
 obtain ⟨g4, hg4⟩ : ∃ g, g = w.heap.size + 1 := ⟨_, rfl⟩
 have HB0 : Hid (Below w.heap.size w W0) := Lib.hid (by rw [hW0]; exact (below_alloc _ _).trans ((below_alloc _ _).mono (by simp)))
 have HX3 : Hid (Blk W0 g3 [.string s]) := Lib.hid (by rw [hW0, hg3]; exact (Blk.new _ _ _ _ rfl).alloc _)
 have HX4 : Hid (Blk W0 g4 [.string ⟨#[]⟩, .slice none 0 0]) := Lib.hid (by rw [hW0]; exact Blk.new _ _ _ _ (by rw [hg4]; simp))
 have hs0 : W0.heap.size = w.heap.size + 2 := by rw [hW0]; simp
 have HV0 : Hid (RX behvE S S W0 l (.slice a l.length cap)) := Lib.hid (hv.to (fun _ h _ => h) (fun _ h _ => h) fun b hb hl => HB0.out.block b hl)
 have HG : Hid (g3 = w.heap.size ∧ g4 = w.heap.size + 1 ∧ W0.heap.size = w.heap.size + 2) := Lib.hid ⟨hg3, hg4, hs0⟩
 have HSS := Lib.hid hS
 clear hv hS
 go_enter Try.func66, Try.ntmps66
 go_upto_region 1 with fail
 rw [← hW0, ← hg4, ← hg3]
 clear hW0 hg3 hg4
 go_wp2_with fail
 refine (indexB_c l s S a cap g3 W0 HV0.out (HX3.out.cell 0 _ rfl) hl).mono ?_
 rintro e w1 ⟨rfl, hB1⟩
 have HB1 := Lib.hid hB1
 have HX41 : Hid (Blk w1 g4 [.string ⟨#[]⟩, .slice none 0 0]) := Lib.hid (HX4.out.step hB1)
 clear hB1
 rcases namedI_cases s l with hn | ⟨k, hk, hkl⟩
 ·have HN := Lib.hid hn
  rw [hn]
  clear hn
  go_wp2_with (first | (refine store_blk 127 2 szBehN _ _ rfl rfl rfl rfl rfl HX41.out rfl rfl rfl ?_; intro W3 hF3 hs3 hBW3 hoth3; have HF3 := Lib.hid hF3; have HBW3 := Lib.hid hBW3; have HO3 := Lib.hid hoth3; clear hF3 hs3 hBW3 hoth3))
  refine bodyPost_ret (results_blk Try.results66 szBehN _ Try.underlying127 rfl rfl HF3.out rfl) rfl ⟨HBW3.out _ _ (by have := HG.out; omega) (HB0.out.trans (HB1.out.mono (by omega))), .inl ⟨HN.out, rfl⟩⟩
 ·have HN := Lib.hid hk
  rw [hk]
  clear hk
  obtain ⟨b, o, rfl⟩ := HV0.out.addr (by decide) (by omega)
  obtain ⟨c, ⟨ac, pc, rfl, hr⟩, hc2⟩ := HV0.out.elem k hkl
  have x0 : w1.cell? ⟨b, o + k * 2, none⟩ = some (.string l[k].name) := (HB1.out.cell (World.block_lt_of_cell? _ _ (hc2 0 _ rfl).2)).trans (hc2 0 _ rfl).2
  have x1 : w1.cell? ⟨b, o + k * 2 + 1, none⟩ = some (.slice ac l[k].clauses.length pc) := (HB1.out.cell (World.block_lt_of_cell? _ _ (hc2 1 _ rfl).2)).trans (hc2 1 _ rfl).2
  have HRR := Lib.hid hr
  obtain ⟨bh, hbh⟩ : ∃ bh, bh = l[k] := ⟨_, rfl⟩
  rw [← hbh] at x0 x1 HRR
  have HBH := Lib.hid hbh
  have qk : (k : Int) < (l.length : Int) := by omega
  have qk0 : ¬ (k : Int) < 0 := by omega
  clear hc2 hr hbh
  go_wp2_with (first | (refine store_blk 127 2 szBehN _ _ rfl rfl rfl rfl rfl HX41.out rfl rfl rfl ?_; intro W3 hF3 hs3 hBW3 hoth3; have HF3 := Lib.hid hF3; have HBW3 := Lib.hid hBW3; have HO3 := Lib.hid hoth3; clear hF3 hs3 hBW3 hoth3))
  refine bodyPost_ret (results_blk Try.results66 szBehN _ Try.underlying127 rfl rfl HF3.out rfl) rfl ⟨HBW3.out _ _ (by have := HG.out; omega) (HB0.out.trans (HB1.out.mono (by omega))), .inr ⟨k, hkl, ac, pc, HN.out, by rw [← HBH.out]; rfl, ?_⟩⟩
  rw [← HBH.out]
  exact HRR.out.to (fun _ h _ => h) (fun _ h _ => h) fun b hb hl => by
   have hb' := HSS.out b (hb.elim id id)
   have := HG.out
   exact (HO3.out b (by omega)).trans (HB1.out.block b hl)
end Go.Proofs.Ytedfepnekjjmnab

/-
 clerkref.value: what it answers. Conditions: a formed term, four bound ones.
-/
namespace Go.Proofs.Ytedfepnekjjmnab
open Go.RowKit
set_option linter.unusedSimpArgs false
set_option linter.unusedVariables false

def VPost (S : Nat → Prop) (w : World) (o : Option T) (e : Ending) (w' : World) : Prop :=
 ∃ t v b, e = .returned (.tuple #[v, .bool b]) ∧ Below w.heap.size w w' ∧ RT (fun b => S b ∨ w.heap.size ≤ b) w' t v ∧ o = if b then some t else none
theorem VPost.of {S : Nat → Prop} {w w' : World} {o : Option T} {e : Ending} (t : T) (v : Value) (b : Bool) (he : e = .returned (.tuple #[v, .bool b])) (hB : Below w.heap.size w w')
  (hr : RT (fun b => S b ∨ w.heap.size ≤ b) w' t v) (ho : o = if b then some t else none) : VPost S w o e w' := ⟨t, v, b, he, hB, hr, ho⟩
theorem RT.slot {S : Nat → Prop} {w : World} {t : T} {v : Value} (h : RT S w t v) (B o : Nat) (u : Value) (hP : ∀ b, S b → b ≠ B) : RT S (w.setCell ⟨B, o, none⟩ u) t v :=
 h.to (fun _ h _ => h) fun b hb _ => setCell_other w B o u b (hP b hb)

section
variable {bd : List T} {self : Int} {x : T} {S : Nat → Prop} {w : World} {v vb : Value}

end
end Go.Proofs.Ytedfepnekjjmnab

/-
 clerkref.value on tuples, and in all.
-/
namespace Go.Proofs.Ytedfepnekjjmnab
open Go.RowKit
set_option linter.unusedSimpArgs false
set_option linter.unusedVariables false
section
variable {bd : List T} {self : Int} {x : T} {S : Nat → Prop} {w : World} {v vb : Value}

end
end Go.Proofs.Ytedfepnekjjmnab

/-
 reckon.sum: what it answers. No condition.
-/
namespace Go.Proofs.Ytedfepnekjjmnab
open Go.RowKit
set_option linter.unusedSimpArgs false
set_option linter.unusedVariables false

theorem sumB_eq (x y : T) : sumB x y = (x.kind == 1 && y.kind == 1 && inB (sumN x y) (-1099511627776) 1099511627776) := rfl

set_option maxHeartbeats 2000000 in
theorem sum_c (x y : T) (S S' : Nat → Prop) (w : World) (p q : Value) (hp : RT S w x p) (hq : RT S' w y q) :
  Calls Try.prog 129 #[p, q] w fun e w' => e = .returned (.tuple #[.agg #[.int .i64 1, .int .i64 (sumN x y), .string ⟨#[]⟩, .slice none 0 0], .bool (sumB x y)]) ∧ Below w.heap.size w w' := by
 obtain ⟨a1, cap1, rfl, hc1, hr1⟩ := hp
 obtain ⟨a2, cap2, rfl, hc2, hr2⟩ := hq
 clear hc1 hr1 hc2 hr2
 have HB := Lib.hid (sumB_eq x y)
 have hN := Lib.hid (show sumN x y = wrap64 (x.n + y.n) from rfl)
 have h1 : w.heap.size < w.heap.size + 1 + 1 := by omega
 have h2 : w.heap.size < w.heap.size + 1 + 1 + 1 := by omega
 have h3 : w.heap.size + 1 < w.heap.size + 1 + 1 + 1 := by omega
 have HBB : Hid (∀ o1 o2 o3, Below w.heap.size w (((w.alloc o1).alloc o2).alloc o3)) := Lib.hid fun o1 o2 o3 => ((below_alloc _ _).alloc (by simp) _).alloc (by simp <;> omega) _
 cases hk1 : (x.kind == 1)
 ·have HS2 := Lib.hid (show sumB x y = false by rw [HB.out, hk1]; rfl)
  go_enter Try.func129, Try.ntmps129
  go_wp2_with fail
  refine bodyPost_ret (v := .tuple #[.agg #[.int .i64 1, .int .i64 (sumN x y), .string ⟨#[]⟩, .slice none 0 0], .bool (sumB x y)]) (by simp [results, Try.results129, go_sem, HS2.out, sumN]) rfl ⟨rfl, ?_⟩
  repeat' (first | exact HBB.out _ _ _ | apply Below.drew | refine Below.setCell ?_ (by simp <;> omega) _)
 cases hk2 : (y.kind == 1)
 ·have HS2 := Lib.hid (show sumB x y = false by rw [HB.out, hk1, hk2]; rfl)
  go_enter Try.func129, Try.ntmps129
  go_wp2_with fail
  refine bodyPost_ret (v := .tuple #[.agg #[.int .i64 1, .int .i64 (sumN x y), .string ⟨#[]⟩, .slice none 0 0], .bool (sumB x y)]) (by simp [results, Try.results129, go_sem, HS2.out, sumN]) rfl ⟨rfl, ?_⟩
  repeat' (first | exact HBB.out _ _ _ | apply Below.drew | refine Below.setCell ?_ (by simp <;> omega) _)
 have HS2 := Lib.hid (show sumB x y = inB (wrap64 (x.n + y.n)) (-1099511627776) 1099511627776 by rw [HB.out, hk1, hk2]; rfl)
 by_cases hl : -1099511627776 ≤ wrap64 (x.n + y.n)
 ·by_cases hu : wrap64 (x.n + y.n) ≤ 1099511627776
  ·have HS3 := Lib.hid (show sumB x y = true by rw [HS2.out]; simp [inB, hl, hu])
   go_enter Try.func129, Try.ntmps129
   go_wp2_with fail
   refine bodyPost_ret (v := .tuple #[.agg #[.int .i64 1, .int .i64 (sumN x y), .string ⟨#[]⟩, .slice none 0 0], .bool (sumB x y)]) (by simp [results, Try.results129, go_sem, HS3.out, sumN, hl, hu]) rfl ⟨rfl, ?_⟩
   repeat' (first | exact HBB.out _ _ _ | apply Below.drew | refine Below.setCell ?_ (by simp <;> omega) _)
  ·have HS3 := Lib.hid (show sumB x y = false by rw [HS2.out]; simp [inB]; omega)
   go_enter Try.func129, Try.ntmps129
   go_wp2_with fail
   refine bodyPost_ret (v := .tuple #[.agg #[.int .i64 1, .int .i64 (sumN x y), .string ⟨#[]⟩, .slice none 0 0], .bool (sumB x y)]) (by simp [results, Try.results129, go_sem, HS3.out, sumN, hl, hu]; try omega) rfl ⟨rfl, ?_⟩
   repeat' (first | exact HBB.out _ _ _ | apply Below.drew | refine Below.setCell ?_ (by simp <;> omega) _)
 ·have HS3 := Lib.hid (show sumB x y = false by rw [HS2.out]; simp [inB]; omega)
  go_enter Try.func129, Try.ntmps129
  go_wp2_with fail
  refine bodyPost_ret (v := .tuple #[.agg #[.int .i64 1, .int .i64 (sumN x y), .string ⟨#[]⟩, .slice none 0 0], .bool (sumB x y)]) (by simp [results, Try.results129, go_sem, HS3.out, sumN, hl]; try omega) rfl ⟨rfl, ?_⟩
  repeat' (first | exact HBB.out _ _ _ | apply Below.drew | refine Below.setCell ?_ (by simp <;> omega) _)
end Go.Proofs.Ytedfepnekjjmnab

/-
 What a program is as a term: in plain words. No program in sight.
-/
namespace Go.Proofs.Ytedfepnekjjmnab
open Go.RowKit
set_option linter.unusedSimpArgs false
set_option linter.unusedVariables false

def vT (n : Int) : T := ⟨5, n, ⟨#[]⟩, []⟩
def dbareB (d : Deed) : Bool := d.name.toList == [] && d.var == 0
def deedT (d : Deed) : T :=
 if d.kind = 1 then tupT [wordT sSend, d.to, d.what] else if d.kind = 2 then tupT [wordT sSpawn, wordT d.name, d.what, vT d.var] else if d.kind = 3 then tupT [wordT sLink, d.to] else if d.kind = 4 then tupT [wordT sStop] else zeroT
def deedOk (d : Deed) : Bool :=
 if d.kind = 1 then dbareB d else if d.kind = 2 then nameB d.name && (decide (0 ≤ d.var) && decide (d.var ≤ 3)) && emptyB d.to else if d.kind = 3 then dbareB d && emptyB d.what else if d.kind = 4 then dbareB d && emptyB d.to && emptyB d.what else false
def clauT (c : Clau) : T := tupT [wordT sOn, c.state, c.message, tupT (c.acts.map deedT), c.next]
def clauOk (c : Clau) : Bool := decide (c.acts.length ≤ 8) && c.acts.all deedOk
def behvT (b : Behv) : T := tupT (wordT sBeh :: wordT b.name :: b.clauses.map clauT)
def behvOk (b : Behv) : Bool := nameB b.name && (decide (1 ≤ b.clauses.length) && decide (b.clauses.length ≤ 6)) && b.clauses.all clauOk
def progT (l : List Behv) : T := tupT (wordT sCode :: l.map behvT)
def progOk (l : List Behv) : Bool := decide (1 ≤ l.length) && decide (l.length ≤ 7) && l.all behvOk
/-- What To answers. -/
def toA (l : List Behv) : T × Int := if progOk l then (if checkE (progT l) = 0 then (progT l, 0) else (zeroT, checkE (progT l))) else (zeroT, 5)
theorem allB_snoc {X : Type} (f : X → Bool) {l : List X} {k : Nat} (hk : k < l.length) : (l.take (k + 1)).all f = ((l.take k).all f && f l[k]) := by
 rw [take_snoc' l k hk, List.all_append]; simp
theorem map_snoc {X Y : Type} (f : X → Y) {l : List X} {k : Nat} (hk : k < l.length) : (l.take (k + 1)).map f = (l.take k).map f ++ [f l[k]] := by
 rw [take_snoc' l k hk, List.map_append]; rfl
theorem bulk_wordT (s : ByteArray) : bulkL [wordT s] = 1 + s.size := by simp [wordT, bulkL_cons, bulkL]
theorem bulk_tupT (l : List T) : bulkL [tupT l] = 1 + bulkL l := by simp [tupT, bulkL_cons, bulkL, ByteArray.size]
theorem bulk_cons2 (t : T) (l : List T) : bulkL (t :: l) = bulkL [t] + bulkL l := bulkL_append [t] l
theorem deedT_bulk (d : Deed) : bulkL [deedT d] ≤ 16 + 2 * deedB d := by
 have h1 : sSend.size = 4 := rfl
 have h2 : sSpawn.size = 5 := rfl
 have h3 : sLink.size = 4 := rfl
 have h4 : sStop.size = 4 := rfl
 have h5 : bulkL [vT d.var] = 1 := by simp [vT, bulkL_cons, bulkL, ByteArray.size]
 have h6 : bulkL [zeroT] = 1 := by simp [zeroT, bulkL_cons, bulkL, ByteArray.size]
 unfold deedT deedB
 split
 ·rw [bulk_tupT, bulk_cons2, bulk_cons2 d.to, bulk_wordT]; omega
 split
 ·rw [bulk_tupT, bulk_cons2, bulk_cons2 (wordT d.name), bulk_cons2 d.what, bulk_wordT, bulk_wordT]; omega
 split
 ·rw [bulk_tupT, bulk_cons2, bulk_wordT]; omega
 split
 ·rw [bulk_tupT, bulk_wordT]; omega
 ·omega
theorem deedsT_bulk (l : List Deed) : bulkL (l.map deedT) ≤ 18 * deedsB l := by
 induction l with
 | nil => simp [bulkL, deedsB]
 | cons d l ih =>
  have := deedT_bulk d
  have h1 : 1 ≤ deedB d := by unfold deedB; omega
  rw [List.map_cons, bulk_cons2]; simp only [deedsB]; omega
theorem clauT_bulk (c : Clau) : bulkL [clauT c] ≤ 24 * clauB c := by
 have := deedsT_bulk c.acts
 have h1 : sOn.size = 2 := rfl
 unfold clauT clauB
 rw [bulk_tupT, bulk_cons2, bulk_cons2 c.state, bulk_cons2 c.message, bulk_cons2 (tupT _), bulk_tupT, bulk_wordT]
 omega
theorem clausT_bulk (l : List Clau) : bulkL (l.map clauT) ≤ 24 * clausB l := by
 induction l with
 | nil => simp [bulkL, clausB]
 | cons d l ih =>
  have := clauT_bulk d
  rw [List.map_cons, bulk_cons2]; simp only [clausB]; omega
theorem behvT_bulk (b : Behv) : bulkL [behvT b] ≤ 32 * behvB b := by
 have := clausT_bulk b.clauses
 unfold behvT behvB
 rw [bulk_tupT, bulk_cons2, bulk_cons2 (wordT b.name), bulk_wordT, bulk_wordT]
 have h1 : sBeh.size = 3 := rfl
 omega
theorem behvsT_bulk (l : List Behv) : bulkL (l.map behvT) ≤ 32 * behvsB l := by
 induction l with
 | nil => simp [bulkL, behvsB]
 | cons d l ih =>
  have := behvT_bulk d
  rw [List.map_cons, bulk_cons2]; simp only [behvsB]; omega
theorem progT_bulk (l : List Behv) : bulkL [progT l] ≤ 8 + 32 * behvsB l := by
 have := behvsT_bulk l
 unfold progT
 rw [bulk_tupT, bulk_cons2, bulk_wordT]
 have h1 : sCode.size = 4 := rfl
 omega
end Go.Proofs.Ytedfepnekjjmnab

/-
 CodeBack's plain law: a program told as a term is it; a term that is a program is told as it was. No program in sight.
-/
namespace Go.Proofs.Ytedfepnekjjmnab
open Go.RowKit
set_option linter.unusedSimpArgs false
set_option linter.unusedVariables false

/-! ### From, then To -/
end Go.Proofs.Ytedfepnekjjmnab

/-
 reckon.value: what it answers, the cases without a loop. Conditions: a formed term, four bound ones.
-/
namespace Go.Proofs.Ytedfepnekjjmnab
open Go.RowKit
set_option linter.unusedSimpArgs false
set_option linter.unusedVariables false
section
variable {bd : List T} {self : Int} {x : T} {S : Nat → Prop} {w : World} {v vb : Value}

end
end Go.Proofs.Ytedfepnekjjmnab

/-
 reckon.value: a variable; what was put.
-/
namespace Go.Proofs.Ytedfepnekjjmnab
open Go.RowKit
set_option linter.unusedSimpArgs false
set_option linter.unusedVariables false
section
variable {bd : List T} {self : Int} {x : T} {S : Nat → Prop} {w : World} {v vb : Value}

end
end Go.Proofs.Ytedfepnekjjmnab

/-
 reckon.value, case by case: what is reckoned leads to new blocks alone. No condition but bounds. Printed by mv.py.
-/
namespace Go.Proofs.Ytedfepnekjjmnab
open Go.RowKit
set_option linter.unusedSimpArgs false
set_option linter.unusedVariables false

section
variable {bd : List T} {self : Int} {x : T} {S : Nat → Prop} {w : World} {v vb : Value}

set_option maxHeartbeats 1000000 in
theorem valN_6 (hv : RT S w x v) (hk : x.kind = 6) : Calls Try.prog 114 #[v, vb, .int .i64 self] w (VPost (fun _ => False) w (valT bd self x)) := by
 obtain ⟨a, cap, rfl, hcap, hr⟩ := hv
 clear hcap hr
 have HV := Lib.hid (valT_6 (bd := bd) (self := self) hk)
 have h1 : w.heap.size < w.heap.size + 1 + 1 := by omega
 go_enter Try.func114, Try.ntmps114
 go_wp2_with fail
 refine bodyPost_ret (v := .tuple #[.agg #[.int .i64 0, .int .i64 0, .string ⟨#[]⟩, .slice none 0 0], .bool false]) (by simp [results, Try.results114, go_sem, hk]) rfl (VPost.of zeroT _ _ rfl ?_ ⟨none, 0, rfl, ⟨Nat.le_refl _, fun _ => rfl⟩, by simp [zeroT, RTs]⟩ HV.out)
 repeat refine Below.setCell ?_ (by simp <;> omega) _
 exact (below_alloc _ _).alloc (by simp) _

set_option maxHeartbeats 2000000 in
theorem valN_o (hv : RT S w x v) (hS : ∀ b, S b → b < w.heap.size) (hb : bulkL [x] ≤ 1099511627776) (ha : x.args = []) (hk4 : x.kind ≠ 4) (hk5 : x.kind ≠ 5) (hk6 : x.kind ≠ 6) : Calls Try.prog 114 #[v, vb, .int .i64 self] w (VPost (fun _ => False) w (valT bd self x)) := by
 have HAA := Lib.hid ha
 clear ha
 obtain ⟨a, cap, rfl, hcap, hr⟩ := hv
 have HX : Hid (RT S w x _) := Lib.hid ⟨a, cap, rfl, hcap, hr⟩
 clear hcap hr
 have HV := Lib.hid (valT_o (bd := bd) (self := self) hk4 hk5 hk6)
 have h4 : (x.kind == 4) = false := by simpa using hk4
 have h4' : (x.kind != 4) = true := by simpa using hk4
 have h5 : (x.kind == 5) = false := by simpa using hk5
 have h6 : (x.kind == 6) = false := by simpa using hk6
 have h1 : w.heap.size < w.heap.size + 1 + 1 := by omega
 clear hk4 hk5 hk6
 go_enter Try.func114, Try.ntmps114
 go_wp2_with fail
 refine (is_ris x sSelf 0 S _ _ ((HX.out.alloc _).alloc _) (by omega) (by omega) (by omega)).mono ?_
 rintro e w1 ⟨rfl, hB1⟩
 rw [isT_kind h4]
 have hs1 := hB1.size
 obtain ⟨hcc, hff⟩ := bcell hB1
 simp only [World.size_alloc] at hs1 hcc hff
 have g1 : w.heap.size < w1.heap.size := by omega
 have g2 : w.heap.size + 1 < w1.heap.size := by omega
 have HB1 := Lib.hid (below_step ((below_alloc _ _).alloc (by simp) _) (by simp <;> omega) hB1)
 have hs0 : w.heap.size ≤ w1.heap.size := by omega
 go_wp2_with fail
 refine (is_ris x sPut 1 S _ _ (HX.out.below HB1.out) (by omega) (by omega) (by omega)).mono ?_
 rintro e w2 ⟨rfl, hB2⟩
 rw [isT_kind h4]
 have hs2 := hB2.size
 obtain ⟨hcc2, hff2⟩ := bcell hB2
 have HB2 := Lib.hid (below_step HB1.out (by omega) hB2)
 go_wp2_with fail
 refine bodyPost_ret (v := .tuple #[.agg #[.int .i64 x.kind, .int .i64 x.n, .string x.name, .slice a x.args.length cap], .bool true]) (by simp [results, Try.results114, go_sem, hcc, hcc2, hff, hff2, g1, g2]) rfl (VPost.of x _ _ rfl ?_ ?_ HV.out)
 ·repeat refine Below.setCell ?_ (by simp <;> omega) _
  exact HB2.out
 ·obtain ⟨a', cap', e, hcc, -⟩ := HX.out
  simp only [Value.agg.injEq] at e
  exact ⟨a', cap', by rw [e], hcc, by rw [HAA.out]; simp [RTs]⟩

set_option maxHeartbeats 2000000 in
theorem valN_self (hv : RT S w x v) (hS : ∀ b, S b → b < w.heap.size) (hb : bulkL [x] ≤ 1099511627776) (hk : x.kind = 4) (hs : isT x sSelf 0 = true) : Calls Try.prog 114 #[v, vb, .int .i64 self] w (VPost (fun _ => False) w (valT bd self x)) := by
 obtain ⟨a, cap, rfl, hcap, hr⟩ := hv
 have HX : Hid (RT S w x _) := Lib.hid ⟨a, cap, rfl, hcap, hr⟩
 clear hcap hr
 have HV := Lib.hid (valT_self (bd := bd) (self := self) hk hs)
 have h1 : w.heap.size < w.heap.size + 1 + 1 := by omega
 have h4 : (x.kind == 4) = true := by simpa using hk
 have h5 : (x.kind == 5) = false := by simp [hk]
 have h6 : (x.kind == 6) = false := by simp [hk]
 clear hk
 go_enter Try.func114, Try.ntmps114
 go_wp2_with fail
 refine (is_ris x sSelf 0 S _ _ ((HX.out.alloc _).alloc _) (by omega) (by omega) (by omega)).mono ?_
 rintro e w1 ⟨rfl, hB1⟩
 rw [hs]
 have hs1 := hB1.size
 obtain ⟨hcc, hff⟩ := bcell hB1
 simp only [World.size_alloc] at hs1 hcc hff
 have g1 : w.heap.size < w1.heap.size := by omega
 have g2 : w.heap.size + 1 < w1.heap.size := by omega
 go_wp2_with fail
 refine bodyPost_ret (v := .tuple #[.agg #[.int .i64 3, .int .i64 self, .string ⟨#[]⟩, .slice none 0 0], .bool true]) (by simp [results, Try.results114, go_sem, hcc, hff]) rfl (VPost.of (pidT self) _ _ rfl ?_ ?_ HV.out)
 ·repeat refine Below.setCell ?_ (by simp <;> omega) _
  exact below_step ((below_alloc _ _).alloc (by simp) _) (by simp <;> omega) hB1
 ·exact ⟨none, 0, rfl, ⟨Nat.le_refl _, fun _ => rfl⟩, by simp [pidT, RTs]⟩
end
section
variable {bd : List T} {self : Int} {x : T} {S : Nat → Prop} {w : World} {v vb : Value}

set_option maxHeartbeats 2000000 in
theorem valN_5 (hv : RT S w x v) (hb : RSl S w bd vb) (hl : bd.length = 4) (hS : ∀ b, S b → b < w.heap.size) (hbb : bulkL bd ≤ 1099511627776) (hk : x.kind = 5) (hn : ∃ k : Nat, x.n = k ∧ k < 4) : Calls Try.prog 114 #[v, vb, .int .i64 self] w (VPost (fun _ => False) w (valT bd self x)) := by
  obtain ⟨a, cap, rfl, hcap, hr⟩ := hv
  obtain ⟨ab, capb, rfl, hcapb, hrb⟩ := hb
  obtain ⟨k, hn, hk4⟩ := hn
  obtain ⟨b, o, rfl⟩ := hrb.addr (by omega)
  obtain ⟨a', cap', hSb, d0, d1, d2, d3, hE⟩ := hrb.elem k (by omega)
  have hE := Lib.hid hE
  have hbu := bulk_at (ts := bd) (i := k) (by omega)
  have HV := Lib.hid (valT_5 (bd := bd) (self := self) hk hn (by omega))
  have h1 : w.heap.size < w.heap.size + 1 + 1 := by omega
  have hlb : b < w.heap.size := hS b hSb
  have hlb' : b < w.heap.size + 1 := by omega
  have hlb2 : b < w.heap.size + 1 + 1 := by omega
  clear hcap hr hcapb hrb
  rw [hn, hl, hk]
  have hkl : (k : Int) < 4 := by omega
  generalize bd[k] = u at *
  go_enter Try.func114, Try.ntmps114
  go_wp2_with fail
  obtain ⟨W, hW⟩ : ∃ W : World, W = ((w.alloc (.cells #[.int .i64 5, .int .i64 k, .string x.name, .slice a x.args.length cap] 24)).alloc (.cells #[.int .i64 0, .int .i64 0, .string ⟨#[]⟩, .slice none 0 0] 24)).alloc (.cells #[.int .i64 u.kind, .int .i64 u.n, .string u.name, .slice a' u.args.length cap'] 24) := ⟨_, rfl⟩
  rw [← hW]
  have hWs : W.heap.size = w.heap.size + 1 + 1 + 1 := by rw [hW]; simp
  have hWB : Below w.heap.size w W := by rw [hW]; exact ((below_alloc _ _).alloc (by simp) _).alloc (by simp <;> omega) _
  have hWc : (fun w' : World => w'.cell? ⟨w.heap.size + 1 + 1, 0, none⟩ = some (.int .i64 u.kind) ∧ w'.cell? ⟨w.heap.size + 1 + 1, 1, none⟩ = some (.int .i64 u.n) ∧ w'.cell? ⟨w.heap.size + 1 + 1, 2, none⟩ = some (.string u.name) ∧ w'.cell? ⟨w.heap.size + 1 + 1, 3, none⟩ = some (.slice a' u.args.length cap')) W := by rw [hW]; go_simp
  have hWz : (fun w' : World => w'.cell? ⟨w.heap.size + 1, 0, none⟩ = some (.int .i64 0) ∧ w'.cell? ⟨w.heap.size + 1, 1, none⟩ = some (.int .i64 0) ∧ w'.cell? ⟨w.heap.size + 1, 2, none⟩ = some (.string ⟨#[]⟩) ∧ w'.cell? ⟨w.heap.size + 1, 3, none⟩ = some (.slice none 0 0)) W := by rw [hW]; go_simp
  have hWf : ∀ o, W.frozen? ⟨w.heap.size + 1, o, none⟩ = false := fun o => by rw [hW]; go_simp
  simp only [] at hWc hWz
  have HU := Lib.hid ((hE.out.below hWB).below (Below.drew (Below.refl W.heap.size W)))
  have HWB := Lib.hid hWB
  clear hW hWB d0 d1 d2 d3
  have hz1 : w.heap.size + 1 < W.heap.size := by omega
  have hz2 : w.heap.size + 1 + 1 < W.heap.size := by omega
  have hq : ∀ w3 : World, Below W.drew.heap.size W.drew w3 → (fun w' : World => w'.cell? ⟨w.heap.size + 1 + 1, 0, none⟩ = some (.int .i64 u.kind) ∧ w'.cell? ⟨w.heap.size + 1 + 1, 1, none⟩ = some (.int .i64 u.n) ∧ w'.cell? ⟨w.heap.size + 1 + 1, 2, none⟩ = some (.string u.name) ∧ w'.cell? ⟨w.heap.size + 1 + 1, 3, none⟩ = some (.slice a' u.args.length cap')) w3 := fun w3 h => by
    obtain ⟨q, -⟩ := bcell h
    show _ ∧ _ ∧ _ ∧ _
    rw [q _ _ hz2, q _ _ hz2, q _ _ hz2, q _ _ hz2]; exact hWc
  have hz : ∀ w3 : World, Below W.drew.heap.size W.drew w3 → (fun w' : World => w'.cell? ⟨w.heap.size + 1, 0, none⟩ = some (.int .i64 0) ∧ w'.cell? ⟨w.heap.size + 1, 1, none⟩ = some (.int .i64 0) ∧ w'.cell? ⟨w.heap.size + 1, 2, none⟩ = some (.string ⟨#[]⟩) ∧ w'.cell? ⟨w.heap.size + 1, 3, none⟩ = some (.slice none 0 0) ∧ ∀ o, w'.frozen? ⟨w.heap.size + 1, o, none⟩ = false) w3 := fun w3 h => by
    obtain ⟨q, r⟩ := bcell h
    show _ ∧ _ ∧ _ ∧ _ ∧ _
    rw [q _ _ hz1, q _ _ hz1, q _ _ hz1, q _ _ hz1]; exact ⟨hWz.1, hWz.2.1, hWz.2.2.1, hWz.2.2.2, fun o => by rw [r _ _ hz1]; exact hWf o⟩
  have hkeep : ∀ (w4 : World) (u0 u1 u2 u3 : Value), Below W.drew.heap.size W.drew w4 → (fun w' : World => w'.cell? ⟨w.heap.size + 1 + 1, 0, none⟩ = some (.int .i64 u.kind) ∧ w'.cell? ⟨w.heap.size + 1 + 1, 1, none⟩ = some (.int .i64 u.n) ∧ w'.cell? ⟨w.heap.size + 1 + 1, 2, none⟩ = some (.string u.name) ∧ w'.cell? ⟨w.heap.size + 1 + 1, 3, none⟩ = some (.slice a' u.args.length cap')) ((((w4.setCell ⟨w.heap.size + 1, 0, none⟩ u0).setCell ⟨w.heap.size + 1, 1, none⟩ u1).setCell ⟨w.heap.size + 1, 2, none⟩ u2).setCell ⟨w.heap.size + 1, 3, none⟩ u3) := fun w4 u0 u1 u2 u3 h => by
    have hne : w.heap.size + 1 + 1 ≠ w.heap.size + 1 := by omega
    have e : ∀ o', ((((w4.setCell ⟨w.heap.size + 1, 0, none⟩ u0).setCell ⟨w.heap.size + 1, 1, none⟩ u1).setCell ⟨w.heap.size + 1, 2, none⟩ u2).setCell ⟨w.heap.size + 1, 3, none⟩ u3).cell? ⟨w.heap.size + 1 + 1, o', none⟩ = w4.cell? ⟨w.heap.size + 1 + 1, o', none⟩ := fun o' => by
      refine World.cell?_of_block ?_
      simp only [setCell_other _ _ _ _ _ hne]
    simp only [e]
    exact hq _ h
  simp only [] at hq hz hkeep
  have hsd : W.drew.heap.size = W.heap.size := rfl
  go_region_held3 (fun w' => w'.cell? ⟨w.heap.size + 1 + 1, 0, none⟩ = some (.int .i64 u.kind) ∧ w'.cell? ⟨w.heap.size + 1 + 1, 1, none⟩ = some (.int .i64 u.n) ∧ w'.cell? ⟨w.heap.size + 1 + 1, 2, none⟩ = some (.string u.name) ∧ w'.cell? ⟨w.heap.size + 1 + 1, 3, none⟩ = some (.slice a' u.args.length cap'))
      (first | exact hWc | exact hq _ hBB | exact hkeep _ _ _ _ _ hBB | go_keep)
      (first
        | (go_at_call 56; refine (copied_c u S _ _ (by first | exact HU.out | exact HU.out.below hBf) (by omega)).mono ?_; rintro e wc ⟨vc, rfl, hBc, ac, capc, rfl, hcc, hrc⟩; (first | (have hBB := below_step hBf hBf.size hBc) | (have hBB := hBc)); obtain ⟨z0, z1, z2, z3, z4⟩ := hz _ hBB; obtain ⟨y0, y1, y2, y3⟩ := hq _ hBB)
        | (go_at_call 101; refine (free_c u S _ _ (by first | exact HU.out | exact HU.out.below hBc)).mono ?_; rintro e wf ⟨rfl, hBf⟩; (first | (have hBB := below_step hBc hBc.size hBf) | (have hBB := hBf)); obtain ⟨z0, z1, z2, z3, z4⟩ := hz _ hBB; obtain ⟨y0, y1, y2, y3⟩ := hq _ hBB))
  go_wp2_with fail
  refine bodyPost_ret (v := .tuple #[.agg #[.int .i64 u.kind, .int .i64 u.n, .string u.name, .slice ac u.args.length capc], .bool (!(u.kind == 6))]) (by simp [results, Try.results114, go_sem, z0, z1, z2, z3]) rfl (VPost.of u _ _ rfl ?_ ?_ ?_)
  · repeat refine Below.setCell ?_ (by simp <;> omega) _
    exact below_step (HWB.out.drew) (by omega) hBB
  · have hsc := hBc.size
    have hsf := hBf.size
    refine RT.mono (S := fun b => W.heap.size ≤ b) ?_ fun b hb => .inr (by omega)
    repeat refine RT.slot ?_ _ _ _ (fun b hb => by omega)
    exact RT.below ⟨ac, capc, rfl, hcc, hrc⟩ hBf
  · rw [HV.out, varO]; by_cases h : u.kind = 6 <;> simp [h]
end
section
variable {bd : List T} {self : Int} {x : T} {S : Nat → Prop} {w : World} {v vb : Value}

set_option maxHeartbeats 2000000 in
theorem valN_put (hv : RT S w x v) (hS : ∀ b, S b → b < w.heap.size) (hb : bulkL [x] ≤ 1099511627776) (hk : x.kind = 4) (hs : isT x sSelf 0 = false) (hp : isT x sPut 1 = true) : Calls Try.prog 114 #[v, vb, .int .i64 self] w (VPost (fun _ => False) w (valT bd self x)) := by
  obtain ⟨a, cap, rfl, hcap, hr⟩ := hv
  have HX : Hid (RT S w x _) := Lib.hid ⟨a, cap, rfl, hcap, hr⟩
  have hln := isT_length hp
  have hba := bulk_args x
  have hbe := bulk_at (ts := x.args) (i := 1) (by omega)
  obtain ⟨b, o, rfl⟩ := hr.addr (by omega)
  obtain ⟨a', cap', hSb, d0, d1, d2, d3, hE⟩ := hr.elem 1 (by omega)
  have hE := Lib.hid hE
  have hlb : b < w.heap.size := hS b hSb
  have HV := Lib.hid (valT_put (bd := bd) (self := self) hk hs hp (by omega))
  have h1 : w.heap.size < w.heap.size + 1 + 1 := by omega
  have h4 : (x.kind == 4) = true := by simpa using hk
  have h5 : (x.kind == 5) = false := by simp [hk]
  have h6 : (x.kind == 6) = false := by simp [hk]
  clear hk hcap hr
  simp only [Nat.one_mul] at d0 d1 d2 d3
  generalize x.args[1] = u at *
  go_enter Try.func114, Try.ntmps114
  go_wp2_with fail
  refine (is_ris x sSelf 0 S _ _ ((HX.out.alloc _).alloc _) (by omega) (by omega) (by omega)).mono ?_
  rintro e w1 ⟨rfl, hB1⟩
  rw [hs]
  have hs1 := hB1.size
  obtain ⟨hcc, hff⟩ := bcell hB1
  simp only [World.size_alloc] at hs1 hcc hff
  have g1 : w.heap.size < w1.heap.size := by omega
  have g2 : w.heap.size + 1 < w1.heap.size := by omega
  have g3 : b < w1.heap.size := by omega
  have g4 : b < w.heap.size + 1 + 1 := by omega
  have g5 : b < w.heap.size + 1 := by omega
  have HB1 := Lib.hid (below_step ((below_alloc _ _).alloc (by simp) _) (by simp <;> omega) hB1)
  have hs0 : w.heap.size ≤ w1.heap.size := by omega
  go_wp2_with fail
  refine (is_ris x sPut 1 S _ _ (HX.out.below HB1.out) (by omega) (by omega) (by omega)).mono ?_
  rintro e w2 ⟨rfl, hB2⟩
  rw [hp]
  have hs2 := hB2.size
  obtain ⟨hcc2, hff2⟩ := bcell hB2
  have HB2 := Lib.hid (below_step HB1.out (by omega) hB2)
  go_wp2_with fail
  have HE2 := Lib.hid ((hE.out.below HB2.out).mono (S' := S) fun _ h => h)
  have HE3 := Lib.hid (HE2.out.below (Below.drew (Below.refl w2.heap.size w2)))
  have g6 : w.heap.size < w2.heap.size := by omega
  have g7 : b < w2.heap.size := by omega
  have g8 : w.heap.size + 1 < w2.heap.size := by omega
  have hlu : (1 : Int) < x.args.length := by omega
  have hc3 : w2.cell? ⟨w.heap.size, 3, none⟩ = some (.slice (some ⟨b, o, none⟩) x.args.length cap) := by rw [hcc2 _ _ g1, hcc _ _ h1]; go_simp
  obtain ⟨e0, e1, e2, e3⟩ : w2.cell? ⟨b, o + 4, none⟩ = some (.int .i64 u.kind) ∧ w2.cell? ⟨b, o + 4 + 1, none⟩ = some (.int .i64 u.n) ∧ w2.cell? ⟨b, o + 4 + 2, none⟩ = some (.string u.name) ∧ w2.cell? ⟨b, o + 4 + 3, none⟩ = some (.slice a' u.args.length cap') := by
    obtain ⟨q, -⟩ := bcell HB2.out
    rw [q _ _ hlb, q _ _ hlb, q _ _ hlb, q _ _ hlb]; exact ⟨d0, d1, d2, d3⟩
  have hq : ∀ w3 : World, Below w2.drew.heap.size w2.drew w3 → w3.cell? ⟨w.heap.size, 3, none⟩ = some (.slice (some ⟨b, o, none⟩) x.args.length cap) ∧ w3.cell? ⟨b, o + 4, none⟩ = some (.int .i64 u.kind) ∧ w3.cell? ⟨b, o + 4 + 1, none⟩ = some (.int .i64 u.n) ∧ w3.cell? ⟨b, o + 4 + 2, none⟩ = some (.string u.name) ∧ w3.cell? ⟨b, o + 4 + 3, none⟩ = some (.slice a' u.args.length cap') := fun w3 h => by
    obtain ⟨q, -⟩ := bcell h
    rw [q _ _ g6, q _ _ g7, q _ _ g7, q _ _ g7, q _ _ g7]; exact ⟨hc3, e0, e1, e2, e3⟩
  have hz : ∀ w3 : World, Below w2.drew.heap.size w2.drew w3 → (∀ o, w3.frozen? ⟨w.heap.size + 1, o, none⟩ = false) ∧ w3.cell? ⟨w.heap.size + 1, 0, none⟩ = some (.int .i64 0) ∧ w3.cell? ⟨w.heap.size + 1, 1, none⟩ = some (.int .i64 0) ∧ w3.cell? ⟨w.heap.size + 1, 2, none⟩ = some (.string ⟨#[]⟩) ∧ w3.cell? ⟨w.heap.size + 1, 3, none⟩ = some (.slice none 0 0) := fun w3 h => by
    obtain ⟨q, r⟩ := bcell h
    have hx : w.heap.size + 1 < w.heap.size + 1 + 1 := by omega
    refine ⟨fun o => ?_, ?_⟩
    · rw [r _ _ g8]; show w2.frozen? _ = _; rw [hff2 _ _ g2, hff _ _ hx]; go_simp
    · rw [q _ _ g8, q _ _ g8, q _ _ g8, q _ _ g8]; show w2.cell? _ = _ ∧ w2.cell? _ = _ ∧ w2.cell? _ = _ ∧ w2.cell? _ = _; rw [hcc2 _ _ g2, hcc2 _ _ g2, hcc2 _ _ g2, hcc2 _ _ g2, hcc _ _ hx, hcc _ _ hx, hcc _ _ hx, hcc _ _ hx]; go_simp
  have hbne : b ≠ w.heap.size + 1 := by omega
  have hbne' : w.heap.size + 1 ≠ b := by omega
  have hbn2 : w.heap.size ≠ w.heap.size + 1 := by omega
  have hkeep : ∀ (w4 : World) (u0 u1 u2 u3 : Value), Below w2.drew.heap.size w2.drew w4 → (fun w' : World => w'.cell? ⟨w.heap.size, 3, none⟩ = some (.slice (some ⟨b, o, none⟩) x.args.length cap) ∧ w'.cell? ⟨b, o + 4, none⟩ = some (.int .i64 u.kind) ∧ w'.cell? ⟨b, o + 4 + 1, none⟩ = some (.int .i64 u.n) ∧ w'.cell? ⟨b, o + 4 + 2, none⟩ = some (.string u.name) ∧ w'.cell? ⟨b, o + 4 + 3, none⟩ = some (.slice a' u.args.length cap')) ((((w4.setCell ⟨w.heap.size + 1, 0, none⟩ u0).setCell ⟨w.heap.size + 1, 1, none⟩ u1).setCell ⟨w.heap.size + 1, 2, none⟩ u2).setCell ⟨w.heap.size + 1, 3, none⟩ u3) := fun w4 u0 u1 u2 u3 h => by
    have e : ∀ b' o', b' ≠ w.heap.size + 1 → ((((w4.setCell ⟨w.heap.size + 1, 0, none⟩ u0).setCell ⟨w.heap.size + 1, 1, none⟩ u1).setCell ⟨w.heap.size + 1, 2, none⟩ u2).setCell ⟨w.heap.size + 1, 3, none⟩ u3).cell? ⟨b', o', none⟩ = w4.cell? ⟨b', o', none⟩ := fun b' o' hne => by
      refine World.cell?_of_block ?_
      simp only [setCell_other _ _ _ _ _ hne]
    simp only [e _ _ hbne, e _ _ hbn2]
    exact hq _ h
  go_region_held3 (fun w' => w'.cell? ⟨w.heap.size, 3, none⟩ = some (.slice (some ⟨b, o, none⟩) x.args.length cap) ∧ w'.cell? ⟨b, o + 4, none⟩ = some (.int .i64 u.kind) ∧ w'.cell? ⟨b, o + 4 + 1, none⟩ = some (.int .i64 u.n) ∧ w'.cell? ⟨b, o + 4 + 2, none⟩ = some (.string u.name) ∧ w'.cell? ⟨b, o + 4 + 3, none⟩ = some (.slice a' u.args.length cap'))
      (first | exact ⟨hc3, e0, e1, e2, e3⟩ | exact hq _ hBB | exact hkeep _ _ _ _ _ hBB | go_keep)
      (first
        | (go_at_call 56; refine (copied_c u S _ _ (by first | exact HE3.out | exact HE3.out.below hBf) (by omega)).mono ?_; rintro e wc ⟨vc, rfl, hBc, ac, capc, rfl, hccc, hrc⟩; (first | (have hBB := below_step hBf hBf.size hBc) | (have hBB := hBc)); obtain ⟨z0, z1, z2, z3, z4⟩ := hz _ hBB; obtain ⟨y0, y1, y2, y3, y4⟩ := hq _ hBB)
        | (go_at_call 45; refine (closed_c u S _ _ (by first | exact HE3.out | exact HE3.out.below hBc) (by omega)).mono ?_; rintro e wf ⟨rfl, hBf⟩; (first | (have hBB := below_step hBc hBc.size hBf) | (have hBB := hBf)); obtain ⟨z0, z1, z2, z3, z4⟩ := hz _ hBB; obtain ⟨y0, y1, y2, y3, y4⟩ := hq _ hBB))
  go_wp2_with fail
  refine bodyPost_ret (v := .tuple #[.agg #[.int .i64 u.kind, .int .i64 u.n, .string u.name, .slice ac u.args.length capc], .bool (closedL [u])]) (by simp [results, Try.results114, go_sem, z1, z2, z3, z4]) rfl (VPost.of u _ _ rfl ?_ ?_ ?_)
  · repeat refine Below.setCell ?_ (by simp <;> omega) _
    exact below_step HB2.out.drew (by simp; omega) hBB
  · have hsc := hBc.size
    have hsf := hBf.size
    have hsd : w2.drew.heap.size = w2.heap.size := rfl
    refine RT.mono (S := fun b => w2.heap.size ≤ b) ?_ fun b hb => .inr (by omega)
    repeat refine RT.slot ?_ _ _ _ (fun b hb => by omega)
    exact RT.below ⟨ac, capc, rfl, hccc, hrc⟩ hBf
  · rw [HV.out, putO]
end
end Go.Proofs.Ytedfepnekjjmnab

/-
 reckon.value on tuples: what is reckoned leads to new blocks alone. Printed by mvt.py.
-/
namespace Go.Proofs.Ytedfepnekjjmnab
open Go.RowKit
set_option linter.unusedSimpArgs false
set_option linter.unusedVariables false
section
variable {bd : List T} {self : Int} {x : T} {S : Nat → Prop} {w : World} {v vb : Value}

set_option maxHeartbeats 4000000 in
set_option maxRecDepth 100000 in
theorem valN_tup (hv : RT S w x v) (hbd : RSl S w bd vb) (hS : ∀ b, S b → b < w.heap.size) (hb : bulkL [x] ≤ 1099511627776) (hk : x.kind = 4) (hs : isT x sSelf 0 = false) (hp : isT x sPut 1 = false) 
    (ih : ∀ y ∈ x.args, ∀ (S : Nat → Prop) (W : World) (p q : Value), RT S W y p → RSl S W bd q → (∀ b, S b → b < W.heap.size) → Calls Try.prog 114 #[p, q, .int .i64 self] W (VPost (fun _ => False) W (valT bd self y))) :
    Calls Try.prog 114 #[v, vb, .int .i64 self] w (VPost (fun _ => False) w (valT bd self x)) := by
  obtain ⟨a, cap, rfl, hcap, hr⟩ := hv
  have HX : Hid (RT S w x _) := Lib.hid ⟨a, cap, rfl, hcap, hr⟩
  have HR := Lib.hid hr
  have HBD := Lib.hid hbd
  have IH := Lib.hid ih; clear ih hbd
  have hba := bulk_args x
  have hla := length_le_bulk x.args
  have HV := Lib.hid (valT_tup (bd := bd) (self := self) hk hs hp)
  have h1 : w.heap.size < w.heap.size + 1 + 1 := by omega
  have h4 : (x.kind == 4) = true := by simpa using hk
  have h4' : (x.kind != 4) = false := by simp [hk]
  have h5 : (x.kind == 5) = false := by simp [hk]
  have h6 : (x.kind == 6) = false := by simp [hk]
  clear hk hcap hr
  go_enter Try.func114, Try.ntmps114
  go_wp2_with fail
  refine (is_ris x sSelf 0 S _ _ ((HX.out.alloc _).alloc _) (by omega) (by omega) (by omega)).mono ?_
  rintro e w1 ⟨rfl, hB1⟩
  rw [hs]
  have hs1 := hB1.size
  obtain ⟨hcc, hff⟩ := bcell hB1
  simp only [World.size_alloc] at hs1 hcc hff
  have g1 : w.heap.size < w1.heap.size := by omega
  have g2 : w.heap.size + 1 < w1.heap.size := by omega
  have HB1 := Lib.hid (below_step ((below_alloc _ _).alloc (by simp) _) (by simp <;> omega) hB1)
  have hs0 : w.heap.size ≤ w1.heap.size := by omega
  go_wp2_with fail
  refine (is_ris x sPut 1 S _ _ (HX.out.below HB1.out) (by omega) (by omega) (by omega)).mono ?_
  rintro e w2 ⟨rfl, hB2⟩
  rw [hp]
  have hs2 := hB2.size
  obtain ⟨hcc2, hff2⟩ := bcell hB2
  have HB2 := Lib.hid (below_step HB1.out (by omega) hB2)
  have g3 : w.heap.size < w2.heap.size := by omega
  have g4 : w.heap.size + 1 < w2.heap.size := by omega
  have hx : w.heap.size + 1 < w.heap.size + 1 + 1 := by omega
  -- what the call's own variables hold
  have hc3 : w2.cell? ⟨w.heap.size, 0, none⟩ = some (.int .i64 x.kind) ∧ w2.cell? ⟨w.heap.size, 1, none⟩ = some (.int .i64 x.n) ∧ w2.cell? ⟨w.heap.size, 2, none⟩ = some (.string x.name) ∧ w2.cell? ⟨w.heap.size, 3, none⟩ = some (.slice a x.args.length cap) := by
    rw [hcc2 _ _ g1, hcc2 _ _ g1, hcc2 _ _ g1, hcc2 _ _ g1, hcc _ _ h1, hcc _ _ h1, hcc _ _ h1, hcc _ _ h1]; go_simp
  have hz3 : w2.cell? ⟨w.heap.size + 1, 0, none⟩ = some (.int .i64 0) ∧ w2.cell? ⟨w.heap.size + 1, 1, none⟩ = some (.int .i64 0) ∧ w2.cell? ⟨w.heap.size + 1, 2, none⟩ = some (.string ⟨#[]⟩) ∧ w2.cell? ⟨w.heap.size + 1, 3, none⟩ = some (.slice none 0 0) := by
    rw [hcc2 _ _ g2, hcc2 _ _ g2, hcc2 _ _ g2, hcc2 _ _ g2, hcc _ _ hx, hcc _ _ hx, hcc _ _ hx, hcc _ _ hx]; go_simp
  have hfz : ∀ o, w2.frozen? ⟨w.heap.size + 1, o, none⟩ = false := fun o => by rw [hff2 _ _ g2, hff _ _ hx]; go_simp
  clear hcc hff hcc2 hff2 hB1 hB2
  go_wp2_with fail
  go_loopw [60] (fun i wr => ∃ (k : Nat) (vs : List T) (row : Value), k ≤ x.args.length ∧ i = .int .i64 k ∧ valL bd self (x.args.take k) = some vs ∧ OwnG (fun b => w2.heap.size + 1 ≤ b) (w2.heap.size + 1) wr row vs ∧ Below w2.heap.size w2 wr ∧ w2.heap.size + 1 ≤ wr.heap.size ∧
      (wr.cell? ⟨w2.heap.size, 0, none⟩ = some (.int .i64 4) ∧ wr.cell? ⟨w2.heap.size, 1, none⟩ = some (.int .i64 0) ∧ wr.cell? ⟨w2.heap.size, 2, none⟩ = some (.string ⟨#[]⟩) ∧ wr.cell? ⟨w2.heap.size, 3, none⟩ = some row) ∧ ∀ o, wr.frozen? ⟨w2.heap.size, o, none⟩ = false) (fun i _ => x.args.length - (intOf i).toNat)
  case atStart => exact ⟨0, [], _, Nat.zero_le _, rfl, by rw [List.take_zero, valL_nil], OwnG.nil _ _ _, below_alloc _ _, by simp, by go_simp, fun o => by go_simp⟩
  case round =>
    obtain ⟨k, vs, row, hkl, rfl, hval, hT, hB, hsz, ⟨f0, f1, f2, f3⟩, hf8⟩ := hrel
    have HT := Lib.hid hT; clear hT
    have HVL := Lib.hid hval; clear hval
    have hcB := hB.cell (p := ⟨w.heap.size, 3, none⟩) g3
    rw [hc3.2.2.2] at hcB
    have HBr := Lib.hid (below_step HB2.out (by omega) hB)
    by_cases hlt : k < x.args.length
    · obtain ⟨b, o, rfl⟩ := HR.out.addr (by omega)
      obtain ⟨a', cap', hSb, d0, d1, d2, d3, hE⟩ := (HR.out.below HBr.out).elem k hlt
      have hE := Lib.hid hE
      go_wp2_with fail
      refine (IH.out _ (List.getElem_mem hlt) S _ _ _ (hE.out.alloc _) ((HBD.out.below HBr.out).alloc _) (fun b hb => by have := hS b hb; simp; omega)).mono ?_
      rintro e w3 ⟨t1, v1, ok, rfl, hB3a, ⟨a1, cap1, rfl, hcap1, hr1⟩, ho⟩
      have hB3 := below_step (below_alloc wr _) (by simp) hB3a
      have HR1 : Hid (RT (fun b => wr.heap.size ≤ b) w3 t1 _) := Lib.hid (RT.mono (S := fun b => False ∨ (wr.alloc _).heap.size ≤ b) ⟨a1, cap1, rfl, hcap1, hr1⟩ fun b hb => by rcases hb with hb | hb; exact hb.elim; (simp at hb; show wr.heap.size ≤ b; omega))
      have hs3 := hB3.size
      clear d0 d1 d2 d3 hr1 hcap1 hB3a
      have hcB3 := hB3.cell (p := ⟨w.heap.size, 3, none⟩) (by show w.heap.size < _; omega)
      rw [hcB] at hcB3
      have f03 := hB3.cell (p := ⟨w2.heap.size, 0, none⟩) (by show w2.heap.size < _; omega)
      have f13 := hB3.cell (p := ⟨w2.heap.size, 1, none⟩) (by show w2.heap.size < _; omega)
      have f23 := hB3.cell (p := ⟨w2.heap.size, 2, none⟩) (by show w2.heap.size < _; omega)
      have f33 := hB3.cell (p := ⟨w2.heap.size, 3, none⟩) (by show w2.heap.size < _; omega)
      rw [f0] at f03
      rw [f1] at f13
      rw [f2] at f23
      rw [f3] at f33
      have ff3 : ∀ o, w3.frozen? ⟨w2.heap.size, o, none⟩ = false := fun o => by rw [hB3.frozen (p := ⟨w2.heap.size, o, none⟩) (by show w2.heap.size < _; omega)]; exact hf8 o
      cases ok
      · have HV2 := Lib.hid (show valT bd self x = none by rw [HV.out, valL_none hlt ho]; rfl)
        have hz6 := fun o => hB3.cell (p := ⟨w.heap.size + 1, o, none⟩) (by show w.heap.size + 1 < _; omega)
        have hz7 := fun o => hB3.frozen (p := ⟨w.heap.size + 1, o, none⟩) (by show w.heap.size + 1 < _; omega)
        have hz8 := fun o => hB.cell (p := ⟨w.heap.size + 1, o, none⟩) g4
        have hz9 := fun o => hB.frozen (p := ⟨w.heap.size + 1, o, none⟩) g4
        have hy3 : w3.cell? ⟨w.heap.size + 1, 0, none⟩ = some (.int .i64 0) ∧ w3.cell? ⟨w.heap.size + 1, 1, none⟩ = some (.int .i64 0) ∧ w3.cell? ⟨w.heap.size + 1, 2, none⟩ = some (.string ⟨#[]⟩) ∧ w3.cell? ⟨w.heap.size + 1, 3, none⟩ = some (.slice none 0 0) := by
          rw [hz6, hz6, hz6, hz6, hz8, hz8, hz8, hz8]; exact hz3
        have hyf : ∀ o, w3.frozen? ⟨w.heap.size + 1, o, none⟩ = false := fun o => by rw [hz7, hz9]; exact hfz o
        have hx3 : w3.cell? ⟨w.heap.size, 0, none⟩ = some (.int .i64 x.kind) ∧ w3.cell? ⟨w.heap.size, 1, none⟩ = some (.int .i64 x.n) ∧ w3.cell? ⟨w.heap.size, 2, none⟩ = some (.string x.name) ∧ w3.cell? ⟨w.heap.size, 3, none⟩ = some (.slice (some ⟨b, o, none⟩) x.args.length cap) := by
          have q := fun o => hB3.cell (p := ⟨w.heap.size, o, none⟩) (by show w.heap.size < _; omega)
          have r := fun o => hB.cell (p := ⟨w.heap.size, o, none⟩) g3
          rw [q, q, q, q, r, r, r, r]; exact hc3
        obtain ⟨y0, y1, y2, y3⟩ := hy3
        obtain ⟨x0, x1, x2, x3⟩ := hx3
        clear hz6 hz7 hz8 hz9 hc3 hz3 hfz hcB hcB3 f0 f1 f2 f3 f03 f13 f23 f33 hf8 ff3
        have hn1 : w.heap.size < w3.heap.size := by omega
        have hn2 : w.heap.size + 1 < w3.heap.size := by omega
        go_wp2_with fail
        refine bodyPost_ret (v := .tuple #[.agg #[.int .i64 0, .int .i64 0, .string ⟨#[]⟩, .slice none 0 0], .bool false]) (by simp [results, Try.results114, go_sem, hn1, hn2, y0, y1, y2, y3]) rfl (VPost.of zeroT _ _ rfl ?_ ⟨none, 0, rfl, ⟨Nat.le_refl _, fun _ => rfl⟩, by simp [zeroT, RTs]⟩ HV2.out)
        refine Below.alloc ?_ (by simp <;> omega) _
        repeat refine Below.setCell ?_ (by simp <;> omega) _
        exact below_step HBr.out (by omega) hB3
      · have HO := Lib.hid (show valT bd self x.args[k] = some t1 from ho)
        clear ho
        have HT3 := Lib.hid ((HT.out.below hB3).alloc (.cells #[.int .i64 t1.kind, .int .i64 t1.n, .string t1.name, .slice a1 t1.args.length cap1] 24))
        have HT0 := Lib.hid HT.out.block
        have hlv := valL_length HVL.out
        have hnn : vs.length + 1 ≤ 1099511627776 := by rw [hlv]; simp; omega
        have hw3 : w2.heap.size < w3.heap.size := by omega
        have HW4 : Hid (∀ w4, Below (w2.heap.size + 1) (w3.alloc (.cells #[.int .i64 t1.kind, .int .i64 t1.n, .string t1.name, .slice a1 t1.args.length cap1] 24)) w4 → (w4.cell? ⟨w2.heap.size, 0, none⟩ = some (.int .i64 4) ∧ w4.cell? ⟨w2.heap.size, 1, none⟩ = some (.int .i64 0) ∧ w4.cell? ⟨w2.heap.size, 2, none⟩ = some (.string ⟨#[]⟩) ∧ w4.cell? ⟨w2.heap.size, 3, none⟩ = some row) ∧ ∀ o, w4.frozen? ⟨w2.heap.size, o, none⟩ = false) := Lib.hid fun w4 h => by
          have hlt : w2.heap.size < w2.heap.size + 1 := by omega
          have q := fun o => h.cell (p := ⟨w2.heap.size, o, none⟩) hlt
          have r := fun o => h.frozen (p := ⟨w2.heap.size, o, none⟩) hlt
          refine ⟨⟨?_, ?_, ?_, ?_⟩, fun o => ?_⟩
          · rw [q]; go_simp
          · rw [q]; go_simp
          · rw [q]; go_simp
          · rw [q]; go_simp
          · rw [r]; go_simp
        go_wp2_with (at_builtin; refine append_grow' _ _ rfl rfl rfl rfl (by simp) HT3.out (HR1.out.alloc _) (fun b hb hl => ⟨by (have hb' : wr.heap.size ≤ b := hb); show w2.heap.size + 1 ≤ b; omega, fun he => by (have := HT0.out b he); (have hb' : wr.heap.size ≤ b := hb); omega⟩) hnn (by simp <;> omega) ?_; intro v4 w4 hT4 hB4 hw4; have hs4 := hB4.size; have H4 := Lib.hid hT4; clear hT4 hw4; simp only [World.size_alloc] at hs4; obtain ⟨a4, cap4, hv4⟩ := H4.out.form; subst hv4; obtain ⟨⟨q0, q1, q2, q3⟩, q4⟩ := HW4.out w4 hB4)
        go_roundw
        case rel =>
          refine ⟨k + 1, vs ++ [t1], _, by omega, by go_num, valL_snoc hlt HVL.out HO.out, H4.out.setCell _ _ _ (by omega) (fun hP => by (have hP' : w2.heap.size + 1 ≤ w2.heap.size := hP); omega), ?_, by simp; omega, ?_, fun o => by go_simp⟩
          · exact Below.setCell (((below_step hB (by omega) hB3).alloc (by omega) _).trans (hB4.mono (by omega))) (Nat.le_refl _) _
          · go_simp
        case measure => simp [intOf]; omega
    · have hkk : k = x.args.length := by omega
      subst hkk
      have hval := HVL.out
      rw [List.take_of_length_le (Nat.le_refl _)] at hval
      have hlv := valL_length hval
      have HV2 := Lib.hid (show valT bd self x = (if isT x sAdd 2 then sumO (vs.getD 1 zeroT) (vs.getD 2 zeroT) else some (tupT vs)) by rw [HV.out, hval]; rfl)
      have hcr : wr.cell? ⟨w.heap.size, 0, none⟩ = some (.int .i64 x.kind) ∧ wr.cell? ⟨w.heap.size, 1, none⟩ = some (.int .i64 x.n) ∧ wr.cell? ⟨w.heap.size, 2, none⟩ = some (.string x.name) ∧ wr.cell? ⟨w.heap.size, 3, none⟩ = some (.slice a x.args.length cap) := by
        have r := fun o => hB.cell (p := ⟨w.heap.size, o, none⟩) g3
        rw [r, r, r, r]; exact hc3
      have hzr : wr.cell? ⟨w.heap.size + 1, 0, none⟩ = some (.int .i64 0) ∧ wr.cell? ⟨w.heap.size + 1, 1, none⟩ = some (.int .i64 0) ∧ wr.cell? ⟨w.heap.size + 1, 2, none⟩ = some (.string ⟨#[]⟩) ∧ wr.cell? ⟨w.heap.size + 1, 3, none⟩ = some (.slice none 0 0) := by
        have r := fun o => hB.cell (p := ⟨w.heap.size + 1, o, none⟩) g4
        rw [r, r, r, r]; exact hz3
      have hfr : ∀ o, wr.frozen? ⟨w.heap.size + 1, o, none⟩ = false := fun o => by rw [hB.frozen (p := ⟨w.heap.size + 1, o, none⟩) g4]; exact hfz o
      obtain ⟨x0, x1, x2, x3⟩ := hcr
      obtain ⟨y0, y1, y2, y3⟩ := hzr
      clear hc3 hz3 hfz hcB
      have hn1 : w.heap.size < wr.heap.size := by omega
      have hn2 : w.heap.size + 1 < wr.heap.size := by omega
      have hn3 : w2.heap.size < wr.heap.size := by omega
      go_wp2_with fail
      refine (is_ris x sAdd 2 S _ _ (HX.out.below HBr.out) (by omega) (by omega) (by omega)).mono ?_
      rintro e w5 ⟨rfl, hB5⟩
      have hs5 := hB5.size
      obtain ⟨hcc5, hff5⟩ := bcell hB5
      have HB5 := Lib.hid (below_step HBr.out (by omega) hB5)
      have HT5 := Lib.hid (HT.out.below hB5)
      obtain ⟨a5, cap5, hrow, hcap5, hr5⟩ := HT5.out.rsl (fun b hb => hb)
      subst hrow
      have HT6 := Lib.hid hr5; clear hr5
      have hn4 : w.heap.size + 1 < w5.heap.size := by omega
      cases hadd : isT x sAdd 2
      · rw [hadd] at HV2
        go_wp2_with fail
        refine bodyPost_ret (v := .tuple #[.agg #[.int .i64 4, .int .i64 0, .string ⟨#[]⟩, .slice a5 vs.length cap5], .bool true]) (by simp [results, Try.results114, go_sem, hcc5, hn2, y0, y1, y2, y3, hlv]) rfl (VPost.of (tupT vs) _ _ rfl ?_ ?_ HV2.out)
        · repeat refine Below.setCell ?_ (by simp <;> omega) _
          exact HB5.out
        · refine RT.mono (S := fun b => w2.heap.size + 1 ≤ b) ?_ fun b hb => .inr (by (have hb' : w2.heap.size + 1 ≤ b := hb); omega)
          repeat refine RT.slot ?_ _ _ _ (fun b hb => by (have hb' : w2.heap.size + 1 ≤ b := hb); simp <;> omega)
          exact ⟨a5, cap5, rfl, hcap5, HT6.out⟩
      · rw [hadd] at HV2
        have hln := isT_length hadd
        obtain ⟨b5, o5, rfl⟩ := HT6.out.addr (by omega)
        obtain ⟨a6, cap6, hS6, d0, d1, d2, d3, hE6⟩ := HT6.out.elem 1 (by omega)
        obtain ⟨a7, cap7, hS7, e0, e1, e2, e3, hE7⟩ := HT6.out.elem 2 (by omega)
        have hv1 : vs.getD 1 zeroT = vs[1]'(by omega) := by simp [List.getD, show 1 < vs.length by omega]
        have hv2 : vs.getD 2 zeroT = vs[2]'(by omega) := by simp [List.getD, show 2 < vs.length by omega]
        rw [hv1, hv2] at HV2
        clear hv1 hv2
        simp only [Nat.one_mul] at d0 d1 d2 d3
        generalize vs[1] = t1 at *
        generalize vs[2] = t2 at *
        have hn5 : b5 < w5.heap.size := World.block_lt_of_cell? w5 _ d0
        have hn6 : w2.heap.size < w5.heap.size := by omega
        have hn7 : w2.heap.size < w5.heap.size + 1 := by omega
        have hn8 : b5 < w5.heap.size + 1 := by omega
        have hl5 : (1 : Int) < vs.length := by omega
        have hl6 : (2 : Int) < vs.length := by omega
        have HSM := Lib.hid (show sumO t1 t2 = if sumB t1 t2 then some (numT (sumN t1 t2)) else none from rfl)
        have q3 : w5.cell? ⟨w2.heap.size, 3, none⟩ = some (.slice (some ⟨b5, o5, none⟩) vs.length cap5) := by rw [hcc5 _ _ hn3]; exact f3
        have yy : w5.cell? ⟨w.heap.size + 1, 0, none⟩ = some (.int .i64 0) ∧ w5.cell? ⟨w.heap.size + 1, 1, none⟩ = some (.int .i64 0) ∧ w5.cell? ⟨w.heap.size + 1, 2, none⟩ = some (.string ⟨#[]⟩) ∧ w5.cell? ⟨w.heap.size + 1, 3, none⟩ = some (.slice none 0 0) := by
          rw [hcc5 _ _ hn2, hcc5 _ _ hn2, hcc5 _ _ hn2, hcc5 _ _ hn2]; exact ⟨y0, y1, y2, y3⟩
        have yf : ∀ o, w5.frozen? ⟨w.heap.size + 1, o, none⟩ = false := fun o => by rw [hff5 _ _ hn2]; exact hfr o
        have hq0 : w5.cell? ⟨w2.heap.size, 3, none⟩ = some (.slice (some ⟨b5, o5, none⟩) vs.length cap5) ∧ w5.cell? ⟨b5, o5 + 4, none⟩ = some (.int .i64 t1.kind) ∧ w5.cell? ⟨b5, o5 + 4 + 1, none⟩ = some (.int .i64 t1.n) ∧ w5.cell? ⟨b5, o5 + 4 + 2, none⟩ = some (.string t1.name) ∧ w5.cell? ⟨b5, o5 + 4 + 3, none⟩ = some (.slice a6 t1.args.length cap6) ∧ w5.cell? ⟨b5, o5 + 2 * 4, none⟩ = some (.int .i64 t2.kind) ∧ w5.cell? ⟨b5, o5 + 2 * 4 + 1, none⟩ = some (.int .i64 t2.n) ∧ w5.cell? ⟨b5, o5 + 2 * 4 + 2, none⟩ = some (.string t2.name) ∧ w5.cell? ⟨b5, o5 + 2 * 4 + 3, none⟩ = some (.slice a7 t2.args.length cap7) := ⟨q3, d0, d1, d2, d3, e0, e1, e2, e3⟩
        have hq : ∀ w3 : World, Below w5.drew.heap.size w5.drew w3 → w3.cell? ⟨w2.heap.size, 3, none⟩ = some (.slice (some ⟨b5, o5, none⟩) vs.length cap5) ∧ w3.cell? ⟨b5, o5 + 4, none⟩ = some (.int .i64 t1.kind) ∧ w3.cell? ⟨b5, o5 + 4 + 1, none⟩ = some (.int .i64 t1.n) ∧ w3.cell? ⟨b5, o5 + 4 + 2, none⟩ = some (.string t1.name) ∧ w3.cell? ⟨b5, o5 + 4 + 3, none⟩ = some (.slice a6 t1.args.length cap6) ∧ w3.cell? ⟨b5, o5 + 2 * 4, none⟩ = some (.int .i64 t2.kind) ∧ w3.cell? ⟨b5, o5 + 2 * 4 + 1, none⟩ = some (.int .i64 t2.n) ∧ w3.cell? ⟨b5, o5 + 2 * 4 + 2, none⟩ = some (.string t2.name) ∧ w3.cell? ⟨b5, o5 + 2 * 4 + 3, none⟩ = some (.slice a7 t2.args.length cap7) := fun w3 h => by
          obtain ⟨q, -⟩ := bcell h
          rw [q _ _ hn6, q _ _ hn5, q _ _ hn5, q _ _ hn5, q _ _ hn5, q _ _ hn5, q _ _ hn5, q _ _ hn5, q _ _ hn5]; exact hq0
        have hz : ∀ w3 : World, Below w5.drew.heap.size w5.drew w3 → (∀ o, w3.frozen? ⟨w.heap.size + 1, o, none⟩ = false) ∧ w3.cell? ⟨w.heap.size + 1, 0, none⟩ = some (.int .i64 0) ∧ w3.cell? ⟨w.heap.size + 1, 1, none⟩ = some (.int .i64 0) ∧ w3.cell? ⟨w.heap.size + 1, 2, none⟩ = some (.string ⟨#[]⟩) ∧ w3.cell? ⟨w.heap.size + 1, 3, none⟩ = some (.slice none 0 0) := fun w3 h => by
          obtain ⟨q, r⟩ := bcell h
          refine ⟨fun o => by rw [r _ _ hn4]; exact yf o, ?_⟩
          rw [q _ _ hn4, q _ _ hn4, q _ _ hn4, q _ _ hn4]; exact yy
        have hbn1 : b5 ≠ w.heap.size + 1 := by (have hS6' : w2.heap.size + 1 ≤ b5 := hS6); omega
        have hbn2 : w2.heap.size ≠ w.heap.size + 1 := by omega
        have hkeep : ∀ (w4 : World) (u0 u1 u2 u3 : Value), Below w5.drew.heap.size w5.drew w4 → (fun w' : World => w'.cell? ⟨w2.heap.size, 3, none⟩ = some (.slice (some ⟨b5, o5, none⟩) vs.length cap5) ∧ w'.cell? ⟨b5, o5 + 4, none⟩ = some (.int .i64 t1.kind) ∧ w'.cell? ⟨b5, o5 + 4 + 1, none⟩ = some (.int .i64 t1.n) ∧ w'.cell? ⟨b5, o5 + 4 + 2, none⟩ = some (.string t1.name) ∧ w'.cell? ⟨b5, o5 + 4 + 3, none⟩ = some (.slice a6 t1.args.length cap6) ∧ w'.cell? ⟨b5, o5 + 2 * 4, none⟩ = some (.int .i64 t2.kind) ∧ w'.cell? ⟨b5, o5 + 2 * 4 + 1, none⟩ = some (.int .i64 t2.n) ∧ w'.cell? ⟨b5, o5 + 2 * 4 + 2, none⟩ = some (.string t2.name) ∧ w'.cell? ⟨b5, o5 + 2 * 4 + 3, none⟩ = some (.slice a7 t2.args.length cap7)) ((((w4.setCell ⟨w.heap.size + 1, 0, none⟩ u0).setCell ⟨w.heap.size + 1, 1, none⟩ u1).setCell ⟨w.heap.size + 1, 2, none⟩ u2).setCell ⟨w.heap.size + 1, 3, none⟩ u3) := fun w4 u0 u1 u2 u3 h => by
          have e : ∀ b' o', b' ≠ w.heap.size + 1 → ((((w4.setCell ⟨w.heap.size + 1, 0, none⟩ u0).setCell ⟨w.heap.size + 1, 1, none⟩ u1).setCell ⟨w.heap.size + 1, 2, none⟩ u2).setCell ⟨w.heap.size + 1, 3, none⟩ u3).cell? ⟨b', o', none⟩ = w4.cell? ⟨b', o', none⟩ := fun b' o' hne => by
            refine World.cell?_of_block ?_
            simp only [setCell_other _ _ _ _ _ hne]
          simp only [e _ _ hbn1, e _ _ hbn2]
          exact hq _ h
        simp only [] at hkeep
        have HE6 := Lib.hid (hE6.below (Below.drew (Below.refl w5.heap.size w5)))
        have HE7 := Lib.hid (hE7.below (Below.drew (Below.refl w5.heap.size w5)))
        clear x0 x1 x2 x3 y0 y1 y2 y3 hcc5 hff5 hfr f0 f1 f2 f3 hf8 HX HR HBD IH hB hB5 HT HT5 HT6 HVL HB1 HB2 HBr HV hn1 hn2 hn3 hE6 hE7
        go_wp2_with fail
        go_region_held3 (fun w' => w'.cell? ⟨w2.heap.size, 3, none⟩ = some (.slice (some ⟨b5, o5, none⟩) vs.length cap5) ∧ w'.cell? ⟨b5, o5 + 4, none⟩ = some (.int .i64 t1.kind) ∧ w'.cell? ⟨b5, o5 + 4 + 1, none⟩ = some (.int .i64 t1.n) ∧ w'.cell? ⟨b5, o5 + 4 + 2, none⟩ = some (.string t1.name) ∧ w'.cell? ⟨b5, o5 + 4 + 3, none⟩ = some (.slice a6 t1.args.length cap6) ∧ w'.cell? ⟨b5, o5 + 2 * 4, none⟩ = some (.int .i64 t2.kind) ∧ w'.cell? ⟨b5, o5 + 2 * 4 + 1, none⟩ = some (.int .i64 t2.n) ∧ w'.cell? ⟨b5, o5 + 2 * 4 + 2, none⟩ = some (.string t2.name) ∧ w'.cell? ⟨b5, o5 + 2 * 4 + 3, none⟩ = some (.slice a7 t2.args.length cap7))
          (first | exact hq0 | exact hq _ hBB | exact hkeep _ _ _ _ _ hBB | go_keep)
          (first
            | (go_at_call 129; refine (sum_c t1 t2 _ _ _ _ _ HE6.out HE7.out).mono ?_; rintro e wc ⟨rfl, hBB⟩; obtain ⟨z0, z1, z2, z3, z4⟩ := hz _ hBB; obtain ⟨y0, y1, y2, y3, y4, y5, y6, y7, y8⟩ := hq _ hBB))
        go_wp2_with fail
        refine bodyPost_ret (v := .tuple #[.agg #[.int .i64 1, .int .i64 (sumN t1 t2), .string ⟨#[]⟩, .slice none 0 0], .bool (sumB t1 t2)]) (by simp [results, Try.results114, go_sem, z1, z2, z3, z4]) rfl (VPost.of (numT (sumN t1 t2)) _ _ rfl ?_ (numT_rt _ _ _) (by rw [HV2.out]; simp [HSM.out]))
        repeat refine Below.setCell ?_ (by simp <;> omega) _
        exact below_step HB5.out.drew (by simp; omega) hBB
end
end Go.Proofs.Ytedfepnekjjmnab

/-
 reckon.value: what was put.
-/
namespace Go.Proofs.Ytedfepnekjjmnab
open Go.RowKit
set_option linter.unusedSimpArgs false
set_option linter.unusedVariables false
section
variable {bd : List T} {self : Int} {x : T} {S : Nat → Prop} {w : World} {v vb : Value}

end
end Go.Proofs.Ytedfepnekjjmnab

/-
 reckon.value on tuples.
-/
namespace Go.Proofs.Ytedfepnekjjmnab
open Go.RowKit
set_option linter.unusedSimpArgs false
set_option linter.unusedVariables false
section
variable {bd : List T} {self : Int} {x : T} {S : Nat → Prop} {w : World} {v vb : Value}

end
end Go.Proofs.Ytedfepnekjjmnab

/-
 clerkref.value, reckon.value: what they answer, all cases; how much what they answer holds. Conditions: a formed term, four bound ones.
-/
namespace Go.Proofs.Ytedfepnekjjmnab
open Go.RowKit
set_option linter.unusedSimpArgs false
set_option linter.unusedVariables false

theorem bulk_tup (l : List T) : bulkL [tupT l] = 1 + bulkL l := by simp [tupT, bulkL, ByteArray.size]
theorem bulk_num (n : Int) : bulkL [numT n] = 1 := by simp [numT, bulkL, ByteArray.size]
theorem bulk_pid (n : Int) : bulkL [pidT n] = 1 := by simp [pidT, bulkL, ByteArray.size]
theorem bulk_one (t : T) : bulkL [t] = 1 + t.name.size + bulkL t.args := by rw [bulkL_cons]; simp [bulkL]
theorem mul_split (a b c B : Nat) : (a + b + c) * B = a * B + b * B + c * B := by rw [Nat.add_mul, Nat.add_mul]
theorem le_mul_pos (a B : Nat) (h : 1 ≤ B) : a ≤ a * B := Nat.le_mul_of_pos_right a h

/-- A value holds at most as much as its term has parts, each one as great as a bound one. -/
theorem valT_bulk (bd : List T) (self : Int) (hl : bd.length = 4) : ∀ (x t : T), formL [x] = true → valT bd self x = some t → bulkL [t] ≤ bulkL [x] * (bulkL bd + 1) := by
 intro x
 induction x using T.ind with
 | h x ih =>
  intro t hf hv
  have h1 := bulk_one x
  have hB : 1 ≤ bulkL bd + 1 := by omega
  have hX := le_mul_pos (bulkL [x]) _ hB
  have hA := le_mul_pos (bulkL x.args) _ hB
  have hN := le_mul_pos x.name.size _ hB
  have hM := mul_split 1 x.name.size (bulkL x.args) (bulkL bd + 1)
  rw [← h1] at hM
  generalize hM1 : bulkL [x] * (bulkL bd + 1) = m1 at *
  generalize hM3 : bulkL x.args * (bulkL bd + 1) = m3 at *
  generalize hM4 : x.name.size * (bulkL bd + 1) = m4 at *
  by_cases h6 : x.kind = 6
  ·rw [valT_6 h6] at hv; cases hv
  by_cases h5 : x.kind = 5
  ·obtain ⟨k, hk, hk4⟩ := form_var hf h5
   rw [valT_5 h5 hk (by omega)] at hv
   have := bulk_at (ts := bd) (i := k) (by omega)
   unfold varO at hv
   split at hv
   ·cases hv
   ·simp only [Option.some.injEq] at hv; subst hv; omega
  by_cases h4 : x.kind = 4
  ·cases hs : isT x sSelf 0
   ·cases hp : isT x sPut 1
    ·rw [valT_tup h4 hs hp] at hv
     obtain ⟨vs, hvs, hv⟩ := Option.bind_eq_some_iff.1 hv
     have key : ∀ (l us : List T), (∀ y ∈ l, y ∈ x.args) → valL bd self l = some us → bulkL us ≤ bulkL l * (bulkL bd + 1) := by
      intro l
      induction l with
      | nil => intro us _ h; rw [valL_nil] at h; cases h; simp [bulkL]
      | cons y l ihl =>
       intro us hm h
       rw [valL_cons] at h
       obtain ⟨u, hu, h⟩ := Option.bind_eq_some_iff.1 h
       obtain ⟨us', hus, rfl⟩ := Option.map_eq_some_iff.1 h
       have g1 := ih y (hm y (by simp)) u (form_args hf (hm y (by simp))) hu
       have g2 := ihl us' (fun z hz => hm z (by simp [hz])) hus
       have e1 : bulkL (u :: us') = bulkL [u] + bulkL us' := bulkL_append [u] us'
       have e2 : bulkL (y :: l) = bulkL [y] + bulkL l := bulkL_append [y] l
       rw [e1, e2, Nat.add_mul]; omega
     have g := key _ _ (fun y h => h) hvs
     rw [hM3] at g
     split at hv
     ·unfold sumO at hv
      split at hv
      ·simp only [Option.some.injEq] at hv; subst hv; rw [bulk_num]; omega
      ·cases hv
     ·simp only [Option.some.injEq] at hv; subst hv; rw [bulk_tup]; omega
    ·have hln := isT_length hp
     rw [valT_put h4 hs hp (by omega)] at hv
     have := bulk_at (ts := x.args) (i := 1) (by omega)
     unfold putO at hv
     split at hv
     ·simp only [Option.some.injEq] at hv; subst hv; omega
     ·cases hv
   ·rw [valT_self h4 hs] at hv; simp only [Option.some.injEq] at hv; subst hv; rw [bulk_pid]; omega
  ·rw [valT_o h4 h5 h6] at hv; simp only [Option.some.injEq] at hv; subst hv; omega

/-- The last limit. -/
def valF (bd : List T) (self : Int) (x : T) : Option T := (valT bd self x).bind fun t => if checkE t = 0 then some t else none
theorem valF_none {bd : List T} {self : Int} {x : T} (h : valT bd self x = none) : valF bd self x = none := by rw [valF, h]; rfl
theorem valF_some {bd : List T} {self : Int} {x t : T} (h : valT bd self x = some t) (hc : checkE t = 0) : valF bd self x = some t := by rw [valF, h]; simp [hc]
theorem valF_bad {bd : List T} {self : Int} {x t : T} (h : valT bd self x = some t) (hc : checkE t ≠ 0) : valF bd self x = none := by rw [valF, h]; simp [hc]
theorem four_mul (a m : Nat) : 4 * (a * m) ≤ (a + m) * (a + m) := by
 rcases Nat.le_total a m with h | h
 ·obtain ⟨d, rfl⟩ := Nat.le.dest h
  have e : (a + (a + d)) * (a + (a + d)) = 4 * (a * (a + d)) + d * d := by
   simp only [Nat.mul_add, Nat.add_mul, Nat.mul_comm d a]; omega
  omega
 ·obtain ⟨d, rfl⟩ := Nat.le.dest h
  have e : (m + d + m) * (m + d + m) = 4 * ((m + d) * m) + d * d := by
   simp only [Nat.mul_add, Nat.add_mul, Nat.mul_comm d m]; omega
  omega
theorem mul_small (a b : Nat) (h : a + b ≤ 2000000) : a * (b + 1) ≤ 1099511627776 := by
 have h1 := four_mul a (b + 1)
 have h2 : (a + (b + 1)) * (a + (b + 1)) ≤ 2000001 * 2000001 := Nat.mul_le_mul (by omega) (by omega)
 omega
theorem zeroT_rt (S : Nat → Prop) (w : World) : RT S w zeroT (.agg #[.int .i64 0, .int .i64 0, .string ⟨#[]⟩, .slice none 0 0]) := ⟨none, 0, rfl, ⟨Nat.le_refl _, fun _ => rfl⟩, by simp [zeroT, RTs]⟩
end Go.Proofs.Ytedfepnekjjmnab

/-
 clerkref.Value, reckon.Value: what they answer. Conditions: bounds on how much there is; for the first one a formed term and four bound ones.
-/
namespace Go.Proofs.Ytedfepnekjjmnab
open Go.RowKit
set_option linter.unusedSimpArgs false
set_option linter.unusedVariables false

def VF (S : Nat → Prop) (w : World) (o : Option T) (e : Ending) (w' : World) : Prop :=
 ∃ v, e = .returned (.tuple #[v, .bool o.isSome]) ∧ Below w.heap.size w w' ∧ RT (fun b => S b ∨ w.heap.size ≤ b) w' (o.getD zeroT) v
theorem VF.none {S : Nat → Prop} {w w' : World} {e : Ending} {o : Option T} (ho : o = Option.none) (he : e = .returned (.tuple #[.agg #[.int .i64 0, .int .i64 0, .string ⟨#[]⟩, .slice Option.none 0 0], .bool false])) (hB : Below w.heap.size w w') : VF S w o e w' := by
 subst ho; exact ⟨_, he, hB, zeroT_rt _ _⟩
theorem VF.some {S : Nat → Prop} {w w' : World} {e : Ending} {o : Option T} {t : T} {v : Value} (ho : o = Option.some t) (he : e = .returned (.tuple #[v, .bool true])) (hB : Below w.heap.size w w') (hr : RT (fun b => S b ∨ w.heap.size ≤ b) w' t v) : VF S w o e w' := by
 subst ho; exact ⟨_, he, hB, hr⟩

/-- What reckon.Value answers. -/
def reckO (bd : List T) (self : Int) (x : T) : T × Int :=
 if checkE x ≠ 0 then (zeroT, checkE x) else if boundB bd = false then (zeroT, 5) else if inB self 1 99 = false then (zeroT, 1) else match valF bd self x with | some t => (t, 0) | none => (zeroT, 7)
section
variable {bd : List T} {self : Int} {x : T}
theorem reckO_check (h : checkE x ≠ 0) : reckO bd self x = (zeroT, checkE x) := by rw [reckO, if_pos h]
theorem reckO_bound (h : checkE x = 0) (hb : boundB bd = false) : reckO bd self x = (zeroT, 5) := by rw [reckO, if_neg (by simp [h]), if_pos hb]
theorem reckO_self (h : checkE x = 0) (hb : boundB bd = true) (hs : inB self 1 99 = false) : reckO bd self x = (zeroT, 1) := by rw [reckO, if_neg (by simp [h]), if_neg (by simp [hb]), if_pos hs]
theorem reckO_none (h : checkE x = 0) (hb : boundB bd = true) (hs : inB self 1 99 = true) (hv : valF bd self x = none) : reckO bd self x = (zeroT, 7) := by rw [reckO, if_neg (by simp [h]), if_neg (by simp [hb]), if_neg (by simp [hs]), hv]
theorem reckO_some {t : T} (h : checkE x = 0) (hb : boundB bd = true) (hs : inB self 1 99 = true) (hv : valF bd self x = some t) : reckO bd self x = (t, 0) := by rw [reckO, if_neg (by simp [h]), if_neg (by simp [hb]), if_neg (by simp [hs]), hv]
theorem boundB_len (h : boundB bd = true) : bd.length = 4 := by simp only [boundB, Bool.and_eq_true, beq_iff_eq] at h; exact h.1
theorem check_form' {t : T} (h : checkE t = 0) : formL [t] = true := by
 unfold checkE at h
 split at h
 ·assumption
 ·omega
end
def RO (S : Nat → Prop) (w : World) (o : T × Int) (e : Ending) (w' : World) : Prop :=
 ∃ v, e = .returned (.tuple #[v, .int .i64 o.2]) ∧ Below w.heap.size w w' ∧ RT (fun b => S b ∨ w.heap.size ≤ b) w' o.1 v
theorem RO.open {S : Nat → Prop} {w w' : World} {e : Ending} {t : T} {n : Int} (h : RO S w (t, n) e w') : ∃ a cap, e = .returned (.tuple #[.agg #[.int .i64 t.kind, .int .i64 t.n, .string t.name, .slice a t.args.length cap], .int .i64 n]) ∧ Below w.heap.size w w' ∧
  RT (fun b => S b ∨ w.heap.size ≤ b) w' t (.agg #[.int .i64 t.kind, .int .i64 t.n, .string t.name, .slice a t.args.length cap]) := by
 obtain ⟨v, he, hB, a, cap, rfl, hc, hr⟩ := h; exact ⟨a, cap, he, hB, a, cap, rfl, hc, hr⟩
theorem RO.zero {S : Nat → Prop} {w w' : World} {e : Ending} {o : T × Int} {n : Int} (ho : o = (zeroT, n)) (he : e = .returned (.tuple #[.agg #[.int .i64 0, .int .i64 0, .string ⟨#[]⟩, .slice none 0 0], .int .i64 n])) (hB : Below w.heap.size w w') : RO S w o e w' := by
 subst ho; exact ⟨_, he, hB, zeroT_rt _ _⟩
theorem RO.some {S : Nat → Prop} {w w' : World} {e : Ending} {o : T × Int} {t : T} {v : Value} (ho : o = (t, 0)) (he : e = .returned (.tuple #[v, .int .i64 0])) (hB : Below w.heap.size w w') (hr : RT (fun b => S b ∨ w.heap.size ≤ b) w' t v) : RO S w o e w' := by
 subst ho; exact ⟨_, he, hB, hr⟩

end Go.Proofs.Ytedfepnekjjmnab

/-
 What is reckoned is closed; sums don't hang on the order: in plain words. No program in sight.
-/
namespace Go.Proofs.Ytedfepnekjjmnab
set_option linter.unusedSimpArgs false
set_option linter.unusedVariables false



end Go.Proofs.Ytedfepnekjjmnab

/-
 What is bound, put into a pattern: the pattern then fits just so. In plain words, no program in sight.
-/
namespace Go.Proofs.Ytedfepnekjjmnab
set_option linter.unusedSimpArgs false
set_option linter.unusedVariables false

/-- Who was bound stays so. -/
def Stay (b c : List T) : Prop := b.length = c.length ∧ ∀ i (h1 : i < b.length) (h2 : i < c.length), b[i].kind ≠ 6 → c[i] = b[i]
theorem Stay.refl (b : List T) : Stay b b := ⟨rfl, fun _ _ _ _ => rfl⟩
theorem Stay.trans {a b c : List T} (h : Stay a b) (k : Stay b c) : Stay a c :=
 ⟨h.1.trans k.1, fun i h1 h2 hn => by
  have h3 : i < b.length := by have := h.1; omega
  have e := h.2 i h1 h3 hn
  rw [k.2 i h3 h2 (by rw [e]; exact hn), e]⟩
theorem Stay.set {b : List T} {k : Nat} (hk : k < b.length) (h6 : b[k].kind = 6) (t : T) : Stay b (b.set k t) := by
 refine ⟨by simp, fun i h1 h2 hn => ?_⟩
 have : k ≠ i := fun e => by subst e; exact hn h6
 simp [List.getElem_set, this]
end Go.Proofs.Ytedfepnekjjmnab

/-
 clerkkeep.put: what is bound, put into a pattern. Conditions: a formed pattern, four bound ones, a bound on how much there is.
-/
namespace Go.Proofs.Ytedfepnekjjmnab
open Go.RowKit
set_option linter.unusedSimpArgs false
set_option linter.unusedVariables false
set_option maxRecDepth 100000

section
variable {ops : Array Oper} {o : Oper} {a : Act} {Q : Exit → Act → World → Prop}
end
end Go.Proofs.Ytedfepnekjjmnab

/-
 Rows of terms of one's own, more laws: written out, stored beside, grown at a drawn step; a struct read out of the midst of a row. No condition.
-/
namespace Go.Proofs.Ytedfepnekjjmnab
open Go.RowKit
set_option linter.unusedSimpArgs false
set_option linter.unusedVariables false

theorem OwnG.store1 {P : Nat → Prop} {base : Nat} {w : World} {v : Value} {ts : List T} (h : OwnG P base w v ts) (B o : Nat) (u : Value) (hB : v.ownBlock ≠ some B) (hP : ¬ P B) : OwnG P base (w.setCell ⟨B, o, none⟩ u) v ts :=
 h.to (by simp) fun b hb _ => setCell_other w B o u b fun e => by
  subst e
  rcases hb with hb | hb
  ·exact hP hb
  ·exact hB hb
theorem OwnG.lit {P S : Nat → Prop} {base : Nat} {w : World} {ts : List T} {cs : List Value} (h : CellsT S w ts cs) (hS : ∀ b, S b → b < w.heap.size → P b) (hb : base ≤ w.heap.size) {n : Nat} (hn : ts.length = n) (hm : n ≤ 1099511627776) {B : Nat} (hB : B = w.heap.size) :
  OwnG P base (w.alloc (.cells cs.toArray 24)) (.slice (some ⟨B, 0, none⟩) n n) ts := by
 subst hn hB
 have h1 := World.ownsRow_lit (e := 24) (size := 4) (base := base) w cs.toArray ts.length hb (by unfold maxLen; omega) (by simpa using h.length)
 refine ⟨cs, by simpa using h1, ?_⟩
 exact ((h.to (S' := fun b => P b ∧ b < w.heap.size + 1 ∧ b ≠ w.heap.size) (fun b hb hl => ⟨hS b hb hl, by omega, by omega⟩) fun b _ hl => Below.heap_alloc _ _ _ hl).to (fun b hb _ => ⟨hb.1, by simpa using hb.2.1, fun e => hb.2.2 (by simpa [Value.ownBlock] using e.symm)⟩) fun _ _ _ => rfl)
theorem CellsT.tup {S : Nat → Prop} {w : World} {l : List T} {a : Option Addr} {n cap : Nat} {ts : List T} {cs : List Value} (ht : RT S w (tupT l) (.agg #[.int .i64 4, .int .i64 0, .string ⟨#[]⟩, .slice a n cap])) (h : CellsT S w ts cs) : CellsT S w (tupT l :: ts) (.int .i64 4 :: .int .i64 0 :: .string ⟨#[]⟩ :: .slice a n cap :: cs) := by
 obtain ⟨a', cap', e, h1, h2⟩ := ht
 simp only [tupT, Value.agg.injEq, Array.mk.injEq, List.cons.injEq, Value.slice.injEq, and_true, true_and] at e
 obtain ⟨rfl, rfl, rfl⟩ := e
 exact ⟨_, _, cs, rfl, h1, h2, h⟩
theorem Blk.heap {w w' : World} {B : Nat} {cs : List Value} (h : Blk w B cs) (he : w'.heap[B]? = w.heap[B]?) : Blk w' B cs := by
 have hlt : B < w'.heap.size := by
  have h1 : w.heap[B]? = some (w.heap[B]'h.lt) := Array.getElem?_eq_getElem h.lt
  rw [h1] at he
  exact (Array.getElem?_eq_some_iff.1 he).1
 exact ⟨hlt, fun j u hu => (World.cell?_of_block (w := w) (a := ⟨B, j, none⟩) he).trans (h.cell j u hu), fun o => (World.frozen?_of_block (w := w) (a := ⟨B, o, none⟩) he).trans (h.fr o)⟩
section
variable {ops : Array Oper} {rest : List Oper} {o : Oper} {a : Act} {Q : Exit → Act → World → Prop} {K : Act → World → Prop} {w : World}
theorem load_at (ty : TypeId) (k : Nat) (hi : (Try.prog.info? ty).map (·.size) = some k) (d : TypeDesc) (hu : Try.prog.underlying ty = some d) (hr : d.isRow = true) (x : Operand) (hgd : o.guard = none) (ho : o.op = .load ty x)
  {b off : Nat} {cs : List Value} (hx : a.eval x = .pointer (some ⟨b, off, none⟩)) (hR : w.rangeAt b off cs) (hl : cs.length = k)
  (h : wpList Try.prog ops Q rest (a.put o.dst (.agg cs.toArray)) w) : wpList Try.prog ops Q (o :: rest) a w :=
 wpList_load_mid hgd ty x ho b off hx cs d hR hu hr (by rw [hi, hl]) h
theorem step_grow2 {K : Act → World → Prop} {E : Prop} (s x : Operand) (hgd : o.guard = none) (ho : o.op = .call { callee := .builtin .append, args := #[s, x], argTypes := #[22, 22] })
  {P R : Nat → Prop} {base : Nat} {w0 : World} {v : Value} {ts : List T} {t : T} {c0 c1 c2 c3 : Value} {g0 n : Nat} (hs : a.eval s = v) (hx : a.eval x = .slice (some ⟨g0, 0, none⟩) 1 1) (hg0 : g0 = w0.heap.size) (hown : OwnG P base w0 v ts)
  (ht : RT R w0 t (.agg #[c0, c1, c2, c3])) (hR : ∀ b, R b → b < w0.heap.size → P b ∧ v.ownBlock ≠ some b) (hnl : ts.length = n) (hn : n + 1 ≤ 1099511627776) (hbase : base ≤ w0.heap.size)
  (h : ∀ g cap w', OwnG P base w' (.slice (some ⟨g, 0, none⟩) (n + 1) cap) (ts ++ [t]) → (w0.alloc (.cells #[c0, c1, c2, c3] 24)).grownBy w' v.ownBlock → Below base w0 w' → (v.ownBlock = some g ∨ w0.heap.size < g) → K (a.put o.dst (.slice (some ⟨g, 0, none⟩) (n + 1) cap)) w') :
  if Region.wanted o (yielded ops a.tmps) = true then Oper.wp Try.prog o a (w0.alloc (.cells #[c0, c1, c2, c3] 24)) K Q else E := by
 subst hg0 hnl
 have hlt := hown.block
 obtain ⟨i, hi, hz0, hz1, hz2⟩ := info_parts info24
 have hown1 : OwnT (fun b => P b ∧ b < w0.heap.size ∧ v.ownBlock ≠ some b) base (w0.alloc (.cells #[c0, c1, c2, c3] 24)) v ts := OwnT.to hown (Nat.le_refl _) (fun _ h _ => h) fun b _ hb => Below.heap_alloc _ _ _ hb
 have hl := (ht.to (S' := fun b => P b ∧ b < w0.heap.size ∧ v.ownBlock ≠ some b) (fun b hb hl => ⟨(hR b hb hl).1, hl, (hR b hb hl).2⟩) fun _ _ _ => rfl).one 24
 obtain ⟨cs, ho1, hC⟩ := hown1
 obtain ⟨au, cap, ds, e, hcap, hD, hj⟩ := hl
 simp only [Value.slice.injEq] at e
 obtain ⟨rfl, -, rfl⟩ := e
 refine step_append_lies _ hgd s x 22 ho base 24 i _ 4 56 Try.underlying22 hi hz0 hz1 hz2 rfl (by decide) v _ cs hs ho1 ⟨w0.heap.size, 0, none⟩ 1 1 ds hx (by simpa using hD.length) ?_ hD.oneCell (by decide) (by unfold maxLen; omega) (by omega) (by simp; omega) _ rfl ?_
 ·intro j u' hu
  obtain ⟨b, o', e, _, hc⟩ := hj j u' hu
  simp only [Option.some.injEq] at e
  rw [e]
  unfold Addr.add
  split
  ·rename_i h0; subst h0; exact hc
  ·exact hc
 ·intro g cap w' h1 h2 h3 h4
  have h2s := h2.size
  simp only [World.size_alloc] at h2s h3
  have hblk : ∀ b, (P b ∧ b < w0.heap.size ∧ v.ownBlock ≠ some b) → b < (w0.alloc (.cells #[c0, c1, c2, c3] 24)).heap.size → w'.heap[b]? = (w0.alloc (.cells #[c0, c1, c2, c3] 24)).heap[b]? := fun b hb hlt => h2.block b hlt (fun e => hb.2.2 e.symm)
  have hO : OwnT (fun b => P b ∧ b < w0.heap.size ∧ v.ownBlock ≠ some b) base w' (.slice (some ⟨g, 0, none⟩) (ts.length + 1) cap) (ts ++ [t]) := ⟨cs ++ ds, by simpa using h1, (hC.to (fun _ h _ => h) hblk).append (hD.to (fun _ h _ => h) hblk)⟩
  refine h g cap w' (hO.to (Nat.le_refl _) (fun b hb _ => ⟨hb.1, by have := hb.2.1; omega, fun e => ?_⟩) fun _ _ _ => rfl) h2 ?_ ?_
  ·simp only [Value.ownBlock, Option.some.injEq] at e
   subst e
   rcases h3 with h5 | h5
   ·exact hb.2.2 h5
   ·have := hb.2.1; omega
  ·exact grown_below ((Below.refl _ _).alloc hbase _) h2 (by simp; omega) fun b hb => (hlt b hb).1
  ·rcases h3 with h5 | h5
   ·exact .inl h5
   ·exact .inr (by omega)
theorem wp_grow (s x : Operand) (hgd : o.guard = none) (ho : o.op = .call { callee := .builtin .append, args := #[s, x], argTypes := #[22, 22] })
  {P R : Nat → Prop} {base : Nat} {w0 : World} {v : Value} {ts : List T} {t : T} {c0 c1 c2 c3 : Value} {g0 n : Nat} (hs : a.eval s = v) (hx : a.eval x = .slice (some ⟨g0, 0, none⟩) 1 1) (hg0 : g0 = w0.heap.size) (hown : OwnG P base w0 v ts)
  (ht : RT R w0 t (.agg #[c0, c1, c2, c3])) (hR : ∀ b, R b → b < w0.heap.size → P b ∧ v.ownBlock ≠ some b) (hnl : ts.length = n) (hn : n + 1 ≤ 1099511627776) (hbase : base ≤ w0.heap.size)
  (h : ∀ g cap w', OwnG P base w' (.slice (some ⟨g, 0, none⟩) (n + 1) cap) (ts ++ [t]) → (w0.alloc (.cells #[c0, c1, c2, c3] 24)).grownBy w' v.ownBlock → Below base w0 w' → (v.ownBlock = some g ∨ w0.heap.size < g) → K (a.put o.dst (.slice (some ⟨g, 0, none⟩) (n + 1) cap)) w') :
  Oper.wp Try.prog o a (w0.alloc (.cells #[c0, c1, c2, c3] 24)) K Q := by
 have h1 := step_grow2 (ops := #[]) (Q := Q) (E := True) s x hgd ho hs hx hg0 hown ht hR hnl hn hbase h
 rwa [if_pos (by simp [Region.wanted, hgd])] at h1
end
end Go.Proofs.Ytedfepnekjjmnab
