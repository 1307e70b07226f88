/-
  What reckoning answers, in plain words. No program in sight.
-/
import Derived.Test.YtedfepnekjjmnabDoorIs
import Derived.Test.YtedfepnekjjmnabDoorSame
import Derived.Test.YtedfepnekjjmnabDoorBound
namespace Go.Proofs.YtedfepnekjjmnabDoor
set_option linter.unusedSimpArgs false
set_option linter.unusedVariables false

def zeroT : T := ⟨0, 0, ⟨#[]⟩, []⟩
def pidT (n : Int) : T := ⟨3, n, ⟨#[]⟩, []⟩
def sSelf : ByteArray := ⟨#[115, 101, 108, 102]⟩
def sPut : ByteArray := ⟨#[112, 117, 116]⟩
def sAdd : ByteArray := ⟨#[97, 100, 100]⟩
def sumN (a b : T) : Int := Go.RowKit.wrap64 (a.n + b.n)
def sumB (a b : T) : Bool := a.kind == 1 && b.kind == 1 && inB (sumN a b) (-1099511627776) 1099511627776
def sumO (a b : T) : Option T := if sumB a b then some (numT (sumN a b)) else none
def varO (t : T) : Option T := if t.kind == 6 then none else some t
def putO (t : T) : Option T := if closedL [t] then some t else none
def valH (bd : List T) (self : Int) (x : T) (r : Option (List T)) : Option T :=
  if x.kind = 6 then none else if x.kind = 5 then varO (bd.getD x.n.toNat zeroT) else if isT x sSelf 0 then some (pidT self)
  else if isT x sPut 1 then putO (x.args.getD 1 zeroT) else if x.kind ≠ 4 then some x
  else r.bind fun vs => if isT x sAdd 2 then sumO (vs.getD 1 zeroT) (vs.getD 2 zeroT) else some (tupT vs)
def valL (bd : List T) (self : Int) : List T → Option (List T)
  | [] => some []
  | ⟨k, n, s, l⟩ :: ts => (valH bd self ⟨k, n, s, l⟩ (valL bd self l)).bind fun v => (valL bd self ts).map fun vs => v :: vs
def valT (bd : List T) (self : Int) (x : T) : Option T := valH bd self x (valL bd self x.args)
theorem valL_cons (bd : List T) (self : Int) (t : T) (ts : List T) : valL bd self (t :: ts) = (valT bd self t).bind fun v => (valL bd self ts).map fun vs => v :: vs := by
  obtain ⟨k, n, s, l⟩ := t; rw [valL]; rfl
theorem valL_nil (bd : List T) (self : Int) : valL bd self [] = some [] := by rw [valL]
theorem valL_length {bd : List T} {self : Int} {l vs : List T} (h : valL bd self l = some vs) : vs.length = l.length := by
  induction l generalizing vs with
  | nil => rw [valL_nil] at h; cases h; rfl
  | cons t l ih =>
    rw [valL_cons] at h
    obtain ⟨v, hv, h⟩ := Option.bind_eq_some_iff.1 h
    obtain ⟨us, hu, rfl⟩ := Option.map_eq_some_iff.1 h
    simp [ih hu]
theorem valL_append {bd : List T} {self : Int} (a b : List T) : valL bd self (a ++ b) = (valL bd self a).bind fun us => (valL bd self b).map fun vs => us ++ vs := by
  induction a with
  | nil => rw [valL_nil]; simp
  | cons t a ih =>
    rw [List.cons_append, valL_cons, valL_cons, ih]
    cases valT bd self t <;> cases valL bd self a <;> cases valL bd self b <;> rfl
theorem valL_snoc {bd : List T} {self : Int} {l vs : List T} {k : Nat} {t : T} (h : k < l.length) (hp : valL bd self (l.take k) = some vs) (ht : valT bd self l[k] = some t) : valL bd self (l.take (k + 1)) = some (vs ++ [t]) := by
  rw [take_snoc' l k h, valL_append, hp, valL_cons, ht, valL_nil]; rfl
theorem valL_none {bd : List T} {self : Int} {l : List T} {k : Nat} (h : k < l.length) (ht : valT bd self l[k] = none) : valL bd self l = none := by
  have e : l = l.take k ++ (l[k] :: l.drop (k + 1)) := by simp
  rw [e, valL_append, valL_cons, ht]; cases valL bd self (l.take k) <;> rfl

theorem valT_6 {bd : List T} {self : Int} {x : T} (h : x.kind = 6) : valT bd self x = none := by rw [valT, valH, if_pos h]
theorem valT_5 {bd : List T} {self : Int} {x : T} (h : x.kind = 5) {k : Nat} (hk : x.n = k) (hl : k < bd.length) : valT bd self x = varO bd[k] := by
  rw [valT, valH, if_neg (by omega), if_pos h, hk]; simp [hl]
theorem valT_o {bd : List T} {self : Int} {x : T} (h : x.kind ≠ 4) (h5 : x.kind ≠ 5) (h6 : x.kind ≠ 6) : valT bd self x = some x := by
  have e : (x.kind == 4) = false := by simpa using h
  rw [valT, valH, if_neg h6, if_neg h5, isT_kind e, isT_kind e]; simp [h]
theorem valT_self {bd : List T} {self : Int} {x : T} (h : x.kind = 4) (hs : isT x sSelf 0 = true) : valT bd self x = some (pidT self) := by
  rw [valT, valH, if_neg (by omega), if_neg (by omega), if_pos hs]
theorem valT_put {bd : List T} {self : Int} {x : T} (h : x.kind = 4) (hs : isT x sSelf 0 = false) (hp : isT x sPut 1 = true) (hl : 1 < x.args.length) : valT bd self x = putO x.args[1] := by
  rw [valT, valH, if_neg (by omega), if_neg (by omega), if_neg (by simp [hs]), if_pos hp]; simp [hl]
theorem valT_tup {bd : List T} {self : Int} {x : T} (h : x.kind = 4) (hs : isT x sSelf 0 = false) (hp : isT x sPut 1 = false) :
    valT bd self x = (valL bd self x.args).bind fun vs => if isT x sAdd 2 then sumO (vs.getD 1 zeroT) (vs.getD 2 zeroT) else some (tupT vs) := by
  rw [valT, valH, if_neg (by omega), if_neg (by omega), if_neg (by simp [hs]), if_neg (by simp [hp]), if_neg (by simp [h])]
theorem isT_length {x : T} {s : ByteArray} {n : Int} (h : isT x s n = true) : (x.args.length : Int) = n + 1 := by
  simp only [isT, Bool.and_eq_true, decide_eq_true_eq] at h; exact h.1.2

theorem form_var {x : T} (h : formL [x] = true) (hk : x.kind = 5) : ∃ k : Nat, x.n = k ∧ k < 4 := by
  rw [formL_cons] at h
  simp only [Bool.and_eq_true] at h
  have := h.1.1
  simp only [headB, hk] at this
  simp [inB] at this
  exact ⟨x.n.toNat, by omega, by omega⟩
theorem form_args {x : T} (h : formL [x] = true) {y : T} (hy : y ∈ x.args) : formL [y] = true := by
  rw [formL_cons] at h
  simp only [Bool.and_eq_true] at h
  rw [formL_all, List.all_eq_true] at h
  exact h.1.2 y hy
theorem form_rangeK {x : T} (h : formL [x] = true) : 1 ≤ x.kind ∧ x.kind ≤ 6 := by
  rw [formL_cons] at h
  simp only [Bool.and_eq_true] at h
  have := h.1.1
  simp only [headB] at this
  repeat' (split at this)
  all_goals first | omega | simp at this
end Go.Proofs.YtedfepnekjjmnabDoor
