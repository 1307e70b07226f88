/-
  The order of terms is an order: plain facts on lists and numbers; no program in sight.
-/
import Derived.Test.YtedfepnekjjmnabDoorOrder
namespace Go.Proofs.YtedfepnekjjmnabDoor
open Go.RowKit
set_option linter.unusedSimpArgs false
set_option linter.unusedVariables false

/-- Three things compared. -/
structure Cmp3 {α : Type} (f : α → α → Int) (x y z : α) : Prop where
  a1 : f y x = - f x y
  a2 : f z y = - f y z
  a3 : f z x = - f x z
  z1 : f x y = 0 ↔ x = y
  z2 : f y z = 0 ↔ y = z
  z3 : f x z = 0 ↔ x = z
  t : f x y ≤ 0 → f y z ≤ 0 → f x z ≤ 0

def lexI {α β : Type} (f : α → α → Int) (g : β → β → Int) (x y : α × β) : Int := orI [f x.1 y.1, g x.2 y.2]

theorem lexI_eq {α β : Type} (f : α → α → Int) (g : β → β → Int) (x y : α × β) : lexI f g x y = if f x.1 y.1 = 0 then g x.2 y.2 else f x.1 y.1 := by
  simp only [lexI, orI]; split
  · split <;> omega
  · rfl

theorem lex3 {α β : Type} {f : α → α → Int} {g : β → β → Int} {x y z : α × β} (h : Cmp3 f x.1 y.1 z.1) (k : Cmp3 g x.2 y.2 z.2) : Cmp3 (lexI f g) x y z := by
  obtain ⟨a1, a2, a3, z1, z2, z3, t⟩ := h
  obtain ⟨b1, b2, b3, y1, y2, y3, s⟩ := k
  have e : f x.1 z.1 = 0 → f y.1 z.1 = - f x.1 y.1 := fun h => by rw [← z3.1 h]; exact a1
  refine ⟨?_, ?_, ?_, ?_, ?_, ?_, ?_⟩
  all_goals simp only [lexI_eq]
  · rw [a1]; split <;> split <;> omega
  · rw [a2]; split <;> split <;> omega
  · rw [a3]; split <;> split <;> omega
  · rw [Prod.ext_iff, ← z1, ← y1]; split <;> omega
  · rw [Prod.ext_iff, ← z2, ← y2]; split <;> omega
  · rw [Prod.ext_iff, ← z3, ← y3]; split <;> omega
  · intro h1 h2
    by_cases h3 : f x.1 z.1 = 0
    · have := e h3
      rw [if_pos h3]
      by_cases h4 : f x.1 y.1 = 0
      · rw [if_pos h4] at h1; rw [if_pos (by omega)] at h2; exact s h1 h2
      · rw [if_neg h4] at h1; rw [if_neg (by omega)] at h2; omega
    · rw [if_neg h3]
      refine t ?_ ?_
      · split at h1 <;> omega
      · split at h2 <;> omega

theorem cmp3_int (x y z : Int) : Cmp3 cmpI x y z := by
  constructor <;> simp only [cmpI] <;> (repeat' split) <;> omega

/-- A comparison of lists, element by element; the shorter one first. -/
structure ListCmp {α : Type} (f : α → α → Int) (F : List α → List α → Int) : Prop where
  nn : F [] [] = 0
  nc : ∀ y ys, F [] (y :: ys) = -1
  cn : ∀ x xs, F (x :: xs) [] = 1
  cc : ∀ x xs y ys, F (x :: xs) (y :: ys) = lexI f F (x, xs) (y, ys)

theorem two_of_three {α : Type} {f : α → α → Int} {x y : α} (h : Cmp3 f x y x) : f y x = - f x y ∧ (f x y = 0 ↔ x = y) := ⟨h.a1, h.z1⟩

theorem list3 {α : Type} {f : α → α → Int} {F : List α → List α → Int} (H : ListCmp f F) {p : α → Prop} (hp : ∀ a b c, p a → p b → p c → Cmp3 f a b c) : ∀ n (xs ys zs : List α), xs.length + ys.length + zs.length ≤ n → (∀ x, x ∈ xs ∨ x ∈ ys ∨ x ∈ zs → p x) → Cmp3 F xs ys zs := by
  intro n
  induction n with
  | zero =>
    intro xs ys zs hn _
    obtain rfl : xs = [] := List.eq_nil_of_length_eq_zero (by omega)
    obtain rfl : ys = [] := List.eq_nil_of_length_eq_zero (by omega)
    obtain rfl : zs = [] := List.eq_nil_of_length_eq_zero (by omega)
    constructor <;> simp [H.nn]
  | succ n ih =>
    have two : ∀ x xs y ys, xs.length + ys.length + 1 ≤ n → (∀ a, a ∈ x :: xs ∨ a ∈ y :: ys → p a) → F (y :: ys) (x :: xs) = - F (x :: xs) (y :: ys) ∧ (F (x :: xs) (y :: ys) = 0 ↔ x :: xs = y :: ys) := by
      intro x xs y ys hn h
      have k := ih xs ys [] (by simp; omega) fun a ha => h a (by rcases ha with ha | ha | ha <;> simp_all)
      have hxy := two_of_three (hp x y x (h x (by simp)) (h y (by simp)) (h x (by simp)))
      rw [H.cc, H.cc, lexI_eq, lexI_eq]
      simp only
      refine ⟨?_, ?_⟩
      · rw [hxy.1, k.a1]; split <;> split <;> omega
      · simp only [List.cons.injEq]
        rw [← hxy.2, ← k.z1]; split <;> omega
    intro xs ys zs hn h
    match xs, ys, zs with
    | [], [], [] => constructor <;> simp [H.nn]
    | [], [], z :: zs => constructor <;> simp [H.nn, H.nc, H.cn]
    | [], y :: ys, [] => constructor <;> simp [H.nn, H.nc, H.cn]
    | x :: xs, [], [] => constructor <;> simp [H.nn, H.nc, H.cn]
    | [], y :: ys, z :: zs =>
      have k := two y ys z zs (by simp at hn; omega) fun a ha => h a (by rcases ha with ha | ha <;> simp [ha])
      exact ⟨by rw [H.nc, H.cn]; rfl, k.1, by rw [H.nc, H.cn]; rfl, by rw [H.nc]; simp, k.2, by rw [H.nc]; simp, fun _ _ => by rw [H.nc]; decide⟩
    | x :: xs, [], z :: zs =>
      have k := two x xs z zs (by simp at hn; omega) fun a ha => h a (by rcases ha with ha | ha <;> simp [ha])
      exact ⟨by rw [H.nc, H.cn], by rw [H.nc, H.cn]; rfl, k.1, by rw [H.cn]; simp, by rw [H.nc]; simp, k.2, fun h1 _ => by rw [H.cn] at h1; exact absurd h1 (by decide)⟩
    | x :: xs, y :: ys, [] =>
      have k := two x xs y ys (by simp at hn; omega) fun a ha => h a (by rcases ha with ha | ha <;> simp [ha])
      exact ⟨k.1, by rw [H.nc, H.cn], by rw [H.nc, H.cn], k.2, by rw [H.cn]; simp, by rw [H.cn]; simp, fun _ h1 => by rw [H.cn] at h1; exact absurd h1 (by decide)⟩
    | x :: xs, y :: ys, z :: zs =>
      have k := ih xs ys zs (by simp at hn; omega) fun a ha => h a (by rcases ha with ha | ha | ha <;> simp [ha])
      obtain ⟨a1, a2, a3, z1, z2, z3, t⟩ := lex3 (x := (x, xs)) (y := (y, ys)) (z := (z, zs)) (hp x y z (h x (by simp)) (h y (by simp)) (h z (by simp))) k
      refine ⟨?_, ?_, ?_, ?_, ?_, ?_, ?_⟩ <;> simp only [H.cc]
      · exact a1
      · exact a2
      · exact a3
      · rw [z1]; simp
      · rw [z2]; simp
      · rw [z3]; simp
      · exact t

theorem cmp3_u8 (x y z : UInt8) : Cmp3 (fun a b : UInt8 => cmpI a.toNat b.toNat) x y z := by
  have h := cmp3_int x.toNat y.toNat z.toNat
  have e : ∀ a b : UInt8, ((a.toNat : Int) = b.toNat ↔ a = b) := fun a b => ⟨fun h => UInt8.toNat_inj.1 (by omega), fun h => by rw [h]⟩
  exact ⟨h.a1, h.a2, h.a3, h.z1.trans (e _ _), h.z2.trans (e _ _), h.z3.trans (e _ _), h.t⟩

theorem bytes_listCmp : ListCmp (fun a b : UInt8 => cmpI a.toNat b.toNat) Lib.compareBytes := by
  refine ⟨rfl, fun _ _ => rfl, fun _ _ => rfl, fun x xs y ys => ?_⟩
  rw [Lib.compareBytes, lexI_eq]
  simp only [cmpI, UInt8.lt_iff_toNat_lt]
  by_cases h1 : x.toNat < y.toNat
  · have : (x.toNat : Int) < y.toNat := by omega
    simp [h1, this]
  · have h1' : ¬ (x.toNat : Int) < y.toNat := by omega
    by_cases h2 : y.toNat < x.toNat
    · have : (y.toNat : Int) < x.toNat := by omega
      simp [h1, h1', h2, this]
    · have : ¬ (y.toNat : Int) < x.toNat := by omega
      simp [h1, h1', h2, this]

theorem cmp3_bytes (x y z : List UInt8) : Cmp3 Lib.compareBytes x y z := list3 bytes_listCmp (p := fun _ => True) (fun a b c _ _ _ => cmp3_u8 a b c) _ x y z (Nat.le_refl _) fun _ _ => trivial

theorem ordL_listCmp : ListCmp ordT ordL := ⟨ordL_nn, ordL_nc, ordL_cn, fun x xs y ys => by rw [ordL_cons]; rfl⟩

def keyT (t : T) : Int × Int × List UInt8 × Int × List T := (t.kind, t.n, t.name.data.toList, t.args.length, t.args)
theorem ordT_lex (x y : T) : ordT x y = lexI cmpI (lexI cmpI (lexI Lib.compareBytes (lexI cmpI ordL))) (keyT x) (keyT y) := by
  simp only [ordT, lexI_eq, keyT, orI]
  repeat' split
  all_goals first | rfl | omega
theorem keyT_inj {x y : T} : keyT x = keyT y ↔ x = y := by
  constructor
  · intro h
    obtain ⟨k, n, s, l⟩ := x
    obtain ⟨k', n', s', l'⟩ := y
    simp only [keyT, Prod.mk.injEq] at h
    obtain ⟨rfl, rfl, h3, _, rfl⟩ := h
    have : s = s' := by
      obtain ⟨a⟩ := s; obtain ⟨b⟩ := s'
      simp only at h3
      congr 1
      exact Array.toList_inj.1 h3
    rw [this]
  · intro h; rw [h]

theorem ordT_3' : ∀ n (x y z : T), bulkL [x] ≤ n → bulkL [y] ≤ n → bulkL [z] ≤ n → Cmp3 ordT x y z := by
  intro n
  induction n with
  | zero => intro x y z h; have := bulk_args x; omega
  | succ n ih =>
    intro x y z h1 h2 h3
    have hx := bulk_args x
    have hy := bulk_args y
    have hz := bulk_args z
    have hL : Cmp3 ordL x.args y.args z.args := list3 ordL_listCmp (p := fun t => bulkL [t] ≤ n) ih _ _ _ _ (Nat.le_refl _) fun a ha => by
      rcases ha with ha | ha | ha
      · have := bulk_mem ha; omega
      · have := bulk_mem ha; omega
      · have := bulk_mem ha; omega
    have k := lex3 (x := keyT x) (y := keyT y) (z := keyT z) (f := cmpI) (g := lexI cmpI (lexI Lib.compareBytes (lexI cmpI ordL))) (cmp3_int _ _ _) (lex3 (cmp3_int _ _ _) (lex3 (cmp3_bytes _ _ _) (lex3 (cmp3_int _ _ _) hL)))
    obtain ⟨a1, a2, a3, z1, z2, z3, t⟩ := k
    simp only [← ordT_lex, keyT_inj] at a1 a2 a3 z1 z2 z3 t
    exact ⟨a1, a2, a3, z1, z2, z3, t⟩
theorem ordT_3 (x y z : T) : Cmp3 ordT x y z := ordT_3' (bulkL [x] + bulkL [y] + bulkL [z]) x y z (by omega) (by omega) (by omega)

end Go.Proofs.YtedfepnekjjmnabDoor
