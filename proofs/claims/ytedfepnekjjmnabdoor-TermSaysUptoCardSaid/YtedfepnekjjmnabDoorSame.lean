/-
  clerkref.Same, SameTerms, slices.EqualFunc; clerkkeep.num, word, two; clerkref.Tuple: what they answer. No condition but a bound on how much there is.
-/
import Derived.Test.YtedfepnekjjmnabDoorOrdPlain
import Derived.Test.YtedfepnekjjmnabDoorRow
namespace Go.Proofs.YtedfepnekjjmnabDoor
open Go.RowKit
set_option linter.unusedSimpArgs false
set_option linter.unusedVariables false

def sameT (x y : T) : Bool := ordT x y == 0
def sameL (xs ys : List T) : Bool := ordL xs ys == 0
theorem sameT_iff (x y : T) : sameT x y = true ↔ x = y := by rw [sameT, beq_iff_eq]; exact (ordT_3 x y x).z1
theorem ordL_3 (xs ys zs : List T) : Cmp3 ordL xs ys zs := list3 ordL_listCmp (p := fun _ => True) (fun a b c _ _ _ => ordT_3 a b c) _ _ _ _ (Nat.le_refl _) fun _ _ => trivial
theorem sameL_iff (xs ys : List T) : sameL xs ys = true ↔ xs = ys := by rw [sameL, beq_iff_eq]; exact (ordL_3 xs ys xs).z1
theorem sameT_false {x y : T} (h : x ≠ y) : sameT x y = false := by
  cases e : sameT x y
  · rfl
  · exact absurd ((sameT_iff x y).1 e) h
theorem sameL_false {x y : List T} (h : x ≠ y) : sameL x y = false := by
  cases e : sameL x y
  · rfl
  · exact absurd ((sameL_iff x y).1 e) h
theorem ba_ext {s t : ByteArray} (h : s.data.toList = t.data.toList) : s = t := by
  obtain ⟨a⟩ := s; obtain ⟨b⟩ := t; congr 1; exact Array.toList_inj.1 h
theorem sameT_parts (x y : T) (h1 : x.kind = y.kind) (h2 : x.n = y.n) (h3 : x.name.toList = y.name.toList) : sameT x y = sameL x.args y.args := by
  have hn : x.name = y.name := by
    rw [Lib.toList_data, Lib.toList_data] at h3
    exact ba_ext h3
  cases e : sameL x.args y.args
  · exact sameT_false fun h => by rw [h] at e; rw [(sameL_iff _ _).2 rfl] at e; cases e
  · rw [sameT_iff]
    have := (sameL_iff _ _).1 e
    obtain ⟨k, n, s, l⟩ := x
    obtain ⟨k', n', s', l'⟩ := y
    simp_all
theorem sameL_at {xs ys : List T} {k : Nat} (h1 : k < xs.length) (h2 : k < ys.length) (h : sameT xs[k] ys[k] = false) : sameL xs ys = false :=
  sameL_false fun e => by subst e; rw [(sameT_iff _ _).2 rfl] at h; cases h
theorem sameL_all {xs ys : List T} (hl : xs.length = ys.length) (h : ∀ i (h1 : i < xs.length) (h2 : i < ys.length), sameT xs[i] ys[i] = true) : sameL xs ys = true := by
  rw [sameL_iff]
  exact List.ext_getElem hl fun i h1 h2 => (sameT_iff _ _).1 (h i h1 h2)

set_option maxHeartbeats 1000000 in
theorem equalFunc_Same (S : Nat → Prop) (xs ys : List T) (w : World) (u v : Value) (hu : RSl S w xs u) (hv : RSl S w ys v) (hlx : xs.length ≤ 1099511627776) (hly : ys.length ≤ 1099511627776)
    (hf : ∀ x ∈ xs, ∀ y ∈ ys, ∀ (W : World) (p q : Value), RT S W x p → RT S W y q → Calls Tryd.prog 16 #[p, q] W fun e w' => e = .returned (.bool (sameT x y)) ∧ Below W.heap.size W w') :
    Calls Tryd.prog 52 #[u, v, .func (.func 16) #[] #[]] w fun e w' => e = .returned (.bool (sameL xs ys)) ∧ Below w.heap.size w w' := by
  obtain ⟨a1, cap1, rfl, hc1, hr1⟩ := hu
  obtain ⟨a2, cap2, rfl, hc2, hr2⟩ := hv
  have HF := Lib.hid hf; clear hf
  have HX := Lib.hid hr1; clear hr1
  have HY := Lib.hid hr2; clear hr2
  by_cases hll : xs.length = ys.length
  · have hle : xs.length ≤ ys.length := by omega
    have hge : ys.length ≤ xs.length := by omega
    have hb : ((xs.length : Int) != (ys.length : Int)) = false := by simp [hll]
    have HL := Lib.hid hll; clear hll
    go_enter Tryd.func52, Tryd.ntmps52
    go_wp2_with fail
    go_loopw [17] (fun i wr => ∃ k : Nat, k ≤ xs.length ∧ i = .int .i64 k ∧ (∀ i (h0 : i < k) (h1 : i < xs.length) (h2 : i < ys.length), sameT xs[i] ys[i] = true) ∧ Below w.heap.size w wr) (fun i _ => xs.length - (intOf i).toNat)
    case atStart => exact ⟨0, Nat.zero_le _, rfl, fun i h0 => by omega, Below.refl _ _⟩
    case round =>
      obtain ⟨k, hkx, rfl, hall, hB⟩ := hrel
      have HA := Lib.hid hall; clear hall
      have hsw := hB.size
      by_cases hlt : k < xs.length
      · obtain ⟨b, o, rfl⟩ := HX.out.addr (by omega)
        obtain ⟨a', cap', _, d0, d1, d2, d3, hE⟩ := (HX.out.below hB).elem k hlt
        have hlt2 : k < ys.length := by omega
        obtain ⟨b2, o2, rfl⟩ := HY.out.addr (by omega)
        obtain ⟨a2', cap2', _, e0, e1, e2, e3, hE2⟩ := (HY.out.below hB).elem k hlt2
        have hblt := World.block_lt_of_cell? wr _ e0
        have HAT := Lib.hid (sameL_at hlt hlt2)
        go_wp2_with fail
        refine (HF.out _ (List.getElem_mem hlt) _ (List.getElem_mem hlt2) _ _ _ ((hE.alloc _).alloc _) ((hE2.alloc _).alloc _)).mono ?_
        have HK : Hid (sameT xs[k] ys[k] = true → ∀ i (h0 : i < k + 1) (h1 : i < xs.length) (h2 : i < ys.length), sameT xs[i] ys[i] = true) := Lib.hid fun he i h0 h1 h2 => by
          by_cases hik : i < k
          · exact HA.out i hik h1 h2
          · have : i = k := by omega
            subst this; exact he
        cases hz : sameT xs[k] ys[k]
        · have HZ := Lib.hid hz; clear hz
          rintro e w1 ⟨rfl, hB1⟩
          go_wp2_with fail
          go_ret
          exact ⟨ret_bool (by rw [HAT.out HZ.out]), below_step ((hB.alloc (by omega) _).alloc (by simp <;> omega) _) (by simp <;> omega) hB1⟩
        · have HZ := Lib.hid hz; clear hz
          rintro e w1 ⟨rfl, hB1⟩
          go_wp2_with fail
          go_roundw
          case rel => exact ⟨k + 1, by omega, by go_num, HK.out HZ.out, below_step ((hB.alloc (by omega) _).alloc (by simp <;> omega) _) (by simp <;> omega) hB1⟩
          case measure => simp [intOf]; omega
      · have hkk : k = xs.length := by omega
        subst hkk
        go_wp2_with fail
        go_ret
        exact ⟨ret_bool (by rw [sameL_all HL.out fun i h1 h2 => HA.out i h1 h1 h2]), hB⟩
  · have hb : ((xs.length : Int) != (ys.length : Int)) = true := by simp; omega
    have HL := Lib.hid hll; clear hll
    go_enter Tryd.func52, Tryd.ntmps52
    go_wp2_with fail
    go_ret
    exact ⟨ret_bool (by rw [sameL_false fun e => HL.out (by rw [e])]), Below.refl _ _⟩

set_option maxHeartbeats 400000 in
theorem sameTerms_of (S : Nat → Prop) (xs ys : List T) (w : World) (u v : Value) (hu : RSl S w xs u) (hv : RSl S w ys v) (hlx : xs.length ≤ 1099511627776) (hly : ys.length ≤ 1099511627776)
    (hf : ∀ x ∈ xs, ∀ y ∈ ys, ∀ (W : World) (p q : Value), RT S W x p → RT S W y q → Calls Tryd.prog 16 #[p, q] W fun e w' => e = .returned (.bool (sameT x y)) ∧ Below W.heap.size W w') :
    Calls Tryd.prog 34 #[u, v] w fun e w' => e = .returned (.bool (sameL xs ys)) ∧ Below w.heap.size w w' := by
  have HF := Lib.hid hf; clear hf
  have HU := Lib.hid hu; clear hu
  have HV := Lib.hid hv; clear hv
  go_enter Tryd.func34, Tryd.ntmps34
  go_wp2_with fail
  refine (equalFunc_Same S xs ys _ _ _ HU.out HV.out hlx hly HF.out).mono ?_
  rintro e w1 ⟨rfl, hB1⟩
  go_wp2_with fail
  go_ret
  exact ⟨rfl, hB1⟩

set_option maxHeartbeats 1000000 in
theorem same_c : ∀ (x : T) (y : T) (S : Nat → Prop) (w : World) (p q : Value), RT S w x p → RT S w y q → bulkL [x] ≤ 1099511627776 → bulkL [y] ≤ 1099511627776 →
    Calls Tryd.prog 16 #[p, q] w fun e w' => e = .returned (.bool (sameT x y)) ∧ Below w.heap.size w w' := by
  intro x
  induction x using T.ind with
  | h x ih =>
    intro y S w p q hp hq hbx hby
    obtain ⟨a1, cap1, rfl, hc1, hr1⟩ := hp
    obtain ⟨a2, cap2, rfl, hc2, hr2⟩ := hq
    have hba := bulk_args x
    have hbb := bulk_args y
    have hla := length_le_bulk x.args
    have hlb := length_le_bulk y.args
    have IH := Lib.hid ih; clear ih
    have HX : Hid (RSl S w x.args (.slice a1 x.args.length cap1)) := Lib.hid ⟨a1, cap1, rfl, hc1, hr1⟩
    have HY : Hid (RSl S w y.args (.slice a2 y.args.length cap2)) := Lib.hid ⟨a2, cap2, rfl, hc2, hr2⟩
    clear hr1 hr2 hc1 hc2
    have HF : Hid (∀ x1 ∈ x.args, ∀ y1 ∈ y.args, ∀ (W : World) (p q : Value), RT S W x1 p → RT S W y1 q → Calls Tryd.prog 16 #[p, q] W fun e w' => e = .returned (.bool (sameT x1 y1)) ∧ Below W.heap.size W w') := Lib.hid fun x1 hx y1 hy W p q h1 h2 => IH.out x1 hx y1 S W p q h1 h2 (by have := bulk_mem hx; omega) (by have := bulk_mem hy; omega)
    have HBB : Hid (∀ o1 o2, Below w.heap.size w ((w.alloc o1).alloc o2)) := Lib.hid fun o1 o2 => (below_alloc _ _).alloc (by simp) _
    have HN := Lib.hid (show x ≠ y → sameT x y = false from sameT_false)
    cases h1 : (x.kind == y.kind)
    · have H1 := Lib.hid (show sameT x y = false from HN.out fun e => by rw [e] at h1; simp at h1)
      go_enter Tryd.func16, Tryd.ntmps16
      go_wp2_with fail
      go_ret
      exact ⟨ret_bool H1.out.symm, HBB.out _ _⟩
    cases h2 : (x.n == y.n)
    · have H1 := Lib.hid (show sameT x y = false from HN.out fun e => by rw [e] at h2; simp at h2)
      go_enter Tryd.func16, Tryd.ntmps16
      go_wp2_with fail
      go_ret
      exact ⟨ret_bool H1.out.symm, HBB.out _ _⟩
    cases h3 : (x.name.toList == y.name.toList)
    · have H1 := Lib.hid (show sameT x y = false from HN.out fun e => by rw [e] at h3; simp at h3)
      go_enter Tryd.func16, Tryd.ntmps16
      go_wp2_with fail
      go_ret
      exact ⟨ret_bool H1.out.symm, HBB.out _ _⟩
    have HP := Lib.hid (sameT_parts x y (by simpa using h1) (by simpa using h2) (by simpa using h3))
    go_enter Tryd.func16, Tryd.ntmps16
    go_wp2_with fail
    refine (sameTerms_of S x.args y.args _ _ _ ((HX.out.alloc _).alloc _) ((HY.out.alloc _).alloc _) (by omega) (by omega) HF.out).mono ?_
    rintro e w1 ⟨rfl, hB1⟩
    go_wp2_with fail
    go_ret
    exact ⟨ret_bool (by rw [HP.out]), below_step (HBB.out _ _) (by simp <;> omega) hB1⟩

theorem sameTerms_c (S : Nat → Prop) (xs ys : List T) (w : World) (u v : Value) (hu : RSl S w xs u) (hv : RSl S w ys v) (hx : bulkL xs ≤ 1099511627776) (hy : bulkL ys ≤ 1099511627776) :
    Calls Tryd.prog 34 #[u, v] w fun e w' => e = .returned (.bool (sameL xs ys)) ∧ Below w.heap.size w w' :=
  sameTerms_of S xs ys w u v hu hv (by have := length_le_bulk xs; omega) (by have := length_le_bulk ys; omega) fun x hx y hy W p q h1 h2 => same_c x y S W p q h1 h2 (by have := bulk_mem hx; omega) (by have := bulk_mem hy; omega)

/-! ### Small terms -/

def numT (n : Int) : T := ⟨1, n, ⟨#[]⟩, []⟩
def wordT (s : ByteArray) : T := ⟨2, 0, s, []⟩
def tupT (l : List T) : T := ⟨4, 0, ⟨#[]⟩, l⟩
def twoT : T := tupT [wordT ⟨#[97]⟩, numT 5]

theorem numT_rt (S : Nat → Prop) (w : World) (n : Int) : RT S w (numT n) (.agg #[.int .i64 1, .int .i64 n, .string ⟨#[]⟩, .slice none 0 0]) := ⟨none, 0, rfl, ⟨Nat.le_refl _, fun _ => rfl⟩, by simp [numT, RTs]⟩
theorem wordT_rt (S : Nat → Prop) (w : World) (s : ByteArray) : RT S w (wordT s) (.agg #[.int .i64 2, .int .i64 0, .string s, .slice none 0 0]) := ⟨none, 0, rfl, ⟨Nat.le_refl _, fun _ => rfl⟩, by simp [wordT, RTs]⟩
theorem tupT_rt {S : Nat → Prop} {w : World} {l : List T} {v : Value} (h : RSl S w l v) : RT S w (tupT l) (.agg #[.int .i64 4, .int .i64 0, .string ⟨#[]⟩, v]) := by
  obtain ⟨a, cap, rfl, h1, h2⟩ := h; exact ⟨a, cap, rfl, h1, h2⟩

set_option maxHeartbeats 400000 in
theorem num_c (n : Int) (w : World) : Calls Tryd.prog 50 #[.int .i64 n] w fun e w' => e = .returned (.agg #[.int .i64 1, .int .i64 n, .string ⟨#[]⟩, .slice none 0 0]) ∧ Below w.heap.size w w' := by
  go_enter Tryd.func50, Tryd.ntmps50
  go_wp2_with fail
  exact bodyPost_ret (v := .agg #[.int .i64 1, .int .i64 n, .string ⟨#[]⟩, .slice none 0 0]) (by simp [results, Tryd.results50, go_sem]) rfl ⟨rfl, below_alloc _ _⟩

end Go.Proofs.YtedfepnekjjmnabDoor
