/-
  clerkref.Is, reckon.is: is a tuple one of a word, and so many others? No condition but bounds.
-/
import Derived.Test.YtedfepnekjjmnaaRow
namespace Go.Proofs.Ytedfepnekjjmnaa
open Go.RowKit
set_option linter.unusedSimpArgs false
set_option linter.unusedVariables false

def headIs (s : ByteArray) : List T → Bool
  | [] => false
  | y :: _ => y.kind == 2 && y.name.toList == s.toList
def isT (x : T) (s : ByteArray) (n : Int) : Bool := x.kind == 4 && decide ((x.args.length : Int) = n + 1) && headIs s x.args
theorem isT_kind {x : T} {s : ByteArray} {n : Int} (h : (x.kind == 4) = false) : isT x s n = false := by simp [isT, h]
theorem isT_len {x : T} {s : ByteArray} {n : Int} (h : (x.args.length : Int) ≠ n + 1) : isT x s n = false := by simp [isT, h]
theorem headIs_at (s : ByteArray) (l : List T) (h : 0 < l.length) : headIs s l = (l[0].kind == 2 && l[0].name.toList == s.toList) := by
  cases l with
  | nil => cases h
  | cons y l => rfl

set_option maxHeartbeats 1000000 in
theorem is_Is (x : T) (s : ByteArray) (n : Int) (S : Nat → Prop) (w : World) (v : Value) (hv : RT S w x v) (h0 : 0 ≤ n) (hn : n ≤ 1099511627776) (hb : bulkL [x] ≤ 1099511627776) :
    Calls Try.prog 76 #[v, .string s, .int .i64 n] w fun e w' => e = .returned (.bool (isT x s n)) ∧ Below w.heap.size w w' := by
  obtain ⟨a, cap, rfl, hc, hr⟩ := hv
  have hba := bulk_args x
  have hla := length_le_bulk x.args
  have HR := Lib.hid hr; clear hr hc
  cases h1 : (x.kind == 4)
  · have H1 := Lib.hid (isT_kind (s := s) (n := n) h1)
    go_enter Try.func76, Try.ntmps76
    go_wp2_with fail
    go_ret
    exact ⟨ret_bool H1.out.symm, below_alloc _ _⟩
  by_cases h2 : (x.args.length : Int) = n + 1
  · have hpos : 0 < x.args.length := by omega
    obtain ⟨b, o, rfl⟩ := HR.out.addr hpos
    obtain ⟨a', cap', hSb, d0, d1, d2, d3, hE⟩ := (HR.out.alloc (.cells #[.int .i64 x.kind, .int .i64 x.n, .string x.name, .slice (some ⟨b, o, none⟩) x.args.length cap] 29)).elem 0 hpos
    clear hE
    have h2' : ((x.args.length : Int) == n + 1) = true := by simpa using h2
    have h2'' : ((x.args.length : Int) == 1 + n) = true := by simp; omega
    have H1 := Lib.hid (show isT x s n = (x.args[0].kind == 2 && x.args[0].name.toList == s.toList) by rw [isT, h1, headIs_at s _ hpos]; simp [h2])
    clear h2
    simp only [Nat.zero_mul, Nat.add_zero] at d0 d1 d2 d3
    generalize x.args[0] = y at d0 d1 d2 d3 H1
    cases h3 : (y.kind == 2)
    · have H2 := Lib.hid h3
      go_enter Try.func76, Try.ntmps76
      go_wp2_with fail
      go_ret
      exact ⟨ret_bool (by rw [H1.out, H2.out]; rfl), below_alloc _ _⟩
    · have H2 := Lib.hid h3
      go_enter Try.func76, Try.ntmps76
      go_wp2_with fail
      go_ret
      exact ⟨ret_bool (by rw [H1.out, H2.out]; rfl), below_alloc _ _⟩
  · have H1 := Lib.hid (isT_len (x := x) (s := s) (n := n) h2)
    have h2' : ((x.args.length : Int) == n + 1) = false := by simpa using h2
    have h2'' : ((x.args.length : Int) == 1 + n) = false := by simp; omega
    clear h2
    go_enter Try.func76, Try.ntmps76
    go_wp2_with fail
    go_ret
    exact ⟨ret_bool H1.out.symm, below_alloc _ _⟩
set_option maxHeartbeats 1000000 in
theorem is_ris (x : T) (s : ByteArray) (n : Int) (S : Nat → Prop) (w : World) (v : Value) (hv : RT S w x v) (h0 : 0 ≤ n) (hn : n ≤ 1099511627776) (hb : bulkL [x] ≤ 1099511627776) :
    Calls Try.prog 98 #[v, .string s, .int .i64 n] w fun e w' => e = .returned (.bool (isT x s n)) ∧ Below w.heap.size w w' := by
  obtain ⟨a, cap, rfl, hc, hr⟩ := hv
  have hba := bulk_args x
  have hla := length_le_bulk x.args
  have HR := Lib.hid hr; clear hr hc
  cases h1 : (x.kind == 4)
  · have H1 := Lib.hid (isT_kind (s := s) (n := n) h1)
    go_enter Try.func98, Try.ntmps98
    go_wp2_with fail
    go_ret
    exact ⟨ret_bool H1.out.symm, below_alloc _ _⟩
  by_cases h2 : (x.args.length : Int) = n + 1
  · have hpos : 0 < x.args.length := by omega
    obtain ⟨b, o, rfl⟩ := HR.out.addr hpos
    obtain ⟨a', cap', hSb, d0, d1, d2, d3, hE⟩ := (HR.out.alloc (.cells #[.int .i64 x.kind, .int .i64 x.n, .string x.name, .slice (some ⟨b, o, none⟩) x.args.length cap] 29)).elem 0 hpos
    clear hE
    have h2' : ((x.args.length : Int) == n + 1) = true := by simpa using h2
    have h2'' : ((x.args.length : Int) == 1 + n) = true := by simp; omega
    have H1 := Lib.hid (show isT x s n = (x.args[0].kind == 2 && x.args[0].name.toList == s.toList) by rw [isT, h1, headIs_at s _ hpos]; simp [h2])
    clear h2
    simp only [Nat.zero_mul, Nat.add_zero] at d0 d1 d2 d3
    generalize x.args[0] = y at d0 d1 d2 d3 H1
    cases h3 : (y.kind == 2)
    · have H2 := Lib.hid h3
      go_enter Try.func98, Try.ntmps98
      go_wp2_with fail
      go_ret
      exact ⟨ret_bool (by rw [H1.out, H2.out]; rfl), below_alloc _ _⟩
    · have H2 := Lib.hid h3
      go_enter Try.func98, Try.ntmps98
      go_wp2_with fail
      go_ret
      exact ⟨ret_bool (by rw [H1.out, H2.out]; rfl), below_alloc _ _⟩
  · have H1 := Lib.hid (isT_len (x := x) (s := s) (n := n) h2)
    have h2' : ((x.args.length : Int) == n + 1) = false := by simpa using h2
    have h2'' : ((x.args.length : Int) == 1 + n) = false := by simp; omega
    clear h2
    go_enter Try.func98, Try.ntmps98
    go_wp2_with fail
    go_ret
    exact ⟨ret_bool H1.out.symm, below_alloc _ _⟩
end Go.Proofs.Ytedfepnekjjmnaa
