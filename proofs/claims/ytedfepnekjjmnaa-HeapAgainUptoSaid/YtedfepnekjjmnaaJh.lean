/-
  Contracts and plain laws, joined: HeapM Heap1 Heap2 RepP Zeros Heap3 CopP ChenP ChenQ ChenR Heap4 Heap5 PutP PutQ. Conditions stand in each.
-/
import Derived.Lib.AppendZerosOnto
import Derived.Great.BuildSlice
import Derived.Maps.Own
import Derived.Maps.OwnSet
import Derived.Maps.Views
import Derived.Test.YtedfepnekjjmnaaJc
import Derived.Test.YtedfepnekjjmnaaJa
import Derived.Test.YtedfepnekjjmnaaClause
import Derived.Test.YtedfepnekjjmnaaJb
import Derived.Test.YtedfepnekjjmnaaJe
/-
  How a heap lies in memory. No condition.
-/
namespace Go.Proofs.Ytedfepnekjjmnaa
open Go.RowKit
set_option linter.unusedSimpArgs false
set_option linter.unusedVariables false

/-- Words in a row of the call's own; names so. -/
def OwnW (w : World) (v : Value) (l : List Wrd) : Prop := OwnXG wrdE 69 (fun _ => True) 0 w v l
def OwnN (w : World) (v : Value) (l : List ByteArray) : Prop := OwnXG nmE 9 (fun _ => True) 0 w v l
theorem OwnW.to {w w' : World} {v : Value} {l : List Wrd} (h : OwnW w v l) (hl : w.heap.size ≤ w'.heap.size) (hc : ∀ b, v.ownBlock = some b → w'.heap[b]? = w.heap[b]?) : OwnW w' v l := by
  obtain ⟨cs, ⟨h1, h2⟩, hC⟩ := h
  refine ⟨cs, ⟨h1, ?_⟩, ?_⟩
  · rcases h2 with h2 | ⟨g, cap, cur, rfl, hg, hh, r⟩
    · exact .inl h2
    · exact .inr ⟨g, cap, cur, rfl, by omega, by rw [hc g rfl]; exact hh, r⟩
  · clear h1 h2
    induction l generalizing cs with
    | nil => exact hC
    | cons x l ih => obtain ⟨c, cs', rfl, h1, h2⟩ := hC; exact ⟨c, cs', rfl, h1, ih cs' h2⟩
theorem OwnN.to {w w' : World} {v : Value} {l : List ByteArray} (h : OwnN w v l) (hl : w.heap.size ≤ w'.heap.size) (hc : ∀ b, v.ownBlock = some b → w'.heap[b]? = w.heap[b]?) : OwnN w' v l := by
  obtain ⟨cs, ⟨h1, h2⟩, hC⟩ := h
  refine ⟨cs, ⟨h1, ?_⟩, ?_⟩
  · rcases h2 with h2 | ⟨g, cap, cur, rfl, hg, hh, r⟩
    · exact .inl h2
    · exact .inr ⟨g, cap, cur, rfl, by omega, by rw [hc g rfl]; exact hh, r⟩
  · clear h1 h2
    induction l generalizing cs with
    | nil => exact hC
    | cons x l ih => obtain ⟨c, cs', rfl, h1, h2⟩ := hC; exact ⟨c, cs', rfl, h1, ih cs' h2⟩
/-- A heap at block B; all that it is made of lies in F. -/
structure HeapV (F : Nat → Prop) (w : World) (B : Nat) (room : Int) (H : HS) (vw vn : Value) : Prop where
  blk : Blk w B [.int .i64 room, vw, vn]
  ws : OwnW w vw H.ws
  nm : OwnN w vn H.names
  nw : vw.ownBlock ≠ some B
  nn : vn.ownBlock ≠ some B
  ne : ∀ b, vw.ownBlock = some b → vn.ownBlock ≠ some b
  fb : F B
  fw : ∀ b, vw.ownBlock = some b → F b
  fn : ∀ b, vn.ownBlock = some b → F b
def HeapR (F : Nat → Prop) (w : World) (B : Nat) (room : Int) (H : HS) : Prop := ∃ vw vn, HeapV F w B room H vw vn
theorem HeapV.to {F F' : Nat → Prop} {w w' : World} {B : Nat} {room : Int} {H : HS} {vw vn : Value} (h : HeapV F w B room H vw vn) (hl : w.heap.size ≤ w'.heap.size) (hF : ∀ b, F b → F' b)
    (hc : ∀ b, F b → b < w.heap.size → w'.heap[b]? = w.heap[b]?) : HeapV F' w' B room H vw vn where
  blk := by
    have he := hc B h.fb h.blk.lt
    exact ⟨by have := h.blk.lt; omega, fun j u hu => (World.cell?_of_block (w := w) (a := ⟨B, j, none⟩) he).trans (h.blk.cell j u hu), fun o => (World.frozen?_of_block (w := w) (a := ⟨B, o, none⟩) he).trans (h.blk.fr o)⟩
  ws := h.ws.to hl fun b hb => hc b (h.fw b hb) (h.ws.block b hb).2
  nm := h.nm.to hl fun b hb => hc b (h.fn b hb) (h.nm.block b hb).2
  nw := h.nw
  nn := h.nn
  ne := h.ne
  fb := hF _ h.fb
  fw := fun b hb => hF _ (h.fw b hb)
  fn := fun b hb => hF _ (h.fn b hb)
theorem HeapR.to {F F' : Nat → Prop} {w w' : World} {B : Nat} {room : Int} {H : HS} (h : HeapR F w B room H) (hl : w.heap.size ≤ w'.heap.size) (hF : ∀ b, F b → F' b)
    (hc : ∀ b, F b → b < w.heap.size → w'.heap[b]? = w.heap[b]?) : HeapR F' w' B room H := by
  obtain ⟨vw, vn, h⟩ := h; exact ⟨vw, vn, h.to hl hF hc⟩
theorem HeapV.below {F : Nat → Prop} {w w' : World} {B : Nat} {room : Int} {H : HS} {vw vn : Value} (h : HeapV F w B room H vw vn) (hB : Below w.heap.size w w') : HeapV F w' B room H vw vn := h.to hB.size (fun _ h => h) fun b _ hb => hB.block b hb
theorem HeapR.below {F : Nat → Prop} {w w' : World} {B : Nat} {room : Int} {H : HS} (h : HeapR F w B room H) (hB : Below w.heap.size w w') : HeapR F w' B room H := h.to hB.size (fun _ h => h) fun b _ hb => hB.block b hb
theorem HeapR.mono {F F' : Nat → Prop} {w : World} {B : Nat} {room : Int} {H : HS} (h : HeapR F w B room H) (hF : ∀ b, F b → F' b) : HeapR F' w B room H := h.to (Nat.le_refl _) hF fun _ _ _ => rfl
theorem HeapR.keep {F R : Nat → Prop} {w w' : World} {B : Nat} {room : Int} {H : HS} (h : HeapR F w B room H) (hK : Keep R w w') (hR : ∀ b, F b → b < w.heap.size → ¬ R b) : HeapR F w' B room H := h.to hK.size (fun _ h => h) fun b hb hl => hK.block b hl (hR b hb hl)
theorem OwnW.form {w : World} {v : Value} {l : List Wrd} (h : OwnW w v l) : ∃ a cap, v = .slice a l.length cap := by obtain ⟨a, cap, rfl, -⟩ := OwnXG.form h; exact ⟨a, cap, rfl⟩
theorem OwnN.form {w : World} {v : Value} {l : List ByteArray} (h : OwnN w v l) : ∃ a cap, v = .slice a l.length cap := by obtain ⟨a, cap, rfl, -⟩ := OwnXG.form h; exact ⟨a, cap, rfl⟩
/-- Words' cells. -/
theorem OwnW.rx {w : World} {v : Value} {l : List Wrd} (h : OwnW w v l) : RX wrdE (fun b => v.ownBlock = some b) (fun _ => True) w l v := (OwnX.rx h).mono (fun _ h => h) fun _ _ => trivial
theorem OwnN.rx {w : World} {v : Value} {l : List ByteArray} (h : OwnN w v l) : RX nmE (fun b => v.ownBlock = some b) (fun _ => True) w l v := (OwnX.rx h).mono (fun _ h => h) fun _ _ => trivial
theorem RX.wrd {R S : Nat → Prop} {w : World} {l : List Wrd} {b o n cap : Nat} (h : RX wrdE R S w l (.slice (some ⟨b, o, none⟩) n cap)) (j : Nat) (hj : j < l.length) :
    R b ∧ w.cell? ⟨b, o + j * 2, none⟩ = some (.int .i64 l[j].kind) ∧ w.cell? ⟨b, o + j * 2 + 1, none⟩ = some (.int .i64 l[j].n) := by
  obtain ⟨c, rfl, hc⟩ := h.elem j hj
  exact ⟨(hc 0 _ rfl).1, (hc 0 _ rfl).2, (hc 1 _ rfl).2⟩
theorem RX.nm {R S : Nat → Prop} {w : World} {l : List ByteArray} {b o n cap : Nat} (h : RX nmE R S w l (.slice (some ⟨b, o, none⟩) n cap)) (j : Nat) (hj : j < l.length) :
    R b ∧ w.cell? ⟨b, o + j, none⟩ = some (.string l[j]) := by
  obtain ⟨c, rfl, hc⟩ := h.elem j hj
  have h0 := hc 0 _ rfl
  exact ⟨h0.1, by have := h0.2; simpa [nmE] using this⟩
/-- A part of a row of words. -/
theorem RX.part {R S : Nat → Prop} {w : World} {l : List Wrd} {b o n cap : Nat} (h : RX wrdE R S w l (.slice (some ⟨b, o, none⟩) n cap)) (i k cap' : Nat) (hik : i + k ≤ l.length) (hk : k ≤ cap') :
    RX wrdE R S w ((l.drop i).take k) (.slice (some ⟨b, o + i * 2, none⟩) k cap') := by
  have hl : ((l.drop i).take k).length = k := by rw [List.length_take, List.length_drop]; omega
  refine ⟨some ⟨b, o + i * 2, none⟩, cap', ((l.drop i).take k).flatMap fun x => [.int .i64 x.kind, .int .i64 x.n], by rw [hl], ⟨by omega, by simp⟩, ?_, ?_⟩
  · clear hl hik h hk
    generalize (l.drop i).take k = m
    induction m with
    | nil => rfl
    | cons x m ih => exact ⟨[.int .i64 x.kind, .int .i64 x.n], _, rfl, rfl, ih⟩
  · have key : ∀ (m : List Wrd) (j : Nat) (u : Value), (m.flatMap fun x => [Value.int .i64 x.kind, .int .i64 x.n])[j]? = some u → ∃ q, ∃ hq : q < m.length, (j = q * 2 ∧ u = .int .i64 m[q].kind) ∨ (j = q * 2 + 1 ∧ u = .int .i64 m[q].n) := by
      intro m
      induction m with
      | nil => intro j u hu; simp at hu
      | cons x m ih =>
        intro j u hu
        match j, hu with
        | 0, hu => exact ⟨0, by simp, .inl ⟨rfl, by simpa using hu.symm⟩⟩
        | 1, hu => exact ⟨0, by simp, .inr ⟨rfl, by simpa using hu.symm⟩⟩
        | j + 2, hu =>
          obtain ⟨q, hq, h⟩ := ih j u (by simpa using hu)
          refine ⟨q + 1, by simpa using hq, ?_⟩
          rcases h with ⟨h1, h2⟩ | ⟨h1, h2⟩
          · exact .inl ⟨by omega, by simpa using h2⟩
          · exact .inr ⟨by omega, by simpa using h2⟩
    intro j u hu
    obtain ⟨q, hq, hh⟩ := key _ j u hu
    rw [hl] at hq
    have hg : ((l.drop i).take k)[q]'(by rw [hl]; exact hq) = l[i + q]'(by omega) := by simp
    have hw := h.wrd (i + q) (by omega)
    rw [hg] at hh
    rcases hh with ⟨rfl, rfl⟩ | ⟨rfl, rfl⟩
    · exact ⟨b, o + i * 2, rfl, hw.1, by rw [show o + i * 2 + q * 2 = o + (i + q) * 2 by omega]; exact hw.2.1⟩
    · exact ⟨b, o + i * 2, rfl, hw.1, by rw [show o + i * 2 + (q * 2 + 1) = o + (i + q) * 2 + 1 by omega]; exact hw.2.2⟩
theorem szHeap : (Try.prog.info? 126).map (·.size) = some 3 := by kernel_rfl
theorem szWord : (Try.prog.info? 69).map (·.size) = some 2 := by kernel_rfl
end Go.Proofs.Ytedfepnekjjmnaa

/-
  heap.New, Used, atom, parts, stands: what they answer. No condition but a bound.
-/
namespace Go.Proofs.Ytedfepnekjjmnaa
open Go.RowKit
set_option linter.unusedSimpArgs false
set_option linter.unusedVariables false
set_option maxRecDepth 100000

theorem keep_grown {F : Nat → Prop} {w0 w' : World} {O : Obj} {own : Option Nat} {base : Nat} (hB : Below base w0 w') (hg : (w0.alloc O).grownBy w' own) (hF : ∀ b, own = some b → F b) : Keep F w0 w' :=
  ⟨hB.os, hB.tape, hB.output, hB.size, fun k hk hn => (hg.block k (by simp; omega) (fun e => hn (hF k e.symm))).trans (Below.heap_alloc _ _ _ hk)⟩
/-- The names' row is another one now. -/
theorem HeapV.names' {F : Nat → Prop} {w w3 : World} {B : Nat} {room : Int} {H : HS} {vw vn v' : Value} {l : List ByteArray} (h : HeapV F w B room H vw vn) (hl : w.heap.size ≤ w3.heap.size)
    (hg : ∀ b, b < w.heap.size → vn.ownBlock ≠ some b → w3.heap[b]? = w.heap[b]?) (hO : OwnN w3 v' l) (hp : ∀ b, v'.ownBlock = some b → vn.ownBlock = some b ∨ w.heap.size ≤ b) :
    HeapV (fun b => F b ∨ w.heap.size ≤ b) (w3.setCell ⟨B, 2, none⟩ v') B room ⟨H.ws, l⟩ vw v' := by
  have hBl := h.blk.lt
  have hne : v'.ownBlock ≠ some B := fun e => by
    rcases hp B e with h1 | h1
    · exact h.nn h1
    · omega
  have hb := hg B hBl h.nn
  have hblk : Blk w3 B [.int .i64 room, vw, vn] := ⟨by omega, fun j u hu => (World.cell?_of_block (w := w) (a := ⟨B, j, none⟩) hb).trans (h.blk.cell j u hu), fun o => (World.frozen?_of_block (w := w) (a := ⟨B, o, none⟩) hb).trans (h.blk.fr o)⟩
  refine ⟨hblk.set 2 v' (by simp), (h.ws.to hl fun b hb => hg b (h.ws.block b hb).2 (h.ne b hb)).to (by simp) fun b hb => setCell_other w3 B 2 v' b fun e => h.nw (by rw [← e]; exact hb), hO.to (by simp) fun b hb => setCell_other w3 B 2 v' b fun e => hne (by rw [← e]; exact hb), h.nw, hne, fun b h1 h2 => ?_, .inl h.fb, fun b hb => .inl (h.fw b hb), fun b hb => (hp b hb).imp (h.fn b) id⟩
  rcases hp b h2 with h3 | h3
  · exact h.ne b h1 h3
  · have := (h.ws.block b h1).2; omega
/-- The words' row is another one now. -/
theorem HeapV.words' {F : Nat → Prop} {w w3 : World} {B : Nat} {room : Int} {H : HS} {vw vn v' : Value} {l : List Wrd} (h : HeapV F w B room H vw vn) (hl : w.heap.size ≤ w3.heap.size)
    (hg : ∀ b, b < w.heap.size → vw.ownBlock ≠ some b → w3.heap[b]? = w.heap[b]?) (hO : OwnW w3 v' l) (hp : ∀ b, v'.ownBlock = some b → vw.ownBlock = some b ∨ w.heap.size ≤ b) :
    HeapV (fun b => F b ∨ w.heap.size ≤ b) (w3.setCell ⟨B, 1, none⟩ v') B room ⟨l, H.names⟩ v' vn := by
  have hBl := h.blk.lt
  have hne : v'.ownBlock ≠ some B := fun e => by
    rcases hp B e with h1 | h1
    · exact h.nw h1
    · omega
  have hb := hg B hBl h.nw
  have hblk : Blk w3 B [.int .i64 room, vw, vn] := ⟨by omega, fun j u hu => (World.cell?_of_block (w := w) (a := ⟨B, j, none⟩) hb).trans (h.blk.cell j u hu), fun o => (World.frozen?_of_block (w := w) (a := ⟨B, o, none⟩) hb).trans (h.blk.fr o)⟩
  refine ⟨hblk.set 1 v' (by simp), hO.to (by simp) fun b hb => setCell_other w3 B 1 v' b fun e => hne (by rw [← e]; exact hb), (h.nm.to hl fun b hb => hg b (h.nm.block b hb).2 (fun e => h.ne b e hb)).to (by simp) fun b hb => setCell_other w3 B 1 v' b fun e => h.nn (by rw [← e]; exact hb), hne, h.nn, fun b h1 h2 => ?_, .inl h.fb, fun b hb => (hp b hb).imp (h.fw b) id, fun b hb => .inl (h.fn b hb)⟩
  rcases hp b h1 with h3 | h3
  · exact h.ne b h3 h2
  · have := (h.nm.block b h2).2; omega

set_option maxHeartbeats 400000 in
theorem hnew_ok (room : Int) (w : World) (h0 : 0 ≤ room) (h1 : room ≤ 1000) : Calls Try.prog 40 #[.int .i64 room] w fun e w' => e = .returned (.tuple #[.pointer (some ⟨w.heap.size, 0, none⟩), .int .i64 0]) ∧ Below w.heap.size w w' ∧ HeapR (fun b => b = w.heap.size) w' w.heap.size room ⟨[], []⟩ ∧ w'.heap.size = w.heap.size + 1 := by
  go_enter Try.func40, Try.ntmps40
  go_wp2_with fail
  go_ret2
  refine ⟨rfl, below_alloc _ _, ⟨.slice none 0 0, .slice none 0 0, Blk.new _ _ _ _ rfl, OwnXG.nil _ _ _ _, OwnXG.nil _ _ _ _, by simp [Value.ownBlock], by simp [Value.ownBlock], by simp [Value.ownBlock], rfl, by simp [Value.ownBlock], by simp [Value.ownBlock]⟩, by simp⟩
set_option maxHeartbeats 400000 in
theorem hnew_bad (room : Int) (w : World) (h : room < 0 ∨ 1000 < room) : Calls Try.prog 40 #[.int .i64 room] w fun e w' => e = .returned (.tuple #[.pointer none, .int .i64 1]) ∧ w = w' := by
  rcases h with h | h
  · go_enter Try.func40, Try.ntmps40
    go_wp2_with fail
    go_ret2
    exact ⟨rfl, rfl⟩
  · have h' : ¬ room < 0 := by omega
    go_enter Try.func40, Try.ntmps40
    go_wp2_with fail
    go_ret2
    exact ⟨rfl, rfl⟩
set_option maxHeartbeats 400000 in
theorem hused_c (F : Nat → Prop) (w : World) (B : Nat) (room : Int) (H : HS) (hR : HeapR F w B room H) : Calls Try.prog 43 #[.pointer (some ⟨B, 0, none⟩)] w fun e w' => e = .returned (.int .i64 H.ws.length) ∧ w = w' := by
  obtain ⟨vw, vn, hV⟩ := hR
  obtain ⟨a, cap, rfl⟩ := hV.ws.form
  have y1 := hV.blk.cell 1 _ rfl
  have HV := Lib.hid hV
  clear hV
  go_enter Try.func43, Try.ntmps43
  go_wp2_with fail
  go_ret
  exact ⟨rfl, rfl⟩
theorem nameI_any (s : ByteArray) (l : List ByteArray) (h : (l.any fun x => s.toList == x.toList) = false) : nameI s l = -1 := idxI_none _ _ _ h
theorem nameI_take (s : ByteArray) (l : List ByteArray) (k : Nat) (hk : k < l.length) (h : ((l.take k).any fun x => s.toList == x.toList) = false) (h1 : (s.toList == l[k].toList) = true) : nameI s l = k := by
  rw [nameI, idxI_take _ l k 0 hk h h1]; omega
set_option maxHeartbeats 1000000 in
theorem index_c (R S : Nat → Prop) (l : List ByteArray) (s : ByteArray) (a : Option Addr) (cap : Nat) (w : World) (hv : RX nmE R S w l (.slice a l.length cap)) (hl : l.length ≤ 1099511627776) :
    Calls Try.prog 121 #[.slice a l.length cap, .string s] w fun e w' => e = .returned (.int .i64 (nameI s l)) ∧ w = w' := by
  have HV := Lib.hid hv
  clear hv
  go_enter Try.func121, Try.ntmps121
  go_wp2_with fail
  go_loop [8] (fun i => ∃ k : Nat, k ≤ l.length ∧ i = .int .i64 k ∧ ((l.take k).any fun x => s.toList == x.toList) = false) (fun i => l.length - (intOf i).toNat)
  case atStart => exact ⟨0, Nat.zero_le _, rfl, rfl⟩
  case round =>
    obtain ⟨k, hk, rfl, hany⟩ := hrel
    have HA := Lib.hid hany
    clear hany
    by_cases hlt : k < l.length
    · obtain ⟨b, o, rfl⟩ := HV.out.addr (by decide) (by omega)
      have c0 := (HV.out.nm k hlt).2
      have HS := Lib.hid (any_take_succ (fun x => s.toList == x.toList) l k hlt)
      cases hp : (s.toList == l[k].toList)
      · have HP := Lib.hid hp
        go_wp2_with fail
        go_round
        case rel => exact ⟨k + 1, by omega, by go_num, by rw [HS.out, HA.out, HP.out]; rfl⟩
        case measure => simp [intOf]; omega
      · have HP := Lib.hid hp
        have HN := Lib.hid (nameI_take s l k hlt HA.out hp)
        go_wp2_with fail
        go_ret
        exact ⟨ret_int HN.out.symm, rfl⟩
    · have hkk : k = l.length := by omega
      subst hkk
      have HN := Lib.hid (nameI_any s l (by have := HA.out; rwa [List.take_of_length_le (Nat.le_refl _)] at this))
      go_wp2_with fail
      go_ret
      exact ⟨ret_int HN.out.symm, rfl⟩
theorem any_first {α : Type} (p : α → Bool) : ∀ (l : List α), l.any p = true → ∃ k, ∃ hk : k < l.length, (l.take k).any p = false ∧ p l[k] = true
  | [], h => by simp at h
  | x :: l, h => by
    cases hx : p x
    · rw [List.any_cons, hx, Bool.false_or] at h
      obtain ⟨k, hk, h1, h2⟩ := any_first p l h
      exact ⟨k + 1, by simpa using hk, by rw [List.take_succ_cons, List.any_cons, hx, h1]; rfl, by simpa using h2⟩
    · exact ⟨0, by simp, rfl, by simpa using hx⟩
theorem nameI_cases (s : ByteArray) (l : List ByteArray) : nameI s l = -1 ∧ (∀ x ∈ l, x ≠ s) ∨ ∃ k, ∃ hk : k < l.length, nameI s l = k ∧ l[k] = s := by
  cases h : (l.any fun x => s.toList == x.toList)
  · refine .inl ⟨nameI_any s l h, fun x hx he => ?_⟩
    rw [List.any_eq_false] at h
    have := h x hx
    rw [he] at this
    simp at this
  · obtain ⟨k, hk, h1, h2⟩ := any_first _ l h
    refine .inr ⟨k, hk, nameI_take s l k hk h1 h2, ?_⟩
    have h3 := eq_of_beq h2
    rw [Lib.toList_data, Lib.toList_data] at h3
    exact (ba_ext h3).symm
/-- What atom hands back. -/
def AtomP (F : Nat → Prop) (w : World) (B : Nat) (room : Int) (H : HS) (s : ByteArray) (e : Ending) (w' : World) : Prop :=
  e = .returned (.int .i64 (atomH s H.names).1) ∧ Keep F w w' ∧ HeapR (fun b => F b ∨ w.heap.size ≤ b) w' B room ⟨H.ws, (atomH s H.names).2⟩
set_option maxHeartbeats 2000000 in
theorem hatom_c (F : Nat → Prop) (w : World) (B : Nat) (room : Int) (H : HS) (s : ByteArray) (hR : HeapR F w B room H) (hl : H.names.length ≤ 137438953472) :
    Calls Try.prog 108 #[.pointer (some ⟨B, 0, none⟩), .string s] w (AtomP F w B room H s) := by
  obtain ⟨vw, vn, hV⟩ := hR
  obtain ⟨an, cn, rfl⟩ := hV.nm.form
  have y2 := hV.blk.cell 2 _ rfl
  have HV := Lib.hid hV
  have HX := Lib.hid hV.nm.rx
  have hBl := hV.blk.lt
  clear hV
  by_cases hneg : nameI s H.names < 0
  · have HA : Hid (atomH s H.names = ((H.names.length : Int), H.names ++ [s])) := Lib.hid (by rw [atomH, if_pos hneg])
    obtain ⟨m, hm⟩ : ∃ m, m = nameI s H.names := ⟨_, rfl⟩
    have HM := Lib.hid hm
    rw [← hm] at hneg
    clear hm
    go_enter Try.func108, Try.ntmps108
    go_wp2_with fail
    refine (index_c _ _ H.names s an cn _ HX.out (by omega)).mono ?_
    rintro e w' ⟨he, hw⟩
    rw [← HM.out] at he
    subst he
    obtain rfl : w = w' := hw
    go_wp2_with (at_builtin; (refine append_growX nmF (v := .slice an H.names.length cn) (y := s) (g0 := w.heap.size) _ _ rfl rfl (by rfl) (by rfl) rfl (show OwnXG nmE nmF.e (fun _ => True) 0 w (.slice an H.names.length cn) H.names from HV.out.nm) (R := fun _ => False) rfl (fun b hb => hb.elim) rfl (by omega) (by omega) ?_); intro gg cg w3 hO3 hB3 hG3 hD3; have hgb := hG3.block B (by simp; omega) (fun he => HV.out.nn he.symm); have hgb2 : w3.heap[B]? = w.heap[B]? := hgb.trans (Below.heap_alloc _ _ _ hBl); have y23 := (World.cell?_of_block (w := w) (a := ⟨B, 2, none⟩) hgb2).trans y2; have yf3 := (fun o => (World.frozen?_of_block (w := w) (a := ⟨B, o, none⟩) hgb2).trans (HV.out.blk.fr o)); have hl3 := hB3.size; have HO3 := Lib.hid hO3; have HB3 := Lib.hid hB3; have HG3 := Lib.hid hG3; have HD3 := Lib.hid hD3; clear hO3 hB3 hG3 hD3 hgb hgb2)
    go_ret
    have hp : ∀ b, (Value.slice (some ⟨gg, 0, none⟩) (H.names.length + 1) cg).ownBlock = some b → (Value.slice an H.names.length cn).ownBlock = some b ∨ w.heap.size ≤ b := fun b hb => by
      obtain rfl : gg = b := by simpa [Value.ownBlock] using hb
      exact HD3.out.imp id (by omega)
    have hg : ∀ b, b < w.heap.size → (Value.slice an H.names.length cn).ownBlock ≠ some b → w3.heap[b]? = w.heap[b]? := fun b hb hn => (HG3.out.block b (by simp; omega) (fun e => hn e.symm)).trans (Below.heap_alloc _ _ _ hb)
    refine ⟨ret_int (by rw [HA.out]), (keep_grown HB3.out HG3.out HV.out.fn).setCell _ (.inl HV.out.fb), ?_⟩
    rw [HA.out]
    exact ⟨_, _, HV.out.names' (by omega) hg HO3.out hp⟩
  · have HA : Hid (atomH s H.names = (nameI s H.names, H.names)) := Lib.hid (by rw [atomH, if_neg hneg])
    obtain ⟨m, hm⟩ : ∃ m, m = nameI s H.names := ⟨_, rfl⟩
    have HM := Lib.hid hm
    rw [← hm] at hneg
    clear hm
    go_enter Try.func108, Try.ntmps108
    go_wp2_with fail
    refine (index_c _ _ H.names s an cn _ HX.out (by omega)).mono ?_
    rintro e w' ⟨he, hw⟩
    rw [← HM.out] at he
    subst he
    obtain rfl : w = w' := hw
    go_wp2_with fail
    go_ret
    refine ⟨ret_int (by rw [HA.out]; exact HM.out), Keep.refl _ _, ?_⟩
    rw [HA.out]
    exact ⟨_, _, HV.out.to (Nat.le_refl _) (fun b hb => .inl hb) fun _ _ _ => rfl⟩
end Go.Proofs.Ytedfepnekjjmnaa

/-
  heap's parts, stands, all: what they answer. No condition but a bound.
-/
namespace Go.Proofs.Ytedfepnekjjmnaa
open Go.RowKit
set_option linter.unusedSimpArgs false
set_option linter.unusedVariables false
set_option maxRecDepth 100000

/-- How many parts a tuple has that begins there, if one does. -/
def headN (H : HS) (at_ : Int) : Option Int := if 0 ≤ at_ ∧ at_ < H.ws.length then (if (H.ws.getD at_.toNat ⟨0, 0⟩).kind = 0 then some (H.ws.getD at_.toNat ⟨0, 0⟩).n else none) else none
/-- Each head's parts lie within. -/
def HeadsOk (H : HS) : Prop := ∀ i (h : i < H.ws.length), H.ws[i].kind = 0 → 0 ≤ H.ws[i].n ∧ (i : Int) + 1 + H.ws[i].n ≤ H.ws.length
def partsL (H : HS) (i k : Nat) : List Wrd := (H.ws.drop (i + 1)).take k
theorem headN_some {H : HS} {at_ n : Int} (hH : HeadsOk H) (h : headN H at_ = some n) : ∃ (i k : Nat) (hi : i < H.ws.length), at_ = i ∧ n = k ∧ H.ws[i] = ⟨0, n⟩ ∧ i + 1 + k ≤ H.ws.length := by
  unfold headN at h
  split at h
  · rename_i hr
    split at h
    · rename_i hk
      simp only [Option.some.injEq] at h
      have hi : at_.toNat < H.ws.length := by omega
      rw [List.getD_eq_getElem?_getD, List.getElem?_eq_getElem hi] at hk h
      simp only [Option.getD_some] at hk h
      have h1 := hH _ hi hk
      refine ⟨at_.toNat, n.toNat, hi, by omega, by omega, ?_, by omega⟩
      obtain ⟨k0, n0⟩ : ∃ k0 n0, H.ws[at_.toNat] = ⟨k0, n0⟩ := ⟨_, _, rfl⟩
      cases hx : H.ws[at_.toNat]
      rw [hx] at hk h
      simp only at hk h
      rw [hk, h]
    · cases h
  · cases h
theorem headN_of {H : HS} {i : Nat} (hi : i < H.ws.length) (hk : H.ws[i].kind = 0) : headN H i = some H.ws[i].n := by
  unfold headN
  rw [if_pos ⟨by omega, by omega⟩, Int.toNat_natCast, List.getD_eq_getElem?_getD, List.getElem?_eq_getElem hi]
  simp [hk]
/-- What parts hands back. -/
def PartsP (F : Nat → Prop) (w : World) (l : List Wrd) (e : Ending) (w' : World) : Prop :=
  ∃ a cap, e = .returned (.tuple #[.slice a l.length cap, .bool true]) ∧ Below w.heap.size w w' ∧ RX wrdE F (fun _ => True) w' l (.slice a l.length cap)
theorem RX.nilAt {X : Type} {E : El X} (R S : Nat → Prop) (w : World) (a : Option Addr) (cap : Nat) (h : a = none → cap = 0) : RX E R S w [] (.slice a 0 cap) := ⟨a, cap, [], rfl, ⟨Nat.zero_le _, h⟩, rfl, fun j u h => by simp at h⟩
set_option maxHeartbeats 2000000 in
theorem hparts_no (F : Nat → Prop) (w : World) (B : Nat) (room : Int) (H : HS) (at_ : Int) (hR : HeapR F w B room H) (hn : headN H at_ = none) (hl : H.ws.length ≤ 137438953472) :
    Calls Try.prog 112 #[.pointer (some ⟨B, 0, none⟩), .int .i64 at_] w fun e w' => e = .returned (.tuple #[.slice none 0 0, .bool false]) ∧ w = w' := by
  obtain ⟨vw, vn, hV⟩ := hR
  obtain ⟨aw, cw, rfl⟩ := hV.ws.form
  have y1 := hV.blk.cell 1 _ rfl
  have HX := Lib.hid hV.ws.rx
  clear hV
  by_cases h0 : at_ < 0
  · clear hn
    go_enter Try.func112, Try.ntmps112
    go_wp2_with fail
    go_ret2
    exact ⟨rfl, rfl⟩
  · by_cases h1 : at_ < H.ws.length
    · obtain ⟨i, rfl⟩ : ∃ i : Nat, at_ = i := ⟨at_.toNat, by omega⟩
      have hi : i < H.ws.length := by omega
      obtain ⟨b, o, rfl⟩ := HX.out.addr (by decide) (by omega)
      obtain ⟨-, c0, c1⟩ := HX.out.wrd i hi
      have hk : (H.ws[i].kind != 0) = true := by
        cases hh : (H.ws[i].kind != 0)
        · rw [headN_of hi (by simpa using hh)] at hn; cases hn
        · rfl
      clear hn
      go_enter Try.func112, Try.ntmps112
      go_wp2_with fail
      go_ret2
      exact ⟨rfl, rfl⟩
    · clear hn
      go_enter Try.func112, Try.ntmps112
      go_wp2_with fail
      go_ret2
      exact ⟨rfl, rfl⟩
set_option maxHeartbeats 4000000 in
theorem hparts_yes (F : Nat → Prop) (w : World) (B : Nat) (room : Int) (H : HS) (i k : Nat) (hR : HeapR F w B room H) (hi : i < H.ws.length) (hw : H.ws[i] = ⟨0, k⟩) (hik : i + 1 + k ≤ H.ws.length) (hl : H.ws.length ≤ 137438953472) :
    Calls Try.prog 112 #[.pointer (some ⟨B, 0, none⟩), .int .i64 i] w (PartsP F w (partsL H i k)) := by
  obtain ⟨vw, vn, hV⟩ := hR
  obtain ⟨aw, cw, rfl, hcap⟩ : ∃ a cap, vw = .slice a H.ws.length cap ∧ CapOk a H.ws.length cap := by have := OwnXG.form hV.ws; exact this
  have y1 := hV.blk.cell 1 _ rfl
  have hx := hV.ws.rx
  have hF := hV.fw
  have hBl := hV.blk.lt
  clear hV
  obtain ⟨b, o, rfl⟩ := hx.addr (by decide) (by omega)
  obtain ⟨hb, c0, c1⟩ := hx.wrd i hi
  rw [hw] at c0 c1
  simp only at c0 c1
  have hbl := World.block_lt_of_cell? _ _ c0
  have HX := Lib.hid hx
  have HF := Lib.hid hF
  have hcw : H.ws.length ≤ cw := hcap.1
  have hpl : (partsL H i k).length = k := by unfold partsL; rw [List.length_take, List.length_drop]; omega
  have HPL := Lib.hid hpl
  clear hw hx hF hpl hcap
  have HQ : Hid (∀ w' : World, Below w.heap.size w w' → w'.cell? ⟨B, 1, none⟩ = some (.slice (some ⟨b, o, none⟩) H.ws.length cw) ∧ w'.cell? ⟨b, o + i * 2 + 1, none⟩ = some (.int .i64 k)) := Lib.hid fun w' h => ⟨(h.cell (p := ⟨B, 1, none⟩) hBl).trans y1, (h.cell (p := ⟨b, o + i * 2 + 1, none⟩) hbl).trans c1⟩
  have k0 : (0 : Int) ≤ k := by omega
  have hlt : (i : Int) < H.ws.length := by omega
  have u1 : IntKind.i64.wrap ((i : Int) + 1) = (i : Int) + 1 := by rw [IntKind.wrap_i64]; omega
  have u2 : IntKind.i64.wrap ((i : Int) + 1 + k) = (i : Int) + 1 + k := by rw [IntKind.wrap_i64]; omega
  have n1 : ((i : Int) + 1).toNat = i + 1 := by omega
  have n2 : ((i : Int) + 1 + k).toNat = i + 1 + k := by omega
  have q1 : (0 : Int) ≤ (i : Int) + 1 + k := by omega
  have q2 : (i : Int) + 1 + k ≤ cw := by omega
  have q3 : (0 : Int) ≤ (i : Int) + 1 := by omega
  have q4 : (i : Int) + 1 ≤ max ((i : Int) + 1 + k) 0 := by omega
  have n3 : i + 1 + k - (i + 1) = k := by omega
  by_cases hcc : cw = i + 1
  all_goals (
    go_enter Try.func112, Try.ntmps112
    go_upto_region 3 with fail
    refine rg_start (fun w' => w'.cell? ⟨B, 1, none⟩ = some (.slice (some ⟨b, o, none⟩) H.ws.length cw) ∧ w'.cell? ⟨b, o + i * 2 + 1, none⟩ = some (.int .i64 k)) (by as_aux_lemma => kernel_rfl) (HQ.out) ?_
    intro Wd hB hWd hWd' hHeld
    have HCWd := Lib.hid hB
    clear hB
    refine rg_take (i := 0) (v := ?_) rfl (by as_aux_lemma => kernel_rfl) (by as_aux_lemma => kernel_rfl) (by as_aux_lemma => kernel_rfl) (by rfl) ?_ hHeld ?_
    rotate_left 1
    · intro w hSw; (try dsimp only at hSw); go_simp; try (with_reducible rfl)
    (try simp only [Act.put, List.setIfInBounds_toArray, List.set_cons_zero, List.set_cons_succ])
    refine rg_take (i := 1) (v := ?_) rfl (by as_aux_lemma => kernel_rfl) (by as_aux_lemma => kernel_rfl) (by as_aux_lemma => kernel_rfl) (by rfl) ?_ hHeld ?_
    rotate_left 1
    · intro w hSw; (try dsimp only at hSw); go_simp; try (with_reducible rfl)
    (try simp only [Act.put, List.setIfInBounds_toArray, List.set_cons_zero, List.set_cons_succ])
    refine rg_take (i := 2) (v := ?_) rfl (by as_aux_lemma => kernel_rfl) (by as_aux_lemma => kernel_rfl) (by as_aux_lemma => kernel_rfl) (by rfl) ?_ hHeld ?_
    rotate_left 1
    · intro w hSw; (try dsimp only at hSw); go_simp; try (with_reducible rfl)
    (try simp only [Act.put, List.setIfInBounds_toArray, List.set_cons_zero, List.set_cons_succ])
    refine rg_take (i := 3) (v := ?_) rfl (by as_aux_lemma => kernel_rfl) (by as_aux_lemma => kernel_rfl) (by as_aux_lemma => kernel_rfl) (by rfl) ?_ hHeld ?_
    rotate_left 1
    · intro w hSw; (try dsimp only at hSw); go_simp; try (with_reducible rfl)
    (try simp only [Act.put, List.setIfInBounds_toArray, List.set_cons_zero, List.set_cons_succ])
    refine rg_take (i := 4) (v := ?_) rfl (by as_aux_lemma => kernel_rfl) (by as_aux_lemma => kernel_rfl) (by as_aux_lemma => kernel_rfl) (by rfl) ?_ hHeld ?_
    rotate_left 1
    · intro w hSw; (try dsimp only at hSw); go_simp; try (with_reducible rfl)
    (try simp only [Act.put, List.setIfInBounds_toArray, List.set_cons_zero, List.set_cons_succ])
    refine rg_take (i := 5) (v := ?_) rfl (by as_aux_lemma => kernel_rfl) (by as_aux_lemma => kernel_rfl) (by as_aux_lemma => kernel_rfl) (by rfl) ?_ hHeld ?_
    rotate_left 1
    · intro w hSw; (try dsimp only at hSw); go_simp; try (with_reducible rfl)
    (try simp only [Act.put, List.setIfInBounds_toArray, List.set_cons_zero, List.set_cons_succ])
    refine rg_take (i := 6) (v := ?_) rfl (by as_aux_lemma => kernel_rfl) (by as_aux_lemma => kernel_rfl) (by as_aux_lemma => kernel_rfl) (by rfl) ?_ hHeld ?_
    rotate_left 1
    · intro w hSw; (try dsimp only at hSw); go_simp; try (with_reducible rfl)
    (try simp only [Act.put, List.setIfInBounds_toArray, List.set_cons_zero, List.set_cons_succ])
    refine rg_take (i := 7) (v := ?_) rfl (by as_aux_lemma => kernel_rfl) (by as_aux_lemma => kernel_rfl) (by as_aux_lemma => kernel_rfl) (by rfl) ?_ hHeld ?_
    rotate_left 1
    · intro w hSw; (try dsimp only at hSw); go_simp; try (with_reducible rfl)
    (try simp only [Act.put, List.setIfInBounds_toArray, List.set_cons_zero, List.set_cons_succ])
    refine rg_take (i := 8) (v := ?_) rfl (by as_aux_lemma => kernel_rfl) (by as_aux_lemma => kernel_rfl) (by as_aux_lemma => kernel_rfl) (by rfl) ?_ hHeld ?_
    rotate_left 1
    · intro w hSw; (try dsimp only at hSw); go_simp; try (with_reducible rfl)
    (try simp only [Act.put, List.setIfInBounds_toArray, List.set_cons_zero, List.set_cons_succ])
    refine rg_take (i := 9) (v := ?_) rfl (by as_aux_lemma => kernel_rfl) (by as_aux_lemma => kernel_rfl) (by as_aux_lemma => kernel_rfl) (by rfl) ?_ hHeld ?_
    rotate_left 1
    · intro w hSw; (try dsimp only at hSw); go_simp; try (with_reducible rfl)
    (try simp only [Act.put, List.setIfInBounds_toArray, List.set_cons_zero, List.set_cons_succ])
    refine rg_take (i := 10) (v := ?_) rfl (by as_aux_lemma => kernel_rfl) (by as_aux_lemma => kernel_rfl) (by as_aux_lemma => kernel_rfl) (by rfl) ?_ hHeld ?_
    rotate_left 1
    · intro w hSw; (try dsimp only at hSw); go_simp; try (with_reducible rfl)
    (try simp only [Act.put, List.setIfInBounds_toArray, List.set_cons_zero, List.set_cons_succ])
    refine rg_take (i := 11) (v := ?_) rfl (by as_aux_lemma => kernel_rfl) (by as_aux_lemma => kernel_rfl) (by as_aux_lemma => kernel_rfl) (by rfl) ?_ hHeld ?_
    rotate_left 1
    · intro w hSw; (try dsimp only at hSw); go_simp; try (with_reducible rfl)
    (try simp only [Act.put, List.setIfInBounds_toArray, List.set_cons_zero, List.set_cons_succ])
    refine rg_take (i := 12) (v := ?_) rfl (by as_aux_lemma => kernel_rfl) (by as_aux_lemma => kernel_rfl) (by as_aux_lemma => kernel_rfl) (by rfl) ?_ hHeld ?_
    rotate_left 1
    · intro w hSw; (try dsimp only at hSw); go_simp; try (with_reducible rfl)
    (try simp only [Act.put, List.setIfInBounds_toArray, List.set_cons_zero, List.set_cons_succ])
    refine rg_take (i := 13) (v := ?_) rfl (by as_aux_lemma => kernel_rfl) (by as_aux_lemma => kernel_rfl) (by as_aux_lemma => kernel_rfl) (by rfl) ?_ hHeld ?_
    rotate_left 1
    · intro w hSw; (try dsimp only at hSw); go_simp; try (with_reducible rfl)
    (try simp only [Act.put, List.setIfInBounds_toArray, List.set_cons_zero, List.set_cons_succ])
    refine rg_take (i := 14) (v := ?_) rfl (by as_aux_lemma => kernel_rfl) (by as_aux_lemma => kernel_rfl) (by as_aux_lemma => kernel_rfl) (by rfl) ?_ hHeld ?_
    rotate_left 1
    · intro w hSw; (try dsimp only at hSw); go_simp; try (with_reducible rfl)
    (try simp only [Act.put, List.setIfInBounds_toArray, List.set_cons_zero, List.set_cons_succ])
    refine rg_take (i := 15) (v := ?_) rfl (by as_aux_lemma => kernel_rfl) (by as_aux_lemma => kernel_rfl) (by as_aux_lemma => kernel_rfl) (by rfl) ?_ hHeld ?_
    rotate_left 1
    · intro w hSw; (try dsimp only at hSw); go_simp; try (with_reducible rfl)
    (try simp only [Act.put, List.setIfInBounds_toArray, List.set_cons_zero, List.set_cons_succ])
    refine rg_take (i := 16) (v := ?_) rfl (by as_aux_lemma => kernel_rfl) (by as_aux_lemma => kernel_rfl) (by as_aux_lemma => kernel_rfl) (by rfl) ?_ hHeld ?_
    rotate_left 1
    · intro w hSw; (try dsimp only at hSw); go_simp; try (with_reducible rfl)
    (try simp only [Act.put, List.setIfInBounds_toArray, List.set_cons_zero, List.set_cons_succ])
    refine rg_take (i := 17) (v := ?_) rfl (by as_aux_lemma => kernel_rfl) (by as_aux_lemma => kernel_rfl) (by as_aux_lemma => kernel_rfl) (by rfl) ?_ hHeld ?_
    rotate_left 1
    · intro w hSw; (try dsimp only at hSw); go_simp; (try rw [if_pos (by omega)]); (try rw [if_pos (by omega)]); try (with_reducible rfl)
    (try simp only [Act.put, List.setIfInBounds_toArray, List.set_cons_zero, List.set_cons_succ])
    refine rg_take (i := 18) (v := ?_) rfl (by as_aux_lemma => kernel_rfl) (by as_aux_lemma => kernel_rfl) (by as_aux_lemma => kernel_rfl) (by rfl) ?_ hHeld ?_
    rotate_left 1
    · intro w hSw; (try dsimp only at hSw); go_simp; try (with_reducible rfl)
    (try simp only [Act.put, List.setIfInBounds_toArray, List.set_cons_zero, List.set_cons_succ])
    refine rg_take (i := 19) (v := ?_) rfl (by as_aux_lemma => kernel_rfl) (by as_aux_lemma => kernel_rfl) (by as_aux_lemma => kernel_rfl) (by rfl) ?_ hHeld ?_
    rotate_left 1
    · intro w hSw; (try dsimp only at hSw); go_simp; try (with_reducible rfl)
    (try simp only [Act.put, List.setIfInBounds_toArray, List.set_cons_zero, List.set_cons_succ])
    refine rg_done (by as_aux_lemma => kernel_rfl) ?_
    clear hHeld
    go_wp2_with fail
    go_ret2
    refine ⟨_, _, by rw [HPL.out]; rfl, HCWd.out, ?_⟩
    first
      | (have hk0 : k = 0 := by omega
         subst hk0
         have hpe : partsL H i 0 = [] := by unfold partsL; rw [List.take_zero]
         rw [hpe]
         exact RX.nilAt _ _ _ _ _ (by simp))
      | (rw [HPL.out]
         have hp := (HX.out.part (i + 1) k (cw - (i + 1)) (by omega) (by omega)).mono (R' := F) (fun x hx => HF.out x hx) (S' := fun _ => True) fun _ _ => trivial
         exact hp.below HCWd.out)
    )
/-- Does a word stand for a term? -/
def standsB (H : HS) (x : Wrd) : Bool :=
  if x.kind = 1 then decide (-1099511627776 ≤ x.n) && decide (x.n ≤ 1099511627776) else if x.kind = 3 then decide (1 ≤ x.n) && decide (x.n ≤ 99)
  else if x.kind = 2 then decide (0 ≤ x.n) && decide (x.n < H.names.length) else if x.kind = 4 then (headN H x.n).isSome else false
set_option maxHeartbeats 4000000 in
theorem hstands_c (F : Nat → Prop) (w : World) (B : Nat) (room : Int) (H : HS) (x : Wrd) (hR : HeapR F w B room H) (hH : HeadsOk H) (hl : H.ws.length ≤ 137438953472) :
    Calls Try.prog 88 #[.pointer (some ⟨B, 0, none⟩), .agg #[.int .i64 x.kind, .int .i64 x.n]] w fun e w' => e = .returned (.bool (standsB H x)) ∧ Below w.heap.size w w' := by
  have HR := Lib.hid hR
  have HH := Lib.hid hH
  obtain ⟨vw, vn, hV⟩ := hR
  obtain ⟨an, cn, rfl⟩ := hV.nm.form
  have HV := Lib.hid hV
  clear hV hH
  by_cases hk1 : x.kind = 1
  · have HE : Hid (standsB H x = (decide (-1099511627776 ≤ x.n) && decide (x.n ≤ 1099511627776))) := Lib.hid (by unfold standsB; rw [if_pos hk1])
    have k1 : (x.kind == 1) = true := by rw [hk1]; rfl
    clear hk1
    obtain ⟨d1, hd1⟩ : ∃ d1, decide (-1099511627776 ≤ x.n) = d1 := ⟨_, rfl⟩
    obtain ⟨d2, hd2⟩ : ∃ d2, decide (x.n ≤ 1099511627776) = d2 := ⟨_, rfl⟩
    rw [hd1, hd2] at HE
    cases d1 <;> cases d2
    all_goals (
      go_enter Try.func88, Try.ntmps88
      go_wp2_with fail
      go_ret
      exact ⟨ret_bool (by rw [HE.out]; first | rfl | simp [hd2]), below_alloc _ _⟩)
  have k1 : (x.kind == 1) = false := by simpa using hk1
  by_cases hk3 : x.kind = 3
  · have HE : Hid (standsB H x = (decide (1 ≤ x.n) && decide (x.n ≤ 99))) := Lib.hid (by unfold standsB; rw [if_neg hk1, if_pos hk3])
    have k3 : (x.kind == 3) = true := by rw [hk3]; rfl
    clear hk1 hk3
    obtain ⟨d1, hd1⟩ : ∃ d1, decide (1 ≤ x.n) = d1 := ⟨_, rfl⟩
    obtain ⟨d2, hd2⟩ : ∃ d2, decide (x.n ≤ 99) = d2 := ⟨_, rfl⟩
    rw [hd1, hd2] at HE
    cases d1 <;> cases d2
    all_goals (
      go_enter Try.func88, Try.ntmps88
      go_wp2_with fail
      go_ret
      exact ⟨ret_bool (by rw [HE.out]; first | rfl | simp [hd2]), below_alloc _ _⟩)
  have k3 : (x.kind == 3) = false := by simpa using hk3
  by_cases hk2 : x.kind = 2
  · have HE : Hid (standsB H x = (decide (0 ≤ x.n) && decide (x.n < H.names.length))) := Lib.hid (by unfold standsB; rw [if_neg hk1, if_neg hk3, if_pos hk2])
    have k2 : (x.kind == 2) = true := by rw [hk2]; rfl
    clear hk1 hk3 hk2
    obtain ⟨W0, hW0⟩ : ∃ W : World, W = w.alloc (.cells #[.int .i64 x.kind, .int .i64 x.n] 69) := ⟨_, rfl⟩
    have HX0 : Hid (Blk W0 w.heap.size [.int .i64 x.kind, .int .i64 x.n]) := Lib.hid (by rw [hW0]; exact Blk.new _ _ _ _ rfl)
    have HB0 : Hid (Below w.heap.size w W0) := Lib.hid (by rw [hW0]; exact below_alloc _ _)
    have HV0 := Lib.hid (HV.out.below HB0.out)
    have HW0 := Lib.hid hW0
    clear hW0
    have HQ : Hid (∀ w' : World, Below W0.heap.size W0 w' → w'.cell? ⟨w.heap.size, 1, none⟩ = some (.int .i64 x.n) ∧ w'.cell? ⟨B, 2, none⟩ = some (.slice an H.names.length cn)) := Lib.hid fun w' h => ⟨(HX0.out.step h).cell 1 _ rfl, (HV0.out.blk.step h).cell 2 _ rfl⟩
    by_cases h1 : 0 ≤ x.n
    · have hd1 : decide (0 ≤ x.n) = true := by simpa using h1
      go_enter Try.func88, Try.ntmps88
      go_upto_region 7 with fail
      rw [← HW0.out]
      refine rg_start (fun w' => w'.cell? ⟨w.heap.size, 1, none⟩ = some (.int .i64 x.n) ∧ w'.cell? ⟨B, 2, none⟩ = some (.slice an H.names.length cn)) (by as_aux_lemma => kernel_rfl) (HQ.out) ?_
      intro Wd hB hWd hWd' hHeld
      have HCWd := Lib.hid hB
      clear hB
      refine rg_take (i := 0) (v := ?_) rfl (by as_aux_lemma => kernel_rfl) (by as_aux_lemma => kernel_rfl) (by as_aux_lemma => kernel_rfl) (by rfl) ?_ hHeld ?_
      rotate_left 1
      · intro w hSw; (try dsimp only at hSw); go_simp; try (with_reducible rfl)
      (try simp only [Act.put, List.setIfInBounds_toArray, List.set_cons_zero, List.set_cons_succ])
      refine rg_take (i := 1) (v := ?_) rfl (by as_aux_lemma => kernel_rfl) (by as_aux_lemma => kernel_rfl) (by as_aux_lemma => kernel_rfl) (by rfl) ?_ hHeld ?_
      rotate_left 1
      · intro w hSw; (try dsimp only at hSw); go_simp; try (with_reducible rfl)
      (try simp only [Act.put, List.setIfInBounds_toArray, List.set_cons_zero, List.set_cons_succ])
      refine rg_take (i := 2) (v := ?_) rfl (by as_aux_lemma => kernel_rfl) (by as_aux_lemma => kernel_rfl) (by as_aux_lemma => kernel_rfl) (by rfl) ?_ hHeld ?_
      rotate_left 1
      · intro w hSw; (try dsimp only at hSw); go_simp; try (with_reducible rfl)
      (try simp only [Act.put, List.setIfInBounds_toArray, List.set_cons_zero, List.set_cons_succ])
      refine rg_take (i := 3) (v := ?_) rfl (by as_aux_lemma => kernel_rfl) (by as_aux_lemma => kernel_rfl) (by as_aux_lemma => kernel_rfl) (by rfl) ?_ hHeld ?_
      rotate_left 1
      · intro w hSw; (try dsimp only at hSw); go_simp; try (with_reducible rfl)
      (try simp only [Act.put, List.setIfInBounds_toArray, List.set_cons_zero, List.set_cons_succ])
      refine rg_take (i := 4) (v := ?_) rfl (by as_aux_lemma => kernel_rfl) (by as_aux_lemma => kernel_rfl) (by as_aux_lemma => kernel_rfl) (by rfl) ?_ hHeld ?_
      rotate_left 1
      · intro w hSw; (try dsimp only at hSw); go_simp; try (with_reducible rfl)
      (try simp only [Act.put, List.setIfInBounds_toArray, List.set_cons_zero, List.set_cons_succ])
      refine rg_take (i := 5) (v := ?_) rfl (by as_aux_lemma => kernel_rfl) (by as_aux_lemma => kernel_rfl) (by as_aux_lemma => kernel_rfl) (by rfl) ?_ hHeld ?_
      rotate_left 1
      · intro w hSw; (try dsimp only at hSw); go_simp; try (with_reducible rfl)
      (try simp only [Act.put, List.setIfInBounds_toArray, List.set_cons_zero, List.set_cons_succ])
      refine rg_take (i := 6) (v := ?_) rfl (by as_aux_lemma => kernel_rfl) (by as_aux_lemma => kernel_rfl) (by as_aux_lemma => kernel_rfl) (by rfl) ?_ hHeld ?_
      rotate_left 1
      · intro w hSw; (try dsimp only at hSw); go_simp; try (with_reducible rfl)
      (try simp only [Act.put, List.setIfInBounds_toArray, List.set_cons_zero, List.set_cons_succ])
      refine rg_take (i := 7) (v := ?_) rfl (by as_aux_lemma => kernel_rfl) (by as_aux_lemma => kernel_rfl) (by as_aux_lemma => kernel_rfl) (by rfl) ?_ hHeld ?_
      rotate_left 1
      · intro w hSw; (try dsimp only at hSw); go_simp; try (with_reducible rfl)
      (try simp only [Act.put, List.setIfInBounds_toArray, List.set_cons_zero, List.set_cons_succ])
      refine rg_take (i := 8) (v := ?_) rfl (by as_aux_lemma => kernel_rfl) (by as_aux_lemma => kernel_rfl) (by as_aux_lemma => kernel_rfl) (by rfl) ?_ hHeld ?_
      rotate_left 1
      · intro w hSw; (try dsimp only at hSw); go_simp; try (with_reducible rfl)
      (try simp only [Act.put, List.setIfInBounds_toArray, List.set_cons_zero, List.set_cons_succ])
      refine rg_take (i := 9) (v := ?_) rfl (by as_aux_lemma => kernel_rfl) (by as_aux_lemma => kernel_rfl) (by as_aux_lemma => kernel_rfl) (by rfl) ?_ hHeld ?_
      rotate_left 1
      · intro w hSw; (try dsimp only at hSw); go_simp; try (with_reducible rfl)
      (try simp only [Act.put, List.setIfInBounds_toArray, List.set_cons_zero, List.set_cons_succ])
      refine rg_take (i := 10) (v := ?_) rfl (by as_aux_lemma => kernel_rfl) (by as_aux_lemma => kernel_rfl) (by as_aux_lemma => kernel_rfl) (by rfl) ?_ hHeld ?_
      rotate_left 1
      · intro w hSw; (try dsimp only at hSw); go_simp; try (with_reducible rfl)
      (try simp only [Act.put, List.setIfInBounds_toArray, List.set_cons_zero, List.set_cons_succ])
      refine rg_take (i := 11) (v := ?_) rfl (by as_aux_lemma => kernel_rfl) (by as_aux_lemma => kernel_rfl) (by as_aux_lemma => kernel_rfl) (by rfl) ?_ hHeld ?_
      rotate_left 1
      · intro w hSw; (try dsimp only at hSw); go_simp; try (with_reducible rfl)
      (try simp only [Act.put, List.setIfInBounds_toArray, List.set_cons_zero, List.set_cons_succ])
      refine rg_take (i := 12) (v := ?_) rfl (by as_aux_lemma => kernel_rfl) (by as_aux_lemma => kernel_rfl) (by as_aux_lemma => kernel_rfl) (by rfl) ?_ hHeld ?_
      rotate_left 1
      · intro w hSw; (try dsimp only at hSw); go_simp; try (with_reducible rfl)
      (try simp only [Act.put, List.setIfInBounds_toArray, List.set_cons_zero, List.set_cons_succ])
      refine rg_take (i := 13) (v := ?_) rfl (by as_aux_lemma => kernel_rfl) (by as_aux_lemma => kernel_rfl) (by as_aux_lemma => kernel_rfl) (by rfl) ?_ hHeld ?_
      rotate_left 1
      · intro w hSw; (try dsimp only at hSw); go_simp; try (with_reducible rfl)
      (try simp only [Act.put, List.setIfInBounds_toArray, List.set_cons_zero, List.set_cons_succ])
      refine rg_done (by as_aux_lemma => kernel_rfl) ?_
      clear hHeld
      go_wp2_with fail
      go_ret
      exact ⟨ret_bool (by rw [HE.out]; first | (simp [h1]; done) | (simp; omega)), HB0.out.trans (HCWd.out.mono (by have := HB0.out.size; omega))⟩
    · have hd1 : decide (0 ≤ x.n) = false := by simpa using h1
      go_enter Try.func88, Try.ntmps88
      go_upto_region 7 with fail
      rw [← HW0.out]
      refine rg_start (fun w' => w'.cell? ⟨w.heap.size, 1, none⟩ = some (.int .i64 x.n) ∧ w'.cell? ⟨B, 2, none⟩ = some (.slice an H.names.length cn)) (by as_aux_lemma => kernel_rfl) (HQ.out) ?_
      intro Wd hB hWd hWd' hHeld
      have HCWd := Lib.hid hB
      clear hB
      refine rg_take (i := 0) (v := ?_) rfl (by as_aux_lemma => kernel_rfl) (by as_aux_lemma => kernel_rfl) (by as_aux_lemma => kernel_rfl) (by rfl) ?_ hHeld ?_
      rotate_left 1
      · intro w hSw; (try dsimp only at hSw); go_simp; try (with_reducible rfl)
      (try simp only [Act.put, List.setIfInBounds_toArray, List.set_cons_zero, List.set_cons_succ])
      refine rg_take (i := 1) (v := ?_) rfl (by as_aux_lemma => kernel_rfl) (by as_aux_lemma => kernel_rfl) (by as_aux_lemma => kernel_rfl) (by rfl) ?_ hHeld ?_
      rotate_left 1
      · intro w hSw; (try dsimp only at hSw); go_simp; try (with_reducible rfl)
      (try simp only [Act.put, List.setIfInBounds_toArray, List.set_cons_zero, List.set_cons_succ])
      refine rg_take (i := 2) (v := ?_) rfl (by as_aux_lemma => kernel_rfl) (by as_aux_lemma => kernel_rfl) (by as_aux_lemma => kernel_rfl) (by rfl) ?_ hHeld ?_
      rotate_left 1
      · intro w hSw; (try dsimp only at hSw); go_simp; try (with_reducible rfl)
      (try simp only [Act.put, List.setIfInBounds_toArray, List.set_cons_zero, List.set_cons_succ])
      refine rg_take (i := 3) (v := ?_) rfl (by as_aux_lemma => kernel_rfl) (by as_aux_lemma => kernel_rfl) (by as_aux_lemma => kernel_rfl) (by rfl) ?_ hHeld ?_
      rotate_left 1
      · intro w hSw; (try dsimp only at hSw); go_simp; try (with_reducible rfl)
      (try simp only [Act.put, List.setIfInBounds_toArray, List.set_cons_zero, List.set_cons_succ])
      refine rg_off (i := 4) rfl (by as_aux_lemma => kernel_rfl) (by as_aux_lemma => kernel_rfl) (by as_aux_lemma => kernel_rfl) (by rfl) hHeld ?_
      (try simp only [Act.put, List.setIfInBounds_toArray, List.set_cons_zero, List.set_cons_succ])
      refine rg_off (i := 5) rfl (by as_aux_lemma => kernel_rfl) (by as_aux_lemma => kernel_rfl) (by as_aux_lemma => kernel_rfl) (by rfl) hHeld ?_
      (try simp only [Act.put, List.setIfInBounds_toArray, List.set_cons_zero, List.set_cons_succ])
      refine rg_off (i := 6) rfl (by as_aux_lemma => kernel_rfl) (by as_aux_lemma => kernel_rfl) (by as_aux_lemma => kernel_rfl) (by rfl) hHeld ?_
      (try simp only [Act.put, List.setIfInBounds_toArray, List.set_cons_zero, List.set_cons_succ])
      refine rg_off (i := 7) rfl (by as_aux_lemma => kernel_rfl) (by as_aux_lemma => kernel_rfl) (by as_aux_lemma => kernel_rfl) (by rfl) hHeld ?_
      (try simp only [Act.put, List.setIfInBounds_toArray, List.set_cons_zero, List.set_cons_succ])
      refine rg_off (i := 8) rfl (by as_aux_lemma => kernel_rfl) (by as_aux_lemma => kernel_rfl) (by as_aux_lemma => kernel_rfl) (by rfl) hHeld ?_
      (try simp only [Act.put, List.setIfInBounds_toArray, List.set_cons_zero, List.set_cons_succ])
      refine rg_off (i := 9) rfl (by as_aux_lemma => kernel_rfl) (by as_aux_lemma => kernel_rfl) (by as_aux_lemma => kernel_rfl) (by rfl) hHeld ?_
      (try simp only [Act.put, List.setIfInBounds_toArray, List.set_cons_zero, List.set_cons_succ])
      refine rg_off (i := 10) rfl (by as_aux_lemma => kernel_rfl) (by as_aux_lemma => kernel_rfl) (by as_aux_lemma => kernel_rfl) (by rfl) hHeld ?_
      (try simp only [Act.put, List.setIfInBounds_toArray, List.set_cons_zero, List.set_cons_succ])
      refine rg_off (i := 11) rfl (by as_aux_lemma => kernel_rfl) (by as_aux_lemma => kernel_rfl) (by as_aux_lemma => kernel_rfl) (by rfl) hHeld ?_
      (try simp only [Act.put, List.setIfInBounds_toArray, List.set_cons_zero, List.set_cons_succ])
      refine rg_take (i := 12) (v := ?_) rfl (by as_aux_lemma => kernel_rfl) (by as_aux_lemma => kernel_rfl) (by as_aux_lemma => kernel_rfl) (by rfl) ?_ hHeld ?_
      rotate_left 1
      · intro w hSw; (try dsimp only at hSw); go_simp; try (with_reducible rfl)
      (try simp only [Act.put, List.setIfInBounds_toArray, List.set_cons_zero, List.set_cons_succ])
      refine rg_take (i := 13) (v := ?_) rfl (by as_aux_lemma => kernel_rfl) (by as_aux_lemma => kernel_rfl) (by as_aux_lemma => kernel_rfl) (by rfl) ?_ hHeld ?_
      rotate_left 1
      · intro w hSw; (try dsimp only at hSw); go_simp; try (with_reducible rfl)
      (try simp only [Act.put, List.setIfInBounds_toArray, List.set_cons_zero, List.set_cons_succ])
      refine rg_done (by as_aux_lemma => kernel_rfl) ?_
      clear hHeld
      go_wp2_with fail
      go_ret
      exact ⟨ret_bool (by rw [HE.out]; first | (simp [h1]; done) | (simp; omega)), HB0.out.trans (HCWd.out.mono (by have := HB0.out.size; omega))⟩
  have k2 : (x.kind == 2) = false := by simpa using hk2
  by_cases hk4 : x.kind = 4
  · have HE : Hid (standsB H x = (headN H x.n).isSome) := Lib.hid (by unfold standsB; rw [if_neg hk1, if_neg hk3, if_neg hk2, if_pos hk4])
    have k4 : (x.kind == 4) = true := by rw [hk4]; rfl
    have HR0 := Lib.hid (HR.out.below (below_alloc w (.cells #[.int .i64 x.kind, .int .i64 x.n] 69)))
    have HB0 := Lib.hid (below_alloc w (.cells #[.int .i64 x.kind, .int .i64 x.n] 69))
    clear hk1 hk3 hk2 hk4
    cases hh : headN H x.n with
    | none =>
      have HN := Lib.hid hh
      rw [hh] at HE
      clear hh
      go_enter Try.func88, Try.ntmps88
      go_wp2_with fail
      refine (hparts_no F _ B room H x.n HR0.out HN.out hl).mono ?_
      rintro e w' ⟨rfl, rfl⟩
      go_wp2_with fail
      go_ret
      exact ⟨ret_bool (by rw [HE.out]; rfl), HB0.out⟩
    | some n =>
      obtain ⟨i, k, hi, hx, rfl, hw, hik⟩ := headN_some HH.out hh
      rw [hh] at HE
      have HW := Lib.hid hw
      have HXN := Lib.hid hx
      clear hh hw hx
      go_enter Try.func88, Try.ntmps88
      go_wp2_with fail
      have hc := hparts_yes F _ B room H i k HR0.out hi HW.out hik hl
      rw [← HXN.out] at hc
      refine hc.mono ?_
      rintro e w1 ⟨a1, c1, rfl, hB, -⟩
      go_wp2_with fail
      go_ret
      exact ⟨ret_bool (by rw [HE.out]; rfl), below_step HB0.out (by simp) hB⟩
  · have HE : Hid (standsB H x = false) := Lib.hid (by unfold standsB; rw [if_neg hk1, if_neg hk3, if_neg hk2, if_neg hk4])
    have k4 : (x.kind == 4) = false := by simpa using hk4
    clear hk1 hk3 hk2 hk4
    go_enter Try.func88, Try.ntmps88
    go_wp2_with fail
    go_ret
    exact ⟨ret_bool HE.out.symm, below_alloc _ _⟩
end Go.Proofs.Ytedfepnekjjmnaa

/-
  What a word stands for in a heap: plain words.
-/
namespace Go.Proofs.Ytedfepnekjjmnaa
open Go.RowKit
set_option linter.unusedSimpArgs false
set_option linter.unusedVariables false

/-- Words that stand for terms. -/
def RepL (H : HS) : List T → List Wrd → Prop
  | [], xs => xs = []
  | ⟨k, n, s, l⟩ :: ts, xs => ∃ x r, xs = x :: r ∧
      (if k = 4 then n = 0 ∧ s = ⟨#[]⟩ ∧ ∃ i : Nat, x = ⟨4, i⟩ ∧ H.ws[i]? = some ⟨0, l.length⟩ ∧ i + 1 + l.length ≤ H.ws.length ∧ RepL H l (partsL H i l.length)
       else if k = 2 then n = 0 ∧ l = [] ∧ ∃ i : Nat, x = ⟨2, i⟩ ∧ H.names[i]? = some s
       else (k = 1 ∨ k = 3) ∧ s = ⟨#[]⟩ ∧ l = [] ∧ x = ⟨k, n⟩) ∧ RepL H ts r
def Rep (H : HS) (t : T) (x : Wrd) : Prop :=
  if t.kind = 4 then t.n = 0 ∧ t.name = ⟨#[]⟩ ∧ ∃ i : Nat, x = ⟨4, i⟩ ∧ H.ws[i]? = some ⟨0, t.args.length⟩ ∧ i + 1 + t.args.length ≤ H.ws.length ∧ RepL H t.args (partsL H i t.args.length)
  else if t.kind = 2 then t.n = 0 ∧ t.args = [] ∧ ∃ i : Nat, x = ⟨2, i⟩ ∧ H.names[i]? = some t.name
  else (t.kind = 1 ∨ t.kind = 3) ∧ t.name = ⟨#[]⟩ ∧ t.args = [] ∧ x = ⟨t.kind, t.n⟩
theorem RepL_nil (H : HS) (xs : List Wrd) : RepL H [] xs ↔ xs = [] := by rw [RepL]
theorem RepL_cons (H : HS) (t : T) (ts : List T) (xs : List Wrd) : RepL H (t :: ts) xs ↔ ∃ x r, xs = x :: r ∧ Rep H t x ∧ RepL H ts r := by
  obtain ⟨k, n, s, l⟩ := t; rw [RepL]; rfl
theorem RepL.length {H : HS} : ∀ {ts : List T} {xs : List Wrd}, RepL H ts xs → xs.length = ts.length
  | [], xs, h => by rw [RepL_nil] at h; rw [h]; rfl
  | t :: ts, xs, h => by
    obtain ⟨x, r, rfl, -, h2⟩ := (RepL_cons H t ts xs).1 h
    simp [h2.length]
theorem RepL.at {H : HS} : ∀ {ts : List T} {xs : List Wrd}, RepL H ts xs → ∀ i (h1 : i < ts.length) (h2 : i < xs.length), Rep H ts[i] xs[i]
  | [], xs, h, i, h1, h2 => by cases h1
  | t :: ts, xs, h, i, h1, h2 => by
    obtain ⟨x, r, rfl, h3, h4⟩ := (RepL_cons H t ts xs).1 h
    cases i with
    | zero => exact h3
    | succ i => exact h4.at i (by simpa using h1) (by simpa using h2)
theorem RepL.of {H : HS} : ∀ {ts : List T} {xs : List Wrd}, xs.length = ts.length → (∀ i (h1 : i < ts.length) (h2 : i < xs.length), Rep H ts[i] xs[i]) → RepL H ts xs
  | [], xs, hl, _ => by rw [RepL_nil]; exact List.eq_nil_of_length_eq_zero hl
  | t :: ts, [], hl, _ => by simp at hl
  | t :: ts, x :: xs, hl, h => (RepL_cons H t ts (x :: xs)).2 ⟨x, xs, rfl, h 0 (by simp) (by simp), RepL.of (by simpa using hl) fun i h1 h2 => h (i + 1) (by simpa using h1) (by simpa using h2)⟩
/-- A word that stands for a term stands. -/
theorem Rep.kinds {H : HS} {t : T} {x : Wrd} (h : Rep H t x) : x.kind = t.kind := by
  unfold Rep at h
  split at h
  · rename_i hk; obtain ⟨-, -, i, rfl, -⟩ := h; exact hk.symm
  · split at h
    · rename_i hk; obtain ⟨-, -, i, rfl, -⟩ := h; exact hk.symm
    · obtain ⟨-, -, -, rfl⟩ := h; rfl
theorem Rep.tup {H : HS} {t : T} {x : Wrd} (h : Rep H t x) (hk : t.kind = 4) : t.n = 0 ∧ t.name = ⟨#[]⟩ ∧ ∃ i : Nat, x = ⟨4, i⟩ ∧ H.ws[i]? = some ⟨0, t.args.length⟩ ∧ i + 1 + t.args.length ≤ H.ws.length ∧ RepL H t.args (partsL H i t.args.length) := by
  unfold Rep at h; rwa [if_pos hk] at h
theorem Rep.atom {H : HS} {t : T} {x : Wrd} (h : Rep H t x) (hk : t.kind = 2) : t.n = 0 ∧ t.args = [] ∧ ∃ i : Nat, x = ⟨2, i⟩ ∧ H.names[i]? = some t.name := by
  unfold Rep at h; rwa [if_neg (by omega), if_pos hk] at h
theorem Rep.leaf {H : HS} {t : T} {x : Wrd} (h : Rep H t x) (h4 : t.kind ≠ 4) (h2 : t.kind ≠ 2) : (t.kind = 1 ∨ t.kind = 3) ∧ t.name = ⟨#[]⟩ ∧ t.args = [] ∧ x = ⟨t.kind, t.n⟩ := by
  unfold Rep at h; rwa [if_neg h4, if_neg h2] at h
end Go.Proofs.Ytedfepnekjjmnaa

/-
  'append(words, make([]Word, n)...)' on a row of the call's own. No condition but a bound.
-/
namespace Go.Proofs.Ytedfepnekjjmnaa
open Go.RowKit
set_option linter.unusedSimpArgs false
set_option linter.unusedVariables false

theorem zeros_eq (n : Nat) : (Builtin.zeroCells #[.int .i64 0, .int .i64 0] n).toList = List.replicate (n * 2) (.int .i64 0) := by
  rw [List.eq_replicate_iff]
  refine ⟨by simp [Builtin.zeroCells], fun b hb => ?_⟩
  unfold Builtin.zeroCells at hb
  rw [Array.toList_map, List.mem_map] at hb
  obtain ⟨i, -, rfl⟩ := hb
  show (#[Value.int .i64 0, Value.int .i64 0] : Array Value)[i % 2]! = _
  rcases Nat.mod_two_eq_zero_or_one i with h | h <;> rw [h] <;> rfl
theorem zeros_size (n : Nat) : (Builtin.zeroCells #[.int .i64 0, .int .i64 0] n).size = n * 2 := by simp [Builtin.zeroCells]
theorem cells_zeros (S : Nat → Prop) (w : World) (n : Nat) : CellsX wrdE S w (List.replicate n ⟨0, 0⟩) (List.replicate (n * 2) (.int .i64 0)) := by
  induction n with
  | zero => rfl
  | succ n ih => exact ⟨[.int .i64 0, .int .i64 0], _, by rw [show (n + 1) * 2 = n * 2 + 1 + 1 by omega]; rfl, rfl, ih⟩
theorem owns_app {w : World} {v : Value} {l m : List Wrd} {cs : List Value} (S : Nat → Prop) (h : w.ownsRow 0 69 2 v (l ++ m).length cs) (hC : CellsX wrdE S w (l ++ m) cs) : OwnW w v (l ++ m) := by
  refine ⟨cs, h, ?_⟩
  clear h
  generalize l ++ m = k at hC ⊢
  induction k generalizing cs with
  | nil => exact hC
  | cons x k ih => obtain ⟨c, cs', rfl, h1, h2⟩ := hC; exact ⟨c, cs', rfl, h1, ih h2⟩
theorem cellsW {S S' : Nat → Prop} {w w' : World} {l : List Wrd} {cs : List Value} (hC : CellsX wrdE S w l cs) : CellsX wrdE S' w' l cs := by
  induction l generalizing cs with
  | nil => exact hC
  | cons x k ih => obtain ⟨c, cs', rfl, h1, h2⟩ := hC; exact ⟨c, cs', rfl, h1, ih h2⟩
theorem infoWord : (Try.prog.info? 69).map (fun i => (i.zero, i.size, i.bytes)) = some (some (.agg #[.int .i64 0, .int .i64 0]), 2, 16) := by kernel_rfl

theorem run_append_zeros (w : World) (ty : TypeId) (v : Value) (l : List Wrd) (n : Nat) (hown : OwnW w v l) (hn : l.length + n ≤ 137438953472) :
    ∃ a cap w', (Builtin.append_ #[67, 3] ty #[v, .int .i64 n]).run Try.prog w = .ok (.slice a (l.length + n) cap) w' ∧ OwnW w' (.slice a (l.length + n) cap) (l ++ List.replicate n ⟨0, 0⟩) ∧ w.grownBy w' v.ownBlock ∧
      (∀ b, (Value.slice a (l.length + n) cap).ownBlock = some b → v.ownBlock = some b ∨ w.heap.size ≤ b) := by
  obtain ⟨i, hi, hz, his, hib⟩ := info_parts infoWord
  obtain ⟨cs, hrow, hC⟩ := hown
  have hlen : (l ++ List.replicate n (⟨0, 0⟩ : Wrd)).length = l.length + n := by simp
  have hcl : cs.length = l.length * 2 := hC.length
  have hw : IntKind.i64.wrap (n : Int) = n := by rw [IntKind.wrap_i64]; omega
  have hneg : ¬ ((n : Int) < 0) := by omega
  have hw0 : IntKind.i64.wrap 0 = 0 := by decide
  have h48i : ¬ (281474976710656 < (n : Int) * (i.bytes : Int)) := by rw [hib]; omega
  rcases hrow.2 with ⟨rfl, h0⟩ | ⟨g, cap, cur, rfl, hbg, hg, hnc, hcm, hcs, htake⟩
  · have hl0 : l = [] := List.eq_nil_of_length_eq_zero h0
    subst hl0
    have hcs0 : cs = [] := List.eq_nil_of_length_eq_zero (by simpa using hcl)
    subst hcs0
    by_cases hn0 : n = 0
    · subst hn0
      refine ⟨none, 0, w, ?_, OwnXG.nil _ _ _ _, ⟨rfl, rfl, rfl, Nat.le_refl _, fun _ _ _ => rfl⟩, fun b hb => .inl hb⟩
      simp [Builtin.append_, run_underlying Try.underlying67, run_underlying Try.underlying3, sizeOf, typeInfo, hi, asInt, asIntOf, hw0]
    · have hr := Lib.run_append_nil_zeros (P := Try.prog) w 67 3 ty 69 i _ .i64 .i64 Try.underlying67 Try.underlying3 hi hz n (by omega) (by rw [his]; omega) (by omega) (by rw [hib]; omega)
      have hge := grownCap_ge w n 0 69
      have hcm : grownCap w n 0 69 ≤ maxLen := grownCap_le_maxLen w n 0 69 (by unfold maxLen; omega)
      refine ⟨some ⟨w.heap.size, 0, none⟩, grownCap w n 0 69, w.drew.alloc (.cells (Builtin.zeroCells #[.int .i64 0, .int .i64 0] n ++ Builtin.zeroCells #[.int .i64 0, .int .i64 0] (grownCap w n 0 69 - n)) 69), by simpa [Value.cells] using hr, ?_, ⟨rfl, rfl, rfl, by simp, fun k hk _ => heap_alloc_old w.drew _ hk⟩, fun b hb => .inr ?_⟩
      · refine owns_app (fun _ => True) (cs := List.replicate (n * 2) (.int .i64 0)) ?_ (by simpa using cells_zeros _ _ n)
        refine ⟨by simp, .inr ⟨w.heap.size, _, _, by simp, Nat.zero_le _, heap_alloc_new w.drew _, by simpa using hge, hcm, ?_, ?_⟩⟩
        · simp only [Array.size_append, zeros_size]; omega
        · simp only [Array.toList_append, zeros_eq]
          rw [List.take_left' (by simp)]
      · simp only [Value.ownBlock, Option.some.injEq] at hb; omega
  · have hcs : cur.size = cap * 2 := hcs
    have htake : cur.toList.take (l.length * 2) = cs := htake
    by_cases hroom : l.length + n ≤ cap
    · have hst := run_storeCells_at Try.prog g (l.length * 2) 69 (List.replicate (n * 2) (Value.int .i64 0)) 0 cur w hg (by rw [List.length_replicate]; omega) (by intro u hu; rw [List.eq_of_mem_replicate hu]; rfl)
      simp only [Nat.add_zero, List.length_replicate] at hst
      refine ⟨some ⟨g, 0, none⟩, cap, w.setRow g (cur.toList.take (l.length * 2) ++ List.replicate (n * 2) (Value.int .i64 0) ++ cur.toList.drop (l.length * 2 + n * 2)).toArray, ?_, ?_, ⟨rfl, rfl, rfl, by simp, fun k _ hk => setRow_other w g k _ (fun e => hk (by simp [Value.ownBlock, e]))⟩, fun b hb => .inl hb⟩
      · by_cases hn0 : n = 0
        · subst hn0
          simp [Builtin.append_, run_underlying Try.underlying67, run_underlying Try.underlying3, sizeOf, typeInfo, hi, his, asInt, asIntOf, hw0, hnc, storeCells]
          rw [setRow_self w g cur 69 (0, 0) hg]
        · have hns : ¬ (n * i.size = 0) := by rw [his]; omega
          have hz' : (Builtin.zeroCells (Value.agg #[.int .i64 0, .int .i64 0]).cells n).toList = List.replicate (n * 2) (.int .i64 0) := zeros_eq n
          have h16 : ¬ (281474976710656 < (n : Int) * 16) := by omega
          have hn2 : ¬ (n * 2 = 0) := by omega
          simp [Builtin.append_, run_underlying Try.underlying67, run_underlying Try.underlying3, sizeOf, typeInfo, zeroValue, hi, hz, his, hib, asInt, asIntOf, hw, hneg, h16, hn2, hn0, hroom, Addr.add_lit, hz', hst]
      · refine owns_app (fun _ => True) (cs := cs ++ List.replicate (n * 2) (.int .i64 0)) ?_ ((cellsW hC).append (cells_zeros _ _ n))
        refine ⟨by simp [hcl]; omega, .inr ⟨g, cap, _, by simp, Nat.zero_le _, setRow_heap w g cur _ 69 _ hg, by simpa using hroom, hcm, ?_, ?_⟩⟩
        · simp only [List.size_toArray, List.length_append, List.length_take, List.length_drop, Array.length_toList, List.length_replicate]; omega
        · rw [htake, List.take_left' (by simp [hcl]; omega)]
    · have holds : ∀ j u, cs[j]? = some u → w.drew.cell? ((⟨g, 0, none⟩ : Addr).add j) = some u := fun j u hu => hrow.cells (g := g) rfl j u hu
      have hf := run_firstCells_some (P := Try.prog) w.drew i.size l.length ⟨g, 0, none⟩ l.length cap cs (by rw [hcl, his]) holds
      have hr := Lib.run_append_grow_zeros (P := Try.prog) w 67 3 ty 69 i _ .i64 .i64 Try.underlying67 Try.underlying3 hi hz (some ⟨g, 0, none⟩) l.length cap cs hf n (by omega) (by rw [his]; omega) (by omega) (by omega) (by rw [hib]; omega) (growslice_fits (by omega) (by rw [hib]; omega))
      have hge := grownCap_ge w (l.length + n) cap 69
      have hcm' : grownCap w (l.length + n) cap 69 ≤ maxLen := grownCap_le_maxLen w (l.length + n) cap 69 (by unfold maxLen; omega)
      refine ⟨some ⟨w.heap.size, 0, none⟩, grownCap w (l.length + n) cap 69, w.drew.alloc (.cells (cs.toArray ++ Builtin.zeroCells #[.int .i64 0, .int .i64 0] n ++ Builtin.zeroCells #[.int .i64 0, .int .i64 0] (grownCap w (l.length + n) cap 69 - (l.length + n))) 69), by simpa [Value.cells] using hr, ?_, ⟨rfl, rfl, rfl, by simp, fun k hk _ => heap_alloc_old w.drew _ hk⟩, fun b hb => .inr ?_⟩
      · refine owns_app (fun _ => True) (cs := cs ++ List.replicate (n * 2) (.int .i64 0)) ?_ ((cellsW hC).append (cells_zeros _ _ n))
        refine ⟨by simp [hcl]; omega, .inr ⟨w.heap.size, _, _, by simp, Nat.zero_le _, heap_alloc_new w.drew _, by simpa using hge, hcm', ?_, ?_⟩⟩
        · simp only [Array.size_append, zeros_size, List.size_toArray, hcl]; omega
        · simp only [Array.toList_append, zeros_eq]
          rw [List.take_left' (by simp [hcl]; omega)]
      · simp only [Value.ownBlock, Option.some.injEq] at hb; omega
end Go.Proofs.Ytedfepnekjjmnaa

/-
  heap.put: what it makes of a heap. No condition but a bound.
-/
namespace Go.Proofs.Ytedfepnekjjmnaa
open Go.RowKit
set_option linter.unusedSimpArgs false
set_option linter.unusedVariables false
set_option maxRecDepth 100000

theorem HeapV.low {F : Nat → Prop} {w : World} {B : Nat} {room : Int} {H : HS} {vw vn : Value} (h : HeapV F w B room H vw vn) : HeapV (fun b => F b ∧ b < w.heap.size) w B room H vw vn :=
  ⟨h.blk, h.ws, h.nm, h.nw, h.nn, h.ne, ⟨h.fb, h.blk.lt⟩, fun b hb => ⟨h.fw b hb, (h.ws.block b hb).2⟩, fun b hb => ⟨h.fn b hb, (h.nm.block b hb).2⟩⟩
theorem HeapR.low {F : Nat → Prop} {w : World} {B : Nat} {room : Int} {H : HS} (h : HeapR F w B room H) : HeapR (fun b => F b ∧ b < w.heap.size) w B room H := by
  obtain ⟨vw, vn, h⟩ := h; exact ⟨vw, vn, h.low⟩
theorem wrd_set (k : Nat) (x : Wrd) : ∀ {S : Nat → Prop} {w w' : World} {l : List Wrd} {cs : List Value} {i : Nat}, CellsX wrdE S w l cs → i < l.length → CellsX wrdE S w' (l.set i x) ((cs.set (i * 2) (.int .i64 x.kind)).set (i * 2 + 1) (.int .i64 x.n))
  | _, _, _, [], _, _, _, hi => by cases hi
  | _, _, _, y :: l, _, 0, ⟨c, cs', rfl, h1, h2⟩, _ => by
    obtain rfl : c = [.int .i64 y.kind, .int .i64 y.n] := h1
    exact ⟨[.int .i64 x.kind, .int .i64 x.n], cs', rfl, rfl, cellsW h2⟩
  | _, _, _, y :: l, _, i + 1, ⟨c, cs', rfl, h1, h2⟩, hi => by
    obtain rfl : c = [.int .i64 y.kind, .int .i64 y.n] := h1
    refine ⟨[.int .i64 y.kind, .int .i64 y.n], _, ?_, rfl, wrd_set k x h2 (i := i) (by simpa using hi)⟩
    rw [show (i + 1) * 2 = i * 2 + 1 + 1 by omega]
    simp
theorem OwnW.set {w : World} {g n cap i : Nat} {l : List Wrd} (h : OwnW w (.slice (some ⟨g, 0, none⟩) n cap) l) (hi : i < l.length) (x : Wrd) :
    OwnW ((w.setCell ⟨g, i * 2, none⟩ (.int .i64 x.kind)).setCell ⟨g, i * 2 + 1, none⟩ (.int .i64 x.n)) (.slice (some ⟨g, 0, none⟩) n cap) (l.set i x) := by
  obtain ⟨cs, ⟨h1, h2⟩, hC⟩ := h
  rcases h2 with ⟨h2, -⟩ | ⟨g', cap', cur, ev, hg, hh, hn, hm, hcs, htk⟩
  · cases h2
  simp only [Value.slice.injEq, Option.some.injEq, Addr.mk.injEq, and_true] at ev
  obtain ⟨rfl, rfl, rfl⟩ := ev
  have e1 := heap_setCell_same w g (i * 2) cur 69 (.int .i64 x.kind) hh
  have e2 := heap_setCell_same _ g (i * 2 + 1) _ 69 (.int .i64 x.n) e1
  have hC2 := wrd_set (S := fun _ => True) (w' := w) 0 x (cellsW (w' := w) hC) hi
  refine ⟨_, ⟨?_, .inr ⟨g, cap, _, by simp, hg, e2, ?_, hm, by simp [hcs], rfl⟩⟩, cellsW (S := fun _ => True) (w := w) ?_⟩
  · simp only [Array.toList_setIfInBounds, List.take_set, htk, List.length_set, h1]
  · simpa using hn
  · simp only [Array.toList_setIfInBounds, List.length_set, List.take_set, htk]
    exact hC2
theorem OwnW.there {w : World} {g n cap i : Nat} {l : List Wrd} (h : OwnW w (.slice (some ⟨g, 0, none⟩) n cap) l) (hi : i < l.length) : w.there g (i * 2) 2 := by
  have hf := OwnX.frozen h
  obtain ⟨-, c0, c1⟩ := h.rx.wrd i hi
  intro j hj
  rw [Nat.zero_add] at c0 c1
  match j, hj with
  | 0, _ => exact ⟨by rw [Nat.add_zero, c0]; rfl, hf _⟩
  | 1, _ => exact ⟨by rw [c1]; rfl, hf _⟩
section
variable {o : Oper} {a : Act} {Q : Exit → Act → World → Prop} {K : Act → World → Prop} {w : World}
theorem buildW1 (x : Operand) (ho : o.op = .buildSlice 67 1 #[(0, x)]) {c0 c1 : Value} (h0 : a.eval x = .agg #[c0, c1])
    (h : K (a.put o.dst (.slice (some ⟨w.heap.size, 0, none⟩) 1 1)) (w.alloc (.cells #[c0, c1] 69))) : Oper.wp Try.prog o a w K Q := by
  obtain ⟨i, hi, hz, hs, hb⟩ := info_parts infoWord
  refine wp_buildSlice 67 69 1 _ ho #[c0, c1] i _ Try.underlying67 hi hz (by rw [hs]; decide) (by rw [hs]; decide) ?_ h
  rw [hs]
  have e := Great.fill_whole (s := 2) (by decide) [.agg #[c0, c1]] ((Array.range (1 * 2)).map ((Value.agg #[.int .i64 0, .int .i64 0]).cells[· % (Value.agg #[.int .i64 0, .int .i64 0]).cells.size]!)) (by simp [Value.cells]) (by simp)
  simp only [Array.toList_map, List.map_cons, List.map_nil, h0]
  exact e
theorem wp_growW (s x : Operand) (hgd : o.guard = none) (ho : o.op = .call { callee := .builtin .append, args := #[s, x], argTypes := #[67, 67] })
    {v : Value} {l : List Wrd} {y : Wrd} {n g0 : Nat} (hs : a.eval s = v) (hx : a.eval x = .slice (some ⟨g0, 0, none⟩) 1 1) (hg0 : g0 = w.heap.size) (hown : OwnW w v l) (hnl : l.length = n) (hn : n + 1 ≤ 137438953472)
    (h : ∀ g cap w', OwnW w' (.slice (some ⟨g, 0, none⟩) (n + 1) cap) (l ++ [y]) → Below 0 w w' → (w.alloc (.cells #[.int .i64 y.kind, .int .i64 y.n] 69)).grownBy w' v.ownBlock → (v.ownBlock = some g ∨ w.heap.size < g) → K (a.put o.dst (.slice (some ⟨g, 0, none⟩) (n + 1) cap)) w') :
    Oper.wp Try.prog o a (w.alloc (.cells #[.int .i64 y.kind, .int .i64 y.n] 69)) K Q :=
  wp_growX wrdF (P := fun _ => True) (R := fun _ => False) (base := 0) (c := #[.int .i64 y.kind, .int .i64 y.n]) s x hgd ho hs hx hg0 hown (show wrdE.C _ w y [.int .i64 y.kind, .int .i64 y.n] from rfl) (fun b hb => hb.elim) hnl (by omega) (by omega) h
theorem wp_zerosW (s x : Operand) (ho : o.op = .call { callee := .builtin .append, args := #[s, x], argTypes := #[67, 3] })
    {v : Value} {l : List Wrd} {n : Nat} (hs : a.eval s = v) (hx : a.eval x = .int .i64 n) (hown : OwnW w v l) (hn : l.length + n ≤ 137438953472)
    (h : ∀ b cap w', OwnW w' (.slice b (l.length + n) cap) (l ++ List.replicate n ⟨0, 0⟩) → w.grownBy w' v.ownBlock → (∀ g, (Value.slice b (l.length + n) cap).ownBlock = some g → v.ownBlock = some g ∨ w.heap.size ≤ g) → K (a.put o.dst (.slice b (l.length + n) cap)) w') :
    Oper.wp Try.prog o a w K Q := by
  obtain ⟨b, cap, w', h1, h2, h3, h4⟩ := run_append_zeros w o.type v l n hown hn
  exact Lib.wp_append_run w s x _ _ ho v _ hs hx _ w' h1 (h b cap w' h2 h3 h4)
end
/-- A struct handed back alone. -/
theorem result_blk {fn : Func} {t : Tmp} {ty k : Nat} (h : fn.results = #[.cell t ty]) (hi : (Try.prog.info? ty).map (·.size) = some k) (d : TypeDesc) (hu : Try.prog.underlying ty = some d) (hr : d.isRow = true)
    {tmps : Array Value} {w : World} {B : Nat} {cs : List Value} (hx : tmps.getD t undef = .pointer (some ⟨B, 0, none⟩)) (hB : Blk w B cs) (hl : cs.length = k) :
    (results fn tmps).run Try.prog w = .ok (.agg cs.toArray) w := by
  have h1 := run_loadVar_mid (P := Try.prog) w B 0 ty cs d hB.range hu hr (by rw [hi, hl])
  have h2 : (asAddr (tmps.getD t undef)).run Try.prog w = .ok ⟨B, 0, none⟩ w := by rw [hx]; rfl
  simp only [Array.getD_eq_getD_getElem?] at h2 ⊢
  simp [results, h, h1, h2]
/-- What put hands back. -/
def PutP (F : Nat → Prop) (w : World) (B : Nat) (room : Int) (H : HS) (t : T) (e : Ending) (w' : World) : Prop :=
  e = .returned (.agg #[.int .i64 (putW H t).1.kind, .int .i64 (putW H t).1.n]) ∧ Keep F w w' ∧ HeapR (fun b => F b ∨ w.heap.size ≤ b) w' B room (putW H t).2
/-- On the way. -/
def PutM (F : Nat → Prop) (W0 : World) (B : Nat) (room : Int) (H : HS) (wx : World) : Prop := HeapR (fun b => F b ∨ W0.heap.size ≤ b) wx B room H ∧ Keep F W0 wx
def PutI (n : Nat) (F : Nat → Prop) (W0 : World) (B : Nat) (room : Int) (H : HS) (i0 : Nat) (ts : List T) (i : Value) (wx : World) : Prop := ∃ k, k ≤ n ∧ i = .int .i64 (k : Nat) ∧ PutM F W0 B room (putA i0 H (ts.take k)) wx
theorem Keep.join {F : Nat → Prop} {a b c : World} (h : Keep F a b) (k : Keep (fun x => F x ∨ a.heap.size ≤ x) b c) : Keep F a c :=
  ⟨k.os.trans h.os, k.tape.trans h.tape, k.output.trans h.output, Nat.le_trans h.size k.size, fun i hi hn => (k.block i (Nat.lt_of_lt_of_le hi h.size) (fun e => e.elim hn (by omega))).trans (h.block i hi hn)⟩
theorem OwnW.form0 {w : World} {v : Value} {l : List Wrd} (h : OwnW w v l) (hl : 0 < l.length) : ∃ g cap, v = .slice (some ⟨g, 0, none⟩) l.length cap := by
  obtain ⟨cs, ⟨h1, h2⟩, hC⟩ := h
  rcases h2 with ⟨-, h0⟩ | ⟨g, cap, cur, rfl, -⟩
  · omega
  · exact ⟨g, cap, rfl⟩
theorem HeapV.set {F : Nat → Prop} {w : World} {B : Nat} {room : Int} {H : HS} {g n cap i : Nat} {vn : Value} (h : HeapV F w B room H (.slice (some ⟨g, 0, none⟩) n cap) vn) (hi : i < H.ws.length) (x : Wrd) :
    HeapV F ((w.setCell ⟨g, i * 2, none⟩ (.int .i64 x.kind)).setCell ⟨g, i * 2 + 1, none⟩ (.int .i64 x.n)) B room ⟨H.ws.set i x, H.names⟩ (.slice (some ⟨g, 0, none⟩) n cap) vn := by
  have hne : B ≠ g := fun e => h.nw (by rw [e]; rfl)
  have hb : ∀ b, b ≠ g → ((w.setCell ⟨g, i * 2, none⟩ (.int .i64 x.kind)).setCell ⟨g, i * 2 + 1, none⟩ (.int .i64 x.n)).heap[b]? = w.heap[b]? := fun b hb => by rw [setCell_other _ _ _ _ _ hb, setCell_other _ _ _ _ _ hb]
  have hsz : ((w.setCell ⟨g, i * 2, none⟩ (.int .i64 x.kind)).setCell ⟨g, i * 2 + 1, none⟩ (.int .i64 x.n)).heap.size = w.heap.size := by simp
  have he := hb B hne
  exact ⟨⟨by have := h.blk.lt; omega, fun j u hu => (World.cell?_of_block (w := w) (a := ⟨B, j, none⟩) he).trans (h.blk.cell j u hu), fun o => (World.frozen?_of_block (w := w) (a := ⟨B, o, none⟩) he).trans (h.blk.fr o)⟩,
    h.ws.set hi x, h.nm.to (by omega) (fun b hbn => hb b fun e => h.ne g rfl (by rw [← e]; exact hbn)), h.nw, h.nn, h.ne, h.fb, h.fw, h.fn⟩
theorem Keep.all {F : Nat → Prop} {a b : World} (h : Keep (fun x => F x ∧ x < a.heap.size) a b) : Keep F a b := h.mono fun x _ hx => hx.1

set_option maxHeartbeats 8000000 in
theorem hput_c : ∀ (t : T) (F S : Nat → Prop) (w : World) (B : Nat) (room : Int) (H : HS) (v : Value), HeapR F w B room H → RT S w t v → (∀ b, S b → b < w.heap.size ∧ ¬ F b) → H.ws.length + szL [t] ≤ 34359738368 → H.names.length + bulkL [t] ≤ 34359738368 →
    Calls Try.prog 85 #[.pointer (some ⟨B, 0, none⟩), v] w (PutP F w B room H t) := by
  intro t
  induction t using T.ind with
  | h t ih =>
    intro F S w B room H v hR hv hS hbw hbn
    obtain ⟨a, cap, rfl, hcap, hr⟩ := hv
    have hba := bulk_args t
    have hla := length_le_bulk t.args
    have hsz := szL_le _ t.args (Nat.le_refl _)
    have IH := Lib.hid ih
    have HSB := Lib.hid hS
    have HRR := Lib.hid hr
    obtain ⟨W0, hW0⟩ : ∃ W : World, W = (w.alloc (.cells #[.int .i64 t.kind, .int .i64 t.n, .string t.name, .slice a t.args.length cap] 29)).alloc (.cells #[.int .i64 0, .int .i64 0] 69) := ⟨_, rfl⟩
    have HX3 : Hid (Blk W0 w.heap.size [.int .i64 t.kind, .int .i64 t.n, .string t.name, .slice a t.args.length cap]) := Lib.hid (by rw [hW0]; exact (Blk.new _ _ _ _ rfl).alloc _)
    have HX4 : Hid (Blk W0 (w.heap.size + 1) [.int .i64 0, .int .i64 0]) := Lib.hid (by rw [hW0]; exact Blk.new _ _ _ _ (by simp))
    have HB0 : Hid (Below w.heap.size w W0) := Lib.hid (by rw [hW0]; exact (below_alloc _ _).trans ((below_alloc _ _).mono (by simp)))
    have hs0 : W0.heap.size = w.heap.size + 2 := by rw [hW0]; simp
    have hs0a : w.heap.size + 2 ≤ W0.heap.size := by omega
    have hs0b : W0.heap.size ≤ w.heap.size + 2 := by omega
    obtain ⟨F0, hF0⟩ : ∃ F0 : Nat → Prop, F0 = fun b => F b ∧ b < w.heap.size := ⟨_, rfl⟩
    have HR0 : Hid (HeapR F0 W0 B room H) := Lib.hid (by rw [hF0]; exact hR.low.below HB0.out)
    have HF1 : Hid (∀ b, F0 b → F b ∧ b < w.heap.size) := Lib.hid (fun b hb => by rw [hF0] at hb; exact hb)
    have HEND : Hid (∀ (H' : HS) (W1 W' : World), PutM F0 W0 B room H' W1 → Below 0 W1 W' → (∀ b, b ≠ w.heap.size + 1 → W'.heap[b]? = W1.heap[b]?) → Keep F w W' ∧ HeapR (fun b => F b ∨ w.heap.size ≤ b) W' B room H') := Lib.hid (fun H' W1 W' h hB ho => by
      have hz := hB.size
      have hz1 := h.2.size
      refine ⟨⟨hB.os.trans (h.2.os.trans HB0.out.os), hB.tape.trans (h.2.tape.trans HB0.out.tape), hB.output.trans (h.2.output.trans HB0.out.output), by omega, fun k hk hn => ?_⟩, h.1.to hz (fun b hb => ?_) fun b hb hl => ho b ?_⟩
      · exact (ho k (by omega)).trans ((h.2.block k (by omega) fun e => hn (HF1.out k e).1).trans (HB0.out.block k hk))
      · rcases hb with hb | hb
        · exact .inl (HF1.out b hb).1
        · exact .inr (by omega)
      · rcases hb with hb | hb
        · have := (HF1.out b hb).2; omega
        · omega)
    have HW0 := Lib.hid hW0
    clear ih hS hr hR hW0 hF0 hs0
    by_cases hk2 : t.kind = 2
    · have HP : Hid (putW H t = (⟨2, (atomH t.name H.names).1⟩, ⟨H.ws, (atomH t.name H.names).2⟩)) := Lib.hid (by unfold putW; rw [if_pos hk2])
      have k2 : (t.kind == 2) = true := by rw [hk2]; rfl
      clear hk2
      go_enter Try.func85, Try.ntmps85
      go_upto_region 3 with fail
      rw [← HW0.out]
      have y2 := HX3.out.cell 2 _ rfl
      go_wp2_with fail
      refine (hatom_c F0 _ B room H t.name HR0.out (by omega)).mono ?_
      rintro e w1 ⟨rfl, hK, hR⟩
      have HK1 := Lib.hid hK
      have HR1 := Lib.hid hR
      have HZ1 : Hid (Blk w1 (w.heap.size + 1) [.int .i64 0, .int .i64 0]) := Lib.hid (HX4.out.keep hK (fun h => by have := (HF1.out _ h).2; omega))
      obtain ⟨m, hm⟩ : ∃ m, m = (atomH t.name H.names).1 := ⟨_, rfl⟩
      have hs1 := hK.size
      rw [← hm]
      have HM := Lib.hid hm
      clear hK hR hm y2
      go_wp2_with (refine store_blk 69 2 szWord _ _ rfl rfl rfl rfl rfl HZ1.out rfl rfl rfl ?_; intro W' hF hs' hBW hoth; have HF := Lib.hid hF; have HSZ := Lib.hid hs'; have HBW := Lib.hid hBW; have HOTH := Lib.hid hoth; clear hF hBW hoth hs')
      refine bodyPost_ret (result_blk Try.results85 szWord _ Try.underlying69 rfl rfl HF.out rfl) rfl ⟨?_, ?_⟩
      · rw [HP.out, ← HM.out]; try rfl
      · rw [HP.out]
        exact HEND.out _ _ _ ⟨HR1.out, HK1.out⟩ (HBW.out 0 w1 (by omega) (Below.refl _ _)) HOTH.out
    by_cases hk4 : t.kind = 4
    · have HP : Hid (putW H t = (⟨4, H.ws.length⟩, putA (H.ws.length + 1) ⟨H.ws ++ (⟨0, t.args.length⟩ :: List.replicate t.args.length ⟨0, 0⟩), H.names⟩ t.args)) := Lib.hid (by unfold putW; rw [if_neg hk2, if_pos hk4])
      have k2 : (t.kind == 2) = false := by simpa using hk2
      have k4 : (t.kind == 4) = true := by rw [hk4]; rfl
      have hz4 : 1 + t.args.length + szL t.args ≤ szL [t] := by rw [szL_cons, if_pos hk4]; simp [szL]
      clear hk2 hk4
      obtain ⟨vw, vn, hV0⟩ := HR0.out
      obtain ⟨aw, cw, rfl⟩ := hV0.ws.form
      have b0 := hV0.blk.cell 1 _ rfl
      have HV0 := Lib.hid hV0
      have HQ : Hid (∀ w' : World, w'.heap[w.heap.size]? = W0.heap[w.heap.size]? → w'.cell? ⟨w.heap.size, 3, none⟩ = some (.slice a t.args.length cap)) := Lib.hid fun w' e => (World.cell?_of_block (w := W0) (a := ⟨w.heap.size, 3, none⟩) e).trans (HX3.out.cell 3 _ rfl)
      clear hV0
      go_enter Try.func85, Try.ntmps85
      go_upto_region 5 with fail
      rw [← HW0.out]
      go_upto_region 6 with fail
      clear b0
      go_cut [5] (fun s5 wx => s5 = .int .i64 H.ws.length ∧ PutM F0 W0 B room ⟨H.ws ++ [⟨0, t.args.length⟩], H.names⟩ wx)
      case first =>
        refine rg_start (fun w' => w'.cell? ⟨w.heap.size, 3, none⟩ = some (.slice a t.args.length cap)) (by as_aux_lemma => kernel_rfl) (fun Wd h => HQ.out _ (h.block _ (by omega))) ?_
        intro Wd hB hWd hWd' hHeld
        have E3 : Hid (Wd.heap[w.heap.size]? = W0.heap[w.heap.size]?) := Lib.hid (hB.block _ (by omega))
        have HBd := Lib.hid hB
        have HVd := Lib.hid (HV0.out.below hB)
        have bWd := HVd.out.blk.cell 1 _ rfl
        have hBd := HVd.out.blk.lt
        clear hB
        refine rg_take (i := 0) (v := ?_) rfl (by as_aux_lemma => kernel_rfl) (by as_aux_lemma => kernel_rfl) (by as_aux_lemma => kernel_rfl) (by rfl) ?_ hHeld ?_
        rotate_left 1
        · intro w hSw; (try dsimp only at hSw); go_simp; try (with_reducible rfl)
        (try simp only [Act.put, List.setIfInBounds_toArray, List.set_cons_zero, List.set_cons_succ])
        refine rg_take (i := 1) (v := ?_) rfl (by as_aux_lemma => kernel_rfl) (by as_aux_lemma => kernel_rfl) (by as_aux_lemma => kernel_rfl) (by rfl) ?_ hHeld ?_
        rotate_left 1
        · intro w hSw; (try dsimp only at hSw); go_simp; try (with_reducible rfl)
        (try simp only [Act.put, List.setIfInBounds_toArray, List.set_cons_zero, List.set_cons_succ])
        refine rg_take (i := 2) (v := ?_) rfl (by as_aux_lemma => kernel_rfl) (by as_aux_lemma => kernel_rfl) (by as_aux_lemma => kernel_rfl) (by rfl) ?_ hHeld ?_
        rotate_left 1
        · intro w hSw; (try dsimp only at hSw); go_simp; try (with_reducible rfl)
        (try simp only [Act.put, List.setIfInBounds_toArray, List.set_cons_zero, List.set_cons_succ])
        refine rg_take (i := 3) (v := ?_) rfl (by as_aux_lemma => kernel_rfl) (by as_aux_lemma => kernel_rfl) (by as_aux_lemma => kernel_rfl) (by rfl) ?_ hHeld ?_
        rotate_left 1
        · intro w hSw; (try dsimp only at hSw); go_simp; try (with_reducible rfl)
        (try simp only [Act.put, List.setIfInBounds_toArray, List.set_cons_zero, List.set_cons_succ])
        refine rg_take (i := 5) (v := ?_) rfl (by as_aux_lemma => kernel_rfl) (by as_aux_lemma => kernel_rfl) (by as_aux_lemma => kernel_rfl) (by rfl) ?_ hHeld ?_
        rotate_left 1
        · intro w hSw; (try dsimp only at hSw); go_simp; try (with_reducible rfl)
        (try simp only [Act.put, List.setIfInBounds_toArray, List.set_cons_zero, List.set_cons_succ])
        refine rg_take (i := 6) (v := ?_) rfl (by as_aux_lemma => kernel_rfl) (by as_aux_lemma => kernel_rfl) (by as_aux_lemma => kernel_rfl) (by rfl) ?_ hHeld ?_
        rotate_left 1
        · intro w hSw; (try dsimp only at hSw); go_simp; try (with_reducible rfl)
        (try simp only [Act.put, List.setIfInBounds_toArray, List.set_cons_zero, List.set_cons_succ])
        refine rg_take (i := 7) (v := ?_) rfl (by as_aux_lemma => kernel_rfl) (by as_aux_lemma => kernel_rfl) (by as_aux_lemma => kernel_rfl) (by rfl) ?_ hHeld ?_
        rotate_left 1
        · intro w hSw; (try dsimp only at hSw); go_simp; try (with_reducible rfl)
        (try simp only [Act.put, List.setIfInBounds_toArray, List.set_cons_zero, List.set_cons_succ])
        refine rg_take (i := 8) (v := ?_) rfl (by as_aux_lemma => kernel_rfl) (by as_aux_lemma => kernel_rfl) (by as_aux_lemma => kernel_rfl) (by rfl) ?_ hHeld ?_
        rotate_left 1
        · intro w hSw; (try dsimp only at hSw); go_simp; try (with_reducible rfl)
        (try simp only [Act.put, List.setIfInBounds_toArray, List.set_cons_zero, List.set_cons_succ])
        refine rg_two (i := 4) (j := 9) rfl rfl (by as_aux_lemma => kernel_rfl) (by rfl) (by rfl) (fun K hK => ?_) (fun K hK => ?_)
        · skip
          go_simp
          skip
          refine hK.out _ _ (hHeld) (fun hHeld1 => ?_)
          clear hK K hHeld
          have hHeld := hHeld1
          clear hHeld1
          (try simp only [Act.put, List.setIfInBounds_toArray, List.set_cons_zero, List.set_cons_succ])
          refine rg_only (i := 9) rfl (by as_aux_lemma => kernel_rfl) (by rfl) (fun K hK => ?_)
          refine buildW1 _ rfl (by rfl) ?_
          have b9 : (Wd.alloc (.cells #[.int .i64 0, .int .i64 t.args.length] 69)).cell? ⟨B, 1, none⟩ = some (.slice aw H.ws.length cw) := ((below_alloc Wd _).cell (p := ⟨B, 1, none⟩) hBd).trans bWd
          refine hK.out _ _ (HQ.out _ ((Below.heap_alloc Wd _ _ (by omega)).trans E3.out)) (fun hHeld1 => ?_)
          clear hK K hHeld
          have hHeld := hHeld1
          clear hHeld1
          (try simp only [Act.put, List.setIfInBounds_toArray, List.set_cons_zero, List.set_cons_succ])
          refine rg_only (i := 10) rfl (by as_aux_lemma => kernel_rfl) (by rfl) (fun K hK => ?_)
          refine wp_growW (v := .slice aw H.ws.length cw) (y := ⟨0, t.args.length⟩) (g0 := Wd.heap.size) _ _ rfl rfl (by rfl) (by rfl) rfl HVd.out.ws rfl (by omega) ?_
          intro gg cg w3 hO3 hB3 hG3 hP3
          have hl3 := hB3.size
          have e3 := (hG3.block w.heap.size (by simp; omega) (fun he => by have := (HF1.out _ (HVd.out.fw _ he.symm)).2; omega)).trans (Below.heap_alloc Wd _ _ (by omega))
          have E33 : Hid (w3.heap[w.heap.size]? = W0.heap[w.heap.size]?) := Lib.hid (e3.trans E3.out)
          have hgb := (hG3.block B (by simp; omega) (fun he => HVd.out.nw he.symm)).trans (Below.heap_alloc Wd _ _ hBd)
          have b3 := (World.cell?_of_block (w := Wd) (a := ⟨B, 1, none⟩) hgb).trans bWd
          have bf3 := fun o => (World.frozen?_of_block (w := Wd) (a := ⟨B, o, none⟩) hgb).trans (HVd.out.blk.fr o)
          have HO3 := Lib.hid hO3
          have HB3 := Lib.hid hB3
          have HG3 := Lib.hid hG3
          have HP3 := Lib.hid hP3
          clear hO3 hB3 hG3 hP3 hgb e3
          refine hK.out _ _ (HQ.out _ E33.out) (fun hHeld1 => ?_)
          clear hK K hHeld
          have hHeld := hHeld1
          clear hHeld1
          (try simp only [Act.put, List.setIfInBounds_toArray, List.set_cons_zero, List.set_cons_succ])
          refine rg_take (i := 11) (v := ?_) rfl (by as_aux_lemma => kernel_rfl) (by as_aux_lemma => kernel_rfl) (by as_aux_lemma => kernel_rfl) (by rfl) ?_ hHeld ?_
          rotate_left 1
          · intro w hSw; (try dsimp only at hSw); go_simp; try (with_reducible rfl)
          (try simp only [Act.put, List.setIfInBounds_toArray, List.set_cons_zero, List.set_cons_succ])
          refine rg_take (i := 12) (v := ?_) rfl (by as_aux_lemma => kernel_rfl) (by as_aux_lemma => kernel_rfl) (by as_aux_lemma => kernel_rfl) (by rfl) ?_ hHeld ?_
          rotate_left 1
          · intro w hSw; (try dsimp only at hSw); go_simp; try (with_reducible rfl)
          (try simp only [Act.put, List.setIfInBounds_toArray, List.set_cons_zero, List.set_cons_succ])
          refine rg_only (i := 13) rfl (by as_aux_lemma => kernel_rfl) (by rfl) (fun K hK => ?_)
          go_simp
          skip
          refine hK.out _ _ (HQ.out _ ((setCell_other w3 B 1 _ w.heap.size (by have := (HF1.out _ HVd.out.fb).2; omega)).trans E33.out)) (fun hHeld1 => ?_)
          clear hK K hHeld
          have hHeld := hHeld1
          clear hHeld1
          (try simp only [Act.put, List.setIfInBounds_toArray, List.set_cons_zero, List.set_cons_succ])
          refine rg_done (by as_aux_lemma => kernel_rfl) ?_
          clear hHeld
          go_wp2_with fail
          go_meet
          refine ⟨rfl, ⟨_, _, (HVd.out.words' (l := H.ws ++ [⟨0, t.args.length⟩]) hl3 (fun b hb hn => (HG3.out.block b (by simp; omega) (fun e => hn e.symm)).trans (Below.heap_alloc Wd _ _ hb)) HO3.out (fun b hb => by
            obtain rfl : gg = b := by simpa [Value.ownBlock] using hb
            exact HP3.out.imp id (by omega))).to (Nat.le_refl _) (fun b hb => by rcases hb with hb | hb; exact .inl hb; exact .inr (by omega)) fun _ _ _ => rfl⟩, ((Keep.of HBd.out).trans ((keep_grown HB3.out HG3.out HVd.out.fw).mono fun x _ hx => hx)).setCell _ (.inl HVd.out.fb)⟩
        · skip
          refine buildW1 _ rfl (by rfl) ?_
          have b9 : (Wd.alloc (.cells #[.int .i64 0, .int .i64 t.args.length] 69)).cell? ⟨B, 1, none⟩ = some (.slice aw H.ws.length cw) := ((below_alloc Wd _).cell (p := ⟨B, 1, none⟩) hBd).trans bWd
          refine hK.out _ _ (HQ.out _ ((Below.heap_alloc Wd _ _ (by omega)).trans E3.out)) (fun hHeld1 => ?_)
          clear hK K hHeld
          have hHeld := hHeld1
          clear hHeld1
          (try simp only [Act.put, List.setIfInBounds_toArray, List.set_cons_zero, List.set_cons_succ])
          refine rg_only (i := 4) rfl (by as_aux_lemma => kernel_rfl) (by rfl) (fun K hK => ?_)
          go_simp
          skip
          refine hK.out _ _ (hHeld) (fun hHeld1 => ?_)
          clear hK K hHeld
          have hHeld := hHeld1
          clear hHeld1
          (try simp only [Act.put, List.setIfInBounds_toArray, List.set_cons_zero, List.set_cons_succ])
          refine rg_only (i := 10) rfl (by as_aux_lemma => kernel_rfl) (by rfl) (fun K hK => ?_)
          refine wp_growW (v := .slice aw H.ws.length cw) (y := ⟨0, t.args.length⟩) (g0 := Wd.heap.size) _ _ rfl rfl (by rfl) (by rfl) rfl HVd.out.ws rfl (by omega) ?_
          intro gg cg w3 hO3 hB3 hG3 hP3
          have hl3 := hB3.size
          have e3 := (hG3.block w.heap.size (by simp; omega) (fun he => by have := (HF1.out _ (HVd.out.fw _ he.symm)).2; omega)).trans (Below.heap_alloc Wd _ _ (by omega))
          have E33 : Hid (w3.heap[w.heap.size]? = W0.heap[w.heap.size]?) := Lib.hid (e3.trans E3.out)
          have hgb := (hG3.block B (by simp; omega) (fun he => HVd.out.nw he.symm)).trans (Below.heap_alloc Wd _ _ hBd)
          have b3 := (World.cell?_of_block (w := Wd) (a := ⟨B, 1, none⟩) hgb).trans bWd
          have bf3 := fun o => (World.frozen?_of_block (w := Wd) (a := ⟨B, o, none⟩) hgb).trans (HVd.out.blk.fr o)
          have HO3 := Lib.hid hO3
          have HB3 := Lib.hid hB3
          have HG3 := Lib.hid hG3
          have HP3 := Lib.hid hP3
          clear hO3 hB3 hG3 hP3 hgb e3
          refine hK.out _ _ (HQ.out _ E33.out) (fun hHeld1 => ?_)
          clear hK K hHeld
          have hHeld := hHeld1
          clear hHeld1
          (try simp only [Act.put, List.setIfInBounds_toArray, List.set_cons_zero, List.set_cons_succ])
          refine rg_take (i := 11) (v := ?_) rfl (by as_aux_lemma => kernel_rfl) (by as_aux_lemma => kernel_rfl) (by as_aux_lemma => kernel_rfl) (by rfl) ?_ hHeld ?_
          rotate_left 1
          · intro w hSw; (try dsimp only at hSw); go_simp; try (with_reducible rfl)
          (try simp only [Act.put, List.setIfInBounds_toArray, List.set_cons_zero, List.set_cons_succ])
          refine rg_take (i := 12) (v := ?_) rfl (by as_aux_lemma => kernel_rfl) (by as_aux_lemma => kernel_rfl) (by as_aux_lemma => kernel_rfl) (by rfl) ?_ hHeld ?_
          rotate_left 1
          · intro w hSw; (try dsimp only at hSw); go_simp; try (with_reducible rfl)
          (try simp only [Act.put, List.setIfInBounds_toArray, List.set_cons_zero, List.set_cons_succ])
          refine rg_only (i := 13) rfl (by as_aux_lemma => kernel_rfl) (by rfl) (fun K hK => ?_)
          go_simp
          skip
          refine hK.out _ _ (HQ.out _ ((setCell_other w3 B 1 _ w.heap.size (by have := (HF1.out _ HVd.out.fb).2; omega)).trans E33.out)) (fun hHeld1 => ?_)
          clear hK K hHeld
          have hHeld := hHeld1
          clear hHeld1
          (try simp only [Act.put, List.setIfInBounds_toArray, List.set_cons_zero, List.set_cons_succ])
          refine rg_done (by as_aux_lemma => kernel_rfl) ?_
          clear hHeld
          go_wp2_with fail
          go_meet
          refine ⟨rfl, ⟨_, _, (HVd.out.words' (l := H.ws ++ [⟨0, t.args.length⟩]) hl3 (fun b hb hn => (HG3.out.block b (by simp; omega) (fun e => hn e.symm)).trans (Below.heap_alloc Wd _ _ hb)) HO3.out (fun b hb => by
            obtain rfl : gg = b := by simpa [Value.ownBlock] using hb
            exact HP3.out.imp id (by omega))).to (Nat.le_refl _) (fun b hb => by rcases hb with hb | hb; exact .inl hb; exact .inr (by omega)) fun _ _ _ => rfl⟩, ((Keep.of HBd.out).trans ((keep_grown HB3.out HG3.out HVd.out.fw).mono fun x _ hx => hx)).setCell _ (.inl HVd.out.fb)⟩
      case rest =>
        obtain ⟨rfl, hMR, hMK⟩ := hcut
        obtain ⟨W6, rfl⟩ : ∃ W6 : World, W6 = wc := ⟨_, rfl⟩
        obtain ⟨H6, hH6⟩ : ∃ H6 : HS, H6 = ⟨H.ws ++ [⟨0, t.args.length⟩], H.names⟩ := ⟨_, rfl⟩
        rw [← hH6] at hMR
        have hl6 : H6.ws.length = H.ws.length + 1 := by rw [hH6]; simp
        have hn6 : H6.names = H.names := by rw [hH6]
        have hw6 : H6.ws = H.ws ++ [⟨0, t.args.length⟩] := by rw [hH6]
        obtain ⟨v6, n6, hV6⟩ := hMR
        obtain ⟨a7, c7, rfl⟩ := hV6.ws.form
        have hs6 := hMK.size
        have HX36 := Lib.hid (HX3.out.keep hMK (fun h => by have := (HF1.out _ h).2; omega))
        have HV6 := Lib.hid hV6
        have HK6 := Lib.hid hMK
        have HN6 := Lib.hid hn6
        have HW6 := Lib.hid hw6
        have hl6a : H6.ws.length ≤ H.ws.length + 1 := by omega
        have HQ7 : Hid (∀ w' : World, w'.heap[w.heap.size]? = W6.heap[w.heap.size]? → w'.cell? ⟨w.heap.size, 3, none⟩ = some (.slice a t.args.length cap)) := Lib.hid fun w' e => (World.cell?_of_block (w := W6) (a := ⟨w.heap.size, 3, none⟩) e).trans (HX36.out.cell 3 _ rfl)
        clear hV6 hMK hH6 hn6 hw6 hl6
        go_upto_region 7 with fail
        go_cut [5] (fun s5 wx => s5 = .int .i64 H.ws.length ∧ PutM F0 W0 B room ⟨H6.ws ++ List.replicate t.args.length ⟨0, 0⟩, H6.names⟩ wx)
        case first =>
          refine rg_start (fun w' => w'.cell? ⟨w.heap.size, 3, none⟩ = some (.slice a t.args.length cap)) (by as_aux_lemma => kernel_rfl) (fun Wd h => HQ7.out _ (h.block _ (by omega))) ?_
          intro Wd hB hWd hWd' hHeld
          have E3 : Hid (Wd.heap[w.heap.size]? = W6.heap[w.heap.size]?) := Lib.hid (hB.block _ (by omega))
          have HBd := Lib.hid hB
          have HVd := Lib.hid (HV6.out.below hB)
          have bWd := HVd.out.blk.cell 1 _ rfl
          have hBd := HVd.out.blk.lt
          clear hB
          refine rg_take (i := 0) (v := ?_) rfl (by as_aux_lemma => kernel_rfl) (by as_aux_lemma => kernel_rfl) (by as_aux_lemma => kernel_rfl) (by rfl) ?_ hHeld ?_
          rotate_left 1
          · intro w hSw; (try dsimp only at hSw); go_simp; try (with_reducible rfl)
          (try simp only [Act.put, List.setIfInBounds_toArray, List.set_cons_zero, List.set_cons_succ])
          refine rg_take (i := 1) (v := ?_) rfl (by as_aux_lemma => kernel_rfl) (by as_aux_lemma => kernel_rfl) (by as_aux_lemma => kernel_rfl) (by rfl) ?_ hHeld ?_
          rotate_left 1
          · intro w hSw; (try dsimp only at hSw); go_simp; try (with_reducible rfl)
          (try simp only [Act.put, List.setIfInBounds_toArray, List.set_cons_zero, List.set_cons_succ])
          refine rg_take (i := 2) (v := ?_) rfl (by as_aux_lemma => kernel_rfl) (by as_aux_lemma => kernel_rfl) (by as_aux_lemma => kernel_rfl) (by rfl) ?_ hHeld ?_
          rotate_left 1
          · intro w hSw; (try dsimp only at hSw); go_simp; try (with_reducible rfl)
          (try simp only [Act.put, List.setIfInBounds_toArray, List.set_cons_zero, List.set_cons_succ])
          refine rg_take (i := 3) (v := ?_) rfl (by as_aux_lemma => kernel_rfl) (by as_aux_lemma => kernel_rfl) (by as_aux_lemma => kernel_rfl) (by rfl) ?_ hHeld ?_
          rotate_left 1
          · intro w hSw; (try dsimp only at hSw); go_simp; try (with_reducible rfl)
          (try simp only [Act.put, List.setIfInBounds_toArray, List.set_cons_zero, List.set_cons_succ])
          refine rg_take (i := 5) (v := ?_) rfl (by as_aux_lemma => kernel_rfl) (by as_aux_lemma => kernel_rfl) (by as_aux_lemma => kernel_rfl) (by rfl) ?_ hHeld ?_
          rotate_left 1
          · intro w hSw; (try dsimp only at hSw); go_simp; try (with_reducible rfl)
          (try simp only [Act.put, List.setIfInBounds_toArray, List.set_cons_zero, List.set_cons_succ])
          refine rg_take (i := 6) (v := ?_) rfl (by as_aux_lemma => kernel_rfl) (by as_aux_lemma => kernel_rfl) (by as_aux_lemma => kernel_rfl) (by rfl) ?_ hHeld ?_
          rotate_left 1
          · intro w hSw; (try dsimp only at hSw); go_simp; try (with_reducible rfl)
          (try simp only [Act.put, List.setIfInBounds_toArray, List.set_cons_zero, List.set_cons_succ])
          refine rg_take (i := 7) (v := ?_) rfl (by as_aux_lemma => kernel_rfl) (by as_aux_lemma => kernel_rfl) (by as_aux_lemma => kernel_rfl) (by rfl) ?_ hHeld ?_
          rotate_left 1
          · intro w hSw; (try dsimp only at hSw); go_simp; try (with_reducible rfl)
          (try simp only [Act.put, List.setIfInBounds_toArray, List.set_cons_zero, List.set_cons_succ])
          refine rg_only (i := 4) rfl (by as_aux_lemma => kernel_rfl) (by rfl) (fun K hK => ?_)
          go_simp
          skip
          refine hK.out _ _ (hHeld) (fun hHeld1 => ?_)
          clear hK K hHeld
          have hHeld := hHeld1
          clear hHeld1
          (try simp only [Act.put, List.setIfInBounds_toArray, List.set_cons_zero, List.set_cons_succ])
          refine rg_only (i := 8) rfl (by as_aux_lemma => kernel_rfl) (by rfl) (fun K hK => ?_)
          refine wp_zerosW (v := .slice a7 H6.ws.length c7) (n := t.args.length) _ _ rfl (by rfl) (by rfl) HVd.out.ws (by omega) ?_
          intro gb cg w3 hO3 hG3 hP3
          have hl3 := hG3.size
          have hn3 : (Value.slice a7 H6.ws.length c7).ownBlock ≠ some w.heap.size := fun he => by
            rcases HVd.out.fw _ he with h | h
            · have := (HF1.out _ h).2; omega
            · omega
          have e3 := hG3.block w.heap.size (by omega) (fun he => hn3 he.symm)
          have E33 : Hid (w3.heap[w.heap.size]? = W6.heap[w.heap.size]?) := Lib.hid (e3.trans E3.out)
          have hgb := hG3.block B (by omega) (fun he => HVd.out.nw he.symm)
          have b3 := (World.cell?_of_block (w := Wd) (a := ⟨B, 1, none⟩) hgb).trans bWd
          have bf3 := fun o => (World.frozen?_of_block (w := Wd) (a := ⟨B, o, none⟩) hgb).trans (HVd.out.blk.fr o)
          have HO3 := Lib.hid hO3
          have HG3 := Lib.hid hG3
          have HP3 := Lib.hid hP3
          clear hO3 hG3 hP3 hgb e3 hn3
          refine hK.out _ _ (HQ7.out _ E33.out) (fun hHeld1 => ?_)
          clear hK K hHeld
          have hHeld := hHeld1
          clear hHeld1
          (try simp only [Act.put, List.setIfInBounds_toArray, List.set_cons_zero, List.set_cons_succ])
          refine rg_take (i := 9) (v := ?_) rfl (by as_aux_lemma => kernel_rfl) (by as_aux_lemma => kernel_rfl) (by as_aux_lemma => kernel_rfl) (by rfl) ?_ hHeld ?_
          rotate_left 1
          · intro w hSw; (try dsimp only at hSw); go_simp; try (with_reducible rfl)
          (try simp only [Act.put, List.setIfInBounds_toArray, List.set_cons_zero, List.set_cons_succ])
          refine rg_take (i := 10) (v := ?_) rfl (by as_aux_lemma => kernel_rfl) (by as_aux_lemma => kernel_rfl) (by as_aux_lemma => kernel_rfl) (by rfl) ?_ hHeld ?_
          rotate_left 1
          · intro w hSw; (try dsimp only at hSw); go_simp; try (with_reducible rfl)
          (try simp only [Act.put, List.setIfInBounds_toArray, List.set_cons_zero, List.set_cons_succ])
          refine rg_only (i := 11) rfl (by as_aux_lemma => kernel_rfl) (by rfl) (fun K hK => ?_)
          go_simp
          skip
          refine hK.out _ _ (HQ7.out _ ((setCell_other w3 B 1 _ w.heap.size (by rcases HVd.out.fb with h | h; (have := (HF1.out _ h).2; omega); omega)).trans E33.out)) (fun hHeld1 => ?_)
          clear hK K hHeld
          have hHeld := hHeld1
          clear hHeld1
          (try simp only [Act.put, List.setIfInBounds_toArray, List.set_cons_zero, List.set_cons_succ])
          refine rg_done (by as_aux_lemma => kernel_rfl) ?_
          clear hHeld
          go_wp2_with fail
          go_meet
          refine ⟨rfl, ⟨_, _, (HVd.out.words' (l := H6.ws ++ List.replicate t.args.length ⟨0, 0⟩) hl3 (fun b hb hn => HG3.out.block b hb (fun e => hn e.symm)) HO3.out (fun b hb => HP3.out b hb)).to (Nat.le_refl _) (fun b hb => by rcases hb with hb | hb; exact hb; exact .inr (by omega)) fun _ _ _ => rfl⟩, ?_⟩
          refine HK6.out.join ((Keep.of HBd.out).trans (Keep.setCell ⟨HG3.out.os, HG3.out.tape, HG3.out.output, HG3.out.size, fun k hk hn => HG3.out.block k hk (fun e => hn (HVd.out.fw k e.symm))⟩ _ (.inl HVd.out.fb)))
        case rest =>
          obtain ⟨rfl, hM⟩ := hcut
          obtain ⟨W7, rfl⟩ : ∃ W7 : World, W7 = wc := ⟨_, rfl⟩
          obtain ⟨H7, hH7⟩ : ∃ H7 : HS, H7 = ⟨H.ws ++ (⟨0, t.args.length⟩ :: List.replicate t.args.length ⟨0, 0⟩), H.names⟩ := ⟨_, rfl⟩
          have hM7 : PutM F0 W0 B room H7 W7 := by
            have e : H7 = ⟨H6.ws ++ List.replicate t.args.length ⟨0, 0⟩, H6.names⟩ := by rw [hH7, HN6.out, HW6.out]; simp
            rw [e]; exact hM
          have hl7 : H7.ws.length = H.ws.length + 1 + t.args.length := by rw [hH7]; simp; omega
          have hn7 : H7.names.length = H.names.length := by rw [hH7]
          have HH7 := Lib.hid hH7
          have hl7a : H7.ws.length ≤ H.ws.length + 1 + t.args.length := by omega
          have hl7b : H.ws.length + 1 + t.args.length ≤ H7.ws.length := by omega
          have hn7a : H7.names.length ≤ H.names.length := by omega
          have x3 := (HX3.out.keep hM7.2 (fun h => by have := (HF1.out _ h).2; omega)).cell 3 _ rfl
          have HM7 := Lib.hid hM7
          clear hM hM7 hH7 hl7 hn7
          go_wp2_with fail
          clear x3
          go_loopw [52] (fun i wr => PutI t.args.length F0 W0 B room H7 (H.ws.length + 1) t.args i wr) (fun i _ => t.args.length - (intOf i).toNat)
          case atStart => exact ⟨0, Nat.zero_le _, rfl, by rw [List.take_zero, putA_nil]; exact HM7.out⟩
          case round =>
            obtain ⟨k, hkn, rfl, hMR, hMK⟩ := hrel
            obtain ⟨wq, rfl⟩ : ∃ wq : World, wq = wr := ⟨_, rfl⟩
            have hlk := putA_len _ (t.args.take k) (H.ws.length + 1) H7 (Nat.le_refl _)
            have hbtk := bulk_take t.args k
            have hszk := szL_le _ (t.args.take k) (Nat.le_refl _)
            obtain ⟨Hk, hHk⟩ : ∃ Hk, Hk = putA (H.ws.length + 1) H7 (t.args.take k) := ⟨_, rfl⟩
            rw [← hHk] at hMR hlk
            have hlk1 : Hk.ws.length ≤ H7.ws.length + szL (t.args.take k) := by omega
            have hlk2 : H7.ws.length + szL (t.args.take k) ≤ Hk.ws.length := by omega
            have hlk3 : Hk.names.length ≤ H7.names.length + bulkL (t.args.take k) := by omega
            clear hlk
            have HHK := Lib.hid hHk
            have HKq := Lib.hid hMK
            have HRq := Lib.hid hMR
            have hsq := hMK.size
            have HRS := Lib.hid ((HRR.out.below HB0.out).keep hMK (fun b hb hF => (HSB.out b hb).2 (HF1.out b hF).1))
            clear hHk hMR hMK
            by_cases hlt : k < t.args.length
            · obtain ⟨b, o, rfl⟩ := HRS.out.addr (by omega)
              obtain ⟨a', cap', hSb, d0, d1, d2, d3, hE⟩ := HRS.out.elem k hlt
              have hbk := bulk_at hlt
              have hsnoc := bulk_snoc hlt
              have hszs : szL (t.args.take k) + szL [t.args[k]] ≤ szL t.args := by
                have h1 := szL_append (t.args.take (k + 1)) (t.args.drop (k + 1))
                rw [List.take_append_drop] at h1
                have h2 := szL_snoc hlt
                omega
              have HE := Lib.hid hE
              have HMEM := Lib.hid (List.getElem_mem hlt)
              have HSN := Lib.hid (putA_snoc (H.ws.length + 1) H7 hlt)
              clear hE
              go_wp2_with fail
              obtain ⟨F1, hF1⟩ : ∃ F1 : Nat → Prop, F1 = fun b => (F0 b ∨ W0.heap.size ≤ b) ∧ b < wq.heap.size := ⟨_, rfl⟩
              have hR1 : HeapR F1 (wq.alloc (.cells #[.int .i64 t.args[k].kind, .int .i64 t.args[k].n, .string t.args[k].name, .slice a' t.args[k].args.length cap'] 29)) B room Hk := by rw [hF1]; exact HRq.out.low.below (below_alloc _ _)
              have hS1 : ∀ b, S b → b < (wq.alloc (.cells #[.int .i64 t.args[k].kind, .int .i64 t.args[k].n, .string t.args[k].name, .slice a' t.args[k].args.length cap'] 29)).heap.size ∧ ¬ F1 b := fun b hb => by
                have h1 := HSB.out b hb
                refine ⟨by simp; omega, fun hF => ?_⟩
                rw [hF1] at hF
                rcases hF.1 with h | h
                · exact h1.2 (HF1.out b h).1
                · omega
              refine (IH.out t.args[k] HMEM.out F1 S _ B room Hk _ hR1 (HE.out.alloc _) hS1 (by omega) (by omega)).mono ?_
              rintro e w1 ⟨he, hK1, hR1'⟩
              have hxl := putW_len Hk t.args[k]
              rw [← HHK.out] at HSN
              obtain ⟨x, hx⟩ : ∃ x, x = putW Hk t.args[k] := ⟨_, rfl⟩
              rw [← hx] at he hR1' hxl HSN
              subst he
              have hxl1 : x.2.ws.length ≤ Hk.ws.length + szL [t.args[k]] := by omega
              have hxl2 : Hk.ws.length + szL [t.args[k]] ≤ x.2.ws.length := by omega
              clear hxl
              have hs1 := hK1.size
              simp only [World.size_alloc] at hs1
              obtain ⟨W8, hW8⟩ : ∃ W : World, W = w1.alloc (.cells #[.int .i64 x.1.kind, .int .i64 x.1.n] 69) := ⟨_, rfl⟩
              obtain ⟨g8, hg8⟩ : ∃ g, g = w1.heap.size := ⟨_, rfl⟩
              have HX8 : Hid (Blk W8 g8 [.int .i64 x.1.kind, .int .i64 x.1.n]) := Lib.hid (by rw [hW8]; exact Blk.new _ _ _ _ hg8)
              obtain ⟨F2, hF2⟩ : ∃ F2 : Nat → Prop, F2 = fun b => (F1 b ∨ (wq.alloc (.cells #[.int .i64 t.args[k].kind, .int .i64 t.args[k].n, .string t.args[k].name, .slice a' t.args[k].args.length cap'] 29)).heap.size ≤ b) ∧ b < w1.heap.size := ⟨_, rfl⟩
              have HF2 : Hid (∀ b, F2 b → F0 b ∨ W0.heap.size ≤ b) := Lib.hid (fun b hb => by
                rw [hF2, hF1] at hb
                rcases hb.1 with h | h
                · exact h.1
                · right; simp at h; omega)
              have HF2b : Hid (∀ b, F2 b → b < w1.heap.size) := Lib.hid (fun b hb => by rw [hF2] at hb; exact hb.2)
              obtain ⟨v8, n8, hV8⟩ : HeapR F2 W8 B room x.2 := by rw [hF2, hW8]; exact hR1'.low.below (below_alloc _ _)
              obtain ⟨gw, c8, rfl⟩ := hV8.ws.form0 (by omega)
              have HGW : Hid (F0 gw ∨ W0.heap.size ≤ gw) := Lib.hid (HF2.out gw (hV8.fw gw rfl))
              have hg8gw : g8 ≠ gw := fun e => by have := HF2b.out gw (hV8.fw gw rfl); omega
              have hBgw : B ≠ gw := fun e => hV8.nw (by rw [e]; rfl)
              have hB8 := hV8.blk.lt
              have HK8 : Hid (Keep (fun b => F0 b ∨ W0.heap.size ≤ b) wq W8) := Lib.hid (by
                rw [hW8]
                refine ((Keep.of (below_alloc wq _)).trans (hK1.mono fun b _ hb => ?_)).alloc _
                rw [hF1] at hb
                exact hb.1)
              have HV8 := Lib.hid hV8
              have hs8 : W8.heap.size = w1.heap.size + 1 := by rw [hW8]; simp
              have hs8a : w1.heap.size + 1 ≤ W8.heap.size := by omega
              have hg8b : g8 < W8.heap.size := HX8.out.lt
              have HQ12 : Hid (∀ w' : World, w'.heap[B]? = W8.heap[B]? → w'.heap[g8]? = W8.heap[g8]? → w'.cell? ⟨B, 1, none⟩ = some (.slice (some ⟨gw, 0, none⟩) x.2.ws.length c8) ∧ w'.cell? ⟨g8, 0, none⟩ = some (.int .i64 x.1.kind) ∧ w'.cell? ⟨g8, 1, none⟩ = some (.int .i64 x.1.n)) := Lib.hid fun w' e1 e2 => ⟨(World.cell?_of_block (w := W8) (a := ⟨B, 1, none⟩) e1).trans (HV8.out.blk.cell 1 _ rfl), (World.cell?_of_block (w := W8) (a := ⟨g8, 0, none⟩) e2).trans (HX8.out.cell 0 _ rfl), (World.cell?_of_block (w := W8) (a := ⟨g8, 1, none⟩) e2).trans (HX8.out.cell 1 _ rfl)⟩
              have u1 : IntKind.i64.wrap ((H.ws.length : Int) + 1) = (H.ws.length : Int) + 1 := by rw [IntKind.wrap_i64]; omega
              have u2 : IntKind.i64.wrap ((H.ws.length : Int) + 1 + k) = (H.ws.length : Int) + 1 + k := by rw [IntKind.wrap_i64]; omega
              have n1 : ((H.ws.length : Int) + 1 + k).toNat = H.ws.length + 1 + k := by omega
              have q1 : (0 : Int) ≤ (H.ws.length : Int) + 1 + k := by omega
              have q2 : (H.ws.length : Int) + 1 + k < x.2.ws.length := by omega
              have HW8 := Lib.hid hW8
              have HG8 := Lib.hid hg8
              clear hV8 hK1 hR1' hR1 hS1 hF1 hF2 hx hW8 hg8 hs8 d0 d1 d2 d3
              go_upto_region 12 with fail
              rw [← HW8.out]
              try rw [← HG8.out]
              refine rg_start (fun w' => w'.cell? ⟨B, 1, none⟩ = some (.slice (some ⟨gw, 0, none⟩) x.2.ws.length c8) ∧ w'.cell? ⟨g8, 0, none⟩ = some (.int .i64 x.1.kind) ∧ w'.cell? ⟨g8, 1, none⟩ = some (.int .i64 x.1.n)) (by as_aux_lemma => kernel_rfl) (fun Wd h => HQ12.out _ (h.block _ (by omega)) (h.block _ (by omega))) ?_
              intro Wd hB hWd hWd' hHeld
              have EBd : Hid (Wd.heap[B]? = W8.heap[B]?) := Lib.hid (hB.block _ (by omega))
              have E8d : Hid (Wd.heap[g8]? = W8.heap[g8]?) := Lib.hid (hB.block _ (by omega))
              have HBd := Lib.hid hB
              have HVd := Lib.hid (HV8.out.below hB)
              clear hB
              refine rg_take (i := 0) (v := ?_) rfl (by as_aux_lemma => kernel_rfl) (by as_aux_lemma => kernel_rfl) (by as_aux_lemma => kernel_rfl) (by rfl) ?_ hHeld ?_
              rotate_left 1
              · intro w hSw; (try dsimp only at hSw); go_simp; try (with_reducible rfl)
              (try simp only [Act.put, List.setIfInBounds_toArray, List.set_cons_zero, List.set_cons_succ])
              refine rg_take (i := 1) (v := ?_) rfl (by as_aux_lemma => kernel_rfl) (by as_aux_lemma => kernel_rfl) (by as_aux_lemma => kernel_rfl) (by rfl) ?_ hHeld ?_
              rotate_left 1
              · intro w hSw; (try dsimp only at hSw); go_simp; try (with_reducible rfl)
              (try simp only [Act.put, List.setIfInBounds_toArray, List.set_cons_zero, List.set_cons_succ])
              refine rg_take (i := 2) (v := ?_) rfl (by as_aux_lemma => kernel_rfl) (by as_aux_lemma => kernel_rfl) (by as_aux_lemma => kernel_rfl) (by rfl) ?_ hHeld ?_
              rotate_left 1
              · intro w hSw; (try dsimp only at hSw); go_simp; try (with_reducible rfl)
              (try simp only [Act.put, List.setIfInBounds_toArray, List.set_cons_zero, List.set_cons_succ])
              refine rg_take (i := 3) (v := ?_) rfl (by as_aux_lemma => kernel_rfl) (by as_aux_lemma => kernel_rfl) (by as_aux_lemma => kernel_rfl) (by rfl) ?_ hHeld ?_
              rotate_left 1
              · intro w hSw; (try dsimp only at hSw); go_simp; try (with_reducible rfl)
              (try simp only [Act.put, List.setIfInBounds_toArray, List.set_cons_zero, List.set_cons_succ])
              refine rg_take (i := 4) (v := ?_) rfl (by as_aux_lemma => kernel_rfl) (by as_aux_lemma => kernel_rfl) (by as_aux_lemma => kernel_rfl) (by rfl) ?_ hHeld ?_
              rotate_left 1
              · intro w hSw; (try dsimp only at hSw); go_simp; try (with_reducible rfl)
              (try simp only [Act.put, List.setIfInBounds_toArray, List.set_cons_zero, List.set_cons_succ])
              refine rg_take (i := 5) (v := ?_) rfl (by as_aux_lemma => kernel_rfl) (by as_aux_lemma => kernel_rfl) (by as_aux_lemma => kernel_rfl) (by rfl) ?_ hHeld ?_
              rotate_left 1
              · intro w hSw; (try dsimp only at hSw); go_simp; try (with_reducible rfl)
              (try simp only [Act.put, List.setIfInBounds_toArray, List.set_cons_zero, List.set_cons_succ])
              refine rg_take (i := 6) (v := ?_) rfl (by as_aux_lemma => kernel_rfl) (by as_aux_lemma => kernel_rfl) (by as_aux_lemma => kernel_rfl) (by rfl) ?_ hHeld ?_
              rotate_left 1
              · intro w hSw; (try dsimp only at hSw); go_simp; try (with_reducible rfl)
              (try simp only [Act.put, List.setIfInBounds_toArray, List.set_cons_zero, List.set_cons_succ])
              refine rg_take (i := 7) (v := ?_) rfl (by as_aux_lemma => kernel_rfl) (by as_aux_lemma => kernel_rfl) (by as_aux_lemma => kernel_rfl) (by rfl) ?_ hHeld ?_
              rotate_left 1
              · intro w hSw; (try dsimp only at hSw); go_simp; try (with_reducible rfl)
              (try simp only [Act.put, List.setIfInBounds_toArray, List.set_cons_zero, List.set_cons_succ])
              refine rg_take (i := 8) (v := ?_) rfl (by as_aux_lemma => kernel_rfl) (by as_aux_lemma => kernel_rfl) (by as_aux_lemma => kernel_rfl) (by rfl) ?_ hHeld ?_
              rotate_left 1
              · intro w hSw; (try dsimp only at hSw); go_simp; try (with_reducible rfl)
              (try simp only [Act.put, List.setIfInBounds_toArray, List.set_cons_zero, List.set_cons_succ])
              refine rg_take (i := 9) (v := ?_) rfl (by as_aux_lemma => kernel_rfl) (by as_aux_lemma => kernel_rfl) (by as_aux_lemma => kernel_rfl) (by rfl) ?_ hHeld ?_
              rotate_left 1
              · intro w hSw; (try dsimp only at hSw); go_simp; (try simp only [u1, u2, n1]); try (with_reducible rfl)
              (try simp only [Act.put, List.setIfInBounds_toArray, List.set_cons_zero, List.set_cons_succ])
              refine rg_only (i := 10) rfl (by as_aux_lemma => kernel_rfl) (by rfl) (fun K hK => ?_)
              refine wp_store_mid 69 _ _ rfl gw ((H.ws.length + 1 + k) * 2) #[.int .i64 x.1.kind, .int .i64 x.1.n] (by rfl) (by rfl) (HVd.out.ws.there (by omega)) (by rw [szWord]; rfl) (by simp [Value.oneCell']) ?_
              obtain ⟨w9, hw9⟩ : ∃ w9 : World, w9 = (Wd.setCell ⟨gw, (H.ws.length + 1 + k) * 2, none⟩ (.int .i64 x.1.kind)).setCell ⟨gw, (H.ws.length + 1 + k) * 2 + 1, none⟩ (.int .i64 x.1.n) := ⟨_, rfl⟩
              have hcell9 : ∀ b, b ≠ gw → w9.heap[b]? = Wd.heap[b]? := fun b hb => by rw [hw9, setCell_other _ _ _ _ _ hb, setCell_other _ _ _ _ _ hb]
              have hz9 : w9.heap.size = Wd.heap.size := by rw [hw9]; simp
              have HV9 : Hid (HeapV F2 w9 B room ⟨x.2.ws.set (H.ws.length + 1 + k) x.1, x.2.names⟩ (.slice (some ⟨gw, 0, none⟩) x.2.ws.length c8) n8) := Lib.hid (by rw [hw9]; exact HVd.out.set (by omega) x.1)
              have HK9 : Hid (Keep (fun b => F0 b ∨ W0.heap.size ≤ b) Wd w9) := Lib.hid (by rw [hw9]; exact ((Keep.refl _ _).setCell _ (.inl HGW.out)).setCell _ (.inl HGW.out))
              show K _ ((Wd.setCell ⟨gw, (H.ws.length + 1 + k) * 2, none⟩ (.int .i64 x.1.kind)).setCell ⟨gw, (H.ws.length + 1 + k) * 2 + 1, none⟩ (.int .i64 x.1.n))
              rw [← hw9]
              clear hw9
              refine hK.out _ _ (HQ12.out _ ((hcell9 B hBgw).trans EBd.out) ((hcell9 g8 hg8gw).trans E8d.out)) (fun hHeld1 => ?_)
              clear hK K hHeld
              have hHeld := hHeld1
              clear hHeld1
              (try simp only [Act.put, List.setIfInBounds_toArray, List.set_cons_zero, List.set_cons_succ])
              refine rg_done (by as_aux_lemma => kernel_rfl) ?_
              clear hHeld
              clear hcell9
              go_wp2_with fail
              go_roundw
              case rel =>
                refine ⟨k + 1, hlt, by go_num, ?_, ?_⟩
                · rw [HSN.out]
                  exact ⟨_, _, HV9.out.to (Nat.le_refl _) (fun b hb => HF2.out b hb) fun _ _ _ => rfl⟩
                · exact HKq.out.join ((HK8.out.trans (Keep.of HBd.out)).trans HK9.out)
              case measure => simp [intOf]; omega
            · have hkk : k = t.args.length := by omega
              subst hkk
              have HX4q := Lib.hid (HX4.out.keep HKq.out (fun h => by have := (HF1.out _ h).2; omega))
              have HTK : Hid (Hk = putA (H.ws.length + 1) H7 t.args) := Lib.hid (by rw [HHK.out, List.take_of_length_le (Nat.le_refl _)])
              go_wp2_with (refine store_blk 69 2 szWord _ _ rfl rfl rfl rfl rfl HX4q.out rfl rfl rfl ?_; intro W' hF hs' hBW hoth; have HF := Lib.hid hF; have HSZ := Lib.hid hs'; have HBW := Lib.hid hBW; have HOTH := Lib.hid hoth; clear hF hBW hoth hs')
              refine bodyPost_ret (result_blk Try.results85 szWord _ Try.underlying69 rfl rfl HF.out rfl) rfl ⟨?_, ?_⟩
              · rw [HP.out]; try rfl
              · rw [HP.out, ← HH7.out, ← HTK.out]
                exact HEND.out _ _ _ ⟨HRq.out, HKq.out⟩ (HBW.out 0 wq (by omega) (Below.refl _ _)) HOTH.out
    · have HP : Hid (putW H t = (⟨t.kind, t.n⟩, H)) := Lib.hid (by unfold putW; rw [if_neg hk2, if_neg hk4])
      have k2 : (t.kind == 2) = false := by simpa using hk2
      have k4 : (t.kind == 4) = false := by simpa using hk4
      clear hk2 hk4
      go_enter Try.func85, Try.ntmps85
      go_upto_region 15 with fail
      rw [← HW0.out]
      have y0 := HX3.out.cell 0 _ rfl
      have y1 := HX3.out.cell 1 _ rfl
      go_wp2_with (refine store_blk 69 2 szWord _ _ rfl rfl rfl rfl rfl HX4.out rfl rfl rfl ?_; intro W' hF hs' hBW hoth; have HF := Lib.hid hF; have HSZ := Lib.hid hs'; have HBW := Lib.hid hBW; have HOTH := Lib.hid hoth; clear hF hBW hoth hs')
      refine bodyPost_ret (result_blk Try.results85 szWord _ Try.underlying69 rfl rfl HF.out rfl) rfl ⟨?_, ?_⟩
      · rw [HP.out]; try rfl
      · rw [HP.out]
        exact HEND.out _ _ _ ⟨HR0.out.mono (fun b hb => .inl hb), Keep.refl _ _⟩ (HBW.out 0 W0 (by omega) (Below.refl _ _)) HOTH.out
end Go.Proofs.Ytedfepnekjjmnaa

/-
  What the copier does to a word: plain words; how a copier lies. No condition.
-/
namespace Go.Proofs.Ytedfepnekjjmnaa
open Go.RowKit
set_option linter.unusedSimpArgs false
set_option linter.unusedVariables false

/-- A copier: the new words, and where each tuple went. -/
structure CS where
  tw : List Wrd
  wt : List (Int × Int)
def wtF (wt : List (Int × Int)) (n : Int) : Option Int := (wt.find? (fun p => p.1 == n)).map (·.2)
theorem wtF_nil (n : Int) : wtF [] n = none := rfl
theorem wtF_same (wt : List (Int × Int)) (n p : Int) : wtF ((n, p) :: wt) n = some p := by simp [wtF]
theorem wtF_other (wt : List (Int × Int)) {n m : Int} (p : Int) (h : m ≠ n) : wtF ((n, p) :: wt) m = wtF wt m := by
  unfold wtF; rw [List.find?_cons_of_neg (by simpa using fun e => h e.symm)]
/-- One word. -/
def wordC (H : HS) (st : CS) (x : Wrd) : Wrd × CS :=
  if x.kind = 4 then (match wtF st.wt x.n with
    | some p => (⟨4, p⟩, st)
    | none => (⟨4, st.tw.length⟩, ⟨st.tw ++ (⟨0, (headN H x.n).getD 0⟩ :: partsL H x.n.toNat ((headN H x.n).getD 0).toNat), (x.n, (st.tw.length : Int)) :: st.wt⟩))
  else (x, st)
theorem wordC_no {H : HS} {st : CS} {x : Wrd} (h : x.kind ≠ 4) : wordC H st x = (x, st) := by unfold wordC; rw [if_neg h]
theorem wordC_old {H : HS} {st : CS} {x : Wrd} {p : Int} (h : x.kind = 4) (hp : wtF st.wt x.n = some p) : wordC H st x = (⟨4, p⟩, st) := by unfold wordC; rw [if_pos h, hp]
theorem wordC_new {H : HS} {st : CS} {x : Wrd} {i k : Nat} (h : x.kind = 4) (hp : wtF st.wt x.n = none) (hi : x.n = i) (hk : headN H x.n = some (k : Int)) : wordC H st x = (⟨4, st.tw.length⟩, ⟨st.tw ++ (⟨0, k⟩ :: partsL H i k), (x.n, (st.tw.length : Int)) :: st.wt⟩) := by
  unfold wordC; rw [if_pos h, hp]; simp only [hk, Option.getD_some, Int.toNat_natCast]; rw [hi, Int.toNat_natCast]

/-- The map says where each went. -/
def WentR (D : DataW Unit) (wt : List (Int × Int)) : Prop := ∀ n : Int, (Lit.int .i64 n).wf = true → Maps.has D (.int .i64 n) = (wtF wt n).isSome ∧ ∀ p, wtF wt n = some p → D.atKey (.int .i64 n) (.lit (.int .i64 0)) = .lit (.int .i64 p)
theorem WentR.nil : WentR (.map []) [] := fun n _ => ⟨rfl, fun p h => by cases h⟩
theorem isKey_int (n : Int) : WideAt.IsKeyLit (.int .i64 n) := by simp [WideAt.IsKeyLit]
theorem WentR.put {D : DataW Unit} {wt : List (Int × Int)} (h : WentR D wt) (hD : Maps.IsMap D) (n p : Int) : WentR (D.put (.int .i64 n) (.lit (.int .i64 p))) ((n, p) :: wt) := fun m hm => by
  by_cases e : m = n
  · subst e
    rw [wtF_same]
    refine ⟨by rw [Maps.has_put_same hD (isKey_int _)]; rfl, fun q hq => ?_⟩
    rw [Maps.atKey_put_same hD (isKey_int _)]
    simp only [Option.some.injEq] at hq; rw [hq]
  · have hne : (Lit.int .i64 m) ≠ .int .i64 n := fun e' => e (by injection e')
    rw [wtF_other wt p e, Maps.has_put_other hne, Maps.atKey_put_other hne]
    exact h m hm
/-- A copier in memory. -/
structure CopV (F : Nat → Prop) (w : World) (C B : Nat) (st : CS) (vto : Value) (bm nm : Nat) (D : DataW Unit) : Prop where
  blk : Blk w C [.pointer (some ⟨B, 0, none⟩), vto, .map (some bm)]
  row : OwnW w vto st.tw
  mp : w.ownsMap Try.prog 3 (plainElem Try.prog 3) bm nm D
  wt : WentR D st.wt
  nt : vto.ownBlock ≠ some C
  nm1 : bm ≠ C
  ne : vto.ownBlock ≠ some bm
  fc : F C
  ft : ∀ b, vto.ownBlock = some b → F b
  fm : F bm
def CopR (F : Nat → Prop) (w : World) (C B : Nat) (st : CS) (nm : Nat) : Prop := ∃ vto bm D, CopV F w C B st vto bm nm D
theorem ownsMap_block {w w' : World} {b n : Nat} {D : DataW Unit} (h : w.ownsMap Try.prog 3 (plainElem Try.prog 3) b n D) (he : w'.heap[b]? = w.heap[b]?) : w'.ownsMap Try.prog 3 (plainElem Try.prog 3) b n D := by
  obtain ⟨es, clock, hb, r⟩ := h
  exact ⟨es, clock, he.trans hb, r⟩
theorem CopV.to' {F F' : Nat → Prop} {w w' : World} {C B : Nat} {st : CS} {vto : Value} {bm nm : Nat} {D : DataW Unit} (h : CopV F w C B st vto bm nm D) (hl : w.heap.size ≤ w'.heap.size) (hF : ∀ b, F b → F' b)
    (hc : ∀ b, F b → b < w.heap.size → w'.heap[b]? = w.heap[b]?) : CopV F' w' C B st vto bm nm D where
  blk := by
    have he := hc C h.fc h.blk.lt
    exact ⟨by have := h.blk.lt; omega, fun j u hu => (World.cell?_of_block (w := w) (a := ⟨C, j, none⟩) he).trans (h.blk.cell j u hu), fun o => (World.frozen?_of_block (w := w) (a := ⟨C, o, none⟩) he).trans (h.blk.fr o)⟩
  row := h.row.to hl fun b hb => hc b (h.ft b hb) (h.row.block b hb).2
  mp := ownsMap_block h.mp (hc bm h.fm h.mp.lt)
  wt := h.wt
  nt := h.nt
  nm1 := h.nm1
  ne := h.ne
  fc := hF _ h.fc
  ft := fun b hb => hF _ (h.ft b hb)
  fm := hF _ h.fm
theorem CopR.to' {F F' : Nat → Prop} {w w' : World} {C B nm : Nat} {st : CS} (h : CopR F w C B st nm) (hl : w.heap.size ≤ w'.heap.size) (hF : ∀ b, F b → F' b)
    (hc : ∀ b, F b → b < w.heap.size → w'.heap[b]? = w.heap[b]?) : CopR F' w' C B st nm := by
  obtain ⟨vto, bm, D, h⟩ := h; exact ⟨vto, bm, D, h.to' hl hF hc⟩
theorem CopR.below {F : Nat → Prop} {w w' : World} {C B nm : Nat} {st : CS} (h : CopR F w C B st nm) (hB : Below w.heap.size w w') : CopR F w' C B st nm := h.to' hB.size (fun _ h => h) fun b _ hb => hB.block b hb
theorem CopR.mono {F F' : Nat → Prop} {w : World} {C B nm : Nat} {st : CS} (h : CopR F w C B st nm) (hF : ∀ b, F b → F' b) : CopR F' w C B st nm := h.to' (Nat.le_refl _) hF fun _ _ _ => rfl
theorem CopR.low {F : Nat → Prop} {w : World} {C B nm : Nat} {st : CS} (h : CopR F w C B st nm) : CopR (fun b => F b ∧ b < w.heap.size) w C B st nm := by
  obtain ⟨vto, bm, D, h⟩ := h
  exact ⟨vto, bm, D, ⟨h.blk, h.row, h.mp, h.wt, h.nt, h.nm1, h.ne, ⟨h.fc, h.blk.lt⟩, fun b hb => ⟨h.ft b hb, (h.row.block b hb).2⟩, ⟨h.fm, h.mp.lt⟩⟩⟩
section
variable {ops : Array Oper} {rest : List Oper} {o : Oper} {a : Act} {Q : Exit → Act → World → Prop} {w : World}
/-- 'append(x, y...)' on words that lie somewhere. -/
theorem wpList_growWs (s x : Operand) (hgd : o.guard = none) (ho : o.op = .call { callee := .builtin .append, args := #[s, x], argTypes := #[67, 67] })
    {R S : Nat → Prop} {v u : Value} {l m : List Wrd} (hs : a.eval s = v) (hx : a.eval x = u) (hown : OwnW w v l) (hl : RX wrdE R S w m u) (hn : l.length + m.length ≤ 137438953472)
    (h : ∀ v' w', OwnW w' v' (l ++ m) → w.grownBy w' v.ownBlock → (∀ b, v'.ownBlock = some b → v.ownBlock = some b ∨ w.heap.size ≤ b) → wpList Try.prog ops Q rest (a.put o.dst v') w') :
    wpList Try.prog ops Q (o :: rest) a w := by
  obtain ⟨i, hi, hz0, hz1, hz2⟩ := info_parts infoWord
  have hown0 := hown
  obtain ⟨cs, ho1, hC⟩ := hown
  obtain ⟨au, cap, ds, rfl, hcap, hD, hj⟩ := hl
  cases au with
  | none =>
    obtain rfl : cap = 0 := hcap.2 rfl
    have h0 : m = [] := List.eq_nil_of_length_eq_zero (by have := hcap.1; omega)
    subst h0
    refine wpList_append_own_none hgd s x 67 ho 0 69 i 2 Try.underlying67 hi v _ cs hs ho1 hx ?_
    exact h v w (by simpa using hown0) ⟨rfl, rfl, rfl, Nat.le_refl _, fun _ _ _ => rfl⟩ fun b hb => .inl hb
  | some ad =>
    refine wpList_append_own_at w hgd s x 67 ho 0 69 i _ 2 16 Try.underlying67 hi hz0 hz1 hz2 rfl (by decide) v _ cs hs ho1 ad m.length cap ds hx hD.length ?_ hD.oneCell ?_ ?_ (Nat.zero_le _) ?_
    · intro j u' hu
      obtain ⟨b, o', e, _, hc⟩ := hj j u' hu
      simp only [Option.some.injEq] at e
      subst e
      unfold Addr.add
      split
      · rename_i h0; subst h0; exact hc
      · exact hc
    · unfold maxLen; omega
    · omega
    · intro v' w' h1 h2 h3 h4
      refine h v' w' (owns_app (fun _ => True) (by simpa using h1) ((cellsW hC).append (cellsW hD))) h2 ?_
      intro b hb
      rcases h4 with h4 | h4
      · exact .inl (by rw [← h4]; exact hb)
      · rw [h4] at hb; simp only [Option.some.injEq] at hb; exact .inr (by omega)
end
end Go.Proofs.Ytedfepnekjjmnaa

/-
  What a collection makes of a heap: plain lists, no program. No condition.
-/
namespace Go.Proofs.Ytedfepnekjjmnaa
open Go.RowKit
set_option linter.unusedSimpArgs false
set_option linter.unusedVariables false

/-- A list without doubles below n is no longer than n. -/
theorem pigeon : ∀ (n : Nat) (l : List Nat), l.Nodup → (∀ x ∈ l, x < n) → l.length ≤ n
  | 0, l, _, h => by
    cases l with
    | nil => simp
    | cons x l => have := h x (by simp); omega
  | n + 1, l, hn, h => by
    by_cases hm : n ∈ l
    · have h1 := pigeon n (l.erase n) (hn.erase n) fun x hx => by
        have h2 := (hn.mem_erase_iff).1 hx
        have := h x h2.2
        have := h2.1
        omega
      rw [List.length_erase_of_mem hm] at h1
      omega
    · have := pigeon n l hn fun x hx => by
        have h1 := h x hx
        have h2 : x ≠ n := fun e => hm (e ▸ hx)
        omega
      omega

/-- A head at i with k parts. -/
def Hd (H : HS) (i k : Nat) : Prop := H.ws[i]? = some ⟨0, (k : Int)⟩ ∧ i + 1 + k ≤ H.ws.length
def kN (H : HS) (i : Nat) : Nat := ((H.ws[i]?).getD ⟨0, 0⟩).n.toNat
theorem Hd.kN {H : HS} {i k : Nat} (h : Hd H i k) : kN H i = k := by unfold Go.Proofs.Ytedfepnekjjmnaa.kN; rw [h.1]; simp
theorem Hd.lt {H : HS} {i k : Nat} (h : Hd H i k) : i < H.ws.length := by have := h.2; omega
theorem Hd.headN {H : HS} {i k : Nat} (h : Hd H i k) : headN H (i : Int) = some (k : Int) := by
  have hl := h.lt
  have h1 := h.1
  rw [List.getElem?_eq_getElem hl] at h1
  have h2 := Option.some.inj h1
  rw [headN_of hl (by rw [h2]), h2]
theorem Hd.parts {H : HS} {i k : Nat} (h : Hd H i k) : (partsL H i k).length = k := by
  unfold partsL; rw [List.length_take, List.length_drop]; have := h.2; omega
def blkL (H : HS) (i : Nat) : List Wrd := ⟨0, (kN H i : Int)⟩ :: partsL H i (kN H i)
def raw (H : HS) (ks : List Nat) : List Wrd := ks.flatMap (blkL H)
def posn (H : HS) : List Nat → Nat → Nat
  | [], _ => 0
  | j :: ks, i => if j = i then 0 else (blkL H j).length + posn H ks i
theorem raw_app (H : HS) (a b : List Nat) : raw H (a ++ b) = raw H a ++ raw H b := by simp [raw]
theorem posn_app (H : HS) {i : Nat} : ∀ (ks l : List Nat), i ∈ ks → posn H (ks ++ l) i = posn H ks i
  | j :: ks, l, h => by
    simp only [List.cons_append, posn]
    by_cases e : j = i
    · rw [if_pos e, if_pos e]
    · rw [if_neg e, if_neg e, posn_app H ks l (by
        rcases List.mem_cons.1 h with h | h
        · exact absurd h.symm e
        · exact h)]
theorem posn_new (H : HS) {i : Nat} : ∀ (ks : List Nat), i ∉ ks → posn H (ks ++ [i]) i = (raw H ks).length
  | [], _ => by simp [posn, raw]
  | j :: ks, h => by
    have e : j ≠ i := fun e => h (by simp [e])
    simp only [List.cons_append, posn, if_neg e]
    rw [posn_new H ks fun hm => h (List.mem_cons_of_mem _ hm)]
    simp [raw]
theorem raw_at (H : HS) {i : Nat} : ∀ (ks : List Nat), i ∈ ks → ∃ a b, raw H ks = a ++ (blkL H i ++ b) ∧ a.length = posn H ks i
  | j :: ks, h => by
    by_cases e : j = i
    · subst e; exact ⟨[], raw H ks, by simp [raw], by simp [posn]⟩
    · obtain ⟨a, b, h1, h2⟩ := raw_at H ks (by
        rcases List.mem_cons.1 h with h | h
        · exact absurd h.symm e
        · exact h)
      refine ⟨blkL H j ++ a, b, ?_, ?_⟩
      · rw [show raw H (j :: ks) = blkL H j ++ raw H ks by simp [raw], h1, List.append_assoc]
      · simp only [posn, if_neg e, List.length_append, h2]
/-- Where a word goes. -/
def fwd (H : HS) (ks : List Nat) (x : Wrd) : Wrd := if x.kind = 4 then ⟨4, (posn H ks x.n.toNat : Int)⟩ else x
def Kn (ks : List Nat) (x : Wrd) : Prop := x.kind = 4 → ∃ i ∈ ks, x.n = (i : Nat)
theorem Kn.app {ks : List Nat} {x : Wrd} (h : Kn ks x) (l : List Nat) : Kn (ks ++ l) x := fun e => by
  obtain ⟨i, h1, h2⟩ := h e; exact ⟨i, by simp [h1], h2⟩
theorem fwd_app {H : HS} {ks : List Nat} {x : Wrd} (h : Kn ks x) (l : List Nat) : fwd H (ks ++ l) x = fwd H ks x := by
  unfold fwd
  by_cases e : x.kind = 4
  · obtain ⟨i, h1, h2⟩ := h e
    rw [if_pos e, if_pos e, h2, Int.toNat_natCast, posn_app H ks l h1]
  · rw [if_neg e, if_neg e]
/-- A copier under way: ks what was copied, s how far the scan is. -/
structure ChInv (H : HS) (ks : List Nat) (s : Nat) (st : CS) : Prop where
  nd : ks.Nodup
  hd : ∀ i ∈ ks, Hd H i (kN H i)
  yes : ∀ i : Nat, i ∈ ks → wtF st.wt (i : Int) = some (posn H ks i : Int)
  no : ∀ n : Int, (∀ i : Nat, i ∈ ks → n ≠ (i : Int)) → wtF st.wt n = none
  tw : st.tw = ((raw H ks).take s).map (fwd H ks) ++ (raw H ks).drop s
  low : ∀ x ∈ (raw H ks).take s, Kn ks x
  sle : s ≤ (raw H ks).length
theorem ChInv.len {H : HS} {ks : List Nat} {s : Nat} {st : CS} (h : ChInv H ks s st) : st.tw.length = (raw H ks).length := by
  have := h.sle
  rw [h.tw]; simp; omega
theorem ChInv.nil (H : HS) : ChInv H [] 0 ⟨[], []⟩ := ⟨by simp, by simp, by simp, fun _ _ => rfl, by simp [raw], by simp, by simp⟩
/-- A new tuple. -/
theorem ChInv.put {H : HS} {ks : List Nat} {s : Nat} {st : CS} (h : ChInv H ks s st) {i k : Nat} (hi : Hd H i k) (hn : i ∉ ks) :
    ChInv H (ks ++ [i]) s ⟨st.tw ++ (⟨0, (k : Int)⟩ :: partsL H i k), ((i : Int), (st.tw.length : Int)) :: st.wt⟩ := by
  have hlen := h.len
  have hk := hi.kN
  have hr : raw H (ks ++ [i]) = raw H ks ++ (⟨0, (k : Int)⟩ :: partsL H i k) := by rw [raw_app]; simp [raw, blkL, hk]
  refine ⟨?_, ?_, ?_, ?_, ?_, ?_, ?_⟩
  · rw [List.nodup_append]
    exact ⟨h.nd, by simp, fun a ha b hb => by rw [List.mem_singleton.1 hb]; exact fun e => hn (e ▸ ha)⟩
  · intro j hj
    rcases List.mem_append.1 hj with hj | hj
    · exact h.hd j hj
    · rw [List.mem_singleton.1 hj, hk]; exact hi
  · intro j hj
    rcases List.mem_append.1 hj with hj | hj
    · rw [wtF_other _ _ (fun e => hn (by have : j = i := Int.ofNat.inj e; exact this ▸ hj)), h.yes j hj, posn_app H ks _ hj]
    · rw [List.mem_singleton.1 hj, wtF_same, posn_new H ks hn, hlen]
  · intro n hm
    rw [wtF_other _ _ (hm i (by simp))]
    exact h.no n fun j hj => hm j (by simp [hj])
  · have hmap : ((raw H ks).take s).map (fwd H ks) = ((raw H ks).take s).map (fwd H (ks ++ [i])) := List.map_congr_left fun x hx => (fwd_app (h.low x hx) _).symm
    rw [hr, List.take_append_of_le_length h.sle, List.drop_append_of_le_length h.sle, ← List.append_assoc, ← hmap, ← h.tw]
  · intro x hx
    rw [hr, List.take_append_of_le_length h.sle] at hx
    exact (h.low x hx).app _
  · rw [hr]; have := h.sle; simp; omega
/-- One word. -/
theorem ChInv.word {H : HS} {ks : List Nat} {s : Nat} {st : CS} {x : Wrd} (h : ChInv H ks s st) (hx : x.kind = 4 → ∃ i k : Nat, x.n = i ∧ Hd H i k) :
    ∃ l, ChInv H (ks ++ l) s (wordC H st x).2 ∧ (wordC H st x).1 = fwd H (ks ++ l) x ∧ Kn (ks ++ l) x ∧ ∀ i ∈ l, x = ⟨4, (i : Nat)⟩ := by
  by_cases e : x.kind = 4
  · obtain ⟨i, k, hxi, hi⟩ := hx e
    by_cases hm : i ∈ ks
    · refine ⟨[], ?_⟩
      have hp := h.yes i hm
      rw [← hxi] at hp
      rw [wordC_old e hp, List.append_nil]
      refine ⟨h, ?_, fun _ => ⟨i, hm, hxi⟩, by simp⟩
      unfold fwd; rw [if_pos e, hxi, Int.toNat_natCast]
    · refine ⟨[i], ?_⟩
      have hp : wtF st.wt x.n = none := h.no _ fun j hj e' => hm (by
        have : i = j := Int.ofNat.inj (hxi.symm.trans e')
        exact this ▸ hj)
      rw [wordC_new e hp hxi (by rw [hxi]; exact hi.headN)]
      have h2 := h.put hi hm
      rw [← hxi] at h2
      refine ⟨h2, ?_, fun _ => ⟨i, by simp, hxi⟩, fun j hj => ?_⟩
      · unfold fwd; rw [if_pos e, hxi, Int.toNat_natCast, posn_new H ks hm, h.len]
      · rw [List.mem_singleton.1 hj, ← hxi, ← e]
  · refine ⟨[], ?_⟩
    rw [wordC_no e, List.append_nil]
    exact ⟨h, by unfold fwd; rw [if_neg e], fun e' => absurd e' e, by simp⟩

/-- The roots. -/
def mapC (H : HS) : CS → List Wrd → List Wrd × CS
  | st, [] => ([], st)
  | st, x :: xs => ((wordC H st x).1 :: (mapC H (wordC H st x).2 xs).1, (mapC H (wordC H st x).2 xs).2)
def GoodW (H : HS) (x : Wrd) : Prop := x.kind = 4 → ∃ i k : Nat, x.n = i ∧ Hd H i k
theorem ChInv.map {H : HS} : ∀ (xs : List Wrd) {ks : List Nat} {s : Nat} {st : CS}, ChInv H ks s st → (∀ x ∈ xs, GoodW H x) →
    ∃ l, ChInv H (ks ++ l) s (mapC H st xs).2 ∧ (mapC H st xs).1 = xs.map (fwd H (ks ++ l)) ∧ (∀ x ∈ xs, Kn (ks ++ l) x) ∧ ∀ i ∈ l, (⟨4, (i : Nat)⟩ : Wrd) ∈ xs
  | [], ks, s, st, h, _ => ⟨[], by rw [List.append_nil]; exact h, rfl, by simp, by simp⟩
  | x :: xs, ks, s, st, h, hx => by
    obtain ⟨l, h1, h2, h3, h4⟩ := h.word (hx x (by simp))
    obtain ⟨m, g1, g2, g3, g4⟩ := ChInv.map xs h1 fun y hy => hx y (by simp [hy])
    rw [List.append_assoc] at g1 g2 g3
    refine ⟨l ++ m, g1, ?_, ?_, ?_⟩
    · show (wordC H st x).1 :: (mapC H (wordC H st x).2 xs).1 = _
      rw [g2, h2, List.map_cons, ← List.append_assoc, fwd_app h3 m]
    · intro y hy
      rcases List.mem_cons.1 hy with hy | hy
      · rw [hy, ← List.append_assoc]; exact h3.app m
      · exact g3 y hy
    · intro i hi
      rcases List.mem_append.1 hi with hi | hi
      · rw [← h4 i hi]; simp
      · exact List.mem_cons_of_mem _ (g4 i hi)
/-- A step of the scan. -/
def stepC (H : HS) (st : CS) (s : Nat) : CS := ⟨(wordC H st (st.tw.getD s ⟨0, 0⟩)).2.tw.set s (wordC H st (st.tw.getD s ⟨0, 0⟩)).1, (wordC H st (st.tw.getD s ⟨0, 0⟩)).2.wt⟩
theorem ChInv.at {H : HS} {ks : List Nat} {s : Nat} {st : CS} (h : ChInv H ks s st) (hs : s < (raw H ks).length) : st.tw.getD s ⟨0, 0⟩ = (raw H ks)[s] := by
  have h1 : (((raw H ks).take s).map (fwd H ks)).length = s := by simp; omega
  rw [h.tw, List.getD_eq_getElem?_getD, List.getElem?_append_right (by omega), h1, Nat.sub_self, List.getElem?_drop, Nat.add_zero, List.getElem?_eq_getElem hs]; rfl
theorem ChInv.step {H : HS} {ks : List Nat} {s : Nat} {st : CS} (h : ChInv H ks s st) (hs : s < (raw H ks).length) (hx : GoodW H ((raw H ks)[s])) :
    ∃ l, ChInv H (ks ++ l) (s + 1) (stepC H st s) ∧ ∀ i ∈ l, (raw H ks)[s] = ⟨4, (i : Nat)⟩ := by
  obtain ⟨l, h1, h2, h3, h4⟩ := h.word hx
  refine ⟨l, ?_, h4⟩
  have hs' : s < (raw H (ks ++ l)).length := by rw [raw_app]; simp; omega
  have he : (raw H (ks ++ l))[s] = (raw H ks)[s] := by simp only [raw_app]; rw [List.getElem_append_left hs]
  unfold stepC
  rw [h.at hs]
  refine ⟨h1.nd, h1.hd, h1.yes, h1.no, ?_, ?_, hs'⟩
  · show (wordC H st ((raw H ks)[s])).2.tw.set s _ = _
    have hl : (((raw H (ks ++ l)).take s).map (fwd H (ks ++ l))).length = s := by simp; omega
    rw [h1.tw, h2, List.set_append_right _ _ (by omega), hl, Nat.sub_self, List.drop_eq_getElem_cons hs', List.set_cons_zero, List.take_succ_eq_append_getElem hs', List.map_append, List.map_cons, List.map_nil, he, List.append_assoc]
    rfl
  · intro x hx
    rw [List.take_succ_eq_append_getElem hs'] at hx
    rcases List.mem_append.1 hx with hx | hx
    · exact h1.low x hx
    · rw [List.mem_singleton.1 hx, he]; exact h3
end Go.Proofs.Ytedfepnekjjmnaa

/-
  What a collection makes of a heap: its whole. No condition.
-/
namespace Go.Proofs.Ytedfepnekjjmnaa
open Go.RowKit
set_option linter.unusedSimpArgs false
set_option linter.unusedVariables false

/-- What the roots come to. -/
inductive Reach (H : HS) (rs : List Wrd) : Nat → Prop where
  | root (i : Nat) (h : (⟨4, (i : Nat)⟩ : Wrd) ∈ rs) : Reach H rs i
  | part (j i : Nat) (hj : Reach H rs j) (h : (⟨4, (i : Nat)⟩ : Wrd) ∈ partsL H j (kN H j)) : Reach H rs i
/-- A heap collected. -/
structure Col (H : HS) (rs : List Wrd) (ks : List Nat) (tw out : List Wrd) : Prop where
  nd : ks.Nodup
  hd : ∀ i ∈ ks, Hd H i (kN H i)
  tw : tw = (raw H ks).map (fwd H ks)
  kn : ∀ x ∈ raw H ks, Kn ks x
  out : out = rs.map (fwd H ks)
  rk : ∀ x ∈ rs, Kn ks x
  rc : ∀ i ∈ ks, Reach H rs i
theorem ChInv.col {H : HS} {ks : List Nat} {st : CS} {rs out : List Wrd} {s : Nat} (h : ChInv H ks s st) (hs : st.tw.length ≤ s) (ho : out = rs.map (fwd H ks)) (hk : ∀ x ∈ rs, Kn ks x) (hr : ∀ i ∈ ks, Reach H rs i) : Col H rs ks st.tw out := by
  have h1 := h.len
  have h2 := h.sle
  obtain rfl : s = (raw H ks).length := by omega
  refine ⟨h.nd, h.hd, ?_, fun x hx => h.low x (by rw [List.take_length]; exact hx), ho, hk, hr⟩
  have := h.tw
  rw [List.take_length, List.drop_length, List.append_nil] at this
  exact this
theorem mem_raw {H : HS} {ks : List Nat} {x : Wrd} {i : Nat} (hi : i ∈ ks) (hx : x ∈ partsL H i (kN H i)) : x ∈ raw H ks := by
  unfold raw; rw [List.mem_flatMap]; exact ⟨i, hi, by unfold blkL; simp [hx]⟩
theorem fwd_head (H : HS) (ks : List Nat) (n : Int) : fwd H ks ⟨0, n⟩ = ⟨0, n⟩ := by unfold fwd; rw [if_neg (show ¬((0 : Int) = 4) by decide)]
theorem fwd_kind (H : HS) (ks : List Nat) (x : Wrd) : (fwd H ks x).kind = x.kind := by
  unfold fwd; by_cases e : x.kind = 4
  · rw [if_pos e, e]
  · rw [if_neg e]
/-- The block of a tuple in the new heap. -/
theorem Col.block {H : HS} {rs tw out : List Wrd} {ks : List Nat} (h : Col H rs ks tw out) {i : Nat} (hi : i ∈ ks) (nm : List ByteArray) :
    Hd ⟨tw, nm⟩ (posn H ks i) (kN H i) ∧ partsL ⟨tw, nm⟩ (posn H ks i) (kN H i) = (partsL H i (kN H i)).map (fwd H ks) := by
  obtain ⟨a, b, h1, h2⟩ := raw_at H ks hi
  have h3 : tw = a.map (fwd H ks) ++ ((⟨0, (kN H i : Int)⟩ :: (partsL H i (kN H i)).map (fwd H ks)) ++ b.map (fwd H ks)) := by
    rw [h.tw, h1]; simp [blkL, fwd_head]
  have h4 := (h.hd i hi).parts
  have h5 : (a.map (fwd H ks)).length = posn H ks i := by simp [h2]
  have h6 : ((partsL H i (kN H i)).map (fwd H ks)).length = kN H i := by simp [h4]
  refine ⟨⟨?_, ?_⟩, ?_⟩
  · show tw[posn H ks i]? = _
    rw [h3, List.getElem?_append_right (by omega), h5, Nat.sub_self]; rfl
  · show posn H ks i + 1 + kN H i ≤ tw.length
    rw [h3]; simp only [List.length_append, List.length_cons, h5, h6]; omega
  · show (tw.drop (posn H ks i + 1)).take (kN H i) = _
    rw [h3, List.drop_append, h5, List.drop_eq_nil_of_le (by omega : (a.map (fwd H ks)).length ≤ posn H ks i + 1), List.nil_append, show posn H ks i + 1 - posn H ks i = 1 by omega, List.cons_append, List.drop_succ_cons, List.drop_zero, List.take_append_of_le_length (by omega), List.take_of_length_le (by omega)]
theorem Col.all {H : HS} {rs tw out : List Wrd} {ks : List Nat} (h : Col H rs ks tw out) {i : Nat} (hr : Reach H rs i) : i ∈ ks := by
  induction hr with
  | root i hm =>
    obtain ⟨j, h1, h2⟩ := h.rk _ hm rfl
    have : i = j := Int.ofNat.inj h2
    exact this ▸ h1
  | part j i hj hm ih =>
    obtain ⟨m, h1, h2⟩ := h.kn _ (mem_raw ih hm) rfl
    have : i = m := Int.ofNat.inj h2
    exact this ▸ h1
/-- What a word stands for, it stands for in the new heap. -/
theorem Col.rep {H : HS} {rs tw out : List Wrd} {ks : List Nat} (h : Col H rs ks tw out) : ∀ (t : T) (x : Wrd), Rep H t x → Kn ks x → Rep ⟨tw, H.names⟩ t (fwd H ks x) := by
  intro t
  induction t using T.ind with
  | h t ih =>
    intro x hr hk
    unfold Rep at hr ⊢
    by_cases e4 : t.kind = 4
    · rw [if_pos e4] at hr ⊢
      obtain ⟨hn, hs, i, rfl, hw, hl, hp⟩ := hr
      obtain ⟨j, hj, he⟩ := hk rfl
      obtain rfl : i = j := Int.ofNat.inj he
      have hki : kN H i = t.args.length := (show Hd H i t.args.length from ⟨hw, hl⟩).kN
      obtain ⟨hb, hq⟩ := h.block hj H.names
      rw [hki] at hb hq
      refine ⟨hn, hs, posn H ks i, ?_, hb.1, hb.2, ?_⟩
      · unfold fwd; rw [if_pos rfl, Int.toNat_natCast]
      · rw [hq]
        have hall : ∀ y ∈ partsL H i t.args.length, Kn ks y := fun y hy => h.kn y (mem_raw hj (by rw [hki]; exact hy))
        revert hp hall
        generalize partsL H i t.args.length = ys
        have key : ∀ (ts : List T) (ys : List Wrd), (∀ u ∈ ts, ∀ (x : Wrd), Rep H u x → Kn ks x → Rep ⟨tw, H.names⟩ u (fwd H ks x)) → RepL H ts ys → (∀ y ∈ ys, Kn ks y) → RepL ⟨tw, H.names⟩ ts (ys.map (fwd H ks)) := by
          intro ts
          induction ts with
          | nil => intro ys _ hy _; rw [RepL_nil] at hy ⊢; rw [hy]; rfl
          | cons u us ihu =>
            intro ys hu hy hk
            obtain ⟨y, r, rfl, h1, h2⟩ := (RepL_cons H u us ys).1 hy
            exact (RepL_cons _ u us _).2 ⟨fwd H ks y, r.map (fwd H ks), rfl, hu u (by simp) y h1 (hk y (by simp)), ihu r (fun v hv => hu v (by simp [hv])) h2 fun z hz => hk z (by simp [hz])⟩
        exact key t.args ys ih
    · rw [if_neg e4] at hr ⊢
      by_cases e2 : t.kind = 2
      · rw [if_pos e2] at hr ⊢
        obtain ⟨h1, h2, i, rfl, h3⟩ := hr
        exact ⟨h1, h2, i, by unfold fwd; rw [if_neg (show ¬((2 : Int) = 4) by decide)], h3⟩
      · rw [if_neg e2] at hr ⊢
        obtain ⟨h1, h2, h3, rfl⟩ := hr
        exact ⟨h1, h2, h3, by unfold fwd; rw [if_neg e4]⟩
end Go.Proofs.Ytedfepnekjjmnaa

/-
  A heap collected twice: as many words. No condition.
-/
namespace Go.Proofs.Ytedfepnekjjmnaa
open Go.RowKit
set_option linter.unusedSimpArgs false
set_option linter.unusedVariables false

/-- A heap in order: heads within, no head among parts, every tuple word at a head. -/
structure WF (H : HS) : Prop where
  heads : HeadsOk H
  apart : ∀ i k, Hd H i k → ∀ x ∈ partsL H i k, x.kind ≠ 0
  good : ∀ x ∈ H.ws, GoodW H x
theorem WF.parts {H : HS} (h : WF H) {i k : Nat} {x : Wrd} (hx : x ∈ partsL H i k) : GoodW H x := h.good x (List.mem_of_mem_drop (List.mem_of_mem_take hx))
theorem WF.new (nm : List ByteArray) : WF ⟨[], nm⟩ := ⟨fun i h => by simp at h, fun i k h => by have := h.lt; simp at this, by simp⟩
theorem WF.names {H : HS} (h : WF H) (nm : List ByteArray) : WF ⟨H.ws, nm⟩ := ⟨h.heads, h.apart, h.good⟩
theorem WF.hd {H : HS} (h : WF H) {i : Nat} (hi : i < H.ws.length) (hk : H.ws[i].kind = 0) : Hd H i (kN H i) := by
  have h1 := h.heads i hi hk
  have h2 : kN H i = H.ws[i].n.toNat := by unfold kN; rw [List.getElem?_eq_getElem hi]; rfl
  have h3 : (kN H i : Int) = H.ws[i].n := by rw [h2]; exact Int.toNat_of_nonneg h1.1
  refine ⟨?_, by omega⟩
  rw [List.getElem?_eq_getElem hi, h3]
  congr 1
  rw [← hk]
/-- A head in what was copied. -/
theorem raw_head {H : HS} : ∀ (ks : List Nat), (∀ i ∈ ks, Hd H i (kN H i)) → ks.Nodup → (∀ i ∈ ks, ∀ x ∈ partsL H i (kN H i), x.kind ≠ 0) → ∀ (p : Nat) (y : Wrd), (raw H ks)[p]? = some y → y.kind = 0 → ∃ i ∈ ks, p = posn H ks i ∧ y = ⟨0, (kN H i : Int)⟩
  | [], _, _, _, p, y, h, _ => by simp [raw] at h
  | j :: ks, hd, nd, hp, p, y, h, hy => by
    have hl : (blkL H j).length = 1 + kN H j := by unfold blkL; rw [List.length_cons, (hd j (by simp)).parts]; omega
    rw [show raw H (j :: ks) = blkL H j ++ raw H ks by simp [raw]] at h
    by_cases h1 : p < (blkL H j).length
    · rw [List.getElem?_append_left h1] at h
      cases p with
      | zero =>
        refine ⟨j, by simp, by simp [posn], ?_⟩
        have : (blkL H j)[0]? = some ⟨0, (kN H j : Int)⟩ := rfl
        rw [this] at h; exact (Option.some.inj h).symm
      | succ p =>
        have h2 : (partsL H j (kN H j))[p]? = some y := h
        exact absurd hy (hp j (by simp) y (List.mem_of_getElem? h2))
    · rw [List.getElem?_append_right (by omega)] at h
      have nd' := List.nodup_cons.1 nd
      obtain ⟨i, h2, h3, h4⟩ := raw_head ks (fun i hi => hd i (by simp [hi])) nd'.2 (fun i hi => hp i (by simp [hi])) _ y h hy
      have e : j ≠ i := fun e => nd'.1 (e ▸ h2)
      exact ⟨i, by simp [h2], by simp only [posn, if_neg e]; omega, h4⟩
theorem Col.head {H : HS} {rs tw out : List Wrd} {ks : List Nat} (h : Col H rs ks tw out) (hW : WF H) {nm : List ByteArray} {p : Nat} {y : Wrd} (hp : tw[p]? = some y) (hy : y.kind = 0) : ∃ i ∈ ks, p = posn H ks i ∧ y = ⟨0, (kN H i : Int)⟩ := by
  rw [h.tw, List.getElem?_map] at hp
  obtain ⟨z, hz, rfl⟩ := Option.map_eq_some_iff.1 hp
  rw [fwd_kind] at hy
  obtain ⟨i, h1, h2, rfl⟩ := raw_head ks h.hd h.nd (fun i hi => hW.apart i _ (h.hd i hi)) p z hz hy
  exact ⟨i, h1, h2, fwd_head _ _ _⟩
theorem Col.good {H : HS} {rs tw out : List Wrd} {ks : List Nat} (h : Col H rs ks tw out) (nm : List ByteArray) {x : Wrd} (hx : Kn ks x) : GoodW ⟨tw, nm⟩ (fwd H ks x) := fun e => by
  rw [fwd_kind] at e
  obtain ⟨i, hi, hn⟩ := hx e
  exact ⟨posn H ks i, kN H i, by unfold fwd; rw [if_pos e, hn, Int.toNat_natCast], (h.block hi nm).1⟩
/-- The new heap is in order. -/
theorem Col.wf {H : HS} {rs tw out : List Wrd} {ks : List Nat} (h : Col H rs ks tw out) (hW : WF H) (nm : List ByteArray) : WF ⟨tw, nm⟩ := by
  refine ⟨fun p hp hk => ?_, fun p k hpk x hx => ?_, fun x hx => ?_⟩
  · obtain ⟨i, h1, h2, h3⟩ := h.head (nm := nm) hW (List.getElem?_eq_getElem hp) hk
    have hb := (h.block h1 nm).1
    have h4 : (HS.mk tw nm).ws[p].n = (kN H i : Int) := by show tw[p].n = _; rw [h3]
    have h5 := hb.2
    rw [h4]
    exact ⟨by omega, by rw [h2]; exact_mod_cast h5⟩
  · obtain ⟨i, h1, h2, h3⟩ := h.head (nm := nm) hW hpk.1 rfl
    obtain rfl : k = kN H i := by have := congrArg Wrd.n h3; exact Int.ofNat.inj this
    rw [h2, (h.block h1 nm).2] at hx
    obtain ⟨y, hy, rfl⟩ := List.mem_map.1 hx
    rw [fwd_kind]
    exact hW.apart i _ (h.hd i h1) y hy
  · have hx' : x ∈ tw := hx
    rw [h.tw] at hx'
    obtain ⟨y, hy, rfl⟩ := List.mem_map.1 hx'
    exact h.good nm (h.kn y hy)
theorem Col.outs {H : HS} {rs tw out : List Wrd} {ks : List Nat} (h : Col H rs ks tw out) (nm : List ByteArray) : ∀ x ∈ out, GoodW ⟨tw, nm⟩ x := fun x hx => by
  rw [h.out] at hx
  obtain ⟨y, hy, rfl⟩ := List.mem_map.1 hx
  exact h.good nm (h.rk y hy)
/-- Sums over lists without doubles. -/
theorem sum_le (f : Nat → Nat) : ∀ (l m : List Nat), l.Nodup → (∀ x ∈ l, x ∈ m) → (l.map f).sum ≤ (m.map f).sum
  | [], m, _, _ => by simp
  | x :: l, m, hn, hs => by
    have hn' := List.nodup_cons.1 hn
    have hx := hs x (by simp)
    have h1 := sum_le f l (m.erase x) hn'.2 fun y hy => by
      have e : y ≠ x := fun e => hn'.1 (e ▸ hy)
      exact (List.mem_erase_of_ne e).2 (hs y (by simp [hy]))
    have h2 : ((m.erase x).map f).sum + f x = (m.map f).sum := by
      have h3 := ((List.perm_cons_erase hx).map f).sum_nat
      rw [h3]; simp; omega
    simp only [List.map_cons, List.sum_cons]; omega
theorem raw_len {H : HS} : ∀ (ks : List Nat), (∀ i ∈ ks, Hd H i (kN H i)) → (raw H ks).length = (ks.map fun i => 1 + kN H i).sum
  | [], _ => rfl
  | j :: ks, hd => by
    have hl : (blkL H j).length = 1 + kN H j := by unfold blkL; rw [List.length_cons, (hd j (by simp)).parts]; omega
    rw [show raw H (j :: ks) = blkL H j ++ raw H ks by simp [raw], List.length_append, hl, raw_len ks fun i hi => hd i (by simp [hi])]; simp
theorem posn_inj {H : HS} {i j : Nat} : ∀ (ks : List Nat), i ∈ ks → j ∈ ks → posn H ks i = posn H ks j → i = j
  | m :: ks, hi, hj, h => by
    have hb : 0 < (blkL H m).length := by simp [blkL]
    simp only [posn] at h
    by_cases e1 : m = i
    · by_cases e2 : m = j
      · exact e1.symm.trans e2
      · rw [if_pos e1, if_neg e2] at h; omega
    · by_cases e2 : m = j
      · rw [if_neg e1, if_pos e2] at h; omega
      · rw [if_neg e1, if_neg e2] at h
        refine posn_inj (H := H) ks ?_ ?_ (by omega)
        · rcases List.mem_cons.1 hi with hi | hi
          · exact absurd hi.symm e1
          · exact hi
        · rcases List.mem_cons.1 hj with hj | hj
          · exact absurd hj.symm e2
          · exact hj
/-- Collected again: as many words. -/
theorem Col.again {H : HS} {rs tw out tw' out' : List Wrd} {ks ks' : List Nat} {nm : List ByteArray} (h : Col H rs ks tw out) (hW : WF H) (h' : Col ⟨tw, nm⟩ out ks' tw' out') : tw'.length = tw.length := by
  have hin : ∀ i, Reach H rs i → posn H ks i ∈ ks' := fun i hr => by
    induction hr with
    | root i hm =>
      have h1 : fwd H ks ⟨4, (i : Nat)⟩ ∈ out := by rw [h.out]; exact List.mem_map_of_mem hm
      have h2 := h'.rk _ h1 (by rw [fwd_kind])
      obtain ⟨j, h3, h4⟩ := h2
      have h5 : (fwd H ks ⟨4, (i : Nat)⟩).n = (posn H ks i : Int) := by unfold fwd; rw [if_pos rfl, Int.toNat_natCast]
      rw [h5] at h4
      have : posn H ks i = j := Int.ofNat.inj h4
      rw [this]; exact h3
    | part j i hj hm ih =>
      have hjk := h.all hj
      obtain ⟨hb, hq⟩ := h.block hjk nm
      have h1 : fwd H ks ⟨4, (i : Nat)⟩ ∈ partsL ⟨tw, nm⟩ (posn H ks j) (kN ⟨tw, nm⟩ (posn H ks j)) := by rw [hb.kN, hq]; exact List.mem_map_of_mem hm
      have h2 := h'.kn _ (mem_raw ih h1) (by rw [fwd_kind])
      obtain ⟨m, h3, h4⟩ := h2
      have h5 : (fwd H ks ⟨4, (i : Nat)⟩).n = (posn H ks i : Int) := by unfold fwd; rw [if_pos rfl, Int.toNat_natCast]
      rw [h5] at h4
      have : posn H ks i = m := Int.ofNat.inj h4
      rw [this]; exact h3
  have hl : tw.length = (ks.map fun i => 1 + kN H i).sum := by rw [h.tw, List.length_map, raw_len ks h.hd]
  have hl' : tw'.length = (ks'.map fun i => 1 + kN ⟨tw, nm⟩ i).sum := by rw [h'.tw, List.length_map, raw_len ks' h'.hd]
  have hm : (ks.map fun i => 1 + kN H i) = (ks.map (posn H ks)).map fun i => 1 + kN ⟨tw, nm⟩ i := by
    rw [List.map_map]
    exact List.map_congr_left fun i hi => by show 1 + kN H i = 1 + kN ⟨tw, nm⟩ (posn H ks i); rw [(h.block hi nm).1.kN]
  have hnd : (ks.map (posn H ks)).Nodup := by
    have : ∀ (l : List Nat), l.Nodup → (∀ i ∈ l, i ∈ ks) → (l.map (posn H ks)).Nodup := by
      intro l
      induction l with
      | nil => intro _ _; simp
      | cons a l ih =>
        intro hn hs
        have hn' := List.nodup_cons.1 hn
        rw [List.map_cons, List.nodup_cons]
        refine ⟨fun hm => ?_, ih hn'.2 fun i hi => hs i (by simp [hi])⟩
        obtain ⟨b, hb, he⟩ := List.mem_map.1 hm
        exact hn'.1 (posn_inj ks (hs b (by simp [hb])) (hs a (by simp)) he ▸ hb)
    exact this ks h.nd fun _ hi => hi
  have h1 := sum_le (fun i => 1 + kN ⟨tw, nm⟩ i) (ks.map (posn H ks)) ks' hnd fun p hp => by
    obtain ⟨i, hi, rfl⟩ := List.mem_map.1 hp
    exact hin i (h.rc i hi)
  have h2 := sum_le (fun i => 1 + kN ⟨tw, nm⟩ i) ks' (ks.map (posn H ks)) h'.nd fun p hp => by
    obtain ⟨i, hi, h3, -⟩ := h.head (nm := nm) hW (h'.hd p hp).1 rfl
    rw [h3]; exact List.mem_map_of_mem hi
  rw [hl, hm, hl']; omega
/-- Without roots nothing is left. -/
theorem Reach.none {H : HS} {i : Nat} (h : Reach H [] i) : False := by
  induction h with
  | root i hm => simp at hm
  | part j i _ _ ih => exact ih
theorem Col.none {H : HS} {tw out : List Wrd} {ks : List Nat} (h : Col H [] ks tw out) : tw = [] ∧ out = [] := by
  have hk : ks = [] := by
    cases ks with
    | nil => rfl
    | cons i l => exact (h.rc i (by simp)).none.elim
  subst hk
  exact ⟨by rw [h.tw]; simp [raw], by rw [h.out]; rfl⟩
end Go.Proofs.Ytedfepnekjjmnaa

/-
  heap.Put: what it answers, and makes of a heap. No condition but a bound.
-/
namespace Go.Proofs.Ytedfepnekjjmnaa
open Go.RowKit
set_option linter.unusedSimpArgs false
set_option linter.unusedVariables false
set_option maxRecDepth 100000

/-- What Put answers: a word, an error, and the heap then. -/
def putHO (room : Int) (H : HS) (t : T) : Wrd × Int × HS :=
  if checkE t ≠ 0 then (⟨0, 0⟩, checkE t, H) else if closedL [t] = false then (⟨0, 0⟩, 5, H) else if room < H.ws.length + szL [t] then (⟨0, 0⟩, 6, H) else ((putW H t).1, 0, (putW H t).2)
theorem putHO_check {room : Int} {H : HS} {t : T} (h : checkE t ≠ 0) : putHO room H t = (⟨0, 0⟩, checkE t, H) := by unfold putHO; rw [if_pos h]
theorem putHO_form {room : Int} {H : HS} {t : T} (h : checkE t = 0) (h1 : closedL [t] = false) : putHO room H t = (⟨0, 0⟩, 5, H) := by unfold putHO; rw [if_neg (by simp [h]), if_pos h1]
theorem putHO_full {room : Int} {H : HS} {t : T} (h : checkE t = 0) (h1 : closedL [t] = true) (h2 : room < H.ws.length + szL [t]) : putHO room H t = (⟨0, 0⟩, 6, H) := by unfold putHO; rw [if_neg (by simp [h]), if_neg (by simp [h1]), if_pos h2]
theorem putHO_ok {room : Int} {H : HS} {t : T} (h : checkE t = 0) (h1 : closedL [t] = true) (h2 : ¬ room < H.ws.length + szL [t]) : putHO room H t = ((putW H t).1, 0, (putW H t).2) := by unfold putHO; rw [if_neg (by simp [h]), if_neg (by simp [h1]), if_neg h2]
def HPutP (F : Nat → Prop) (w : World) (B : Nat) (room : Int) (H : HS) (t : T) (e : Ending) (w' : World) : Prop :=
  e = .returned (.tuple #[.agg #[.int .i64 (putHO room H t).1.kind, .int .i64 (putHO room H t).1.n], .int .i64 (putHO room H t).2.1]) ∧ Keep F w w' ∧ HeapR (fun b => F b ∨ w.heap.size ≤ b) w' B room (putHO room H t).2.2
theorem put_end {F F0 : Nat → Prop} {w W0 W1 W' : World} {B g : Nat} {room : Int} {H' : HS} (hB0 : Below w.heap.size w W0) (hz0 : w.heap.size ≤ W0.heap.size) (hF : ∀ b, F0 b → F b ∧ b < w.heap.size) (h : PutM F0 W0 B room H' W1) (hB : Below 0 W1 W')
    (hg : w.heap.size ≤ g) (hgW : g < W0.heap.size) (ho : ∀ b, b ≠ g → W'.heap[b]? = W1.heap[b]?) : Keep F w W' ∧ HeapR (fun b => F b ∨ w.heap.size ≤ b) W' B room H' := by
  have hz := hB.size
  have hz1 := h.2.size
  refine ⟨⟨hB.os.trans (h.2.os.trans hB0.os), hB.tape.trans (h.2.tape.trans hB0.tape), hB.output.trans (h.2.output.trans hB0.output), by omega, fun k hk hn => ?_⟩, h.1.to hz (fun b hb => ?_) fun b hb hl => ho b ?_⟩
  · exact (ho k (by omega)).trans ((h.2.block k (by omega) fun e => hn (hF k e).1).trans (hB0.block k hk))
  · rcases hb with hb | hb
    · exact .inl (hF b hb).1
    · exact .inr (by omega)
  · rcases hb with hb | hb
    · have := (hF b hb).2; omega
    · omega

set_option maxHeartbeats 8000000 in
theorem hPut_c (t : T) (F S : Nat → Prop) (w : World) (B : Nat) (room : Int) (H : HS) (v : Value) (hR : HeapR F w B room H) (hv : RT S w t v) (hS : ∀ b, S b → b < w.heap.size ∧ ¬ F b) (hb : bulkL [t] ≤ 4294967296) (hl : H.ws.length ≤ 4294967296) (hn : H.names.length ≤ 4294967296) :
    Calls Try.prog 41 #[.pointer (some ⟨B, 0, none⟩), v] w (HPutP F w B room H t) := by
  obtain ⟨a, cap, rfl, hcap, hr⟩ := hv
  have hsz := szL_le _ [t] (Nat.le_refl _)
  obtain ⟨W0, hW0⟩ : ∃ W : World, W = (w.alloc (.cells #[.int .i64 t.kind, .int .i64 t.n, .string t.name, .slice a t.args.length cap] 29)).alloc (.cells #[.int .i64 0, .int .i64 0] 69) := ⟨_, rfl⟩
  have HX3 : Hid (Blk W0 w.heap.size [.int .i64 t.kind, .int .i64 t.n, .string t.name, .slice a t.args.length cap]) := Lib.hid (by rw [hW0]; exact (Blk.new _ _ _ _ rfl).alloc _)
  have HX4 : Hid (Blk W0 (w.heap.size + 1) [.int .i64 0, .int .i64 0]) := Lib.hid (by rw [hW0]; exact Blk.new _ _ _ _ (by simp))
  have HB0 : Hid (Below w.heap.size w W0) := Lib.hid (by rw [hW0]; exact (below_alloc _ _).trans ((below_alloc _ _).mono (by simp)))
  have hs0 : W0.heap.size = w.heap.size + 2 := by rw [hW0]; simp
  have hs0a : w.heap.size + 2 ≤ W0.heap.size := by omega
  have hs0a' : w.heap.size ≤ W0.heap.size := by omega
  obtain ⟨F0, hF0⟩ : ∃ F0 : Nat → Prop, F0 = fun b => F b ∧ b < w.heap.size := ⟨_, rfl⟩
  have HR0 : Hid (HeapR F0 W0 B room H) := Lib.hid (by rw [hF0]; exact hR.low.below HB0.out)
  have HF1 : Hid (∀ b, F0 b → F b ∧ b < w.heap.size) := Lib.hid (fun b hb => by rw [hF0] at hb; exact hb)
  have HT0 : Hid (RT S W0 t (.agg #[.int .i64 t.kind, .int .i64 t.n, .string t.name, .slice a t.args.length cap])) := Lib.hid (RT.below ⟨a, cap, rfl, hcap, hr⟩ HB0.out)
  have HS0 : Hid (∀ b, S b → b < w.heap.size ∧ ¬ F0 b) := Lib.hid (fun b hb => ⟨(hS b hb).1, fun h => (hS b hb).2 (HF1.out b h).1⟩)
  have HW0 := Lib.hid hW0
  clear hS hr hcap hR hW0 hF0 hs0
  go_enter Try.func41, Try.ntmps41
  go_upto_region 1 with fail
  rw [← HW0.out]
  have y0 := HX3.out.cell 0 _ rfl
  have y1 := HX3.out.cell 1 _ rfl
  have y2 := HX3.out.cell 2 _ rfl
  have y3 := HX3.out.cell 3 _ rfl
  go_wp2_with fail
  refine (check_c t S _ _ HT0.out (by omega)).mono ?_
  rintro e w1 ⟨rfl, hB⟩
  have hs1 := hB.size
  have HB1 := Lib.hid hB
  have HT1 := Lib.hid (HT0.out.below hB)
  have HR1 := Lib.hid (HR0.out.below hB)
  have HX31 := Lib.hid (HX3.out.step hB)
  have HX41 := Lib.hid (HX4.out.step hB)
  clear hB y0 y1 y2 y3
  by_cases hck : checkE t = 0
  · have hckb : (checkE t != 0) = false := by simp [hck]
    have HCK := Lib.hid hck
    clear hck
    have y0 := HX31.out.cell 0 _ rfl
    have y1 := HX31.out.cell 1 _ rfl
    have y2 := HX31.out.cell 2 _ rfl
    have y3 := HX31.out.cell 3 _ rfl
    go_wp2_with fail
    refine (closed_c t S _ _ HT1.out (by omega)).mono ?_
    rintro e w2 ⟨he, hB⟩
    have hs2 := hB.size
    have HB2 : Hid (Below W0.heap.size W0 w2) := Lib.hid (below_step HB1.out (by omega) hB)
    have HT2 := Lib.hid (HT1.out.below hB)
    have HR2 := Lib.hid (HR1.out.below hB)
    have HX32 := Lib.hid (HX31.out.step hB)
    have HX42 := Lib.hid (HX41.out.step hB)
    clear hB y0 y1 y2 y3
    cases hc : closedL [t]
    · rw [hc] at he
      subst he
      have HA := Lib.hid (putHO_form (room := room) (H := H) HCK.out hc)
      clear hc
      go_wp2_with (refine store_blk 69 2 szWord _ _ rfl rfl rfl rfl rfl HX42.out rfl rfl rfl ?_; intro W' hF hs' hBW hoth; have HF := Lib.hid hF; have HSZ := Lib.hid hs'; have HBW := Lib.hid hBW; have HOTH := Lib.hid hoth; clear hF hBW hoth hs')
      refine bodyPost_ret (results_blk Try.results41 szWord _ Try.underlying69 rfl rfl HF.out rfl) rfl ⟨?_, ?_⟩
      · rw [HA.out]; try rfl
      · rw [HA.out]
        exact put_end HB0.out hs0a' HF1.out ⟨HR2.out.mono (fun b hb => .inl hb), Keep.of HB2.out⟩ (HBW.out 0 _ (by omega) (Below.refl _ _)) (by omega) (by omega) HOTH.out
    · rw [hc] at he
      subst he
      have HC := Lib.hid hc
      clear hc
      obtain ⟨vw, vn, hV⟩ := HR2.out
      obtain ⟨aw, cw, rfl⟩ := hV.ws.form
      have HV := Lib.hid hV
      have HQ : Hid (∀ w' : World, Below w2.heap.size w2 w' → w'.cell? ⟨B, 0, none⟩ = some (.int .i64 room) ∧ w'.cell? ⟨B, 1, none⟩ = some (.slice aw H.ws.length cw) ∧ w'.cell? ⟨w.heap.size, 0, none⟩ = some (.int .i64 t.kind) ∧ w'.cell? ⟨w.heap.size, 1, none⟩ = some (.int .i64 t.n) ∧ w'.cell? ⟨w.heap.size, 2, none⟩ = some (.string t.name) ∧ w'.cell? ⟨w.heap.size, 3, none⟩ = some (.slice a t.args.length cap)) := Lib.hid fun w' h => ⟨(HV.out.blk.step h).cell 0 _ rfl, (HV.out.blk.step h).cell 1 _ rfl, (HX32.out.step h).cell 0 _ rfl, (HX32.out.step h).cell 1 _ rfl, (HX32.out.step h).cell 2 _ rfl, (HX32.out.step h).cell 3 _ rfl⟩
      have u1 : IntKind.i64.wrap ((H.ws.length : Int) + szL [t]) = (H.ws.length : Int) + szL [t] := by rw [IntKind.wrap_i64]; omega
      clear hV
      by_cases hfull : room < H.ws.length + szL [t]
      · have HA := Lib.hid (putHO_full HCK.out HC.out hfull)
        have hfd : decide (room < (H.ws.length : Int) + szL [t]) = true := by simpa using hfull
        go_upto_region 6 with fail
        refine rg_start (fun w' => w'.cell? ⟨B, 0, none⟩ = some (.int .i64 room) ∧ w'.cell? ⟨B, 1, none⟩ = some (.slice aw H.ws.length cw) ∧ w'.cell? ⟨w.heap.size, 0, none⟩ = some (.int .i64 t.kind) ∧ w'.cell? ⟨w.heap.size, 1, none⟩ = some (.int .i64 t.n) ∧ w'.cell? ⟨w.heap.size, 2, none⟩ = some (.string t.name) ∧ w'.cell? ⟨w.heap.size, 3, none⟩ = some (.slice a t.args.length cap)) (by as_aux_lemma => kernel_rfl) (fun Wd h => HQ.out _ h) ?_
        intro Wd hB hWd hWd' hHeld
        have HCWd := Lib.hid hB
        clear hB
        refine rg_take (i := 0) (v := ?_) rfl (by as_aux_lemma => kernel_rfl) (by as_aux_lemma => kernel_rfl) (by as_aux_lemma => kernel_rfl) (by rfl) ?_ hHeld ?_
        rotate_left 1
        · intro w hSw; (try dsimp only at hSw); go_simp; try (with_reducible rfl)
        (try simp only [Act.put, List.setIfInBounds_toArray, List.set_cons_zero, List.set_cons_succ])
        refine rg_take (i := 1) (v := ?_) rfl (by as_aux_lemma => kernel_rfl) (by as_aux_lemma => kernel_rfl) (by as_aux_lemma => kernel_rfl) (by rfl) ?_ hHeld ?_
        rotate_left 1
        · intro w hSw; (try dsimp only at hSw); go_simp; try (with_reducible rfl)
        (try simp only [Act.put, List.setIfInBounds_toArray, List.set_cons_zero, List.set_cons_succ])
        refine rg_take (i := 2) (v := ?_) rfl (by as_aux_lemma => kernel_rfl) (by as_aux_lemma => kernel_rfl) (by as_aux_lemma => kernel_rfl) (by rfl) ?_ hHeld ?_
        rotate_left 1
        · intro w hSw; (try dsimp only at hSw); go_simp; try (with_reducible rfl)
        (try simp only [Act.put, List.setIfInBounds_toArray, List.set_cons_zero, List.set_cons_succ])
        refine rg_take (i := 3) (v := ?_) rfl (by as_aux_lemma => kernel_rfl) (by as_aux_lemma => kernel_rfl) (by as_aux_lemma => kernel_rfl) (by rfl) ?_ hHeld ?_
        rotate_left 1
        · intro w hSw; (try dsimp only at hSw); go_simp; try (with_reducible rfl)
        (try simp only [Act.put, List.setIfInBounds_toArray, List.set_cons_zero, List.set_cons_succ])
        refine rg_take (i := 4) (v := ?_) rfl (by as_aux_lemma => kernel_rfl) (by as_aux_lemma => kernel_rfl) (by as_aux_lemma => kernel_rfl) (by rfl) ?_ hHeld ?_
        rotate_left 1
        · intro w hSw; (try dsimp only at hSw); go_simp; try (with_reducible rfl)
        (try simp only [Act.put, List.setIfInBounds_toArray, List.set_cons_zero, List.set_cons_succ])
        refine rg_take (i := 5) (v := ?_) rfl (by as_aux_lemma => kernel_rfl) (by as_aux_lemma => kernel_rfl) (by as_aux_lemma => kernel_rfl) (by rfl) ?_ hHeld ?_
        rotate_left 1
        · intro w hSw; (try dsimp only at hSw); go_simp; try (with_reducible rfl)
        (try simp only [Act.put, List.setIfInBounds_toArray, List.set_cons_zero, List.set_cons_succ])
        refine rg_take (i := 8) (v := ?_) rfl (by as_aux_lemma => kernel_rfl) (by as_aux_lemma => kernel_rfl) (by as_aux_lemma => kernel_rfl) (by rfl) ?_ hHeld ?_
        rotate_left 1
        · intro w hSw; (try dsimp only at hSw); go_simp; try (with_reducible rfl)
        (try simp only [Act.put, List.setIfInBounds_toArray, List.set_cons_zero, List.set_cons_succ])
        refine rg_take (i := 9) (v := ?_) rfl (by as_aux_lemma => kernel_rfl) (by as_aux_lemma => kernel_rfl) (by as_aux_lemma => kernel_rfl) (by rfl) ?_ hHeld ?_
        rotate_left 1
        · intro w hSw; (try dsimp only at hSw); go_simp; try (with_reducible rfl)
        (try simp only [Act.put, List.setIfInBounds_toArray, List.set_cons_zero, List.set_cons_succ])
        refine rg_take (i := 10) (v := ?_) rfl (by as_aux_lemma => kernel_rfl) (by as_aux_lemma => kernel_rfl) (by as_aux_lemma => kernel_rfl) (by rfl) ?_ hHeld ?_
        rotate_left 1
        · intro w hSw; (try dsimp only at hSw); go_simp; try (with_reducible rfl)
        (try simp only [Act.put, List.setIfInBounds_toArray, List.set_cons_zero, List.set_cons_succ])
        refine rg_take (i := 11) (v := ?_) rfl (by as_aux_lemma => kernel_rfl) (by as_aux_lemma => kernel_rfl) (by as_aux_lemma => kernel_rfl) (by rfl) ?_ hHeld ?_
        rotate_left 1
        · intro w hSw; (try dsimp only at hSw); go_simp; try (with_reducible rfl)
        (try simp only [Act.put, List.setIfInBounds_toArray, List.set_cons_zero, List.set_cons_succ])
        refine rg_only (i := 6) rfl (by as_aux_lemma => kernel_rfl) (by rfl) (fun K hK => ?_)
        go_simp
        go_at_call 84
        refine (size_c t S _ _ (HT2.out.below HCWd.out) (by omega)).mono ?_
        rintro e w3 ⟨rfl, hB⟩
        have hs3 := hB.size
        have HC3 : Hid (Below w2.heap.size w2 w3) := Lib.hid (below_step HCWd.out (by omega) hB)
        clear hB
        refine hK.out _ _ (HQ.out _ HC3.out) (fun hHeld1 => ?_)
        clear hK K hHeld
        have hHeld := hHeld1
        clear hHeld1
        (try simp only [Act.put, List.setIfInBounds_toArray, List.set_cons_zero, List.set_cons_succ])
        refine rg_take (i := 7) (v := ?_) rfl (by as_aux_lemma => kernel_rfl) (by as_aux_lemma => kernel_rfl) (by as_aux_lemma => kernel_rfl) (by rfl) ?_ hHeld ?_
        rotate_left 1
        · intro w hSw; (try dsimp only at hSw); go_simp; try (with_reducible rfl)
        (try simp only [Act.put, List.setIfInBounds_toArray, List.set_cons_zero, List.set_cons_succ])
        refine rg_take (i := 12) (v := ?_) rfl (by as_aux_lemma => kernel_rfl) (by as_aux_lemma => kernel_rfl) (by as_aux_lemma => kernel_rfl) (by rfl) ?_ hHeld ?_
        rotate_left 1
        · intro w hSw; (try dsimp only at hSw); go_simp; try (with_reducible rfl)
        (try simp only [Act.put, List.setIfInBounds_toArray, List.set_cons_zero, List.set_cons_succ])
        refine rg_take (i := 13) (v := ?_) rfl (by as_aux_lemma => kernel_rfl) (by as_aux_lemma => kernel_rfl) (by as_aux_lemma => kernel_rfl) (by rfl) ?_ hHeld ?_
        rotate_left 1
        · intro w hSw; (try dsimp only at hSw); go_simp; try (with_reducible rfl)
        (try simp only [Act.put, List.setIfInBounds_toArray, List.set_cons_zero, List.set_cons_succ])
        refine rg_done (by as_aux_lemma => kernel_rfl) ?_
        clear hHeld
        have HX43 := Lib.hid (HX42.out.step HC3.out)
        have HB3 : Hid (Below W0.heap.size W0 w3) := Lib.hid (HB2.out.trans (HC3.out.mono (by omega)))
        have HR3 := Lib.hid (HR2.out.below HC3.out)
        go_wp2_with (refine store_blk 69 2 szWord _ _ rfl rfl rfl rfl rfl HX43.out rfl rfl rfl ?_; intro W' hF hs' hBW hoth; have HF := Lib.hid hF; have HSZ := Lib.hid hs'; have HBW := Lib.hid hBW; have HOTH := Lib.hid hoth; clear hF hBW hoth hs')
        refine bodyPost_ret (results_blk Try.results41 szWord _ Try.underlying69 rfl rfl HF.out rfl) rfl ⟨?_, ?_⟩
        · rw [HA.out]; try rfl
        · rw [HA.out]
          exact put_end HB0.out hs0a' HF1.out ⟨HR3.out.mono (fun b hb => .inl hb), Keep.of HB3.out⟩ (HBW.out 0 _ (by omega) (Below.refl _ _)) (by omega) (by omega) HOTH.out
      · have HA := Lib.hid (putHO_ok HCK.out HC.out hfull)
        have hfd : decide (room < (H.ws.length : Int) + szL [t]) = false := by simpa using hfull
        go_upto_region 6 with fail
        refine rg_start (fun w' => w'.cell? ⟨B, 0, none⟩ = some (.int .i64 room) ∧ w'.cell? ⟨B, 1, none⟩ = some (.slice aw H.ws.length cw) ∧ w'.cell? ⟨w.heap.size, 0, none⟩ = some (.int .i64 t.kind) ∧ w'.cell? ⟨w.heap.size, 1, none⟩ = some (.int .i64 t.n) ∧ w'.cell? ⟨w.heap.size, 2, none⟩ = some (.string t.name) ∧ w'.cell? ⟨w.heap.size, 3, none⟩ = some (.slice a t.args.length cap)) (by as_aux_lemma => kernel_rfl) (fun Wd h => HQ.out _ h) ?_
        intro Wd hB hWd hWd' hHeld
        have HCWd := Lib.hid hB
        clear hB
        refine rg_take (i := 0) (v := ?_) rfl (by as_aux_lemma => kernel_rfl) (by as_aux_lemma => kernel_rfl) (by as_aux_lemma => kernel_rfl) (by rfl) ?_ hHeld ?_
        rotate_left 1
        · intro w hSw; (try dsimp only at hSw); go_simp; try (with_reducible rfl)
        (try simp only [Act.put, List.setIfInBounds_toArray, List.set_cons_zero, List.set_cons_succ])
        refine rg_take (i := 1) (v := ?_) rfl (by as_aux_lemma => kernel_rfl) (by as_aux_lemma => kernel_rfl) (by as_aux_lemma => kernel_rfl) (by rfl) ?_ hHeld ?_
        rotate_left 1
        · intro w hSw; (try dsimp only at hSw); go_simp; try (with_reducible rfl)
        (try simp only [Act.put, List.setIfInBounds_toArray, List.set_cons_zero, List.set_cons_succ])
        refine rg_take (i := 2) (v := ?_) rfl (by as_aux_lemma => kernel_rfl) (by as_aux_lemma => kernel_rfl) (by as_aux_lemma => kernel_rfl) (by rfl) ?_ hHeld ?_
        rotate_left 1
        · intro w hSw; (try dsimp only at hSw); go_simp; try (with_reducible rfl)
        (try simp only [Act.put, List.setIfInBounds_toArray, List.set_cons_zero, List.set_cons_succ])
        refine rg_take (i := 3) (v := ?_) rfl (by as_aux_lemma => kernel_rfl) (by as_aux_lemma => kernel_rfl) (by as_aux_lemma => kernel_rfl) (by rfl) ?_ hHeld ?_
        rotate_left 1
        · intro w hSw; (try dsimp only at hSw); go_simp; try (with_reducible rfl)
        (try simp only [Act.put, List.setIfInBounds_toArray, List.set_cons_zero, List.set_cons_succ])
        refine rg_take (i := 4) (v := ?_) rfl (by as_aux_lemma => kernel_rfl) (by as_aux_lemma => kernel_rfl) (by as_aux_lemma => kernel_rfl) (by rfl) ?_ hHeld ?_
        rotate_left 1
        · intro w hSw; (try dsimp only at hSw); go_simp; try (with_reducible rfl)
        (try simp only [Act.put, List.setIfInBounds_toArray, List.set_cons_zero, List.set_cons_succ])
        refine rg_take (i := 5) (v := ?_) rfl (by as_aux_lemma => kernel_rfl) (by as_aux_lemma => kernel_rfl) (by as_aux_lemma => kernel_rfl) (by rfl) ?_ hHeld ?_
        rotate_left 1
        · intro w hSw; (try dsimp only at hSw); go_simp; try (with_reducible rfl)
        (try simp only [Act.put, List.setIfInBounds_toArray, List.set_cons_zero, List.set_cons_succ])
        refine rg_take (i := 8) (v := ?_) rfl (by as_aux_lemma => kernel_rfl) (by as_aux_lemma => kernel_rfl) (by as_aux_lemma => kernel_rfl) (by rfl) ?_ hHeld ?_
        rotate_left 1
        · intro w hSw; (try dsimp only at hSw); go_simp; try (with_reducible rfl)
        (try simp only [Act.put, List.setIfInBounds_toArray, List.set_cons_zero, List.set_cons_succ])
        refine rg_take (i := 9) (v := ?_) rfl (by as_aux_lemma => kernel_rfl) (by as_aux_lemma => kernel_rfl) (by as_aux_lemma => kernel_rfl) (by rfl) ?_ hHeld ?_
        rotate_left 1
        · intro w hSw; (try dsimp only at hSw); go_simp; try (with_reducible rfl)
        (try simp only [Act.put, List.setIfInBounds_toArray, List.set_cons_zero, List.set_cons_succ])
        refine rg_take (i := 10) (v := ?_) rfl (by as_aux_lemma => kernel_rfl) (by as_aux_lemma => kernel_rfl) (by as_aux_lemma => kernel_rfl) (by rfl) ?_ hHeld ?_
        rotate_left 1
        · intro w hSw; (try dsimp only at hSw); go_simp; try (with_reducible rfl)
        (try simp only [Act.put, List.setIfInBounds_toArray, List.set_cons_zero, List.set_cons_succ])
        refine rg_take (i := 11) (v := ?_) rfl (by as_aux_lemma => kernel_rfl) (by as_aux_lemma => kernel_rfl) (by as_aux_lemma => kernel_rfl) (by rfl) ?_ hHeld ?_
        rotate_left 1
        · intro w hSw; (try dsimp only at hSw); go_simp; try (with_reducible rfl)
        (try simp only [Act.put, List.setIfInBounds_toArray, List.set_cons_zero, List.set_cons_succ])
        refine rg_only (i := 6) rfl (by as_aux_lemma => kernel_rfl) (by rfl) (fun K hK => ?_)
        go_simp
        go_at_call 84
        refine (size_c t S _ _ (HT2.out.below HCWd.out) (by omega)).mono ?_
        rintro e w3 ⟨rfl, hB⟩
        have hs3 := hB.size
        have HC3 : Hid (Below w2.heap.size w2 w3) := Lib.hid (below_step HCWd.out (by omega) hB)
        clear hB
        refine hK.out _ _ (HQ.out _ HC3.out) (fun hHeld1 => ?_)
        clear hK K hHeld
        have hHeld := hHeld1
        clear hHeld1
        (try simp only [Act.put, List.setIfInBounds_toArray, List.set_cons_zero, List.set_cons_succ])
        refine rg_take (i := 7) (v := ?_) rfl (by as_aux_lemma => kernel_rfl) (by as_aux_lemma => kernel_rfl) (by as_aux_lemma => kernel_rfl) (by rfl) ?_ hHeld ?_
        rotate_left 1
        · intro w hSw; (try dsimp only at hSw); go_simp; try (with_reducible rfl)
        (try simp only [Act.put, List.setIfInBounds_toArray, List.set_cons_zero, List.set_cons_succ])
        refine rg_take (i := 12) (v := ?_) rfl (by as_aux_lemma => kernel_rfl) (by as_aux_lemma => kernel_rfl) (by as_aux_lemma => kernel_rfl) (by rfl) ?_ hHeld ?_
        rotate_left 1
        · intro w hSw; (try dsimp only at hSw); go_simp; try (with_reducible rfl)
        (try simp only [Act.put, List.setIfInBounds_toArray, List.set_cons_zero, List.set_cons_succ])
        refine rg_take (i := 13) (v := ?_) rfl (by as_aux_lemma => kernel_rfl) (by as_aux_lemma => kernel_rfl) (by as_aux_lemma => kernel_rfl) (by rfl) ?_ hHeld ?_
        rotate_left 1
        · intro w hSw; (try dsimp only at hSw); go_simp; try (with_reducible rfl)
        (try simp only [Act.put, List.setIfInBounds_toArray, List.set_cons_zero, List.set_cons_succ])
        refine rg_done (by as_aux_lemma => kernel_rfl) ?_
        clear hHeld
        have HX33 := Lib.hid (HX32.out.step HC3.out)
        have HX43 := Lib.hid (HX42.out.step HC3.out)
        have HB3 : Hid (Below W0.heap.size W0 w3) := Lib.hid (HB2.out.trans (HC3.out.mono (by omega)))
        have HR3 := Lib.hid (HR2.out.below HC3.out)
        have HT3 := Lib.hid (HT2.out.below HC3.out)
        have y0 := HX33.out.cell 0 _ rfl
        have y1 := HX33.out.cell 1 _ rfl
        have y2 := HX33.out.cell 2 _ rfl
        have y3 := HX33.out.cell 3 _ rfl
        go_wp2_with fail
        refine (hput_c t F0 S _ B room H _ HR3.out HT3.out (fun b hb => ⟨by have := (HS0.out b hb).1; omega, (HS0.out b hb).2⟩) (by omega) (by omega)).mono ?_
        rintro e w4 ⟨he, hK, hR4⟩
        obtain ⟨x, hx⟩ : ∃ x, x = putW H t := ⟨_, rfl⟩
        rw [← hx] at he hR4 HA
        subst he
        have hs4 := hK.size
        have HX44 : Hid (Blk w4 (w.heap.size + 1) [.int .i64 0, .int .i64 0]) := Lib.hid (HX43.out.keep hK (fun h => by have := (HF1.out _ h).2; omega))
        have HK4 : Hid (Keep F0 W0 w4) := Lib.hid ((Keep.of HB3.out).trans hK)
        have HR4 := Lib.hid hR4
        clear hx hK hR4 y0 y1 y2 y3
        go_wp2_with (refine store_blk 69 2 szWord _ _ rfl rfl rfl rfl rfl HX44.out rfl rfl rfl ?_; intro W' hF hs' hBW hoth; have HF := Lib.hid hF; have HSZ := Lib.hid hs'; have HBW := Lib.hid hBW; have HOTH := Lib.hid hoth; clear hF hBW hoth hs')
        refine bodyPost_ret (results_blk Try.results41 szWord _ Try.underlying69 rfl rfl HF.out rfl) rfl ⟨?_, ?_⟩
        · rw [HA.out]; try rfl
        · rw [HA.out]
          exact put_end HB0.out hs0a' HF1.out ⟨HR4.out.mono (fun b hb => by rcases hb with hb | hb; exact .inl hb; exact .inr (by omega)), HK4.out⟩ (HBW.out 0 _ (by omega) (Below.refl _ _)) (by omega) (by omega) HOTH.out
  · have hckb : (checkE t != 0) = true := by simp [hck]
    have HA := Lib.hid (putHO_check (room := room) (H := H) hck)
    clear hck
    go_wp2_with (refine store_blk 69 2 szWord _ _ rfl rfl rfl rfl rfl HX41.out rfl rfl rfl ?_; intro W' hF hs' hBW hoth; have HF := Lib.hid hF; have HSZ := Lib.hid hs'; have HBW := Lib.hid hBW; have HOTH := Lib.hid hoth; clear hF hBW hoth hs')
    refine bodyPost_ret (results_blk Try.results41 szWord _ Try.underlying69 rfl rfl HF.out rfl) rfl ⟨?_, ?_⟩
    · rw [HA.out]; try rfl
    · rw [HA.out]
      exact put_end HB0.out hs0a' HF1.out ⟨HR1.out.mono (fun b hb => .inl hb), Keep.of HB1.out⟩ (HBW.out 0 _ (by omega) (Below.refl _ _)) (by omega) (by omega) HOTH.out
end Go.Proofs.Ytedfepnekjjmnaa

/-
  heap.get: what a word stands for. No condition but a bound.
-/
namespace Go.Proofs.Ytedfepnekjjmnaa
open Go.RowKit
set_option linter.unusedSimpArgs false
set_option linter.unusedVariables false
set_option maxRecDepth 100000

/-- What get hands back. -/
def GetP (w : World) (t : T) (e : Ending) (w' : World) : Prop :=
  ∃ a cap, e = .returned (.agg #[.int .i64 t.kind, .int .i64 t.n, .string t.name, .slice a t.args.length cap]) ∧ Below w.heap.size w w' ∧ RT (fun b => w.heap.size ≤ b) w' t (.agg #[.int .i64 t.kind, .int .i64 t.n, .string t.name, .slice a t.args.length cap])
/-- The loop. -/
def GetRel (W5 : World) (g5 : Nat) (ts : List T) (i : Value) (wi : World) : Prop :=
  ∃ (k : Nat) (row : Value), k ≤ ts.length ∧ i = .int .i64 k ∧ OwnG (fun b => W5.heap.size ≤ b) W5.heap.size wi row (ts.take k) ∧ Keep (fun b => b = g5) W5 wi ∧ Blk wi g5 [.int .i64 4, .int .i64 0, .string ⟨#[]⟩, row]
theorem tupT_of {t : T} (hk : t.kind = 4) (hn : t.n = 0) (hs : t.name = ⟨#[]⟩) : t = tupT t.args := by
  obtain ⟨k, n, s, l⟩ := t
  simp only at hk hn hs
  subst hk hn hs; rfl

theorem RX.wto {R S : Nat → Prop} {w w' : World} {l : List Wrd} {v : Value} (h : RX wrdE R S w l v) (hc : ∀ b, R b → b < w.heap.size → w'.heap[b]? = w.heap[b]?) : RX wrdE R S w' l v := by
  obtain ⟨a, cap, cs, rfl, hl, hC, hj⟩ := h
  refine ⟨a, cap, cs, rfl, hl, cellsW hC, fun j u hu => ?_⟩
  obtain ⟨b, o, rfl, hR, hcell⟩ := hj j u hu
  exact ⟨b, o, rfl, hR, by rw [World.cell?_of_block (w := w) (hc b hR (World.block_lt_of_cell? w _ hcell))]; exact hcell⟩
set_option maxHeartbeats 8000000 in
theorem hget_c : ∀ (t : T) (F : Nat → Prop) (w : World) (B : Nat) (room : Int) (H : HS) (x : Wrd), HeapR F w B room H → Rep H t x → H.ws.length ≤ 137438953472 → H.names.length ≤ 137438953472 →
    Calls Try.prog 89 #[.pointer (some ⟨B, 0, none⟩), .agg #[.int .i64 x.kind, .int .i64 x.n]] w (GetP w t) := by
  intro t
  induction t using T.ind with
  | h t ih =>
    intro F w B room H x hR hx hl hn
    have IH := Lib.hid ih
    have hkk := hx.kinds
    obtain ⟨W0, hW0⟩ : ∃ W : World, W = (w.alloc (.cells #[.int .i64 x.kind, .int .i64 x.n] 69)).alloc (.cells #[.int .i64 0, .int .i64 0, .string ⟨#[]⟩, .slice none 0 0] 29) := ⟨_, rfl⟩
    have HX3 : Hid (Blk W0 w.heap.size [.int .i64 x.kind, .int .i64 x.n]) := Lib.hid (by rw [hW0]; exact (Blk.new _ _ _ _ rfl).alloc _)
    have HX4 : Hid (Blk W0 (w.heap.size + 1) [.int .i64 0, .int .i64 0, .string ⟨#[]⟩, .slice none 0 0]) := Lib.hid (by rw [hW0]; exact Blk.new _ _ _ _ (by simp))
    have HB0 : Hid (Below w.heap.size w W0) := Lib.hid (by rw [hW0]; exact (below_alloc _ _).trans ((below_alloc _ _).mono (by simp)))
    have hs0 : W0.heap.size = w.heap.size + 2 := by rw [hW0]; simp
    have hs0a : w.heap.size + 2 ≤ W0.heap.size := by omega
    have HR0 : Hid (HeapR (fun b => F b ∧ b < w.heap.size) W0 B room H) := Lib.hid (hR.low.below HB0.out)
    have HW0 := Lib.hid hW0
    have HXX := Lib.hid hx
    have HKK := Lib.hid hkk
    clear ih hR hW0 hs0 hx hkk
    by_cases hk2 : t.kind = 2
    · obtain ⟨hn0, ha0, i, hxi, hi⟩ := HXX.out.atom hk2
      have k2 : (x.kind == 2) = true := by rw [HKK.out, hk2]; rfl
      have hil : i < H.names.length := (List.getElem?_eq_some_iff.1 hi).1
      have hie : H.names[i] = t.name := (List.getElem?_eq_some_iff.1 hi).2
      obtain ⟨vw, vn, hV⟩ := HR0.out
      obtain ⟨an, cn, rfl⟩ := hV.nm.form
      obtain ⟨b, o, rfl⟩ := hV.nm.rx.addr (by decide) (by omega)
      obtain ⟨hb, c0⟩ := hV.nm.rx.nm i hil
      rw [hie] at c0
      have hbl := World.block_lt_of_cell? _ _ c0
      have hxn : x.n = i := by rw [hxi]
      have HV := Lib.hid hV
      have HXN := Lib.hid hxn
      have HQ : Hid (∀ w' : World, w'.heap[B]? = W0.heap[B]? → w'.heap[w.heap.size]? = W0.heap[w.heap.size]? → w'.heap[b]? = W0.heap[b]? → w'.cell? ⟨B, 2, none⟩ = some (.slice (some ⟨b, o, none⟩) H.names.length cn) ∧ w'.cell? ⟨w.heap.size, 1, none⟩ = some (.int .i64 (i : Int)) ∧ w'.cell? ⟨b, o + i, none⟩ = some (.string t.name)) := Lib.hid fun w' e1 e2 e3 => ⟨(World.cell?_of_block (w := W0) (a := ⟨B, 2, none⟩) e1).trans (HV.out.blk.cell 2 _ rfl), (World.cell?_of_block (w := W0) (a := ⟨w.heap.size, 1, none⟩) e2).trans (by rw [← HXN.out]; exact HX3.out.cell 1 _ rfl), (World.cell?_of_block (w := W0) (a := ⟨b, o + i, none⟩) e3).trans c0⟩
      have hBn : B ≠ w.heap.size + 1 := fun e => by have := HV.out.fb.2; omega
      have hbn : b ≠ w.heap.size + 1 := fun e => by have := (HV.out.fn b hb).2; omega
      have HT : Hid (t = ⟨2, 0, t.name, []⟩) := Lib.hid (by
        obtain ⟨k, n, s, l⟩ := t
        simp only at hk2 hn0 ha0
        rw [hk2, hn0, ha0])
      have q1 : (0 : Int) ≤ (i : Int) := by omega
      have q2 : (i : Int) < H.names.length := by omega
      clear hk2 hn0 ha0 hxi hi hie hV c0 hxn hb hbl
      go_enter Try.func89, Try.ntmps89
      go_upto_region 3 with fail
      rw [← HW0.out]
      refine rg_start (fun w' => w'.cell? ⟨B, 2, none⟩ = some (.slice (some ⟨b, o, none⟩) H.names.length cn) ∧ w'.cell? ⟨w.heap.size, 1, none⟩ = some (.int .i64 (i : Int)) ∧ w'.cell? ⟨b, o + i, none⟩ = some (.string t.name)) (by as_aux_lemma => kernel_rfl) (fun Wd h => HQ.out _ (h.block _ (by have := HV.out.blk.lt; omega)) (h.block _ (by omega)) (h.block _ (by have := HV.out.fn b rfl; omega))) ?_
      intro Wd hB hWd hWd' hHeld
      have EB : Hid (Wd.heap[B]? = W0.heap[B]?) := Lib.hid (hB.block _ (by have := HV.out.blk.lt; omega))
      have E3 : Hid (Wd.heap[w.heap.size]? = W0.heap[w.heap.size]?) := Lib.hid (hB.block _ (by omega))
      have Eb : Hid (Wd.heap[b]? = W0.heap[b]?) := Lib.hid (hB.block _ (by have := HV.out.fn b rfl; omega))
      have HBd := Lib.hid hB
      clear hB
      refine rg_take (i := 0) (v := ?_) rfl (by as_aux_lemma => kernel_rfl) (by as_aux_lemma => kernel_rfl) (by as_aux_lemma => kernel_rfl) (by rfl) ?_ hHeld ?_
      rotate_left 1
      · intro w hSw; (try dsimp only at hSw); go_simp; try (with_reducible rfl)
      (try simp only [Act.put, List.setIfInBounds_toArray, List.set_cons_zero, List.set_cons_succ])
      refine rg_take (i := 1) (v := ?_) rfl (by as_aux_lemma => kernel_rfl) (by as_aux_lemma => kernel_rfl) (by as_aux_lemma => kernel_rfl) (by rfl) ?_ hHeld ?_
      rotate_left 1
      · intro w hSw; (try dsimp only at hSw); go_simp; try (with_reducible rfl)
      (try simp only [Act.put, List.setIfInBounds_toArray, List.set_cons_zero, List.set_cons_succ])
      refine rg_take (i := 2) (v := ?_) rfl (by as_aux_lemma => kernel_rfl) (by as_aux_lemma => kernel_rfl) (by as_aux_lemma => kernel_rfl) (by rfl) ?_ hHeld ?_
      rotate_left 1
      · intro w hSw; (try dsimp only at hSw); go_simp; try (with_reducible rfl)
      (try simp only [Act.put, List.setIfInBounds_toArray, List.set_cons_zero, List.set_cons_succ])
      refine rg_take (i := 3) (v := ?_) rfl (by as_aux_lemma => kernel_rfl) (by as_aux_lemma => kernel_rfl) (by as_aux_lemma => kernel_rfl) (by rfl) ?_ hHeld ?_
      rotate_left 1
      · intro w hSw; (try dsimp only at hSw); go_simp; try (with_reducible rfl)
      (try simp only [Act.put, List.setIfInBounds_toArray, List.set_cons_zero, List.set_cons_succ])
      refine rg_take (i := 4) (v := ?_) rfl (by as_aux_lemma => kernel_rfl) (by as_aux_lemma => kernel_rfl) (by as_aux_lemma => kernel_rfl) (by rfl) ?_ hHeld ?_
      rotate_left 1
      · intro w hSw; (try dsimp only at hSw); go_simp; try (with_reducible rfl)
      (try simp only [Act.put, List.setIfInBounds_toArray, List.set_cons_zero, List.set_cons_succ])
      refine rg_take (i := 5) (v := ?_) rfl (by as_aux_lemma => kernel_rfl) (by as_aux_lemma => kernel_rfl) (by as_aux_lemma => kernel_rfl) (by rfl) ?_ hHeld ?_
      rotate_left 1
      · intro w hSw; (try dsimp only at hSw); go_simp; try (with_reducible rfl)
      (try simp only [Act.put, List.setIfInBounds_toArray, List.set_cons_zero, List.set_cons_succ])
      refine rg_take (i := 6) (v := ?_) rfl (by as_aux_lemma => kernel_rfl) (by as_aux_lemma => kernel_rfl) (by as_aux_lemma => kernel_rfl) (by rfl) ?_ hHeld ?_
      rotate_left 1
      · intro w hSw; (try dsimp only at hSw); go_simp; try (with_reducible rfl)
      (try simp only [Act.put, List.setIfInBounds_toArray, List.set_cons_zero, List.set_cons_succ])
      refine rg_take (i := 7) (v := ?_) rfl (by as_aux_lemma => kernel_rfl) (by as_aux_lemma => kernel_rfl) (by as_aux_lemma => kernel_rfl) (by rfl) ?_ hHeld ?_
      rotate_left 1
      · intro w hSw; (try dsimp only at hSw); go_simp; try (with_reducible rfl)
      (try simp only [Act.put, List.setIfInBounds_toArray, List.set_cons_zero, List.set_cons_succ])
      refine rg_take (i := 8) (v := ?_) rfl (by as_aux_lemma => kernel_rfl) (by as_aux_lemma => kernel_rfl) (by as_aux_lemma => kernel_rfl) (by rfl) ?_ hHeld ?_
      rotate_left 1
      · intro w hSw; (try dsimp only at hSw); go_simp; try (with_reducible rfl)
      (try simp only [Act.put, List.setIfInBounds_toArray, List.set_cons_zero, List.set_cons_succ])
      refine rg_only (i := 9) rfl (by as_aux_lemma => kernel_rfl) (by rfl) (fun K hK => ?_)
      refine wp_store_blk 29 4 szTerm _ _ rfl rfl rfl rfl (HX4.out.step HBd.out) rfl rfl rfl ?_
      intro W' hF hs' hBW hoth
      have HF := Lib.hid hF
      have HSZ := Lib.hid hs'
      have HBW := Lib.hid hBW
      have HOTH := Lib.hid hoth
      clear hF hBW hoth hs'
      refine hK.out _ _ (HQ.out _ ((HOTH.out B hBn).trans EB.out) ((HOTH.out _ (by omega)).trans E3.out) ((HOTH.out b hbn).trans Eb.out)) (fun hHeld1 => ?_)
      clear hK K hHeld
      have hHeld := hHeld1
      clear hHeld1
      (try simp only [Act.put, List.setIfInBounds_toArray, List.set_cons_zero, List.set_cons_succ])
      refine rg_done (by as_aux_lemma => kernel_rfl) ?_
      clear hHeld
      go_wp2_with fail
      rw [HT.out]
      refine bodyPost_ret (result_blk Try.results89 szTerm _ Try.underlying29 rfl rfl HF.out rfl) rfl ⟨none, 0, rfl, HBW.out _ w (by omega) (HB0.out.trans (HBd.out.mono (by omega))), ?_⟩
      exact ⟨none, 0, rfl, ⟨Nat.le_refl _, fun _ => rfl⟩, by simp [RTs]⟩
    by_cases hk4 : t.kind = 4
    · obtain ⟨hn0, hs0, i, hxi, hi, hil, hrep⟩ := HXX.out.tup hk4
      have k2 : (x.kind == 2) = false := by rw [HKK.out, hk4]; rfl
      have k4 : (x.kind == 4) = true := by rw [HKK.out, hk4]; rfl
      have hii : i < H.ws.length := by omega
      have hwi : H.ws[i] = ⟨0, t.args.length⟩ := (List.getElem?_eq_some_iff.1 hi).2
      have hxn : x.n = i := by rw [hxi]
      have HT : Hid (t = tupT t.args) := Lib.hid (tupT_of hk4 hn0 hs0)
      have HREPL := Lib.hid hrep
      have HXN := Lib.hid hxn
      have HWI := Lib.hid hwi
      have hpl : (partsL H i t.args.length).length = t.args.length := hrep.length
      have HPL := Lib.hid hpl
      clear hk2 hk4 hn0 hs0 hxi hi hrep hwi hxn hpl
      go_enter Try.func89, Try.ntmps89
      go_upto_region 5 with fail
      rw [← HW0.out]
      have y1 := HX3.out.cell 1 _ rfl
      obtain ⟨W4, hW4⟩ : ∃ W : World, W = W0.alloc (.cells #[.int .i64 4, .int .i64 0, .string ⟨#[]⟩, .slice none 0 0] 29) := ⟨_, rfl⟩
      obtain ⟨g5, hg5e⟩ : ∃ g, g = W0.heap.size := ⟨_, rfl⟩
      have HG4 : Hid (Blk W4 g5 [.int .i64 4, .int .i64 0, .string ⟨#[]⟩, .slice none 0 0]) := Lib.hid (by rw [hW4]; exact Blk.new _ _ _ _ hg5e)
      have HB4 : Hid (Below W0.heap.size W0 W4) := Lib.hid (by rw [hW4]; exact below_alloc _ _)
      have hs4 : W0.heap.size + 1 ≤ W4.heap.size := by rw [hW4]; simp
      have HR4 := Lib.hid (HR0.out.below HB4.out)
      have hg5a : W0.heap.size ≤ g5 := by omega
      have hg5b : g5 ≤ W0.heap.size := by omega
      have HW4 := Lib.hid hW4
      have HG5E := Lib.hid hg5e
      clear hW4 hg5e
      go_upto_region 6 with fail
      rw [← HW4.out]
      try rw [← HG5E.out]
      have y14 := (HX3.out.step HB4.out).cell 1 _ rfl
      go_wp2_with fail
      have hc := hparts_yes _ W4 B room H i t.args.length HR4.out hii HWI.out hil hl
      rw [← HXN.out] at hc
      refine hc.mono ?_
      rintro e W5 ⟨pa, pc, he, hB, hP⟩
      rw [HPL.out] at he hP
      subst he
      have hs5 := hB.size
      have HR5 := Lib.hid (HR4.out.below hB)
      have HP5 := Lib.hid hP
      have HG5 := Lib.hid (HG4.out.step hB)
      have HX45 := Lib.hid ((HX4.out.step HB4.out).step hB)
      have HB5 : Hid (Below w.heap.size w W5) := Lib.hid ((HB0.out.trans (HB4.out.mono (by omega))).trans (hB.mono (by omega)))
      have hg5 : g5 < W5.heap.size := by omega
      clear hB hP hc y1 y14
      go_wp2_with fail
      go_loopw [35] (fun i wr => GetRel W5 g5 t.args i wr) (fun i _ => t.args.length - (intOf i).toNat)
      case atStart => exact ⟨0, _, Nat.zero_le _, rfl, OwnG.nil _ _ _, Keep.refl _ _, HG5.out⟩
      case round =>
        obtain ⟨k, row, hkl, rfl, hO, hK, hG⟩ := hrel
        obtain ⟨wq, rfl⟩ : ∃ wq : World, wq = wr := ⟨_, rfl⟩
        obtain ⟨ar, cr, hrow⟩ := hO.form
        have hlk : (t.args.take k).length = k := by rw [List.length_take]; omega
        rw [hlk] at hrow
        subst hrow
        have hsq := hK.size
        have HO := Lib.hid hO
        have HKq := Lib.hid hK
        have HGq := Lib.hid hG
        have HRq := Lib.hid (HR5.out.keep hK (fun b hb hl e => by have := hb.2; omega))
        have HPq : Hid (RX wrdE (fun b => F b ∧ b < w.heap.size) (fun _ => True) wq (partsL H i t.args.length) (.slice pa t.args.length pc)) := Lib.hid (RX.wto HP5.out fun b hb hl => hK.block b hl (fun e => by have := hb.2; omega))
        have HOB := Lib.hid hO.block
        clear hO hK hG hlk
        by_cases hlt : k < t.args.length
        · have hpk : k < (partsL H i t.args.length).length := by rw [HPL.out]; exact hlt
          obtain ⟨pb, po, rfl⟩ := HPq.out.addr (by decide) (by omega)
          obtain ⟨-, d0, d1⟩ := HPq.out.wrd k hpk
          obtain ⟨y, hy⟩ : ∃ y, y = (partsL H i t.args.length)[k] := ⟨_, rfl⟩
          rw [← hy] at d0 d1
          have HREP : Hid (Rep H t.args[k] y) := Lib.hid (by rw [hy]; exact HREPL.out.at k hlt hpk)
          have HMEM := Lib.hid (List.getElem_mem hlt)
          have HSN := Lib.hid (take_snoc' t.args k hlt)
          clear hy hpk
          go_upto_region 10 with fail
          obtain ⟨W9, hW9⟩ : ∃ W : World, W = wq.alloc (.cells #[.int .i64 y.kind, .int .i64 y.n] 69) := ⟨_, rfl⟩
          obtain ⟨g9, hg9⟩ : ∃ g, g = wq.heap.size := ⟨_, rfl⟩
          have HX9 : Hid (Blk W9 g9 [.int .i64 y.kind, .int .i64 y.n]) := Lib.hid (by rw [hW9]; exact Blk.new _ _ _ _ hg9)
          have HB9 : Hid (Below wq.heap.size wq W9) := Lib.hid (by rw [hW9]; exact below_alloc _ _)
          have hs9 : wq.heap.size + 1 ≤ W9.heap.size := by rw [hW9]; simp
          have HR9 := Lib.hid (HRq.out.below HB9.out)
          have HG9 := Lib.hid (HGq.out.step HB9.out)
          have HO9 := Lib.hid (HO.out.below HB9.out)
          have HK9 : Hid (Keep (fun b => b = g5) W5 W9) := Lib.hid (HKq.out.then HB9.out)
          have hg9a : wq.heap.size ≤ g9 := by omega
          have hg9b : g9 ≤ wq.heap.size := by omega
          have HQ : Hid (∀ w' : World, w'.heap[g9]? = W9.heap[g9]? → w'.cell? ⟨g9, 0, none⟩ = some (.int .i64 y.kind) ∧ w'.cell? ⟨g9, 1, none⟩ = some (.int .i64 y.n)) := Lib.hid fun w' e => ⟨(World.cell?_of_block (w := W9) (a := ⟨g9, 0, none⟩) e).trans (HX9.out.cell 0 _ rfl), (World.cell?_of_block (w := W9) (a := ⟨g9, 1, none⟩) e).trans (HX9.out.cell 1 _ rfl)⟩
          rw [← hW9, ← hg9]
          clear hW9 hg9 d0 d1
          refine rg_start (fun w' => w'.cell? ⟨g9, 0, none⟩ = some (.int .i64 y.kind) ∧ w'.cell? ⟨g9, 1, none⟩ = some (.int .i64 y.n)) (by as_aux_lemma => kernel_rfl) (fun Wd h => HQ.out _ (h.block _ (by omega))) ?_
          intro Wd hB hWd hWd' hHeld
          have E9 : Hid (Wd.heap[g9]? = W9.heap[g9]?) := Lib.hid (hB.block _ (by omega))
          have HBd := Lib.hid hB
          have HRd := Lib.hid (HR9.out.below hB)
          have HGd := Lib.hid (HG9.out.step hB)
          have HOd := Lib.hid (HO9.out.below hB)
          have r3d := HGd.out.cell 3 _ rfl
          have HKd : Hid (Keep (fun b => b = g5) W5 Wd) := Lib.hid (HK9.out.then hB)
          clear hB
          refine rg_take (i := 0) (v := ?_) rfl (by as_aux_lemma => kernel_rfl) (by as_aux_lemma => kernel_rfl) (by as_aux_lemma => kernel_rfl) (by rfl) ?_ hHeld ?_
          rotate_left 1
          · intro w hSw; (try dsimp only at hSw); go_simp; try (with_reducible rfl)
          (try simp only [Act.put, List.setIfInBounds_toArray, List.set_cons_zero, List.set_cons_succ])
          refine rg_take (i := 2) (v := ?_) rfl (by as_aux_lemma => kernel_rfl) (by as_aux_lemma => kernel_rfl) (by as_aux_lemma => kernel_rfl) (by rfl) ?_ hHeld ?_
          rotate_left 1
          · intro w hSw; (try dsimp only at hSw); go_simp; try (with_reducible rfl)
          (try simp only [Act.put, List.setIfInBounds_toArray, List.set_cons_zero, List.set_cons_succ])
          refine rg_take (i := 3) (v := ?_) rfl (by as_aux_lemma => kernel_rfl) (by as_aux_lemma => kernel_rfl) (by as_aux_lemma => kernel_rfl) (by rfl) ?_ hHeld ?_
          rotate_left 1
          · intro w hSw; (try dsimp only at hSw); go_simp; try (with_reducible rfl)
          (try simp only [Act.put, List.setIfInBounds_toArray, List.set_cons_zero, List.set_cons_succ])
          refine rg_two (i := 1) (j := 4) rfl rfl (by as_aux_lemma => kernel_rfl) (by rfl) (by rfl) (fun K hK => ?_) (fun K hK => ?_)
          · skip
            go_simp
            skip
            refine hK.out _ _ (hHeld) (fun hHeld1 => ?_)
            clear hK K hHeld
            have hHeld := hHeld1
            clear hHeld1
            (try simp only [Act.put, List.setIfInBounds_toArray, List.set_cons_zero, List.set_cons_succ])
            refine rg_only (i := 4) rfl (by as_aux_lemma => kernel_rfl) (by rfl) (fun K hK => ?_)
            go_simp
            go_at_call 89
            refine (IH.out t.args[k] HMEM.out _ _ B room H y (HRd.out) HREP.out hl hn).mono ?_
            rintro e w1 ⟨at1, ct1, he, hB, hRT⟩
            obtain ⟨tk, htk⟩ : ∃ tk, tk = t.args[k] := ⟨_, rfl⟩
            rw [← htk] at he hRT
            subst he
            have hs1 := hB.size
            have HTK := Lib.hid htk
            have HBd1 := Lib.hid hB
            have E91 : Hid (w1.heap[g9]? = W9.heap[g9]?) := Lib.hid ((hB.block _ (by omega)).trans E9.out)
            have r31 : w1.cell? ⟨g5, 3, none⟩ = some (.slice ar k cr) := (hB.cell (p := ⟨g5, 3, none⟩) (show g5 < Wd.heap.size by omega)).trans r3d
            have HRT1 := Lib.hid hRT
            clear hB htk hRT
            refine hK.out _ _ (HQ.out _ E91.out) (fun hHeld1 => ?_)
            clear hK K hHeld
            have hHeld := hHeld1
            clear hHeld1
            (try simp only [Act.put, List.setIfInBounds_toArray, List.set_cons_zero, List.set_cons_succ])
            refine rg_only (i := 5) rfl (by as_aux_lemma => kernel_rfl) (by rfl) (fun K hK => ?_)
            refine build1 _ rfl (by rfl) ?_
            have r3b : (w1.alloc (.cells #[.int .i64 tk.kind, .int .i64 tk.n, .string tk.name, .slice at1 tk.args.length ct1] 29)).cell? ⟨g5, 3, none⟩ = some (.slice ar k cr) := ((below_alloc w1 _).cell (p := ⟨g5, 3, none⟩) (show g5 < w1.heap.size by omega)).trans r31
            refine hK.out _ _ (HQ.out _ ((Below.heap_alloc w1 _ _ (by omega)).trans E91.out)) (fun hHeld1 => ?_)
            clear hK K hHeld
            have hHeld := hHeld1
            clear hHeld1
            (try simp only [Act.put, List.setIfInBounds_toArray, List.set_cons_zero, List.set_cons_succ])
            refine rg_only (i := 6) rfl (by as_aux_lemma => kernel_rfl) (by rfl) (fun K hK => ?_)
            refine wp_grow (v := .slice ar k cr) (n := k) (g0 := w1.heap.size) _ _ rfl rfl (by rfl) (by rfl) rfl (HOd.out.below HBd1.out) HRT1.out (fun z hz hl => ⟨by omega, fun he => by have := HOB.out z he; omega⟩) (by first | (rw [List.length_take]; omega) | (simp; omega)) (by omega) (by omega) ?_
            intro gg cg w3 hO3 hG3 hB3 hP3
            have hl3 := hB3.size
            have e9 := hG3.block g9 (by simp; omega) (fun he => by have := HOB.out _ he.symm; omega)
            have E93 : Hid (w3.heap[g9]? = W9.heap[g9]?) := Lib.hid (e9.trans ((Below.heap_alloc w1 _ _ (by omega)).trans E91.out))
            have r33 : w3.cell? ⟨g5, 3, none⟩ = some (.slice ar k cr) := (hB3.cell (p := ⟨g5, 3, none⟩) (show g5 < W5.heap.size by omega)).trans r31
            have rf3 := fun o => (hB3.frozen (p := ⟨g5, o, none⟩) (show g5 < W5.heap.size by omega)).trans ((HGd.out.step HBd1.out).fr o)
            have HO3 := Lib.hid hO3
            have HB3 := Lib.hid hB3
            clear hO3 hG3 hB3 hP3 e9
            refine hK.out _ _ (HQ.out _ E93.out) (fun hHeld1 => ?_)
            clear hK K hHeld
            have hHeld := hHeld1
            clear hHeld1
            (try simp only [Act.put, List.setIfInBounds_toArray, List.set_cons_zero, List.set_cons_succ])
            refine rg_take (i := 7) (v := ?_) rfl (by as_aux_lemma => kernel_rfl) (by as_aux_lemma => kernel_rfl) (by as_aux_lemma => kernel_rfl) (by rfl) ?_ hHeld ?_
            rotate_left 1
            · intro w hSw; (try dsimp only at hSw); go_simp; try (with_reducible rfl)
            (try simp only [Act.put, List.setIfInBounds_toArray, List.set_cons_zero, List.set_cons_succ])
            refine rg_only (i := 8) rfl (by as_aux_lemma => kernel_rfl) (by rfl) (fun K hK => ?_)
            go_simp
            skip
            refine hK.out _ _ (HQ.out _ ((setCell_other w3 g5 3 _ g9 (by omega)).trans E93.out)) (fun hHeld1 => ?_)
            clear hK K hHeld
            have hHeld := hHeld1
            clear hHeld1
            (try simp only [Act.put, List.setIfInBounds_toArray, List.set_cons_zero, List.set_cons_succ])
            refine rg_done (by as_aux_lemma => kernel_rfl) ?_
            clear hHeld
            go_wp2_with fail
            go_roundw
            case rel =>
              have h1 := HO3.out.setCell g5 3 (.slice (some ⟨gg, 0, none⟩) (k + 1) cg) hg5 (Nat.not_le.2 hg5)
              rw [HTK.out, ← HSN.out] at h1
              have h2 := ((HKd.out.then HBd1.out).thenB HB3.out).setCell (b := g5) (o := 3) (.slice (some ⟨gg, 0, none⟩) (k + 1) cg) (.inl rfl)
              have h3 : Blk (w3.setCell ⟨g5, 3, none⟩ (.slice (some ⟨gg, 0, none⟩) (k + 1) cg)) g5 [.int .i64 4, .int .i64 0, .string ⟨#[]⟩, .slice (some ⟨gg, 0, none⟩) (k + 1) cg] := ((HGd.out.step HBd1.out).below HB3.out hg5).set 3 (.slice (some ⟨gg, 0, none⟩) (k + 1) cg) (by simp)
              refine ⟨k + 1, (.slice (some ⟨gg, 0, none⟩) (k + 1) cg), hlt, by go_num, ?_, ?_, ?_⟩
              · with_reducible exact h1
              · with_reducible exact h2
              · with_reducible exact h3
            case measure => simp [intOf]; omega
          · skip
            go_simp
            go_at_call 89
            refine (IH.out t.args[k] HMEM.out _ _ B room H y (HRd.out) HREP.out hl hn).mono ?_
            rintro e w1 ⟨at1, ct1, he, hB, hRT⟩
            obtain ⟨tk, htk⟩ : ∃ tk, tk = t.args[k] := ⟨_, rfl⟩
            rw [← htk] at he hRT
            subst he
            have hs1 := hB.size
            have HTK := Lib.hid htk
            have HBd1 := Lib.hid hB
            have E91 : Hid (w1.heap[g9]? = W9.heap[g9]?) := Lib.hid ((hB.block _ (by omega)).trans E9.out)
            have r31 : w1.cell? ⟨g5, 3, none⟩ = some (.slice ar k cr) := (hB.cell (p := ⟨g5, 3, none⟩) (show g5 < Wd.heap.size by omega)).trans r3d
            have HRT1 := Lib.hid hRT
            clear hB htk hRT
            refine hK.out _ _ (HQ.out _ E91.out) (fun hHeld1 => ?_)
            clear hK K hHeld
            have hHeld := hHeld1
            clear hHeld1
            (try simp only [Act.put, List.setIfInBounds_toArray, List.set_cons_zero, List.set_cons_succ])
            refine rg_two (i := 1) (j := 5) rfl rfl (by as_aux_lemma => kernel_rfl) (by rfl) (by rfl) (fun K hK => ?_) (fun K hK => ?_)
            · skip
              go_simp
              skip
              refine hK.out _ _ (hHeld) (fun hHeld1 => ?_)
              clear hK K hHeld
              have hHeld := hHeld1
              clear hHeld1
              (try simp only [Act.put, List.setIfInBounds_toArray, List.set_cons_zero, List.set_cons_succ])
              refine rg_only (i := 5) rfl (by as_aux_lemma => kernel_rfl) (by rfl) (fun K hK => ?_)
              refine build1 _ rfl (by rfl) ?_
              have r3b : (w1.alloc (.cells #[.int .i64 tk.kind, .int .i64 tk.n, .string tk.name, .slice at1 tk.args.length ct1] 29)).cell? ⟨g5, 3, none⟩ = some (.slice ar k cr) := ((below_alloc w1 _).cell (p := ⟨g5, 3, none⟩) (show g5 < w1.heap.size by omega)).trans r31
              refine hK.out _ _ (HQ.out _ ((Below.heap_alloc w1 _ _ (by omega)).trans E91.out)) (fun hHeld1 => ?_)
              clear hK K hHeld
              have hHeld := hHeld1
              clear hHeld1
              (try simp only [Act.put, List.setIfInBounds_toArray, List.set_cons_zero, List.set_cons_succ])
              refine rg_only (i := 6) rfl (by as_aux_lemma => kernel_rfl) (by rfl) (fun K hK => ?_)
              refine wp_grow (v := .slice ar k cr) (n := k) (g0 := w1.heap.size) _ _ rfl rfl (by rfl) (by rfl) rfl (HOd.out.below HBd1.out) HRT1.out (fun z hz hl => ⟨by omega, fun he => by have := HOB.out z he; omega⟩) (by first | (rw [List.length_take]; omega) | (simp; omega)) (by omega) (by omega) ?_
              intro gg cg w3 hO3 hG3 hB3 hP3
              have hl3 := hB3.size
              have e9 := hG3.block g9 (by simp; omega) (fun he => by have := HOB.out _ he.symm; omega)
              have E93 : Hid (w3.heap[g9]? = W9.heap[g9]?) := Lib.hid (e9.trans ((Below.heap_alloc w1 _ _ (by omega)).trans E91.out))
              have r33 : w3.cell? ⟨g5, 3, none⟩ = some (.slice ar k cr) := (hB3.cell (p := ⟨g5, 3, none⟩) (show g5 < W5.heap.size by omega)).trans r31
              have rf3 := fun o => (hB3.frozen (p := ⟨g5, o, none⟩) (show g5 < W5.heap.size by omega)).trans ((HGd.out.step HBd1.out).fr o)
              have HO3 := Lib.hid hO3
              have HB3 := Lib.hid hB3
              clear hO3 hG3 hB3 hP3 e9
              refine hK.out _ _ (HQ.out _ E93.out) (fun hHeld1 => ?_)
              clear hK K hHeld
              have hHeld := hHeld1
              clear hHeld1
              (try simp only [Act.put, List.setIfInBounds_toArray, List.set_cons_zero, List.set_cons_succ])
              refine rg_take (i := 7) (v := ?_) rfl (by as_aux_lemma => kernel_rfl) (by as_aux_lemma => kernel_rfl) (by as_aux_lemma => kernel_rfl) (by rfl) ?_ hHeld ?_
              rotate_left 1
              · intro w hSw; (try dsimp only at hSw); go_simp; try (with_reducible rfl)
              (try simp only [Act.put, List.setIfInBounds_toArray, List.set_cons_zero, List.set_cons_succ])
              refine rg_only (i := 8) rfl (by as_aux_lemma => kernel_rfl) (by rfl) (fun K hK => ?_)
              go_simp
              skip
              refine hK.out _ _ (HQ.out _ ((setCell_other w3 g5 3 _ g9 (by omega)).trans E93.out)) (fun hHeld1 => ?_)
              clear hK K hHeld
              have hHeld := hHeld1
              clear hHeld1
              (try simp only [Act.put, List.setIfInBounds_toArray, List.set_cons_zero, List.set_cons_succ])
              refine rg_done (by as_aux_lemma => kernel_rfl) ?_
              clear hHeld
              go_wp2_with fail
              go_roundw
              case rel =>
                have h1 := HO3.out.setCell g5 3 (.slice (some ⟨gg, 0, none⟩) (k + 1) cg) hg5 (Nat.not_le.2 hg5)
                rw [HTK.out, ← HSN.out] at h1
                have h2 := ((HKd.out.then HBd1.out).thenB HB3.out).setCell (b := g5) (o := 3) (.slice (some ⟨gg, 0, none⟩) (k + 1) cg) (.inl rfl)
                have h3 : Blk (w3.setCell ⟨g5, 3, none⟩ (.slice (some ⟨gg, 0, none⟩) (k + 1) cg)) g5 [.int .i64 4, .int .i64 0, .string ⟨#[]⟩, .slice (some ⟨gg, 0, none⟩) (k + 1) cg] := ((HGd.out.step HBd1.out).below HB3.out hg5).set 3 (.slice (some ⟨gg, 0, none⟩) (k + 1) cg) (by simp)
                refine ⟨k + 1, (.slice (some ⟨gg, 0, none⟩) (k + 1) cg), hlt, by go_num, ?_, ?_, ?_⟩
                · with_reducible exact h1
                · with_reducible exact h2
                · with_reducible exact h3
              case measure => simp [intOf]; omega
            · skip
              refine build1 _ rfl (by rfl) ?_
              have r3b : (w1.alloc (.cells #[.int .i64 tk.kind, .int .i64 tk.n, .string tk.name, .slice at1 tk.args.length ct1] 29)).cell? ⟨g5, 3, none⟩ = some (.slice ar k cr) := ((below_alloc w1 _).cell (p := ⟨g5, 3, none⟩) (show g5 < w1.heap.size by omega)).trans r31
              refine hK.out _ _ (HQ.out _ ((Below.heap_alloc w1 _ _ (by omega)).trans E91.out)) (fun hHeld1 => ?_)
              clear hK K hHeld
              have hHeld := hHeld1
              clear hHeld1
              (try simp only [Act.put, List.setIfInBounds_toArray, List.set_cons_zero, List.set_cons_succ])
              refine rg_only (i := 1) rfl (by as_aux_lemma => kernel_rfl) (by rfl) (fun K hK => ?_)
              go_simp
              skip
              refine hK.out _ _ (hHeld) (fun hHeld1 => ?_)
              clear hK K hHeld
              have hHeld := hHeld1
              clear hHeld1
              (try simp only [Act.put, List.setIfInBounds_toArray, List.set_cons_zero, List.set_cons_succ])
              refine rg_only (i := 6) rfl (by as_aux_lemma => kernel_rfl) (by rfl) (fun K hK => ?_)
              refine wp_grow (v := .slice ar k cr) (n := k) (g0 := w1.heap.size) _ _ rfl rfl (by rfl) (by rfl) rfl (HOd.out.below HBd1.out) HRT1.out (fun z hz hl => ⟨by omega, fun he => by have := HOB.out z he; omega⟩) (by first | (rw [List.length_take]; omega) | (simp; omega)) (by omega) (by omega) ?_
              intro gg cg w3 hO3 hG3 hB3 hP3
              have hl3 := hB3.size
              have e9 := hG3.block g9 (by simp; omega) (fun he => by have := HOB.out _ he.symm; omega)
              have E93 : Hid (w3.heap[g9]? = W9.heap[g9]?) := Lib.hid (e9.trans ((Below.heap_alloc w1 _ _ (by omega)).trans E91.out))
              have r33 : w3.cell? ⟨g5, 3, none⟩ = some (.slice ar k cr) := (hB3.cell (p := ⟨g5, 3, none⟩) (show g5 < W5.heap.size by omega)).trans r31
              have rf3 := fun o => (hB3.frozen (p := ⟨g5, o, none⟩) (show g5 < W5.heap.size by omega)).trans ((HGd.out.step HBd1.out).fr o)
              have HO3 := Lib.hid hO3
              have HB3 := Lib.hid hB3
              clear hO3 hG3 hB3 hP3 e9
              refine hK.out _ _ (HQ.out _ E93.out) (fun hHeld1 => ?_)
              clear hK K hHeld
              have hHeld := hHeld1
              clear hHeld1
              (try simp only [Act.put, List.setIfInBounds_toArray, List.set_cons_zero, List.set_cons_succ])
              refine rg_take (i := 7) (v := ?_) rfl (by as_aux_lemma => kernel_rfl) (by as_aux_lemma => kernel_rfl) (by as_aux_lemma => kernel_rfl) (by rfl) ?_ hHeld ?_
              rotate_left 1
              · intro w hSw; (try dsimp only at hSw); go_simp; try (with_reducible rfl)
              (try simp only [Act.put, List.setIfInBounds_toArray, List.set_cons_zero, List.set_cons_succ])
              refine rg_only (i := 8) rfl (by as_aux_lemma => kernel_rfl) (by rfl) (fun K hK => ?_)
              go_simp
              skip
              refine hK.out _ _ (HQ.out _ ((setCell_other w3 g5 3 _ g9 (by omega)).trans E93.out)) (fun hHeld1 => ?_)
              clear hK K hHeld
              have hHeld := hHeld1
              clear hHeld1
              (try simp only [Act.put, List.setIfInBounds_toArray, List.set_cons_zero, List.set_cons_succ])
              refine rg_done (by as_aux_lemma => kernel_rfl) ?_
              clear hHeld
              go_wp2_with fail
              go_roundw
              case rel =>
                have h1 := HO3.out.setCell g5 3 (.slice (some ⟨gg, 0, none⟩) (k + 1) cg) hg5 (Nat.not_le.2 hg5)
                rw [HTK.out, ← HSN.out] at h1
                have h2 := ((HKd.out.then HBd1.out).thenB HB3.out).setCell (b := g5) (o := 3) (.slice (some ⟨gg, 0, none⟩) (k + 1) cg) (.inl rfl)
                have h3 : Blk (w3.setCell ⟨g5, 3, none⟩ (.slice (some ⟨gg, 0, none⟩) (k + 1) cg)) g5 [.int .i64 4, .int .i64 0, .string ⟨#[]⟩, .slice (some ⟨gg, 0, none⟩) (k + 1) cg] := ((HGd.out.step HBd1.out).below HB3.out hg5).set 3 (.slice (some ⟨gg, 0, none⟩) (k + 1) cg) (by simp)
                refine ⟨k + 1, (.slice (some ⟨gg, 0, none⟩) (k + 1) cg), hlt, by go_num, ?_, ?_, ?_⟩
                · with_reducible exact h1
                · with_reducible exact h2
                · with_reducible exact h3
              case measure => simp [intOf]; omega
        · have hkk : k = t.args.length := by omega
          subst hkk
          have HX4q := Lib.hid (HX45.out.keep HKq.out (by omega))
          have HTL : Hid (t.args.take t.args.length = t.args) := Lib.hid (List.take_of_length_le (Nat.le_refl _))
          go_wp2_with (first | (refine load_blk (o := ⟨some 48, .load 29 (.tmp 5), _, _, _, _⟩) 29 4 szTerm _ Try.underlying29 rfl _ rfl rfl rfl HGq.out rfl ?_) | (refine store_blk 29 4 szTerm _ _ rfl rfl rfl rfl rfl HX4q.out rfl rfl rfl ?_; intro W' hF hs' hBW hoth; have HF := Lib.hid hF; have HSZ := Lib.hid hs'; have HBW := Lib.hid hBW; have HOTH := Lib.hid hoth; clear hF hBW hoth hs'))
          refine bodyPost_ret (result_blk Try.results89 szTerm _ Try.underlying29 rfl rfl HF.out rfl) rfl ⟨ar, cr, ?_, HBW.out _ w (by omega) (HB5.out.trans (HKq.out.below (by omega) (fun b e => by omega))), ?_⟩
          · rw [HT.out]; rfl
          · have h1 := HO.out.rsl (fun b hb => hb)
            rw [HTL.out] at h1
            have h2 := (tupT_rt h1).to (S' := fun b => w.heap.size ≤ b) (w' := W') (fun b hb _ => by omega) fun b hb hl => HOTH.out b (by omega)
            have h3 : RT (fun b => w.heap.size ≤ b) W' t (.agg #[.int .i64 4, .int .i64 0, .string ⟨#[]⟩, .slice ar t.args.length cr]) := by rw [HT.out]; exact h2
            rw [HT.out]
            exact h2
    · obtain ⟨hk13, hs0, ha0, hxe⟩ := HXX.out.leaf hk4 hk2
      have k2 : (x.kind == 2) = false := by rw [HKK.out]; simpa using hk2
      have k4 : (x.kind == 4) = false := by rw [HKK.out]; simpa using hk4
      have HT : Hid (t = ⟨x.kind, x.n, ⟨#[]⟩, []⟩) := Lib.hid (by
        obtain ⟨k, n, s, l⟩ := t
        simp only at hs0 ha0 hxe
        rw [hs0, ha0, hxe])
      clear hk2 hk4 hk13 hs0 ha0 hxe
      go_enter Try.func89, Try.ntmps89
      go_upto_region 13 with fail
      rw [← HW0.out]
      have y0 := HX3.out.cell 0 _ rfl
      have y1 := HX3.out.cell 1 _ rfl
      go_wp2_with (refine store_blk 29 4 szTerm _ _ rfl rfl rfl rfl rfl HX4.out rfl rfl rfl ?_; intro W' hF hs' hBW hoth; have HF := Lib.hid hF; have HSZ := Lib.hid hs'; have HBW := Lib.hid hBW; have HOTH := Lib.hid hoth; clear hF hBW hoth hs')
      rw [HT.out]
      refine bodyPost_ret (result_blk Try.results89 szTerm _ Try.underlying29 rfl rfl HF.out rfl) rfl ⟨none, 0, rfl, HBW.out _ w (by omega) HB0.out, ?_⟩
      exact ⟨none, 0, rfl, ⟨Nat.le_refl _, fun _ => rfl⟩, by simp [RTs]⟩
end Go.Proofs.Ytedfepnekjjmnaa

/-
  What a put makes of a heap: plain lists, no program. No condition.
-/
namespace Go.Proofs.Ytedfepnekjjmnaa
open Go.RowKit
set_option linter.unusedSimpArgs false
set_option linter.unusedVariables false

/-- Blocks side by side. -/
structure Lay (l : List Wrd) : Prop where
  heads : ∀ (j : Nat) (n : Int), l[j]? = some ⟨0, n⟩ → ∃ k : Nat, n = k ∧ j + 1 + k ≤ l.length
  apart : ∀ (j k : Nat), l[j]? = some ⟨0, (k : Int)⟩ → ∀ m, j < m → m ≤ j + k → ∀ x, l[m]? = some x → x.kind ≠ 0
theorem Lay.nil : Lay [] := ⟨by simp, by simp⟩
theorem Lay.app {a b : List Wrd} (ha : Lay a) (hb : Lay b) : Lay (a ++ b) := by
  refine ⟨fun j n h => ?_, fun j k h m h1 h2 x hx => ?_⟩
  · by_cases hj : j < a.length
    · rw [List.getElem?_append_left hj] at h
      obtain ⟨k, h1, h2⟩ := ha.heads j n h
      exact ⟨k, h1, by rw [List.length_append]; omega⟩
    · rw [List.getElem?_append_right (by omega)] at h
      obtain ⟨k, h1, h2⟩ := hb.heads _ n h
      exact ⟨k, h1, by rw [List.length_append]; omega⟩
  · by_cases hj : j < a.length
    · rw [List.getElem?_append_left hj] at h
      obtain ⟨k', h3, h4⟩ := ha.heads j _ h
      obtain rfl : k = k' := Int.ofNat.inj h3
      rw [List.getElem?_append_left (by omega)] at hx
      exact ha.apart j k h m h1 h2 x hx
    · rw [List.getElem?_append_right (by omega)] at h hx
      exact hb.apart _ k h (m - a.length) (by omega) (by omega) x hx
theorem Lay.block {xs : List Wrd} (h : ∀ x ∈ xs, x.kind ≠ 0) : Lay (⟨0, (xs.length : Int)⟩ :: xs) := by
  refine ⟨fun j n hj => ?_, fun j k hj m h1 h2 x hx => ?_⟩
  · cases j with
    | zero =>
      have h1 := congrArg Wrd.n (Option.some.inj hj)
      exact ⟨xs.length, h1.symm, by simp; omega⟩
    | succ j =>
      have h1 : xs[j]? = some ⟨0, n⟩ := hj
      exact absurd rfl (h _ (List.mem_of_getElem? h1))
  · cases m with
    | zero => omega
    | succ m =>
      have h3 : xs[m]? = some x := hx
      exact h x (List.mem_of_getElem? h3)
def GoodAt (base : Nat) (l : List Wrd) (x : Wrd) : Prop := x.kind = 4 → ∃ j k : Nat, x.n = (base + j : Nat) ∧ l[j]? = some ⟨0, (k : Int)⟩ ∧ j + 1 + k ≤ l.length
theorem GoodAt.left {base : Nat} {a : List Wrd} {x : Wrd} (h : GoodAt base a x) (b : List Wrd) : GoodAt base (a ++ b) x := fun e => by
  obtain ⟨j, k, h1, h2, h3⟩ := h e
  exact ⟨j, k, h1, by rw [List.getElem?_append_left (by omega)]; exact h2, by rw [List.length_append]; omega⟩
theorem GoodAt.right {base : Nat} {a b : List Wrd} {x : Wrd} (h : GoodAt (base + a.length) b x) : GoodAt base (a ++ b) x := fun e => by
  obtain ⟨j, k, h1, h2, h3⟩ := h e
  exact ⟨a.length + j, k, by rw [h1]; congr 1; omega, by rw [List.getElem?_append_right (by omega), Nat.add_sub_cancel_left]; exact h2, by rw [List.length_append]; omega⟩
theorem WF.lay {H : HS} (h : WF H) : Lay H.ws := by
  refine ⟨fun j n hj => ?_, fun j k hj m h1 h2 x hx => ?_⟩
  · obtain ⟨hl, he⟩ := List.getElem?_eq_some_iff.1 hj
    have h1 := h.heads j hl (by rw [he])
    rw [he] at h1
    exact ⟨n.toNat, (Int.toNat_of_nonneg h1.1).symm, by have := h1.2; have h3 := h1.1; simp only at this h3; omega⟩
  · obtain ⟨hl, he⟩ := List.getElem?_eq_some_iff.1 hj
    have h3 := (h.heads j hl (by rw [he])).2
    rw [he] at h3
    refine h.apart j k ⟨hj, by simp only at h3; omega⟩ x ?_
    unfold partsL
    refine List.mem_of_getElem? (i := m - (j + 1)) ?_
    rw [List.getElem?_take_of_lt (by omega), List.getElem?_drop, ← hx]
    congr 1; omega
theorem WF.of {H : HS} (h : Lay H.ws) (hg : ∀ x ∈ H.ws, GoodAt 0 H.ws x) : WF H := by
  refine ⟨fun i hi hk => ?_, fun i k hi x hx => ?_, fun x hx e => ?_⟩
  · have h1 : H.ws[i]? = some ⟨0, H.ws[i].n⟩ := by rw [List.getElem?_eq_getElem hi]; congr 1; rw [← hk]
    obtain ⟨k, h2, h3⟩ := h.heads i _ h1
    rw [h2]; omega
  · unfold partsL at hx
    obtain ⟨m, hm⟩ := List.getElem?_of_mem hx
    have hmk : m < k := by
      have := (List.getElem?_eq_some_iff.1 hm).1
      rw [List.length_take] at this; omega
    rw [List.getElem?_take_of_lt hmk, List.getElem?_drop] at hm
    exact h.apart i k hi.1 _ (by omega) (by omega) x hm
  · obtain ⟨j, k, h1, h2, h3⟩ := hg x hx e
    exact ⟨j, k, by rw [h1]; simp, h2, h3⟩
theorem WF.goodAt {H : HS} (h : WF H) {x : Wrd} (hx : GoodW H x) : GoodAt 0 H.ws x := fun e => by
  obtain ⟨i, k, h1, h2⟩ := hx e
  exact ⟨i, k, by rw [h1]; simp, h2.1, h2.2⟩
/-- A heap grown by blocks. -/
theorem WF.grow {H : HS} (h : WF H) {new : List Wrd} (nm : List ByteArray) (hl : Lay new) (hg : ∀ x ∈ new, GoodAt H.ws.length new x) : WF ⟨H.ws ++ new, nm⟩ := by
  refine WF.of (h.lay.app hl) fun x hx => ?_
  rcases List.mem_append.1 hx with hx | hx
  · exact (h.goodAt (h.good x hx)).left _
  · refine GoodAt.right ?_
    rw [Nat.zero_add]; exact hg x hx
/-- Terms as Put takes them. -/
def OkL : List T → Prop
  | [] => True
  | ⟨k, n, s, l⟩ :: ts => (if k = 4 then n = 0 ∧ s = ⟨#[]⟩ ∧ OkL l else if k = 2 then n = 0 ∧ l = [] else (k = 1 ∨ k = 3) ∧ s = ⟨#[]⟩ ∧ l = []) ∧ OkL ts
def OkT (t : T) : Prop := if t.kind = 4 then t.n = 0 ∧ t.name = ⟨#[]⟩ ∧ OkL t.args else if t.kind = 2 then t.n = 0 ∧ t.args = [] else (t.kind = 1 ∨ t.kind = 3) ∧ t.name = ⟨#[]⟩ ∧ t.args = []
theorem OkL_cons (t : T) (ts : List T) : OkL (t :: ts) ↔ OkT t ∧ OkL ts := by obtain ⟨k, n, s, l⟩ := t; rw [OkL]; rfl

/-- A heap that holds these words there, and these names. -/
structure Agree (K : HS) (base : Nat) (new : List Wrd) (nm : List ByteArray) : Prop where
  ws : ∀ (j : Nat) (x : Wrd), new[j]? = some x → K.ws[base + j]? = some x
  len : base + new.length ≤ K.ws.length
  nm : ∀ (j : Nat) (s : ByteArray), nm[j]? = some s → K.names[j]? = some s
theorem Agree.left {K : HS} {base : Nat} {a b : List Wrd} {nm more : List ByteArray} (h : Agree K base (a ++ b) (nm ++ more)) : Agree K base a nm := by
  have hl := h.len
  rw [List.length_append] at hl
  refine ⟨fun j x hx => h.ws j x ?_, by omega, fun j s hs => h.nm j s ?_⟩
  · rw [List.getElem?_append_left (List.getElem?_eq_some_iff.1 hx).1]; exact hx
  · rw [List.getElem?_append_left (List.getElem?_eq_some_iff.1 hs).1]; exact hs
theorem Agree.right {K : HS} {base : Nat} {a b : List Wrd} {nm : List ByteArray} (h : Agree K base (a ++ b) nm) : Agree K (base + a.length) b nm := by
  have hl := h.len
  rw [List.length_append] at hl
  refine ⟨fun j x hx => ?_, by omega, h.nm⟩
  rw [Nat.add_assoc]
  refine h.ws _ x ?_
  rw [List.getElem?_append_right (by omega), Nat.add_sub_cancel_left]; exact hx
def PutS (H : HS) (t : T) : Prop := ∃ new more, (putW H t).2.ws = H.ws ++ new ∧ (putW H t).2.names = H.names ++ more ∧ Lay new ∧ (∀ x ∈ new, GoodAt H.ws.length new x) ∧ (putW H t).1.kind ≠ 0 ∧ GoodAt H.ws.length new (putW H t).1 ∧
  ∀ K, Agree K H.ws.length new (H.names ++ more) → Rep K t (putW H t).1
def PutL (i : Nat) (H : HS) (ts : List T) : Prop := ∃ xs new more, (putA i H ts).ws = (H.ws.take i ++ (xs ++ H.ws.drop (i + ts.length))) ++ new ∧ (putA i H ts).names = H.names ++ more ∧ xs.length = ts.length ∧ Lay new ∧ (∀ x ∈ new, GoodAt H.ws.length new x) ∧
  (∀ x ∈ xs, x.kind ≠ 0 ∧ GoodAt H.ws.length new x) ∧ ∀ K, Agree K H.ws.length new (H.names ++ more) → RepL K ts xs
theorem putL_of : ∀ (ts : List T), (∀ u ∈ ts, OkT u → ∀ H, PutS H u) → OkL ts → ∀ (i : Nat) (H : HS), i + ts.length ≤ H.ws.length → PutL i H ts
  | [], _, _, i, H, hi => ⟨[], [], [], by rw [putA_nil]; simp, by rw [putA_nil]; simp, rfl, Lay.nil, by simp, by simp, fun K _ => by rw [RepL_nil]⟩
  | t :: ts, hu, ho, i, H, hi => by
    obtain ⟨ho1, ho2⟩ := (OkL_cons t ts).1 ho
    rw [List.length_cons] at hi
    obtain ⟨n1, m1, a1, a2, a3, a4, a5, a6, a7⟩ := hu t (by simp) ho1 H
    have hws : (putW H t).2.ws.set i (putW H t).1 = H.ws.set i (putW H t).1 ++ n1 := by rw [a1, List.set_append_left _ _ (by omega)]
    obtain ⟨xs, n2, m2, b1, b2, b3, b4, b5, b6, b7⟩ := putL_of ts (fun u h => hu u (by simp [h])) ho2 (i + 1) ⟨(putW H t).2.ws.set i (putW H t).1, (putW H t).2.names⟩ (by rw [hws]; simp; omega)
    have hlen : ((putW H t).2.ws.set i (putW H t).1).length = H.ws.length + n1.length := by rw [hws]; simp
    simp only [hlen] at b5 b6 b7
    refine ⟨(putW H t).1 :: xs, n1 ++ n2, m1 ++ m2, ?_, ?_, by simp [b3], a3.app b4, ?_, ?_, ?_⟩
    · rw [putA_cons, b1]
      simp only [hws]
      have h1 : (H.ws.set i (putW H t).1 ++ n1).take (i + 1) = H.ws.take i ++ [(putW H t).1] := by
        rw [List.take_append_of_le_length (by simp; omega), List.take_succ_eq_append_getElem (by simp; omega), List.take_set_of_le (by omega), List.getElem_set_self]
      have h2 : (H.ws.set i (putW H t).1 ++ n1).drop (i + 1 + ts.length) = H.ws.drop (i + (ts.length + 1)) ++ n1 := by
        rw [List.drop_append_of_le_length (by simp; omega), List.drop_set_of_lt (by omega)]
        congr 2; omega
      rw [h1, h2]
      simp
    · rw [putA_cons, b2]
      simp only [a2, List.append_assoc]
    · intro x hx
      rcases List.mem_append.1 hx with hx | hx
      · exact (a4 x hx).left _
      · exact (b5 x hx).right
    · intro x hx
      rcases List.mem_cons.1 hx with hx | hx
      · rw [hx]; exact ⟨a5, a6.left _⟩
      · exact ⟨(b6 x hx).1, (b6 x hx).2.right⟩
    · intro K hK
      rw [← List.append_assoc] at hK
      refine (RepL_cons K t ts _).2 ⟨_, xs, rfl, a7 K hK.left, b7 K ?_⟩
      rw [a2]
      exact hK.right
theorem atomH_at (s : ByteArray) (l : List ByteArray) : ∃ (i : Nat) (more : List ByteArray), (atomH s l).1 = i ∧ (atomH s l).2 = l ++ more ∧ (l ++ more)[i]? = some s := by
  unfold atomH
  rcases nameI_cases s l with ⟨h, -⟩ | ⟨k, hk, h, he⟩
  · rw [h]; exact ⟨l.length, [s], rfl, rfl, by simp⟩
  · rw [h, if_neg (by omega)]
    exact ⟨k, [], rfl, by simp, by rw [List.append_nil, List.getElem?_eq_getElem hk, he]⟩
theorem putW_says : ∀ (t : T), OkT t → ∀ (H : HS), PutS H t := by
  intro t
  induction t using T.ind with
  | h t ih =>
    intro ho H
    unfold OkT at ho
    unfold PutS putW
    by_cases h2 : t.kind = 2
    · rw [if_neg (by omega), if_pos h2] at ho
      rw [if_pos h2]
      obtain ⟨i, more, e1, e2, e3⟩ := atomH_at t.name H.names
      refine ⟨[], more, by simp, e2, Lay.nil, by simp, by simp, fun e => absurd (show (2 : Int) = 4 from e) (by decide), fun K hK => ?_⟩
      unfold Rep
      rw [if_neg (by omega), if_pos h2]
      exact ⟨ho.1, ho.2, i, by show (⟨2, (atomH t.name H.names).1⟩ : Wrd) = _; rw [e1], hK.nm i _ e3⟩
    · rw [if_neg h2]
      by_cases h4 : t.kind = 4
      · rw [if_pos h4] at ho
        rw [if_pos h4]
        obtain ⟨xs, n1, more, b1, b2, b3, b4, b5, b6, b7⟩ := putL_of t.args ih ho.2.2 (H.ws.length + 1) ⟨H.ws ++ (⟨0, t.args.length⟩ :: List.replicate t.args.length ⟨0, 0⟩), H.names⟩ (by simp; omega)
        have hlen : (H.ws ++ ((⟨0, (t.args.length : Int)⟩ : Wrd) :: List.replicate t.args.length ⟨0, 0⟩)).length = H.ws.length + ((⟨0, (xs.length : Int)⟩ : Wrd) :: xs).length := by simp [b3]
        simp only [hlen] at b5 b6 b7
        have hw : (H.ws ++ ((⟨0, (t.args.length : Int)⟩ : Wrd) :: List.replicate t.args.length ⟨0, 0⟩)).take (H.ws.length + 1) = H.ws ++ [⟨0, (xs.length : Int)⟩] := by
          rw [List.take_append, List.take_of_length_le (by omega), Nat.add_sub_cancel_left, List.take_succ_cons, List.take_zero, b3]
        have hd : (H.ws ++ ((⟨0, (t.args.length : Int)⟩ : Wrd) :: List.replicate t.args.length ⟨0, 0⟩)).drop (H.ws.length + 1 + t.args.length) = [] := List.drop_eq_nil_of_le (by simp; omega)
        refine ⟨(⟨0, (xs.length : Int)⟩ :: xs) ++ n1, more, ?_, b2, (Lay.block fun x hx => (b6 x hx).1).app b4, ?_, by show (4 : Int) ≠ 0; decide, ?_, ?_⟩
        · show (putA (H.ws.length + 1) _ t.args).ws = _
          rw [b1]
          simp only [hw, hd]
          simp
        · intro x hx
          rcases List.mem_append.1 hx with hx | hx
          · rcases List.mem_cons.1 hx with hx | hx
            · rw [hx]; exact fun e => absurd (show (0 : Int) = 4 from e) (by decide)
            · exact (b6 x hx).2.right
          · exact (b5 x hx).right
        · exact fun _ => ⟨0, xs.length, by simp, rfl, by simp; omega⟩
        · intro K hK
          have hx := b7 K hK.right
          unfold Rep
          rw [if_pos h4]
          have hlk := hK.len
          simp only [List.length_append, List.length_cons] at hlk
          have hp : partsL K H.ws.length t.args.length = xs := by
            unfold partsL
            apply List.ext_getElem?
            intro j
            by_cases hj : j < t.args.length
            · rw [List.getElem?_take_of_lt hj, List.getElem?_drop]
              have hj' : j < xs.length := by omega
              have h1 := hK.ws (j + 1) xs[j] (by rw [List.getElem?_append_left (by simp; omega), List.getElem?_cons_succ, List.getElem?_eq_getElem hj'])
              rw [List.getElem?_eq_getElem hj', ← h1]
              congr 1; omega
            · rw [List.getElem?_eq_none (by rw [List.length_take]; omega), List.getElem?_eq_none (by omega)]
          refine ⟨ho.1, ho.2.1, H.ws.length, rfl, ?_, by omega, by rw [hp]; exact hx⟩
          have h1 := hK.ws 0 ⟨0, (xs.length : Int)⟩ rfl
          rw [Nat.add_zero, b3] at h1
          exact h1
      · rw [if_neg h4, if_neg h2] at ho
        rw [if_neg h4]
        refine ⟨[], [], by simp, by simp, Lay.nil, by simp, ?_, fun e => absurd e h4, fun K _ => ?_⟩
        · rcases ho.1 with h | h <;> rw [show ((⟨t.kind, t.n⟩ : Wrd), H).1.kind = t.kind from rfl, h] <;> decide
        · unfold Rep
          rw [if_neg h4, if_neg h2]
          exact ⟨ho.1, ho.2.1, ho.2.2, rfl⟩
end Go.Proofs.Ytedfepnekjjmnaa

/-
  A put: what stood stands, the new word stands for the term; a collection is no longer than its heap. No condition.
-/
namespace Go.Proofs.Ytedfepnekjjmnaa
open Go.RowKit
set_option linter.unusedSimpArgs false
set_option linter.unusedVariables false

theorem partsL_app {H : HS} {i k : Nat} (new : List Wrd) (nm : List ByteArray) (h : i + 1 + k ≤ H.ws.length) : partsL ⟨H.ws ++ new, nm⟩ i k = partsL H i k := by
  unfold partsL
  show ((H.ws ++ new).drop (i + 1)).take k = _
  rw [List.drop_append_of_le_length (by omega), List.take_append_of_le_length (by rw [List.length_drop]; omega)]
theorem Rep.app {H : HS} (new : List Wrd) (more : List ByteArray) : ∀ (t : T) (x : Wrd), Rep H t x → Rep ⟨H.ws ++ new, H.names ++ more⟩ t x := by
  intro t
  induction t using T.ind with
  | h t ih =>
    intro x hr
    unfold Rep at hr ⊢
    by_cases e4 : t.kind = 4
    · rw [if_pos e4] at hr ⊢
      obtain ⟨hn, hs, i, rfl, hw, hl, hp⟩ := hr
      refine ⟨hn, hs, i, rfl, ?_, by show _ ≤ (H.ws ++ new).length; rw [List.length_append]; omega, ?_⟩
      · show (H.ws ++ new)[i]? = _
        rw [List.getElem?_append_left (by omega)]; exact hw
      · rw [partsL_app new _ hl]
        have hpl := hp.length
        exact RepL.of hpl fun j h1 h2 => ih _ (List.getElem_mem h1) _ (hp.at j h1 h2)
    · rw [if_neg e4] at hr ⊢
      by_cases e2 : t.kind = 2
      · rw [if_pos e2] at hr ⊢
        obtain ⟨h1, h2, i, rfl, h3⟩ := hr
        refine ⟨h1, h2, i, rfl, ?_⟩
        show (H.names ++ more)[i]? = _
        rw [List.getElem?_append_left (List.getElem?_eq_some_iff.1 h3).1]; exact h3
      · rw [if_neg e2] at hr ⊢
        exact hr
/-- What a put makes. -/
structure PutR (H : HS) (t : T) (x : Wrd) (H' : HS) : Prop where
  wf : WF H'
  rep : Rep H' t x
  good : GoodW H' x
  old : ∀ u y, Rep H u y → Rep H' u y
  oldg : ∀ y, GoodW H y → GoodW H' y
theorem GoodW.app {H : HS} {x : Wrd} (h : GoodW H x) (new : List Wrd) (nm : List ByteArray) : GoodW ⟨H.ws ++ new, nm⟩ x := fun e => by
  obtain ⟨i, k, h1, h2, h3⟩ := h e
  exact ⟨i, k, h1, by show (H.ws ++ new)[i]? = _; rw [List.getElem?_append_left (by omega)]; exact h2, by show _ ≤ (H.ws ++ new).length; rw [List.length_append]; omega⟩
theorem putW_R {H : HS} (hW : WF H) {t : T} (ho : OkT t) : PutR H t (putW H t).1 (putW H t).2 := by
  obtain ⟨new, more, h1, h2, h3, h4, h5, h6, h7⟩ := putW_says t ho H
  have he : (putW H t).2 = ⟨H.ws ++ new, H.names ++ more⟩ := by rw [← h1, ← h2]
  have hA : Agree ⟨H.ws ++ new, H.names ++ more⟩ H.ws.length new (H.names ++ more) := ⟨fun j x hx => by
    show (H.ws ++ new)[H.ws.length + j]? = _
    rw [List.getElem?_append_right (by omega), Nat.add_sub_cancel_left]; exact hx, by show _ ≤ (H.ws ++ new).length; rw [List.length_append]; omega, fun j s hs => hs⟩
  rw [he]
  refine ⟨hW.grow _ h3 h4, h7 _ hA, fun e => ?_, fun u y hr => hr.app new more, fun y hy => hy.app new _⟩
  obtain ⟨j, k, g1, g2, g3⟩ := h6 e
  refine ⟨H.ws.length + j, k, g1, ?_, ?_⟩
  · show (H.ws ++ new)[H.ws.length + j]? = _
    rw [List.getElem?_append_right (by omega), Nat.add_sub_cancel_left]; exact g2
  · show _ ≤ (H.ws ++ new).length
    rw [List.length_append]; omega
/-- A collection is no longer than its heap. -/
def span (H : HS) (ks : List Nat) : List Nat := ks.flatMap fun i => List.range' i (1 + kN H i)
theorem span_nodup {H : HS} (hW : WF H) : ∀ (ks : List Nat), (∀ i ∈ ks, Hd H i (kN H i)) → ks.Nodup → (span H ks).Nodup
  | [], _, _ => by simp [span]
  | j :: ks, hd, nd => by
    have nd' := List.nodup_cons.1 nd
    rw [show span H (j :: ks) = List.range' j (1 + kN H j) ++ span H ks by simp [span], List.nodup_append]
    refine ⟨List.nodup_range', span_nodup hW ks (fun i hi => hd i (by simp [hi])) nd'.2, fun a ha b hb e => ?_⟩
    subst e
    unfold span at hb
    obtain ⟨i, hi, hb⟩ := List.mem_flatMap.1 hb
    rw [List.mem_range'_1] at ha hb
    have hne : j ≠ i := fun e => nd'.1 (e ▸ hi)
    have hdj := hd j (by simp)
    have hdi := hd i (by simp [hi])
    by_cases hlt : j < i
    · exact hW.lay.apart j _ hdj.1 i hlt (by omega) _ hdi.1 rfl
    · exact hW.lay.apart i _ hdi.1 j (by omega) (by omega) _ hdj.1 rfl
theorem raw_le {H : HS} (hW : WF H) (ks : List Nat) (hd : ∀ i ∈ ks, Hd H i (kN H i)) (nd : ks.Nodup) : (raw H ks).length ≤ H.ws.length := by
  have h1 := pigeon H.ws.length (span H ks) (span_nodup hW ks hd nd) fun x hx => by
    unfold span at hx
    obtain ⟨i, hi, hx⟩ := List.mem_flatMap.1 hx
    rw [List.mem_range'_1] at hx
    have := (hd i hi).2
    omega
  have h2 : (span H ks).length = (ks.map fun i => 1 + kN H i).sum := by
    unfold span; rw [List.length_flatMap]; simp
  rw [raw_len ks hd]; omega
theorem ChInv.le {H : HS} (hW : WF H) {ks : List Nat} {s : Nat} {st : CS} (h : ChInv H ks s st) : st.tw.length ≤ H.ws.length := by
  rw [h.len]; exact raw_le hW ks h.hd h.nd
theorem ChInv.good {H : HS} (hW : WF H) {ks : List Nat} {s : Nat} {st : CS} (h : ChInv H ks s st) : ∀ x ∈ raw H ks, GoodW H x := fun x hx => by
  unfold raw at hx
  obtain ⟨i, hi, hx⟩ := List.mem_flatMap.1 hx
  unfold blkL at hx
  rcases List.mem_cons.1 hx with hx | hx
  · rw [hx]; exact fun e => absurd (show (0 : Int) = 4 from e) (by decide)
  · exact hW.parts hx
end Go.Proofs.Ytedfepnekjjmnaa
