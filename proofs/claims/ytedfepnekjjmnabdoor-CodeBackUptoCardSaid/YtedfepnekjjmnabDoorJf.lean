/-
  clerkref.To: its question whether a term is none; what it hands back. No condition but a bound.
-/
import Derived.Test.YtedfepnekjjmnabDoorActT
import Derived.Test.YtedfepnekjjmnabDoorJc
import Derived.Test.YtedfepnekjjmnabDoorClause
import Derived.Test.YtedfepnekjjmnabDoorRCheck
import Derived.Test.YtedfepnekjjmnabDoorJa
namespace Go.Proofs.YtedfepnekjjmnabDoor
open Go.RowKit
set_option linter.unusedSimpArgs false
set_option linter.unusedVariables false
set_option maxRecDepth 100000

theorem RT.none0 {S : Nat → Prop} {w : World} : RT S w zeroT (.agg #[.int .i64 0, .int .i64 0, .string ⟨#[]⟩, .slice none 0 0]) := ⟨none, 0, rfl, ⟨Nat.le_refl _, fun _ => rfl⟩, by simp [zeroT, RTs]⟩
theorem emptyB_same (t : T) : sameT t zeroT = emptyB t := by
  cases h : emptyB t
  · cases h2 : sameT t zeroT
    · rfl
    · rw [(emptyB_iff t).2 ((sameT_iff t zeroT).1 h2)] at h; cases h
  · exact (sameT_iff t zeroT).2 ((emptyB_iff t).1 h)
set_option maxHeartbeats 1000000 in
theorem rnone_c (t : T) (a : Option Addr) (cap : Nat) (S : Nat → Prop) (w : World) (hv : RT S w t (.agg #[.int .i64 t.kind, .int .i64 t.n, .string t.name, .slice a t.args.length cap])) (hb : bulkL [t] ≤ 1099511627776) :
    Calls Tryd.prog 58 #[.agg #[.int .i64 t.kind, .int .i64 t.n, .string t.name, .slice a t.args.length cap]] w fun e w' => e = .returned (.bool (emptyB t)) ∧ Below w.heap.size w w' := by
  have HV := Lib.hid (hv.alloc (.cells #[.int .i64 t.kind, .int .i64 t.n, .string t.name, .slice a t.args.length cap] 24))
  have HB := Lib.hid (below_alloc w (.cells #[.int .i64 t.kind, .int .i64 t.n, .string t.name, .slice a t.args.length cap] 24))
  have HE := Lib.hid (emptyB_same t)
  clear hv
  go_enter Tryd.func58, Tryd.ntmps58
  go_wp2_with fail
  refine (same_c t zeroT S _ _ _ HV.out RT.none0 (by omega) (by simp [zeroT, bulkL_cons, bulkL, ByteArray.size])).mono ?_
  rw [HE.out]
  rintro e w1 ⟨rfl, hB1⟩
  go_wp2_with fail
  go_ret
  exact ⟨rfl, below_step HB.out (by simp) hB1⟩
/-- What the reference's To hands back: a term, some of it in old memory, and an error. -/
def RToPost (w : World) (r : T × Int) (e : Ending) (w' : World) : Prop :=
  ∃ a cap, e = .returned (.tuple #[.agg #[.int .i64 r.1.kind, .int .i64 r.1.n, .string r.1.name, .slice a r.1.args.length cap], .int .i64 r.2]) ∧ Below w.heap.size w w' ∧ RT (fun b => b < w'.heap.size) w' r.1 (.agg #[.int .i64 r.1.kind, .int .i64 r.1.n, .string r.1.name, .slice a r.1.args.length cap])
section
variable {ops : Array Oper} {rest : List Oper} {o : Oper} {a : Act} {Q : Exit → Act → World → Prop}
theorem append_grow2 (s x : Operand) (hgd : o.guard = none) (ho : o.op = .call { callee := .builtin .append, args := #[s, x], argTypes := #[22, 22] })
    {P R : Nat → Prop} {base : Nat} {w0 : World} {v : Value} {ts : List T} {t : T} {c0 c1 c2 c3 : Value} {g0 n : Nat} (hs : a.eval s = v) (hx : a.eval x = .slice (some ⟨g0, 0, none⟩) 1 1) (hg0 : g0 = w0.heap.size) (hown : OwnG P base w0 v ts)
    (ht : RT R w0 t (.agg #[c0, c1, c2, c3])) (hR : ∀ b, R b → b < w0.heap.size → P b ∧ v.ownBlock ≠ some b) (hnl : ts.length = n) (hn : n + 1 ≤ 1099511627776) (hbase : base ≤ w0.heap.size)
    (h : ∀ g cap w', OwnG P base w' (.slice (some ⟨g, 0, none⟩) (n + 1) cap) (ts ++ [t]) → (w0.alloc (.cells #[c0, c1, c2, c3] 24)).grownBy w' v.ownBlock → Below base w0 w' → (v.ownBlock = some g ∨ w0.heap.size < g) → wpList Tryd.prog ops Q rest (a.put o.dst (.slice (some ⟨g, 0, none⟩) (n + 1) cap)) w') :
    wpList Tryd.prog ops Q (o :: rest) a (w0.alloc (.cells #[c0, c1, c2, c3] 24)) :=
  wpList_plain hgd fun K hK => wp_grow s x hgd ho hs hx hg0 hown ht hR hnl hn hbase fun g cap w' h1 h2 h3 h4 => hK _ _ (h g cap w' h1 h2 h3 h4)
end
end Go.Proofs.YtedfepnekjjmnabDoor
