/-
  clerkref.Is, reckon.is: is a tuple one of a word, and so many others? No condition but bounds.
-/
import Derived.Test.YtedfepnekjjmnabDoorRow
namespace Go.Proofs.YtedfepnekjjmnabDoor
open Go.RowKit
set_option linter.unusedSimpArgs false
set_option linter.unusedVariables false

def headIs (s : ByteArray) : List T → Bool
  | [] => false
  | y :: _ => y.kind == 2 && y.name.toList == s.toList
def isT (x : T) (s : ByteArray) (n : Int) : Bool := x.kind == 4 && decide ((x.args.length : Int) = n + 1) && headIs s x.args
theorem isT_kind {x : T} {s : ByteArray} {n : Int} (h : (x.kind == 4) = false) : isT x s n = false := by simp [isT, h]
theorem isT_len {x : T} {s : ByteArray} {n : Int} (h : (x.args.length : Int) ≠ n + 1) : isT x s n = false := by simp [isT, h]
theorem headIs_at (s : ByteArray) (l : List T) (h : 0 < l.length) : headIs s l = (l[0].kind == 2 && l[0].name.toList == s.toList) := by
  cases l with
  | nil => cases h
  | cons y l => rfl

end Go.Proofs.YtedfepnekjjmnabDoor
