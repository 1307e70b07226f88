/-
  match.Bound, clerkref.Bound: may these be what variables are bound to? No condition but a bound on how much there is.
-/
import Derived.Test.YtedfepnekjjmnabDoorRCheck
namespace Go.Proofs.YtedfepnekjjmnabDoor
open Go.RowKit
set_option linter.unusedSimpArgs false
set_option linter.unusedVariables false

def bndB (t : T) : Bool := checkE t == 0 && (t.kind == 6 || closedL [t])
def boundB (l : List T) : Bool := l.length == 4 && l.all bndB
theorem boundB_any (l : List T) : boundB l = (l.length == 4 && !(l.any fun t => !bndB t)) := by
  rw [boundB]; congr 1; induction l with
  | nil => rfl
  | cons t l ih => simp only [List.all_cons, List.any_cons, Bool.not_or, Bool.not_not, ih]

end Go.Proofs.YtedfepnekjjmnabDoor
