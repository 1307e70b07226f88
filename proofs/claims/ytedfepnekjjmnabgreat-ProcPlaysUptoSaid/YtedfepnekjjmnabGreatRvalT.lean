/-
  clerkref.value on tuples, and in all.
-/
import Derived.Test.YtedfepnekjjmnabGreatJc
namespace Go.Proofs.YtedfepnekjjmnabGreat
open Go.RowKit
set_option linter.unusedSimpArgs false
set_option linter.unusedVariables false
set_option maxRecDepth 100000
set_option maxHeartbeats 400000
section
variable {bd:List T} {self:Int} {x:T} {S:Nat→Prop} {w:World} {v vb:Value}
end
end Go.Proofs.YtedfepnekjjmnabGreat
