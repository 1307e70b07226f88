/-
  code.act, one case of it. No condition but a bound.
-/
import Derived.Test.YtedfepnekjjmnabGreatAct
import Derived.Test.YtedfepnekjjmnabGreatJc
namespace Go.Proofs.YtedfepnekjjmnabGreat
open Go.RowKit
set_option linter.unusedSimpArgs false
set_option linter.unusedVariables false
set_option maxRecDepth 100000
set_option maxHeartbeats 400000

end Go.Proofs.YtedfepnekjjmnabGreat
