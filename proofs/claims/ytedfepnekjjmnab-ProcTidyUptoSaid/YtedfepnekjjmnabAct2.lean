/-
 code.act, one case of it. No condition but a bound.
-/
import Derived.Test.YtedfepnekjjmnabAct
import Derived.Test.YtedfepnekjjmnabJc
namespace Go.Proofs.Ytedfepnekjjmnab
open Go.RowKit
set_option linter.unusedSimpArgs false
set_option linter.unusedVariables false
set_option maxRecDepth 100000

end Go.Proofs.Ytedfepnekjjmnab
