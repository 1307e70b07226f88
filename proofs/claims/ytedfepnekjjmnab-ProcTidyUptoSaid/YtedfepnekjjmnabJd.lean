/-
 code.act: the act that a term tells. No condition but a bound.
-/
import Derived.Test.YtedfepnekjjmnabAct1
import Derived.Test.YtedfepnekjjmnabAct2
namespace Go.Proofs.Ytedfepnekjjmnab
open Go.RowKit
set_option linter.unusedSimpArgs false
set_option linter.unusedVariables false
set_option maxRecDepth 100000

end Go.Proofs.Ytedfepnekjjmnab
