/-
 clerkref.Check: what it answers. No condition but a bound on how much there is.
-/
import Derived.Test.YtedfepnekjjmnabJb
namespace Go.Proofs.Ytedfepnekjjmnab
open Go.RowKit
set_option linter.unusedSimpArgs false
set_option linter.unusedVariables false

end Go.Proofs.Ytedfepnekjjmnab
