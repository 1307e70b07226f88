/-
  code.act: the act that a term tells. No condition but a bound.
-/
import Derived.Test.YtedfepnekjjmnaaJf
import Derived.Test.YtedfepnekjjmnaaAct2
namespace Go.Proofs.Ytedfepnekjjmnaa
open Go.RowKit
set_option linter.unusedSimpArgs false
set_option linter.unusedVariables false
set_option maxRecDepth 100000

theorem cact_c (t : T) (S : Nat → Prop) (w : World) (v : Value) (hv : RT S w t v) (hb : bulkL [t] ≤ 1099511627776) : Calls Try.prog 119 #[v] w (ActP w t) := by
  rcases word_cases t with ⟨l, h1, h2, h3, h4⟩ | ⟨l, h1, h2, h3, h4⟩ | ⟨l, h1, h2, h3, h4⟩ | ⟨l, h1, h2, h3, h4⟩ | ⟨h1, h2, h3, h4⟩
  · exact cact_send t S w v hv hb l h1 h2 h3 h4
  · exact cact_spawn t S w v hv hb l h1 h2 h3 h4
  · exact cact_link t S w v hv hb l h1 h2 h3 h4
  · exact cact_stop t S w v hv hb l h1 h2 h3 h4
  · exact cact_none t S w v hv hb h1 h2 h3 h4
end Go.Proofs.Ytedfepnekjjmnaa
