/-
  code.act: the act that a term tells. No condition but a bound.
-/
import Derived.Deep.RegionHeld3
import Derived.Test.YtedfepnekjjmnabGreatJc
import Derived.Test.YtedfepnekjjmnabGreatJb
import Derived.Test.YtedfepnekjjmnabGreatJd
namespace Go.Proofs.YtedfepnekjjmnabGreat
open Go.RowKit
set_option linter.unusedSimpArgs false
set_option linter.unusedVariables false
set_option maxRecDepth 100000
set_option maxHeartbeats 400000
theorem RestP.none {S:Nat→Prop} {w w':World} {s:ByteArray} {t:T} {e:Ending} (h:RestP S w s t e w') (hr:restL s t=none):∃ a cap,e=.returned (.tuple #[.slice a 0 cap,.bool false])∧Below w.heap.size w w':=by
 obtain ⟨a,cap,he,hB,-⟩:=h
 rw [hr] at he
 exact ⟨a,cap,he,hB⟩
theorem RestP.yes {S:Nat→Prop} {w w':World} {s:ByteArray} {t:T} {e:Ending} {l:List T} (h:RestP S w s t e w') (hr:restL s t=some l):∃ a cap,e=.returned (.tuple #[.slice a l.length cap,.bool true])∧Below w.heap.size w w'∧RSl S w' l (.slice a l.length cap):=by
 obtain ⟨a,cap,he,hB,hR⟩:=h
 rw [hr] at he hR
 exact ⟨a,cap,he,hB,hR⟩
end Go.Proofs.YtedfepnekjjmnabGreat
