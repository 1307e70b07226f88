/-
  keep.small: the small program, and how it lies. No condition.
-/
import Derived.Deep.DeepCutAuto
import Derived.Test.YtedfepnekjjmnabGreatJc
import Derived.Test.YtedfepnekjjmnabGreatJb
namespace Go.Proofs.YtedfepnekjjmnabGreat
open Go.RowKit
set_option linter.unusedSimpArgs false
set_option linter.unusedVariables false
set_option maxRecDepth 100000
set_option maxHeartbeats 400000
theorem CellsT.one {S:Nat→Prop} {w:World} {t:T} {ts:List T} {cs:List Value} {c0 c1 c2 c3:Value} (ht:RT S w t (.agg #[c0,c1,c2,c3])) (h:CellsT S w ts cs):CellsT S w (t :: ts) (c0 :: c1 :: c2 :: c3 :: cs):=by
 obtain ⟨a,cap,e,h1,h2⟩:=ht
 simp only [Value.agg.injEq,Array.mk.injEq,List.cons.injEq,and_true] at e
 obtain ⟨rfl,rfl,rfl,rfl⟩:=e
 exact ⟨a,cap,cs,rfl,h1,h2,h⟩
end Go.Proofs.YtedfepnekjjmnabGreat
