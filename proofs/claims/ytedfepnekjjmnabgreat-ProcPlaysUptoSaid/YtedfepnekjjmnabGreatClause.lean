/-
  code.clause: the clause that a term tells. No condition but a bound.
-/
import Derived.Deep.DeepCutAuto
import Derived.Test.YtedfepnekjjmnabGreatJe
import Derived.Test.YtedfepnekjjmnabGreatJa
namespace Go.Proofs.YtedfepnekjjmnabGreat
open Go.RowKit
set_option linter.unusedSimpArgs false
set_option linter.unusedVariables false
set_option maxRecDepth 100000
set_option maxHeartbeats 400000
def TellP {X:Type} (E:El X) (f:T→Option X) (w:World) (t:T) (e:Ending) (w':World):Prop :=
 ∃ (x:X) (cs:List Value),e=.returned (.tuple #[.agg cs.toArray,.bool (f t).isSome])∧Below w.heap.size w w'∧E.C (fun b=>w.heap.size≤b) w' x cs∧∀ x',f t=some x'→x'=x
def zeroClau:Clau:=⟨yJ,yJ,[],yJ⟩
theorem zeroClau_c (S:Nat→Prop) (w:World):clauC S w zeroClau [.int .i64 0,.int .i64 0,.string ⟨#[]⟩,.slice none 0 0,.int .i64 0,.int .i64 0,.string ⟨#[]⟩,.slice none 0 0,.slice none 0 0,.int .i64 0,.int .i64 0,.string ⟨#[]⟩,.slice none 0 0] :=
 ⟨none,0,none,0,none,0,none,0,rfl,zeroT_rt _ _,zeroT_rt _ _,RX.nil _ _ _,zeroT_rt _ _⟩
theorem TellP.zeroC {w w':World} {t:T} {e:Ending} (h:clauO t=none) (he:e=.returned (.tuple #[.agg [.int .i64 0,.int .i64 0,.string ⟨#[]⟩,.slice none 0 0,.int .i64 0,.int .i64 0,.string ⟨#[]⟩,.slice none 0 0,.slice none 0 0,.int .i64 0,.int .i64 0,.string ⟨#[]⟩,.slice none 0 0].toArray,.bool false])) (hB:Below w.heap.size w w'):TellP clauE clauO w t e w' :=
 ⟨zeroClau,[.int .i64 0,.int .i64 0,.string ⟨#[]⟩,.slice none 0 0,.int .i64 0,.int .i64 0,.string ⟨#[]⟩,.slice none 0 0,.slice none 0 0,.int .i64 0,.int .i64 0,.string ⟨#[]⟩,.slice none 0 0],by rw [h];exact he,hB,zeroClau_c _ _,fun d' h'=>by rw [h] at h';cases h'⟩
theorem Blk.keep {R:Nat→Prop} {w w':World} {B:Nat} {cs:List Value} (h:Blk w B cs) (hK:Keep R w w') (hB:¬R B):Blk w' B cs :=
 ⟨Nat.lt_of_lt_of_le h.lt hK.size,fun j u hu=>(hK.cell B j h.lt hB).trans (h.cell j u hu),fun o=>(hK.frozen B o h.lt hB).trans (h.fr o)⟩
theorem Keep.thenB {R:Nat→Prop} {a b c:World} (h:Keep R a b) (k:Below a.heap.size b c):Keep R a c :=
 ⟨k.os.trans h.os,k.tape.trans h.tape,k.output.trans h.output,Nat.le_trans h.size k.size,fun i hi hr=>(k.block i hi).trans (h.block i hi hr)⟩
end Go.Proofs.YtedfepnekjjmnabGreat
