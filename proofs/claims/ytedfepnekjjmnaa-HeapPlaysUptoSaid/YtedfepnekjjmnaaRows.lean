/-
  NARROWER THAN 'FOR EVERY INPUT', by the rows' own cells (each row's printed sentence says how): TermOrders: loops · OrderLaws: loops · ReckonSays: loops · MatchSays: loops · ReckonCloses: loops · CodeSays: loops · HeapAgain: loops · MatchBinds: loops · HeapPlays: loops.
  DERIVED. THE GIVEN ROWS OF THIS SEAT. 11 by the template 'for every input the law returns true; each argument reads behind the call as it read before'; 0 by the template 'total and deterministic' (their statements: YtedfepnekjjmnaaTotals.lean).
  GIVEN WITH THE SEED: the statements are not yours to turn. If you find one false, say at which input.
  Laid BY PROGRAM, IN A SANDBOX (cutbox-rows.mjs): the forced cells as the released guide's own fill.sh prints them over the translation da126176f871c73d… (all of the seat's roots in one cut). By AI agents, Wed Nov 11 2026. No macro, syntax, notation, axiom, sorry.
-/
import Derived.Test.YtedfepnekjjmnaaChecked
import GoSem.Claim
import GoSem.ClaimJoined
import GoSem.ClaimMapViews
import Derived.JoinedTies
import Derived.KernelRfl
namespace Go.Proofs.Ytedfepnekjjmnaa
/- THE CELL 'sum', in the pinned program and in every row, IS THE sha256 OF THE DUMP (.gsa) THAT YtedfepnekjjmnaaProg.lean LOADS. Nothing in Lean hashes anything: it is a label: what it is worth is what the hold of that sum in a sandbox is worth. -/
noncomputable def Try.pinned : Pinned := { name := "ytedfepnekjjmnaa", sum := "da126176f871c73d0a3cfd325a904001eaa0dd41f94571d1587e081c70d4db22", checked := Try.checked }
namespace Rows
def none {H : Type} : Left H := { results := [], args := [] }

/-- 'clerklaw.Names': WHATEVER THE INPUT: true; the input reads as it did. -/
def namesSpec : ChangeSpec := { name := "names", fn := fun _ => fun
  | [] => { results := [.lit (.bool true)], args := [] }
  | _ => none }
def namesRow : OpenClaim := { program := "ytedfepnekjjmnaa", sum := "da126176f871c73d0a3cfd325a904001eaa0dd41f94571d1587e081c70d4db22", func := "heapmail/clerklaw.Names", spec := "names", apart := false }
def NamesSaid : Prop := namesRow.holds Try.pinned (OpenSpec.ofChange namesSpec)

/-- ITS FALSE NEIGHBOUR: 'it returns false'. Refute it at one input. -/
def namesWrong : ChangeSpec := { name := "names", fn := fun _ => fun
  | [] => { results := [.lit (.bool false)], args := [] }
  | _ => none }
def NamesWrongFalsely : Prop := namesRow.holds Try.pinned (OpenSpec.ofChange namesWrong)

/-- 'clerklaw.TermOrders': WHATEVER THE INPUT: true; the input reads as it did. -/
def termOrdersSpec : ChangeSpec := { name := "termOrders", fn := fun _ => fun
  | [d1, d2] => { results := [.lit (.bool true)], args := [d1, d2] }
  | _ => none }
def termOrdersRow : OpenClaim := { program := "ytedfepnekjjmnaa", sum := "da126176f871c73d0a3cfd325a904001eaa0dd41f94571d1587e081c70d4db22", func := "heapmail/clerklaw.TermOrders", spec := "termOrders", inPlace := ["internal/bytealg.abigen_runtime_cmpstring"], unfollowed := true, recurses := true, loops := true, apart := false }
def TermOrdersSaid : Prop := termOrdersRow.holds Try.pinned (OpenSpec.ofChange termOrdersSpec)

/-- ITS FALSE NEIGHBOUR: 'it returns false'. Refute it at one input. -/
def termOrdersWrong : ChangeSpec := { name := "termOrders", fn := fun _ => fun
  | [d1, d2] => { results := [.lit (.bool false)], args := [d1, d2] }
  | _ => none }
def TermOrdersWrongFalsely : Prop := termOrdersRow.holds Try.pinned (OpenSpec.ofChange termOrdersWrong)

/-- 'clerkkeep.OrderLaws': WHATEVER THE INPUT: true; the input reads as it did. -/
def orderLawsSpec : ChangeSpec := { name := "orderLaws", fn := fun _ => fun
  | [d1, d2, d3] => { results := [.lit (.bool true)], args := [d1, d2, d3] }
  | _ => none }
def orderLawsRow : OpenClaim := { program := "ytedfepnekjjmnaa", sum := "da126176f871c73d0a3cfd325a904001eaa0dd41f94571d1587e081c70d4db22", func := "heapmail/clerkkeep.OrderLaws", spec := "orderLaws", inPlace := ["internal/bytealg.abigen_runtime_cmpstring"], unfollowed := true, recurses := true, loops := true, apart := false }
def OrderLawsSaid : Prop := orderLawsRow.holds Try.pinned (OpenSpec.ofChange orderLawsSpec)

/-- ITS FALSE NEIGHBOUR: 'it returns false'. Refute it at one input. -/
def orderLawsWrong : ChangeSpec := { name := "orderLaws", fn := fun _ => fun
  | [d1, d2, d3] => { results := [.lit (.bool false)], args := [d1, d2, d3] }
  | _ => none }
def OrderLawsWrongFalsely : Prop := orderLawsRow.holds Try.pinned (OpenSpec.ofChange orderLawsWrong)

/-- 'clerklaw.ReckonSays': WHATEVER THE INPUT: true; the input reads as it did. -/
def reckonSaysSpec : ChangeSpec := { name := "reckonSays", fn := fun _ => fun
  | [d1, d2, d3] => { results := [.lit (.bool true)], args := [d1, d2, d3] }
  | _ => none }
def reckonSaysRow : OpenClaim := { program := "ytedfepnekjjmnaa", sum := "da126176f871c73d0a3cfd325a904001eaa0dd41f94571d1587e081c70d4db22", func := "heapmail/clerklaw.ReckonSays", spec := "reckonSays", unfollowed := true, recurses := true, loops := true, apart := false }
def ReckonSaysSaid : Prop := reckonSaysRow.holds Try.pinned (OpenSpec.ofChange reckonSaysSpec)

/-- ITS FALSE NEIGHBOUR: 'it returns false'. Refute it at one input. -/
def reckonSaysWrong : ChangeSpec := { name := "reckonSays", fn := fun _ => fun
  | [d1, d2, d3] => { results := [.lit (.bool false)], args := [d1, d2, d3] }
  | _ => none }
def ReckonSaysWrongFalsely : Prop := reckonSaysRow.holds Try.pinned (OpenSpec.ofChange reckonSaysWrong)

/-- 'clerklaw.TermReads': WHATEVER THE INPUT: true; the input reads as it did. -/
def termReadsSpec : ChangeSpec := { name := "termReads", fn := fun _ => fun
  | [d] => { results := [.lit (.bool true)], args := [d] }
  | _ => none }
def termReadsRow : OpenClaim := { program := "ytedfepnekjjmnaa", sum := "da126176f871c73d0a3cfd325a904001eaa0dd41f94571d1587e081c70d4db22", func := "heapmail/clerklaw.TermReads", spec := "termReads", unfollowed := true, recurses := true, apart := false }
def TermReadsSaid : Prop := termReadsRow.holds Try.pinned (OpenSpec.ofChange termReadsSpec)

/-- ITS FALSE NEIGHBOUR: 'it returns false'. Refute it at one input. -/
def termReadsWrong : ChangeSpec := { name := "termReads", fn := fun _ => fun
  | [d] => { results := [.lit (.bool false)], args := [d] }
  | _ => none }
def TermReadsWrongFalsely : Prop := termReadsRow.holds Try.pinned (OpenSpec.ofChange termReadsWrong)

/-- 'clerklaw.MatchSays': WHATEVER THE INPUT: true; the input reads as it did. -/
def matchSaysSpec : ChangeSpec := { name := "matchSays", fn := fun _ => fun
  | [d1, d2, d3] => { results := [.lit (.bool true)], args := [d1, d2, d3] }
  | _ => none }
def matchSaysRow : OpenClaim := { program := "ytedfepnekjjmnaa", sum := "da126176f871c73d0a3cfd325a904001eaa0dd41f94571d1587e081c70d4db22", func := "heapmail/clerklaw.MatchSays", spec := "matchSays", inPlace := ["internal/bytealg.abigen_runtime_cmpstring"], unfollowed := true, recurses := true, loops := true, apart := false }
def MatchSaysSaid : Prop := matchSaysRow.holds Try.pinned (OpenSpec.ofChange matchSaysSpec)

/-- ITS FALSE NEIGHBOUR: 'it returns false'. Refute it at one input. -/
def matchSaysWrong : ChangeSpec := { name := "matchSays", fn := fun _ => fun
  | [d1, d2, d3] => { results := [.lit (.bool false)], args := [d1, d2, d3] }
  | _ => none }
def MatchSaysWrongFalsely : Prop := matchSaysRow.holds Try.pinned (OpenSpec.ofChange matchSaysWrong)

/-- 'clerkkeep.ReckonCloses': WHATEVER THE INPUT: true; the input reads as it did. -/
def reckonClosesSpec : ChangeSpec := { name := "reckonCloses", fn := fun _ => fun
  | [d1, d2, d3, d4] => { results := [.lit (.bool true)], args := [d1, d2, d3, d4] }
  | _ => none }
def reckonClosesRow : OpenClaim := { program := "ytedfepnekjjmnaa", sum := "da126176f871c73d0a3cfd325a904001eaa0dd41f94571d1587e081c70d4db22", func := "heapmail/clerkkeep.ReckonCloses", spec := "reckonCloses", unfollowed := true, recurses := true, loops := true, apart := false }
def ReckonClosesSaid : Prop := reckonClosesRow.holds Try.pinned (OpenSpec.ofChange reckonClosesSpec)

/-- ITS FALSE NEIGHBOUR: 'it returns false'. Refute it at one input. -/
def reckonClosesWrong : ChangeSpec := { name := "reckonCloses", fn := fun _ => fun
  | [d1, d2, d3, d4] => { results := [.lit (.bool false)], args := [d1, d2, d3, d4] }
  | _ => none }
def ReckonClosesWrongFalsely : Prop := reckonClosesRow.holds Try.pinned (OpenSpec.ofChange reckonClosesWrong)

/-- 'clerklaw.CodeSays': WHATEVER THE INPUT: true; the input reads as it did. -/
def codeSaysSpec : ChangeSpec := { name := "codeSays", fn := fun _ => fun
  | [d1, d2] => { results := [.lit (.bool true)], args := [d1, d2] }
  | _ => none }
def codeSaysRow : OpenClaim := { program := "ytedfepnekjjmnaa", sum := "da126176f871c73d0a3cfd325a904001eaa0dd41f94571d1587e081c70d4db22", func := "heapmail/clerklaw.CodeSays", spec := "codeSays", unfollowed := true, recurses := true, loops := true, apart := false }
def CodeSaysSaid : Prop := codeSaysRow.holds Try.pinned (OpenSpec.ofChange codeSaysSpec)

/-- ITS FALSE NEIGHBOUR: 'it returns false'. Refute it at one input. -/
def codeSaysWrong : ChangeSpec := { name := "codeSays", fn := fun _ => fun
  | [d1, d2] => { results := [.lit (.bool false)], args := [d1, d2] }
  | _ => none }
def CodeSaysWrongFalsely : Prop := codeSaysRow.holds Try.pinned (OpenSpec.ofChange codeSaysWrong)

/-- 'clerkkeep.HeapAgain': WHATEVER THE INPUT: true; the input reads as it did. -/
def heapAgainSpec : ChangeSpec := { name := "heapAgain", fn := fun _ => fun
  | [d1, d2] => { results := [.lit (.bool true)], args := [d1, d2] }
  | _ => none }
def heapAgainRow : OpenClaim := { program := "ytedfepnekjjmnaa", sum := "da126176f871c73d0a3cfd325a904001eaa0dd41f94571d1587e081c70d4db22", func := "heapmail/clerkkeep.HeapAgain", spec := "heapAgain", unfollowed := true, recurses := true, loops := true, apart := false }
def HeapAgainSaid : Prop := heapAgainRow.holds Try.pinned (OpenSpec.ofChange heapAgainSpec)

/-- ITS FALSE NEIGHBOUR: 'it returns false'. Refute it at one input. -/
def heapAgainWrong : ChangeSpec := { name := "heapAgain", fn := fun _ => fun
  | [d1, d2] => { results := [.lit (.bool false)], args := [d1, d2] }
  | _ => none }
def HeapAgainWrongFalsely : Prop := heapAgainRow.holds Try.pinned (OpenSpec.ofChange heapAgainWrong)

/-- 'clerkkeep.MatchBinds': WHATEVER THE INPUT: true; the input reads as it did. -/
def matchBindsSpec : ChangeSpec := { name := "matchBinds", fn := fun _ => fun
  | [d1, d2, d3] => { results := [.lit (.bool true)], args := [d1, d2, d3] }
  | _ => none }
def matchBindsRow : OpenClaim := { program := "ytedfepnekjjmnaa", sum := "da126176f871c73d0a3cfd325a904001eaa0dd41f94571d1587e081c70d4db22", func := "heapmail/clerkkeep.MatchBinds", spec := "matchBinds", inPlace := ["internal/bytealg.abigen_runtime_cmpstring"], unfollowed := true, recurses := true, loops := true, apart := false }
def MatchBindsSaid : Prop := matchBindsRow.holds Try.pinned (OpenSpec.ofChange matchBindsSpec)

/-- ITS FALSE NEIGHBOUR: 'it returns false'. Refute it at one input. -/
def matchBindsWrong : ChangeSpec := { name := "matchBinds", fn := fun _ => fun
  | [d1, d2, d3] => { results := [.lit (.bool false)], args := [d1, d2, d3] }
  | _ => none }
def MatchBindsWrongFalsely : Prop := matchBindsRow.holds Try.pinned (OpenSpec.ofChange matchBindsWrong)

/-- 'clerklaw.HeapPlays': WHATEVER THE INPUT: true; the input reads as it did. -/
def heapPlaysSpec : ChangeSpec := { name := "heapPlays", fn := fun _ => fun
  | [d1, d2] => { results := [.lit (.bool true)], args := [d1, d2] }
  | _ => none }
def heapPlaysRow : OpenClaim := { program := "ytedfepnekjjmnaa", sum := "da126176f871c73d0a3cfd325a904001eaa0dd41f94571d1587e081c70d4db22", func := "heapmail/clerklaw.HeapPlays", spec := "heapPlays", unfollowed := true, recurses := true, loops := true, apart := false }
def HeapPlaysSaid : Prop := heapPlaysRow.holds Try.pinned (OpenSpec.ofChange heapPlaysSpec)

/-- ITS FALSE NEIGHBOUR: 'it returns false'. Refute it at one input. -/
def heapPlaysWrong : ChangeSpec := { name := "heapPlays", fn := fun _ => fun
  | [d1, d2] => { results := [.lit (.bool false)], args := [d1, d2] }
  | _ => none }
def HeapPlaysWrongFalsely : Prop := heapPlaysRow.holds Try.pinned (OpenSpec.ofChange heapPlaysWrong)

/- THE SECOND FORM. 'bulk': how many values and letters a reading holds, each counted each time it is reached (what is shared counts as often as it is met; a slice's spare places count too). A statement '..UptoSaid' is the law's where the arguments, and the package variables that the reading takes, are together of bulk at most 1048576: NARROWER than '..Said'. Prove '..Said' where nothing that the law and all that it calls make is longer than what came in: it says more and counts as full. Else prove '..UptoSaid'. A law counts once. -/
mutual
def uptoBulk {H : Type} : DataW H → Nat
  | .lit (.string bytes) => bytes.length + 1
  | .lit _ => 1
  | .nil => 1
  | .ptr d => uptoBulk d + 1
  | .slice elems spare => uptoBulkAll elems + uptoBulkAll spare + 1
  | .agg parts => uptoBulkAll parts + 1
  | .iface _ d => uptoBulk d + 1
  | .map entries => uptoBulkEntries entries + 1
  | .held _ => 1
def uptoBulkAll {H : Type} : List (DataW H) → Nat
  | [] => 0
  | d :: r => uptoBulk d + uptoBulkAll r
def uptoBulkEntries {H : Type} : List (Lit × DataW H) → Nat
  | [] => 0
  | x :: r => uptoBulkEntry x + uptoBulkEntries r
def uptoBulkEntry {H : Type} : Lit × DataW H → Nat
  | (.string bytes, d) => bytes.length + uptoBulk d + 1
  | (_, d) => uptoBulk d + 1
 end
def uptoSmall : (H : Type) → List (DataW H) → Bool := fun _ ds => decide (uptoBulkAll ds ≤ 1048576)
def OpenSpec.upto (s : _root_.Go.ChangeSpec) : _root_.Go.OpenSpec := { _root_.Go.OpenSpec.ofChange s with cond := some uptoSmall }

/-- 'clerklaw.Names', WHERE WHAT IT READS IS OF BULK AT MOST 1048576: true; the input reads as it did. -/
def namesUptoRow : OpenClaim := { program := "ytedfepnekjjmnaa", sum := "da126176f871c73d0a3cfd325a904001eaa0dd41f94571d1587e081c70d4db22", func := "heapmail/clerklaw.Names", spec := "names", apart := false, narrowed := true }
def NamesUptoSaid : Prop := namesUptoRow.holds Try.pinned (OpenSpec.upto namesSpec)

/-- 'clerklaw.TermOrders', WHERE WHAT IT READS IS OF BULK AT MOST 1048576: true; the input reads as it did. -/
def termOrdersUptoRow : OpenClaim := { program := "ytedfepnekjjmnaa", sum := "da126176f871c73d0a3cfd325a904001eaa0dd41f94571d1587e081c70d4db22", func := "heapmail/clerklaw.TermOrders", spec := "termOrders", inPlace := ["internal/bytealg.abigen_runtime_cmpstring"], unfollowed := true, recurses := true, loops := true, apart := false, narrowed := true }
def TermOrdersUptoSaid : Prop := termOrdersUptoRow.holds Try.pinned (OpenSpec.upto termOrdersSpec)

/-- 'clerkkeep.OrderLaws', WHERE WHAT IT READS IS OF BULK AT MOST 1048576: true; the input reads as it did. -/
def orderLawsUptoRow : OpenClaim := { program := "ytedfepnekjjmnaa", sum := "da126176f871c73d0a3cfd325a904001eaa0dd41f94571d1587e081c70d4db22", func := "heapmail/clerkkeep.OrderLaws", spec := "orderLaws", inPlace := ["internal/bytealg.abigen_runtime_cmpstring"], unfollowed := true, recurses := true, loops := true, apart := false, narrowed := true }
def OrderLawsUptoSaid : Prop := orderLawsUptoRow.holds Try.pinned (OpenSpec.upto orderLawsSpec)

/-- 'clerklaw.ReckonSays', WHERE WHAT IT READS IS OF BULK AT MOST 1048576: true; the input reads as it did. -/
def reckonSaysUptoRow : OpenClaim := { program := "ytedfepnekjjmnaa", sum := "da126176f871c73d0a3cfd325a904001eaa0dd41f94571d1587e081c70d4db22", func := "heapmail/clerklaw.ReckonSays", spec := "reckonSays", unfollowed := true, recurses := true, loops := true, apart := false, narrowed := true }
def ReckonSaysUptoSaid : Prop := reckonSaysUptoRow.holds Try.pinned (OpenSpec.upto reckonSaysSpec)

/-- 'clerklaw.TermReads', WHERE WHAT IT READS IS OF BULK AT MOST 1048576: true; the input reads as it did. -/
def termReadsUptoRow : OpenClaim := { program := "ytedfepnekjjmnaa", sum := "da126176f871c73d0a3cfd325a904001eaa0dd41f94571d1587e081c70d4db22", func := "heapmail/clerklaw.TermReads", spec := "termReads", unfollowed := true, recurses := true, apart := false, narrowed := true }
def TermReadsUptoSaid : Prop := termReadsUptoRow.holds Try.pinned (OpenSpec.upto termReadsSpec)

/-- 'clerklaw.MatchSays', WHERE WHAT IT READS IS OF BULK AT MOST 1048576: true; the input reads as it did. -/
def matchSaysUptoRow : OpenClaim := { program := "ytedfepnekjjmnaa", sum := "da126176f871c73d0a3cfd325a904001eaa0dd41f94571d1587e081c70d4db22", func := "heapmail/clerklaw.MatchSays", spec := "matchSays", inPlace := ["internal/bytealg.abigen_runtime_cmpstring"], unfollowed := true, recurses := true, loops := true, apart := false, narrowed := true }
def MatchSaysUptoSaid : Prop := matchSaysUptoRow.holds Try.pinned (OpenSpec.upto matchSaysSpec)

/-- 'clerkkeep.ReckonCloses', WHERE WHAT IT READS IS OF BULK AT MOST 1048576: true; the input reads as it did. -/
def reckonClosesUptoRow : OpenClaim := { program := "ytedfepnekjjmnaa", sum := "da126176f871c73d0a3cfd325a904001eaa0dd41f94571d1587e081c70d4db22", func := "heapmail/clerkkeep.ReckonCloses", spec := "reckonCloses", unfollowed := true, recurses := true, loops := true, apart := false, narrowed := true }
def ReckonClosesUptoSaid : Prop := reckonClosesUptoRow.holds Try.pinned (OpenSpec.upto reckonClosesSpec)

/-- 'clerklaw.CodeSays', WHERE WHAT IT READS IS OF BULK AT MOST 1048576: true; the input reads as it did. -/
def codeSaysUptoRow : OpenClaim := { program := "ytedfepnekjjmnaa", sum := "da126176f871c73d0a3cfd325a904001eaa0dd41f94571d1587e081c70d4db22", func := "heapmail/clerklaw.CodeSays", spec := "codeSays", unfollowed := true, recurses := true, loops := true, apart := false, narrowed := true }
def CodeSaysUptoSaid : Prop := codeSaysUptoRow.holds Try.pinned (OpenSpec.upto codeSaysSpec)

/-- 'clerkkeep.HeapAgain', WHERE WHAT IT READS IS OF BULK AT MOST 1048576: true; the input reads as it did. -/
def heapAgainUptoRow : OpenClaim := { program := "ytedfepnekjjmnaa", sum := "da126176f871c73d0a3cfd325a904001eaa0dd41f94571d1587e081c70d4db22", func := "heapmail/clerkkeep.HeapAgain", spec := "heapAgain", unfollowed := true, recurses := true, loops := true, apart := false, narrowed := true }
def HeapAgainUptoSaid : Prop := heapAgainUptoRow.holds Try.pinned (OpenSpec.upto heapAgainSpec)

/-- 'clerkkeep.MatchBinds', WHERE WHAT IT READS IS OF BULK AT MOST 1048576: true; the input reads as it did. -/
def matchBindsUptoRow : OpenClaim := { program := "ytedfepnekjjmnaa", sum := "da126176f871c73d0a3cfd325a904001eaa0dd41f94571d1587e081c70d4db22", func := "heapmail/clerkkeep.MatchBinds", spec := "matchBinds", inPlace := ["internal/bytealg.abigen_runtime_cmpstring"], unfollowed := true, recurses := true, loops := true, apart := false, narrowed := true }
def MatchBindsUptoSaid : Prop := matchBindsUptoRow.holds Try.pinned (OpenSpec.upto matchBindsSpec)

/-- 'clerklaw.HeapPlays', WHERE WHAT IT READS IS OF BULK AT MOST 1048576: true; the input reads as it did. -/
def heapPlaysUptoRow : OpenClaim := { program := "ytedfepnekjjmnaa", sum := "da126176f871c73d0a3cfd325a904001eaa0dd41f94571d1587e081c70d4db22", func := "heapmail/clerklaw.HeapPlays", spec := "heapPlays", unfollowed := true, recurses := true, loops := true, apart := false, narrowed := true }
def HeapPlaysUptoSaid : Prop := heapPlaysUptoRow.holds Try.pinned (OpenSpec.upto heapPlaysSpec)

end Rows
end Go.Proofs.Ytedfepnekjjmnaa
