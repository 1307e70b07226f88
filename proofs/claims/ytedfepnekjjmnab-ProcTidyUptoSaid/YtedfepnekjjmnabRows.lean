/-
  NARROWER THAN 'FOR EVERY INPUT', by the rows' own cells (each row's printed sentence says how): HeapShares: loops · WayRows: loops · WayPlays: loops · ProcTidy: loops.
  DERIVED. THE GIVEN ROWS OF THIS SEAT. 4 by the template 'for every input the law returns true; each argument reads behind the call as it read before'; 0 by the template 'total and deterministic' (their statements: YtedfepnekjjmnabTotals.lean).
  GIVEN WITH THE SEED: the statements are not yours to turn. If you find one false, say at which input.
  Laid BY PROGRAM, IN A SANDBOX (cutbox-rows.mjs): the forced cells as the released guide's own fill.sh prints them over the translation 0dfcfef6f7ff9a3e… (all of the seat's roots in one cut). By AI agents, Wed Nov 11 2026. No macro, syntax, notation, axiom, sorry.
-/
import Derived.Test.YtedfepnekjjmnabChecked
import GoSem.Claim
import GoSem.ClaimJoined
import GoSem.ClaimMapViews
import Derived.JoinedTies
import Derived.KernelRfl
namespace Go.Proofs.Ytedfepnekjjmnab
/- THE CELL 'sum', in the pinned program and in every row, IS THE sha256 OF THE DUMP (.gsa) THAT YtedfepnekjjmnabProg.lean LOADS. Nothing in Lean hashes anything: it is a label: what it is worth is what the hold of that sum in a sandbox is worth. -/
noncomputable def Try.pinned : Pinned := { name := "ytedfepnekjjmnab", sum := "0dfcfef6f7ff9a3eec69aad73050fb9fd42be0c2ef8c78ce6b8b12062f34326d", checked := Try.checked }
namespace Rows
def none {H : Type} : Left H := { results := [], args := [] }

/-- 'clerkkeep.HeapShares': WHATEVER THE INPUT: true; the input reads as it did. -/
def heapSharesSpec : ChangeSpec := { name := "heapShares", fn := fun _ => fun
  | [d1, d2] => { results := [.lit (.bool true)], args := [d1, d2] }
  | _ => none }
def heapSharesRow : OpenClaim := { program := "ytedfepnekjjmnab", sum := "0dfcfef6f7ff9a3eec69aad73050fb9fd42be0c2ef8c78ce6b8b12062f34326d", func := "heapmail/clerkkeep.HeapShares", spec := "heapShares", unfollowed := true, recurses := true, loops := true, plainKeys := false, apart := false }
def HeapSharesSaid : Prop := heapSharesRow.holds Try.pinned (OpenSpec.ofChange heapSharesSpec)

/-- ITS FALSE NEIGHBOUR: 'it returns false'. Refute it at one input. -/
def heapSharesWrong : ChangeSpec := { name := "heapShares", fn := fun _ => fun
  | [d1, d2] => { results := [.lit (.bool false)], args := [d1, d2] }
  | _ => none }
def HeapSharesWrongFalsely : Prop := heapSharesRow.holds Try.pinned (OpenSpec.ofChange heapSharesWrong)

/-- 'clerkkeep.WayRows': WHATEVER THE INPUT: true; the input reads as it did. -/
def wayRowsSpec : ChangeSpec := { name := "wayRows", fn := fun _ => fun
  | [d] => { results := [.lit (.bool true)], args := [d] }
  | _ => none }
def wayRowsRow : OpenClaim := { program := "ytedfepnekjjmnab", sum := "0dfcfef6f7ff9a3eec69aad73050fb9fd42be0c2ef8c78ce6b8b12062f34326d", func := "heapmail/clerkkeep.WayRows", spec := "wayRows", unfollowed := true, recurses := true, loops := true, plainKeys := false, apart := false }
def WayRowsSaid : Prop := wayRowsRow.holds Try.pinned (OpenSpec.ofChange wayRowsSpec)

/-- ITS FALSE NEIGHBOUR: 'it returns false'. Refute it at one input. -/
def wayRowsWrong : ChangeSpec := { name := "wayRows", fn := fun _ => fun
  | [d] => { results := [.lit (.bool false)], args := [d] }
  | _ => none }
def WayRowsWrongFalsely : Prop := wayRowsRow.holds Try.pinned (OpenSpec.ofChange wayRowsWrong)

/-- 'clerklaw.WayPlays': WHATEVER THE INPUT: true; the input reads as it did. -/
def wayPlaysSpec : ChangeSpec := { name := "wayPlays", fn := fun _ => fun
  | [d] => { results := [.lit (.bool true)], args := [d] }
  | _ => none }
def wayPlaysRow : OpenClaim := { program := "ytedfepnekjjmnab", sum := "0dfcfef6f7ff9a3eec69aad73050fb9fd42be0c2ef8c78ce6b8b12062f34326d", func := "heapmail/clerklaw.WayPlays", spec := "wayPlays", unfollowed := true, recurses := true, loops := true, plainKeys := false, apart := false }
def WayPlaysSaid : Prop := wayPlaysRow.holds Try.pinned (OpenSpec.ofChange wayPlaysSpec)

/-- ITS FALSE NEIGHBOUR: 'it returns false'. Refute it at one input. -/
def wayPlaysWrong : ChangeSpec := { name := "wayPlays", fn := fun _ => fun
  | [d] => { results := [.lit (.bool false)], args := [d] }
  | _ => none }
def WayPlaysWrongFalsely : Prop := wayPlaysRow.holds Try.pinned (OpenSpec.ofChange wayPlaysWrong)

/-- 'clerkkeep.ProcTidy': WHATEVER THE INPUT: true; the input reads as it did. -/
def procTidySpec : ChangeSpec := { name := "procTidy", fn := fun _ => fun
  | [d1, d2, d3, d4, d5, d6] => { results := [.lit (.bool true)], args := [d1, d2, d3, d4, d5, d6] }
  | _ => none }
def procTidyRow : OpenClaim := { program := "ytedfepnekjjmnab", sum := "0dfcfef6f7ff9a3eec69aad73050fb9fd42be0c2ef8c78ce6b8b12062f34326d", func := "heapmail/clerkkeep.ProcTidy", spec := "procTidy", inPlace := ["internal/bytealg.abigen_runtime_cmpstring"], unfollowed := true, recurses := true, loops := true, plainKeys := false, apart := false }
def ProcTidySaid : Prop := procTidyRow.holds Try.pinned (OpenSpec.ofChange procTidySpec)

/-- ITS FALSE NEIGHBOUR: 'it returns false'. Refute it at one input. -/
def procTidyWrong : ChangeSpec := { name := "procTidy", fn := fun _ => fun
  | [d1, d2, d3, d4, d5, d6] => { results := [.lit (.bool false)], args := [d1, d2, d3, d4, d5, d6] }
  | _ => none }
def ProcTidyWrongFalsely : Prop := procTidyRow.holds Try.pinned (OpenSpec.ofChange procTidyWrong)

/- THE SECOND FORM. 'bulk': how many values and letters a reading holds, each counted each time it is reached (what is shared counts as often as it is met; a slice's spare places count too). A statement '..UptoSaid' is the law's where the arguments, and the package variables that the reading takes, are together of bulk at most 1048576: NARROWER than '..Said'. Prove '..Said' where nothing that the law and all that it calls make is longer than what came in: it says more and counts as full. Else prove '..UptoSaid'. A law counts once. -/
mutual
def uptoBulk {H : Type} : DataW H → Nat
  | .lit (.string bytes) => bytes.length + 1
  | .lit _ => 1
  | .nil => 1
  | .ptr d => uptoBulk d + 1
  | .slice elems spare => uptoBulkAll elems + uptoBulkAll spare + 1
  | .agg parts => uptoBulkAll parts + 1
  | .iface _ d => uptoBulk d + 1
  | .map entries => uptoBulkEntries entries + 1
  | .held _ => 1
def uptoBulkAll {H : Type} : List (DataW H) → Nat
  | [] => 0
  | d :: r => uptoBulk d + uptoBulkAll r
def uptoBulkEntries {H : Type} : List (Lit × DataW H) → Nat
  | [] => 0
  | x :: r => uptoBulkEntry x + uptoBulkEntries r
def uptoBulkEntry {H : Type} : Lit × DataW H → Nat
  | (.string bytes, d) => bytes.length + uptoBulk d + 1
  | (_, d) => uptoBulk d + 1
 end
def uptoSmall : (H : Type) → List (DataW H) → Bool := fun _ ds => decide (uptoBulkAll ds ≤ 1048576)
def OpenSpec.upto (s : _root_.Go.ChangeSpec) : _root_.Go.OpenSpec := { _root_.Go.OpenSpec.ofChange s with cond := some uptoSmall }

/-- 'clerkkeep.HeapShares', WHERE WHAT IT READS IS OF BULK AT MOST 1048576: true; the input reads as it did. -/
def heapSharesUptoRow : OpenClaim := { program := "ytedfepnekjjmnab", sum := "0dfcfef6f7ff9a3eec69aad73050fb9fd42be0c2ef8c78ce6b8b12062f34326d", func := "heapmail/clerkkeep.HeapShares", spec := "heapShares", unfollowed := true, recurses := true, loops := true, plainKeys := false, apart := false, narrowed := true }
def HeapSharesUptoSaid : Prop := heapSharesUptoRow.holds Try.pinned (OpenSpec.upto heapSharesSpec)

/-- 'clerkkeep.WayRows', WHERE WHAT IT READS IS OF BULK AT MOST 1048576: true; the input reads as it did. -/
def wayRowsUptoRow : OpenClaim := { program := "ytedfepnekjjmnab", sum := "0dfcfef6f7ff9a3eec69aad73050fb9fd42be0c2ef8c78ce6b8b12062f34326d", func := "heapmail/clerkkeep.WayRows", spec := "wayRows", unfollowed := true, recurses := true, loops := true, plainKeys := false, apart := false, narrowed := true }
def WayRowsUptoSaid : Prop := wayRowsUptoRow.holds Try.pinned (OpenSpec.upto wayRowsSpec)

/-- 'clerklaw.WayPlays', WHERE WHAT IT READS IS OF BULK AT MOST 1048576: true; the input reads as it did. -/
def wayPlaysUptoRow : OpenClaim := { program := "ytedfepnekjjmnab", sum := "0dfcfef6f7ff9a3eec69aad73050fb9fd42be0c2ef8c78ce6b8b12062f34326d", func := "heapmail/clerklaw.WayPlays", spec := "wayPlays", unfollowed := true, recurses := true, loops := true, plainKeys := false, apart := false, narrowed := true }
def WayPlaysUptoSaid : Prop := wayPlaysUptoRow.holds Try.pinned (OpenSpec.upto wayPlaysSpec)

/-- 'clerkkeep.ProcTidy', WHERE WHAT IT READS IS OF BULK AT MOST 1048576: true; the input reads as it did. -/
def procTidyUptoRow : OpenClaim := { program := "ytedfepnekjjmnab", sum := "0dfcfef6f7ff9a3eec69aad73050fb9fd42be0c2ef8c78ce6b8b12062f34326d", func := "heapmail/clerkkeep.ProcTidy", spec := "procTidy", inPlace := ["internal/bytealg.abigen_runtime_cmpstring"], unfollowed := true, recurses := true, loops := true, plainKeys := false, apart := false, narrowed := true }
def ProcTidyUptoSaid : Prop := procTidyUptoRow.holds Try.pinned (OpenSpec.upto procTidySpec)

end Rows
end Go.Proofs.Ytedfepnekjjmnab
