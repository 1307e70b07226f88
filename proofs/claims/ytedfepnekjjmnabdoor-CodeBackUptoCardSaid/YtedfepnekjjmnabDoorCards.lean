/-
  DERIVED. GIVEN WITH THE SEED: THE CARDS: each row of YtedfepnekjjmnabDoorRows.lean that lists a variable, with what it lists TIED to the program's text (the seventh form; the later family's looks); each row that meets fmt, with fmt's text TOLD by the authors' own Lean function (tested against real Go, not proved from fmt's source: count such statements apart). THE CARD IS WHAT COUNTS. Prove the row's statement (the work); the ties are given (YtedfepnekjjmnabDoorTie.lean); close each card by the builder's one call (the guide's Derived/Test/ToyasCard.lean, 'card_holds'). Laid BY PROGRAM, IN A SANDBOX (cutbox-door.mjs). By AI agents, Wed Nov 11 2026. No macro, syntax, notation, axiom, sorry.
-/
import Derived.Test.YtedfepnekjjmnabDoorRows
import GoSem.ClaimSeven
namespace Go.Proofs.YtedfepnekjjmnabDoor
namespace Rows

/-- THE TIED CARD OF 'clerklaw.TermSays'. -/
def termSaysCard : Claim7 := { stood := { row := termSaysRow, standIns := [], harness := (true, "d01837e6dfbd008a61fea6e8ec89ca0c7856830a4da00d3dc7501957c1072f91"), looks := false }, kinds := [], alts := [], laidByText := true, laidKinds := [.data, .data, .data], laidTests := true, laidLooks := .later }
def TermSaysCardSaid : Prop := Claim7.holds Tryd.pinned (.plain (OpenSpec.ofChange termSaysSpec)) termSaysCard

/-- THE TIED CARD OF 'clerkkeep.TermBack'. -/
def termBackCard : Claim7 := { stood := { row := termBackRow, standIns := [], harness := (true, "d01837e6dfbd008a61fea6e8ec89ca0c7856830a4da00d3dc7501957c1072f91"), looks := false }, kinds := [], alts := [], laidByText := true, laidKinds := [.data, .data, .data], laidTests := true, laidLooks := .later }
def TermBackCardSaid : Prop := Claim7.holds Tryd.pinned (.plain (OpenSpec.ofChange termBackSpec)) termBackCard

/-- THE TIED CARD OF 'clerkkeep.CodeBack'. -/
def codeBackCard : Claim7 := { stood := { row := codeBackRow, standIns := [], harness := (true, "d01837e6dfbd008a61fea6e8ec89ca0c7856830a4da00d3dc7501957c1072f91"), looks := false }, kinds := [], alts := [], laidByText := true, laidKinds := [.data, .data, .data], laidTests := true, laidLooks := .later }
def CodeBackCardSaid : Prop := Claim7.holds Tryd.pinned (.plain (OpenSpec.ofChange codeBackSpec)) codeBackCard

/-- THE SECOND FORM's CARD OF 'clerklaw.TermSays'. -/
def termSaysUptoCard : Claim7 := { stood := { row := termSaysUptoRow, standIns := [], harness := (true, "d01837e6dfbd008a61fea6e8ec89ca0c7856830a4da00d3dc7501957c1072f91"), looks := false }, kinds := [], alts := [], laidByText := true, laidKinds := [.data, .data, .data], laidTests := true, laidLooks := .later }
def TermSaysUptoCardSaid : Prop := Claim7.holds Tryd.pinned (.plain (OpenSpec.upto termSaysSpec)) termSaysUptoCard

/-- THE SECOND FORM's CARD OF 'clerkkeep.TermBack'. -/
def termBackUptoCard : Claim7 := { stood := { row := termBackUptoRow, standIns := [], harness := (true, "d01837e6dfbd008a61fea6e8ec89ca0c7856830a4da00d3dc7501957c1072f91"), looks := false }, kinds := [], alts := [], laidByText := true, laidKinds := [.data, .data, .data], laidTests := true, laidLooks := .later }
def TermBackUptoCardSaid : Prop := Claim7.holds Tryd.pinned (.plain (OpenSpec.upto termBackSpec)) termBackUptoCard

/-- THE SECOND FORM's CARD OF 'clerkkeep.CodeBack'. -/
def codeBackUptoCard : Claim7 := { stood := { row := codeBackUptoRow, standIns := [], harness := (true, "d01837e6dfbd008a61fea6e8ec89ca0c7856830a4da00d3dc7501957c1072f91"), looks := false }, kinds := [], alts := [], laidByText := true, laidKinds := [.data, .data, .data], laidTests := true, laidLooks := .later }
def CodeBackUptoCardSaid : Prop := Claim7.holds Tryd.pinned (.plain (OpenSpec.upto codeBackSpec)) codeBackUptoCard
end Rows
end Go.Proofs.YtedfepnekjjmnabDoor
