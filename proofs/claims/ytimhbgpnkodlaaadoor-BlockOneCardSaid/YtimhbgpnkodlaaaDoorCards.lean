/-
  DERIVED. GIVEN WITH THE SEED: THE CARDS: each row of YtimhbgpnkodlaaaDoorRows.lean that lists a variable, with what it lists TIED to the program's text (the seventh form; the later family's looks); each row that meets fmt, with fmt's text TOLD by the authors' own Lean function (tested against real Go, not proved from fmt's source: count such statements apart). THE CARD IS WHAT COUNTS. Prove the row's statement (the work); the ties are given (YtimhbgpnkodlaaaDoorTie.lean); close each card by the builder's one call (the guide's Derived/Test/ToyasCard.lean, 'card_holds'). Laid BY PROGRAM, IN A SANDBOX (cutbox-door.mjs). By AI agents, Wed Nov 11 2026. No macro, syntax, notation, axiom, sorry.
-/
import Derived.Test.YtimhbgpnkodlaaaDoorRows
import GoSem.ClaimSeven
namespace Go.Proofs.YtimhbgpnkodlaaaDoor
namespace Rows

/-- THE TIED CARD OF 'herepathlaw2.BlockOne'. -/
def blockOneCard : Claim7 := { stood := { row := blockOneRow, standIns := [], harness := (true, "07ec1db2afabeb4322cc6dfaadd3bb9796efb2af4b1243bdfafcfd06904eeb81"), looks := true }, kinds := [], alts := [], laidByText := true, laidKinds := [.sentinel, .sentinel, .sentinel, .sentinel], laidTests := true, laidLooks := .later }
def BlockOneCardSaid : Prop := Claim7.holds Tryd.pinned (.plain (OpenSpec.ofChange blockOneSpec)) blockOneCard

/-- THE TIED CARD OF 'herepathlaw2.BlockAgain'. -/
def blockAgainCard : Claim7 := { stood := { row := blockAgainRow, standIns := [], harness := (true, "07ec1db2afabeb4322cc6dfaadd3bb9796efb2af4b1243bdfafcfd06904eeb81"), looks := true }, kinds := [], alts := [], laidByText := true, laidKinds := [.handle, .sentinel, .sentinel, .sentinel, .sentinel, .sentinel, .sentinel, .sentinel, .sentinel, .sentinel], laidTests := true, laidLooks := .later }
def BlockAgainCardSaid : Prop := Claim7.holds Tryd.pinned (.plain (OpenSpec.ofChange blockAgainSpec)) blockAgainCard

/-- THE SECOND FORM's CARD OF 'herepathlaw2.BlockOne'. -/
def blockOneUptoCard : Claim7 := { stood := { row := blockOneUptoRow, standIns := [], harness := (true, "07ec1db2afabeb4322cc6dfaadd3bb9796efb2af4b1243bdfafcfd06904eeb81"), looks := true }, kinds := [], alts := [], laidByText := true, laidKinds := [.sentinel, .sentinel, .sentinel, .sentinel], laidTests := true, laidLooks := .later }
def BlockOneUptoCardSaid : Prop := Claim7.holds Tryd.pinned (.plain (OpenSpec.upto blockOneSpec)) blockOneUptoCard

/-- THE SECOND FORM's CARD OF 'herepathlaw2.BlockAgain'. -/
def blockAgainUptoCard : Claim7 := { stood := { row := blockAgainUptoRow, standIns := [], harness := (true, "07ec1db2afabeb4322cc6dfaadd3bb9796efb2af4b1243bdfafcfd06904eeb81"), looks := true }, kinds := [], alts := [], laidByText := true, laidKinds := [.handle, .sentinel, .sentinel, .sentinel, .sentinel, .sentinel, .sentinel, .sentinel, .sentinel, .sentinel], laidTests := true, laidLooks := .later }
def BlockAgainUptoCardSaid : Prop := Claim7.holds Tryd.pinned (.plain (OpenSpec.upto blockAgainSpec)) blockAgainUptoCard
end Rows
end Go.Proofs.YtimhbgpnkodlaaaDoor
