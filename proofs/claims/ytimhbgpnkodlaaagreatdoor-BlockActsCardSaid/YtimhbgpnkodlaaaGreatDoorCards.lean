/-
  DERIVED. GIVEN WITH THE SEED: THE CARDS: each row of YtimhbgpnkodlaaaGreatDoorRows.lean that lists a variable, with what it lists TIED to the program's text (the seventh form; the later family's looks); each row that meets fmt, with fmt's text TOLD by the authors' own Lean function (tested against real Go, not proved from fmt's source: count such statements apart). THE CARD IS WHAT COUNTS. Prove the row's statement (the work); the ties are given (YtimhbgpnkodlaaaGreatDoorTie.lean); close each card by the builder's one call (the guide's Derived/Test/ToyasCard.lean, 'card_holds'). Laid BY PROGRAM, IN A SANDBOX (cutbox-door.mjs). By AI agents, Wed Nov 11 2026. No macro, syntax, notation, axiom, sorry.
-/
import Derived.Test.YtimhbgpnkodlaaaGreatDoorRows
import GoSem.ClaimSeven
namespace Go.Proofs.YtimhbgpnkodlaaaGreatDoor
namespace Rows

/-- THE TIED CARD OF 'herepathlaw2.BlockActs'. -/
def blockActsCard : Claim7 := { stood := { row := blockActsRow, standIns := [], harness := (true, "c00ffe62a86fdc1fb7ad527e339c1eb0f2874177d38da6f6929a6ccf54f82c05"), looks := true }, kinds := [], alts := [], laidByText := true, laidKinds := [.handle, .sentinel, .sentinel, .sentinel, .sentinel, .sentinel, .sentinel, .sentinel, .sentinel, .sentinel], laidTests := true, laidLooks := .later }
def BlockActsCardSaid : Prop := Claim7.holds Tryz.pinned (.plain (OpenSpec.ofChange blockActsSpec)) blockActsCard

/-- THE SECOND FORM's CARD OF 'herepathlaw2.BlockActs'. -/
def blockActsUptoCard : Claim7 := { stood := { row := blockActsUptoRow, standIns := [], harness := (true, "c00ffe62a86fdc1fb7ad527e339c1eb0f2874177d38da6f6929a6ccf54f82c05"), looks := true }, kinds := [], alts := [], laidByText := true, laidKinds := [.handle, .sentinel, .sentinel, .sentinel, .sentinel, .sentinel, .sentinel, .sentinel, .sentinel, .sentinel], laidTests := true, laidLooks := .later }
def BlockActsUptoCardSaid : Prop := Claim7.holds Tryz.pinned (.plain (OpenSpec.upto blockActsSpec)) blockActsUptoCard
end Rows
end Go.Proofs.YtimhbgpnkodlaaaGreatDoor
