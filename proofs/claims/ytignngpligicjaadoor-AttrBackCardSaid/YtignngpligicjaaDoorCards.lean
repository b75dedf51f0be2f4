/-
  DERIVED. GIVEN WITH THE SEED: THE CARDS: each row of YtignngpligicjaaDoorRows.lean that lists a variable, with what it lists TIED to the program's text (the seventh form; the later family's looks); each row that meets fmt, with fmt's text TOLD by the authors' own Lean function (tested against real Go, not proved from fmt's source: count such statements apart). THE CARD IS WHAT COUNTS. Prove the row's statement (the work); the ties are given (YtignngpligicjaaDoorTie.lean); close each card by the builder's one call (the guide's Derived/Test/ToyasCard.lean, 'card_holds'). Laid BY PROGRAM, IN A SANDBOX (cutbox-door.mjs). By AI agents, Wed Nov 11 2026. No macro, syntax, notation, axiom, sorry.
-/
import Derived.Test.YtignngpligicjaaDoorRows
import GoSem.ClaimSeven
namespace Go.Proofs.YtignngpligicjaaDoor
namespace Rows

/-- THE TIED CARD OF 'herepathlaw1.SetParts'. -/
def setPartsCard : Claim7 := { stood := { row := setPartsRow, standIns := [], harness := (true, "5b16f01b718a14545ffd8292a47cb718a0697d8740bba7d210350accb4f1382e"), looks := true }, kinds := [], alts := [], laidByText := true, laidKinds := [.data, .sentinel, .sentinel], laidTests := true, laidLooks := .later }
def SetPartsCardSaid : Prop := Claim7.holds Tryd.pinned (.plain (OpenSpec.ofChange setPartsSpec)) setPartsCard

/-- THE TIED CARD OF 'herepathlaw1.SetNormal'. -/
def setNormalCard : Claim7 := { stood := { row := setNormalRow, standIns := [], harness := (true, "5b16f01b718a14545ffd8292a47cb718a0697d8740bba7d210350accb4f1382e"), looks := true }, kinds := [], alts := [], laidByText := true, laidKinds := [.data, .sentinel, .sentinel, .sentinel], laidTests := true, laidLooks := .later }
def SetNormalCardSaid : Prop := Claim7.holds Tryd.pinned (.plain (OpenSpec.ofChange setNormalSpec)) setNormalCard

/-- THE TIED CARD OF 'herepathlaw1.AttrBack'. -/
def attrBackCard : Claim7 := { stood := { row := attrBackRow, standIns := [], harness := (true, "5b16f01b718a14545ffd8292a47cb718a0697d8740bba7d210350accb4f1382e"), looks := true }, kinds := [], alts := [], laidByText := true, laidKinds := [.data, .data, .data, .data, .sentinel, .sentinel, .sentinel, .sentinel, .sentinel, .sentinel, .pinned], laidTests := true, laidLooks := .later }
def AttrBackCardSaid : Prop := Claim7.holds Tryd.pinned (.plain (OpenSpec.ofChange attrBackSpec)) attrBackCard

/-- THE SECOND FORM's CARD OF 'herepathlaw1.SetParts'. -/
def setPartsUptoCard : Claim7 := { stood := { row := setPartsUptoRow, standIns := [], harness := (true, "5b16f01b718a14545ffd8292a47cb718a0697d8740bba7d210350accb4f1382e"), looks := true }, kinds := [], alts := [], laidByText := true, laidKinds := [.data, .sentinel, .sentinel], laidTests := true, laidLooks := .later }
def SetPartsUptoCardSaid : Prop := Claim7.holds Tryd.pinned (.plain (OpenSpec.upto setPartsSpec)) setPartsUptoCard

/-- THE SECOND FORM's CARD OF 'herepathlaw1.SetNormal'. -/
def setNormalUptoCard : Claim7 := { stood := { row := setNormalUptoRow, standIns := [], harness := (true, "5b16f01b718a14545ffd8292a47cb718a0697d8740bba7d210350accb4f1382e"), looks := true }, kinds := [], alts := [], laidByText := true, laidKinds := [.data, .sentinel, .sentinel, .sentinel], laidTests := true, laidLooks := .later }
def SetNormalUptoCardSaid : Prop := Claim7.holds Tryd.pinned (.plain (OpenSpec.upto setNormalSpec)) setNormalUptoCard

/-- THE SECOND FORM's CARD OF 'herepathlaw1.AttrBack'. -/
def attrBackUptoCard : Claim7 := { stood := { row := attrBackUptoRow, standIns := [], harness := (true, "5b16f01b718a14545ffd8292a47cb718a0697d8740bba7d210350accb4f1382e"), looks := true }, kinds := [], alts := [], laidByText := true, laidKinds := [.data, .data, .data, .data, .sentinel, .sentinel, .sentinel, .sentinel, .sentinel, .sentinel, .pinned], laidTests := true, laidLooks := .later }
def AttrBackUptoCardSaid : Prop := Claim7.holds Tryd.pinned (.plain (OpenSpec.upto attrBackSpec)) attrBackUptoCard
end Rows
end Go.Proofs.YtignngpligicjaaDoor
