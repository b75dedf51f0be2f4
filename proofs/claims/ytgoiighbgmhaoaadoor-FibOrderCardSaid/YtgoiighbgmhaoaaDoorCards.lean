/-
  DERIVED. GIVEN WITH THE SEED: THE CARDS: each row of YtgoiighbgmhaoaaDoorRows.lean that lists a variable, with what it lists TIED to the program's text (the seventh form; the later family's looks); each row that meets fmt, with fmt's text TOLD by the authors' own Lean function (tested against real Go, not proved from fmt's source: count such statements apart). THE CARD IS WHAT COUNTS. Prove the row's statement (the work); the ties are given (YtgoiighbgmhaoaaDoorTie.lean); close each card by the builder's one call (the guide's Derived/Test/ToyasCard.lean, 'card_holds'). Laid BY PROGRAM, IN A SANDBOX (cutbox-door.mjs). By AI agents, Wed Nov 11 2026. No macro, syntax, notation, axiom, sorry.
-/
import Derived.Test.YtgoiighbgmhaoaaDoorRows
import GoSem.ClaimSeven
namespace Go.Proofs.YtgoiighbgmhaoaaDoor
namespace Rows

/-- THE TIED CARD OF 'herepathlaw1.FibOrder'. -/
def fibOrderCard : Claim7 := { stood := { row := fibOrderRow, standIns := [], harness := (true, "1b52fd27cb52bf3fb9922dda92e8e8b589f9ee0112360f47793a778b2f37fdba"), looks := true }, kinds := [], alts := [], laidByText := true, laidKinds := [.sentinel, .sentinel, .sentinel, .sentinel], laidTests := true, laidLooks := .later }
def FibOrderCardSaid : Prop := Claim7.holds Tryd.pinned (.plain (OpenSpec.ofChange fibOrderSpec)) fibOrderCard

/-- THE TIED CARD OF 'herepathlaw1.FibLongest'. -/
def fibLongestCard : Claim7 := { stood := { row := fibLongestRow, standIns := [], harness := (true, "1b52fd27cb52bf3fb9922dda92e8e8b589f9ee0112360f47793a778b2f37fdba"), looks := true }, kinds := [], alts := [], laidByText := true, laidKinds := [.sentinel, .sentinel, .sentinel, .sentinel, .sentinel], laidTests := true, laidLooks := .later }
def FibLongestCardSaid : Prop := Claim7.holds Tryd.pinned (.plain (OpenSpec.ofChange fibLongestSpec)) fibLongestCard

/-- THE TIED CARD OF 'herepathlaw1.Names'. -/
def namesCard : Claim7 := { stood := { row := namesRow, standIns := [], harness := (true, "1b52fd27cb52bf3fb9922dda92e8e8b589f9ee0112360f47793a778b2f37fdba"), looks := true }, kinds := [], alts := [], laidByText := true, laidKinds := [.handle, .sentinel, .sentinel, .sentinel, .sentinel, .sentinel, .sentinel, .sentinel, .sentinel, .sentinel], laidTests := true, laidLooks := .later }
def NamesCardSaid : Prop := Claim7.holds Tryd.pinned (.plain (OpenSpec.ofChange namesSpec)) namesCard

/-- THE TIED CARD OF 'herepathlaw1.FibActs'. -/
def fibActsCard : Claim7 := { stood := { row := fibActsRow, standIns := [], harness := (true, "1b52fd27cb52bf3fb9922dda92e8e8b589f9ee0112360f47793a778b2f37fdba"), looks := true }, kinds := [], alts := [], laidByText := true, laidKinds := [.handle, .sentinel, .sentinel, .sentinel, .sentinel, .sentinel, .sentinel, .sentinel, .sentinel, .sentinel], laidTests := true, laidLooks := .later }
def FibActsCardSaid : Prop := Claim7.holds Tryd.pinned (.plain (OpenSpec.ofChange fibActsSpec)) fibActsCard

/-- THE TIED CARD OF 'herepathlaw1.IpOrder'. -/
def ipOrderCard : Claim7 := { stood := { row := ipOrderRow, standIns := [], harness := (true, "1b52fd27cb52bf3fb9922dda92e8e8b589f9ee0112360f47793a778b2f37fdba"), looks := true }, kinds := [], alts := [], laidByText := true, laidKinds := [.data, .data, .data, .data, .sentinel, .sentinel, .sentinel, .sentinel, .sentinel, .pinned], laidTests := true, laidLooks := .later }
def IpOrderCardSaid : Prop := Claim7.holds Tryd.pinned (.plain (OpenSpec.ofChange ipOrderSpec)) ipOrderCard

/-- THE TIED CARD OF 'herepathlaw1.SetParts'. -/
def setPartsCard : Claim7 := { stood := { row := setPartsRow, standIns := [], harness := (true, "1b52fd27cb52bf3fb9922dda92e8e8b589f9ee0112360f47793a778b2f37fdba"), looks := true }, kinds := [], alts := [], laidByText := true, laidKinds := [.data, .sentinel, .sentinel], laidTests := true, laidLooks := .later }
def SetPartsCardSaid : Prop := Claim7.holds Tryd.pinned (.plain (OpenSpec.ofChange setPartsSpec)) setPartsCard

/-- THE TIED CARD OF 'herepathlaw1.IpHalves'. -/
def ipHalvesCard : Claim7 := { stood := { row := ipHalvesRow, standIns := [], harness := (true, "1b52fd27cb52bf3fb9922dda92e8e8b589f9ee0112360f47793a778b2f37fdba"), looks := true }, kinds := [], alts := [], laidByText := true, laidKinds := [.data, .data, .data, .data, .sentinel, .sentinel, .sentinel, .sentinel, .sentinel, .sentinel, .pinned], laidTests := true, laidLooks := .later }
def IpHalvesCardSaid : Prop := Claim7.holds Tryd.pinned (.plain (OpenSpec.ofChange ipHalvesSpec)) ipHalvesCard

/-- THE TIED CARD OF 'herepathlaw1.SetNormal'. -/
def setNormalCard : Claim7 := { stood := { row := setNormalRow, standIns := [], harness := (true, "1b52fd27cb52bf3fb9922dda92e8e8b589f9ee0112360f47793a778b2f37fdba"), looks := true }, kinds := [], alts := [], laidByText := true, laidKinds := [.data, .sentinel, .sentinel, .sentinel], laidTests := true, laidLooks := .later }
def SetNormalCardSaid : Prop := Claim7.holds Tryd.pinned (.plain (OpenSpec.ofChange setNormalSpec)) setNormalCard

/-- THE TIED CARD OF 'herepathlaw1.AttrBack'. -/
def attrBackCard : Claim7 := { stood := { row := attrBackRow, standIns := [], harness := (true, "1b52fd27cb52bf3fb9922dda92e8e8b589f9ee0112360f47793a778b2f37fdba"), looks := true }, kinds := [], alts := [], laidByText := true, laidKinds := [.data, .data, .data, .data, .sentinel, .sentinel, .sentinel, .sentinel, .sentinel, .sentinel, .pinned], laidTests := true, laidLooks := .later }
def AttrBackCardSaid : Prop := Claim7.holds Tryd.pinned (.plain (OpenSpec.ofChange attrBackSpec)) attrBackCard

/-- THE SECOND FORM's CARD OF 'herepathlaw1.FibOrder'. -/
def fibOrderUptoCard : Claim7 := { stood := { row := fibOrderUptoRow, standIns := [], harness := (true, "1b52fd27cb52bf3fb9922dda92e8e8b589f9ee0112360f47793a778b2f37fdba"), looks := true }, kinds := [], alts := [], laidByText := true, laidKinds := [.sentinel, .sentinel, .sentinel, .sentinel], laidTests := true, laidLooks := .later }
def FibOrderUptoCardSaid : Prop := Claim7.holds Tryd.pinned (.plain (OpenSpec.upto fibOrderSpec)) fibOrderUptoCard

/-- THE SECOND FORM's CARD OF 'herepathlaw1.FibLongest'. -/
def fibLongestUptoCard : Claim7 := { stood := { row := fibLongestUptoRow, standIns := [], harness := (true, "1b52fd27cb52bf3fb9922dda92e8e8b589f9ee0112360f47793a778b2f37fdba"), looks := true }, kinds := [], alts := [], laidByText := true, laidKinds := [.sentinel, .sentinel, .sentinel, .sentinel, .sentinel], laidTests := true, laidLooks := .later }
def FibLongestUptoCardSaid : Prop := Claim7.holds Tryd.pinned (.plain (OpenSpec.upto fibLongestSpec)) fibLongestUptoCard

/-- THE SECOND FORM's CARD OF 'herepathlaw1.Names'. -/
def namesUptoCard : Claim7 := { stood := { row := namesUptoRow, standIns := [], harness := (true, "1b52fd27cb52bf3fb9922dda92e8e8b589f9ee0112360f47793a778b2f37fdba"), looks := true }, kinds := [], alts := [], laidByText := true, laidKinds := [.handle, .sentinel, .sentinel, .sentinel, .sentinel, .sentinel, .sentinel, .sentinel, .sentinel, .sentinel], laidTests := true, laidLooks := .later }
def NamesUptoCardSaid : Prop := Claim7.holds Tryd.pinned (.plain (OpenSpec.upto namesSpec)) namesUptoCard

/-- THE SECOND FORM's CARD OF 'herepathlaw1.FibActs'. -/
def fibActsUptoCard : Claim7 := { stood := { row := fibActsUptoRow, standIns := [], harness := (true, "1b52fd27cb52bf3fb9922dda92e8e8b589f9ee0112360f47793a778b2f37fdba"), looks := true }, kinds := [], alts := [], laidByText := true, laidKinds := [.handle, .sentinel, .sentinel, .sentinel, .sentinel, .sentinel, .sentinel, .sentinel, .sentinel, .sentinel], laidTests := true, laidLooks := .later }
def FibActsUptoCardSaid : Prop := Claim7.holds Tryd.pinned (.plain (OpenSpec.upto fibActsSpec)) fibActsUptoCard

/-- THE SECOND FORM's CARD OF 'herepathlaw1.IpOrder'. -/
def ipOrderUptoCard : Claim7 := { stood := { row := ipOrderUptoRow, standIns := [], harness := (true, "1b52fd27cb52bf3fb9922dda92e8e8b589f9ee0112360f47793a778b2f37fdba"), looks := true }, kinds := [], alts := [], laidByText := true, laidKinds := [.data, .data, .data, .data, .sentinel, .sentinel, .sentinel, .sentinel, .sentinel, .pinned], laidTests := true, laidLooks := .later }
def IpOrderUptoCardSaid : Prop := Claim7.holds Tryd.pinned (.plain (OpenSpec.upto ipOrderSpec)) ipOrderUptoCard

/-- THE SECOND FORM's CARD OF 'herepathlaw1.SetParts'. -/
def setPartsUptoCard : Claim7 := { stood := { row := setPartsUptoRow, standIns := [], harness := (true, "1b52fd27cb52bf3fb9922dda92e8e8b589f9ee0112360f47793a778b2f37fdba"), looks := true }, kinds := [], alts := [], laidByText := true, laidKinds := [.data, .sentinel, .sentinel], laidTests := true, laidLooks := .later }
def SetPartsUptoCardSaid : Prop := Claim7.holds Tryd.pinned (.plain (OpenSpec.upto setPartsSpec)) setPartsUptoCard

/-- THE SECOND FORM's CARD OF 'herepathlaw1.IpHalves'. -/
def ipHalvesUptoCard : Claim7 := { stood := { row := ipHalvesUptoRow, standIns := [], harness := (true, "1b52fd27cb52bf3fb9922dda92e8e8b589f9ee0112360f47793a778b2f37fdba"), looks := true }, kinds := [], alts := [], laidByText := true, laidKinds := [.data, .data, .data, .data, .sentinel, .sentinel, .sentinel, .sentinel, .sentinel, .sentinel, .pinned], laidTests := true, laidLooks := .later }
def IpHalvesUptoCardSaid : Prop := Claim7.holds Tryd.pinned (.plain (OpenSpec.upto ipHalvesSpec)) ipHalvesUptoCard

/-- THE SECOND FORM's CARD OF 'herepathlaw1.SetNormal'. -/
def setNormalUptoCard : Claim7 := { stood := { row := setNormalUptoRow, standIns := [], harness := (true, "1b52fd27cb52bf3fb9922dda92e8e8b589f9ee0112360f47793a778b2f37fdba"), looks := true }, kinds := [], alts := [], laidByText := true, laidKinds := [.data, .sentinel, .sentinel, .sentinel], laidTests := true, laidLooks := .later }
def SetNormalUptoCardSaid : Prop := Claim7.holds Tryd.pinned (.plain (OpenSpec.upto setNormalSpec)) setNormalUptoCard

/-- THE SECOND FORM's CARD OF 'herepathlaw1.AttrBack'. -/
def attrBackUptoCard : Claim7 := { stood := { row := attrBackUptoRow, standIns := [], harness := (true, "1b52fd27cb52bf3fb9922dda92e8e8b589f9ee0112360f47793a778b2f37fdba"), looks := true }, kinds := [], alts := [], laidByText := true, laidKinds := [.data, .data, .data, .data, .sentinel, .sentinel, .sentinel, .sentinel, .sentinel, .sentinel, .pinned], laidTests := true, laidLooks := .later }
def AttrBackUptoCardSaid : Prop := Claim7.holds Tryd.pinned (.plain (OpenSpec.upto attrBackSpec)) attrBackUptoCard
end Rows
end Go.Proofs.YtgoiighbgmhaoaaDoor
