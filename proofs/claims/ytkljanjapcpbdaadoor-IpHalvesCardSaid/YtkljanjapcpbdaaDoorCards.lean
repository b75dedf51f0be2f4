/-
  DERIVED. GIVEN WITH THE SEED: THE CARDS: each row of YtkljanjapcpbdaaDoorRows.lean that lists a variable, with what it lists TIED to the program's text (the seventh form; the later family's looks); each row that meets fmt, with fmt's text TOLD by the authors' own Lean function (tested against real Go, not proved from fmt's source: count such statements apart). THE CARD IS WHAT COUNTS. Prove the row's statement (the work); the ties are given (YtkljanjapcpbdaaDoorTie.lean); close each card by the builder's one call (the guide's Derived/Test/ToyasCard.lean, 'card_holds'). Laid BY PROGRAM, IN A SANDBOX (cutbox-door.mjs). By AI agents, Wed Nov 11 2026. No macro, syntax, notation, axiom, sorry.
-/
import Derived.Test.YtkljanjapcpbdaaDoorRows
import GoSem.ClaimSeven
namespace Go.Proofs.YtkljanjapcpbdaaDoor
namespace Rows

/-- THE TIED CARD OF 'herepathlaw3.LiveUp'. -/
def liveUpCard : Claim7 := { stood := { row := liveUpRow, standIns := [], harness := (true, "05507d89379bca5b8c1f8a79d771bf60aa8580646152df514df5525831ee628f"), looks := true }, kinds := [], alts := [], laidByText := true, laidKinds := [.sentinel, .sentinel, .sentinel, .sentinel, .sentinel, .sentinel], laidTests := true, laidLooks := .later }
def LiveUpCardSaid : Prop := Claim7.holds Tryd.pinned (.plain (OpenSpec.ofChange liveUpSpec)) liveUpCard

/-- THE TIED CARD OF 'herepathlaw1.FibActs'. -/
def fibActsCard : Claim7 := { stood := { row := fibActsRow, standIns := [], harness := (true, "05507d89379bca5b8c1f8a79d771bf60aa8580646152df514df5525831ee628f"), looks := true }, kinds := [], alts := [], laidByText := true, laidKinds := [.handle, .sentinel, .sentinel, .sentinel, .sentinel, .sentinel, .sentinel, .sentinel, .sentinel, .sentinel], laidTests := true, laidLooks := .later }
def FibActsCardSaid : Prop := Claim7.holds Tryd.pinned (.plain (OpenSpec.ofChange fibActsSpec)) fibActsCard

/-- THE TIED CARD OF 'herepathlaw2.RuleFirst'. -/
def ruleFirstCard : Claim7 := { stood := { row := ruleFirstRow, standIns := [], harness := (true, "05507d89379bca5b8c1f8a79d771bf60aa8580646152df514df5525831ee628f"), looks := true }, kinds := [], alts := [], laidByText := true, laidKinds := [.sentinel, .sentinel, .sentinel, .sentinel], laidTests := true, laidLooks := .later }
def RuleFirstCardSaid : Prop := Claim7.holds Tryd.pinned (.plain (OpenSpec.ofChange ruleFirstSpec)) ruleFirstCard

/-- THE TIED CARD OF 'herepathlaw3.LiveActs'. -/
def liveActsCard : Claim7 := { stood := { row := liveActsRow, standIns := [], harness := (true, "05507d89379bca5b8c1f8a79d771bf60aa8580646152df514df5525831ee628f"), looks := true }, kinds := [], alts := [], laidByText := true, laidKinds := [.handle, .sentinel, .sentinel, .sentinel, .sentinel, .sentinel, .sentinel, .sentinel, .sentinel, .sentinel], laidTests := true, laidLooks := .later }
def LiveActsCardSaid : Prop := Claim7.holds Tryd.pinned (.plain (OpenSpec.ofChange liveActsSpec)) liveActsCard

/-- THE TIED CARD OF 'herepathlaw2.RuleTells'. -/
def ruleTellsCard : Claim7 := { stood := { row := ruleTellsRow, standIns := [], harness := (true, "05507d89379bca5b8c1f8a79d771bf60aa8580646152df514df5525831ee628f"), looks := true }, kinds := [], alts := [], laidByText := true, laidKinds := [.handle, .sentinel, .sentinel, .sentinel, .sentinel, .sentinel, .sentinel, .sentinel, .sentinel, .sentinel], laidTests := true, laidLooks := .later }
def RuleTellsCardSaid : Prop := Claim7.holds Tryd.pinned (.plain (OpenSpec.ofChange ruleTellsSpec)) ruleTellsCard

/-- THE TIED CARD OF 'herepathlaw1.IpOrder'. -/
def ipOrderCard : Claim7 := { stood := { row := ipOrderRow, standIns := [], harness := (true, "05507d89379bca5b8c1f8a79d771bf60aa8580646152df514df5525831ee628f"), looks := true }, kinds := [], alts := [], laidByText := true, laidKinds := [.data, .data, .data, .data, .sentinel, .sentinel, .sentinel, .sentinel, .sentinel, .pinned], laidTests := true, laidLooks := .later }
def IpOrderCardSaid : Prop := Claim7.holds Tryd.pinned (.plain (OpenSpec.ofChange ipOrderSpec)) ipOrderCard

/-- THE TIED CARD OF 'herepathlaw1.IpHalves'. -/
def ipHalvesCard : Claim7 := { stood := { row := ipHalvesRow, standIns := [], harness := (true, "05507d89379bca5b8c1f8a79d771bf60aa8580646152df514df5525831ee628f"), looks := true }, kinds := [], alts := [], laidByText := true, laidKinds := [.data, .data, .data, .data, .sentinel, .sentinel, .sentinel, .sentinel, .sentinel, .sentinel, .pinned], laidTests := true, laidLooks := .later }
def IpHalvesCardSaid : Prop := Claim7.holds Tryd.pinned (.plain (OpenSpec.ofChange ipHalvesSpec)) ipHalvesCard

/-- THE SECOND FORM's CARD OF 'herepathlaw3.LiveUp'. -/
def liveUpUptoCard : Claim7 := { stood := { row := liveUpUptoRow, standIns := [], harness := (true, "05507d89379bca5b8c1f8a79d771bf60aa8580646152df514df5525831ee628f"), looks := true }, kinds := [], alts := [], laidByText := true, laidKinds := [.sentinel, .sentinel, .sentinel, .sentinel, .sentinel, .sentinel], laidTests := true, laidLooks := .later }
def LiveUpUptoCardSaid : Prop := Claim7.holds Tryd.pinned (.plain (OpenSpec.upto liveUpSpec)) liveUpUptoCard

/-- THE SECOND FORM's CARD OF 'herepathlaw1.FibActs'. -/
def fibActsUptoCard : Claim7 := { stood := { row := fibActsUptoRow, standIns := [], harness := (true, "05507d89379bca5b8c1f8a79d771bf60aa8580646152df514df5525831ee628f"), looks := true }, kinds := [], alts := [], laidByText := true, laidKinds := [.handle, .sentinel, .sentinel, .sentinel, .sentinel, .sentinel, .sentinel, .sentinel, .sentinel, .sentinel], laidTests := true, laidLooks := .later }
def FibActsUptoCardSaid : Prop := Claim7.holds Tryd.pinned (.plain (OpenSpec.upto fibActsSpec)) fibActsUptoCard

/-- THE SECOND FORM's CARD OF 'herepathlaw2.RuleFirst'. -/
def ruleFirstUptoCard : Claim7 := { stood := { row := ruleFirstUptoRow, standIns := [], harness := (true, "05507d89379bca5b8c1f8a79d771bf60aa8580646152df514df5525831ee628f"), looks := true }, kinds := [], alts := [], laidByText := true, laidKinds := [.sentinel, .sentinel, .sentinel, .sentinel], laidTests := true, laidLooks := .later }
def RuleFirstUptoCardSaid : Prop := Claim7.holds Tryd.pinned (.plain (OpenSpec.upto ruleFirstSpec)) ruleFirstUptoCard

/-- THE SECOND FORM's CARD OF 'herepathlaw3.LiveActs'. -/
def liveActsUptoCard : Claim7 := { stood := { row := liveActsUptoRow, standIns := [], harness := (true, "05507d89379bca5b8c1f8a79d771bf60aa8580646152df514df5525831ee628f"), looks := true }, kinds := [], alts := [], laidByText := true, laidKinds := [.handle, .sentinel, .sentinel, .sentinel, .sentinel, .sentinel, .sentinel, .sentinel, .sentinel, .sentinel], laidTests := true, laidLooks := .later }
def LiveActsUptoCardSaid : Prop := Claim7.holds Tryd.pinned (.plain (OpenSpec.upto liveActsSpec)) liveActsUptoCard

/-- THE SECOND FORM's CARD OF 'herepathlaw2.RuleTells'. -/
def ruleTellsUptoCard : Claim7 := { stood := { row := ruleTellsUptoRow, standIns := [], harness := (true, "05507d89379bca5b8c1f8a79d771bf60aa8580646152df514df5525831ee628f"), looks := true }, kinds := [], alts := [], laidByText := true, laidKinds := [.handle, .sentinel, .sentinel, .sentinel, .sentinel, .sentinel, .sentinel, .sentinel, .sentinel, .sentinel], laidTests := true, laidLooks := .later }
def RuleTellsUptoCardSaid : Prop := Claim7.holds Tryd.pinned (.plain (OpenSpec.upto ruleTellsSpec)) ruleTellsUptoCard

/-- THE SECOND FORM's CARD OF 'herepathlaw1.IpOrder'. -/
def ipOrderUptoCard : Claim7 := { stood := { row := ipOrderUptoRow, standIns := [], harness := (true, "05507d89379bca5b8c1f8a79d771bf60aa8580646152df514df5525831ee628f"), looks := true }, kinds := [], alts := [], laidByText := true, laidKinds := [.data, .data, .data, .data, .sentinel, .sentinel, .sentinel, .sentinel, .sentinel, .pinned], laidTests := true, laidLooks := .later }
def IpOrderUptoCardSaid : Prop := Claim7.holds Tryd.pinned (.plain (OpenSpec.upto ipOrderSpec)) ipOrderUptoCard

/-- THE SECOND FORM's CARD OF 'herepathlaw1.IpHalves'. -/
def ipHalvesUptoCard : Claim7 := { stood := { row := ipHalvesUptoRow, standIns := [], harness := (true, "05507d89379bca5b8c1f8a79d771bf60aa8580646152df514df5525831ee628f"), looks := true }, kinds := [], alts := [], laidByText := true, laidKinds := [.data, .data, .data, .data, .sentinel, .sentinel, .sentinel, .sentinel, .sentinel, .sentinel, .pinned], laidTests := true, laidLooks := .later }
def IpHalvesUptoCardSaid : Prop := Claim7.holds Tryd.pinned (.plain (OpenSpec.upto ipHalvesSpec)) ipHalvesUptoCard
end Rows
end Go.Proofs.YtkljanjapcpbdaaDoor
