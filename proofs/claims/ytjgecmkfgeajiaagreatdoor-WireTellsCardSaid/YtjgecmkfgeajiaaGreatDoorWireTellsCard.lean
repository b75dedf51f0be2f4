/- The law WireTells, its tied card: for every input the call returns true. Its condition is the row's own: the listed variables are as the program's text lays them; the card ties them to that text. -/
import Derived.Test.YtjgecmkfgeajiaaGreatDoorWireTellsLaw
namespace Go.Proofs.YtjgecmkfgeajiaaGreatDoor
open Go

theorem wireTells_card : Rows.WireTellsCardSaid :=
  Claim7.holds_tied_plain_at .later [] _ true _ _
    wireTells_holds (fun _ h => by cases h) (by kernel_rfl) (fun _ h => by cases h) wireTells_row_tie rfl ⟨rfl, rfl⟩ (by kernel_rfl) rfl
    (fun f fn hf hfn => by
      obtain rfl : f = 4 := Option.some.inj ((show Tryz.prog.funcNamed "herepath/herepathlaw2.WireTells" = some 4 by kernel_rfl).symm.trans hf) |>.symm
      obtain rfl : fn = Tryz.f4 := (Option.some.inj (Tryz.func4.symm.trans hfn)).symm
      exact ⟨by kernel_rfl, fun j t ht => by
        have hm : t ∈ Tryz.f4.params := Array.mem_of_getElem? ht
        have hall : (Tryz.f4.params.toList.all fun u => !Tryz.prog.wantsStandIn u) = true := by kernel_rfl
        exact (show Tryz.prog.wantsStandIn t = false by simpa using List.all_eq_true.1 hall t (by simpa using hm))⟩)
    (by kernel_rfl)
end Go.Proofs.YtjgecmkfgeajiaaGreatDoor
