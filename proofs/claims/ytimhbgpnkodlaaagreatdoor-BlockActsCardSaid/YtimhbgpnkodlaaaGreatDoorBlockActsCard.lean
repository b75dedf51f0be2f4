/- The law BlockActs, its tied card: for every input the call returns true. Its condition is the row's own: the listed variables are as the program's text lays them; the card ties them to that text. -/
import Derived.Test.YtimhbgpnkodlaaaGreatDoorBlockActsLaw
namespace Go.Proofs.YtimhbgpnkodlaaaGreatDoor
open Go

theorem blockActs_card : Rows.BlockActsCardSaid :=
  Claim7.holds_tied_plain_at .later [] _ true _ _
    blockActs_holds (fun _ h => by cases h) (by kernel_rfl) (fun _ h => by cases h) blockActs_row_tie rfl ⟨rfl, rfl⟩ (by kernel_rfl) rfl
    (fun f fn hf hfn => by
      obtain rfl : f = 3 := Option.some.inj ((show Tryz.prog.funcNamed "herepath/herepathlaw2.BlockActs" = some 3 by kernel_rfl).symm.trans hf) |>.symm
      obtain rfl : fn = Tryz.f3 := (Option.some.inj (Tryz.func3.symm.trans hfn)).symm
      exact ⟨by kernel_rfl, fun j t ht => by
        have hm : t ∈ Tryz.f3.params := Array.mem_of_getElem? ht
        have hall : (Tryz.f3.params.toList.all fun u => !Tryz.prog.wantsStandIn u) = true := by kernel_rfl
        exact (show Tryz.prog.wantsStandIn t = false by simpa using List.all_eq_true.1 hall t (by simpa using hm))⟩)
    (by kernel_rfl)
end Go.Proofs.YtimhbgpnkodlaaaGreatDoor
