/- The law Names, its tied card: the numbers of package api, and of its errors, are those of the document: the call returns true. Its condition is the row's own: the listed variables are as the program's text lays them; the card ties them to that text. -/
import Derived.Test.YtcnccfhgjdaniaaDoorNamesLaw
namespace Go.Proofs.YtcnccfhgjdaniaaDoor
open Go

theorem names_card : Rows.NamesCardSaid :=
  Claim7.holds_tied_plain_at .later [] _ true _ _
    names_holds (fun _ h => by cases h) (by kernel_rfl) (fun _ h => by cases h) names_row_tie rfl ⟨rfl, rfl⟩ (by kernel_rfl) rfl
    (fun f fn hf hfn => by
      obtain rfl : f = 4 := Option.some.inj ((show Tryd.prog.funcNamed "herepath/herepathlaw1.Names" = some 4 by kernel_rfl).symm.trans hf) |>.symm
      obtain rfl : fn = Tryd.f4 := (Option.some.inj (Tryd.func4.symm.trans hfn)).symm
      exact ⟨by kernel_rfl, fun j t ht => by
        have hm : t ∈ Tryd.f4.params := Array.mem_of_getElem? ht
        have hall : (Tryd.f4.params.toList.all fun u => !Tryd.prog.wantsStandIn u) = true := by kernel_rfl
        exact (show Tryd.prog.wantsStandIn t = false by simpa using List.all_eq_true.1 hall t (Array.mem_toList_iff.2 hm))⟩)
    (by kernel_rfl)
end Go.Proofs.YtcnccfhgjdaniaaDoor
