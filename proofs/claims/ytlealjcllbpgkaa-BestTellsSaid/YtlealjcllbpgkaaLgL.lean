/- Package herepathlaw1: LongAttr. No condition but those that stand in each theorem. -/
import Derived.Test.YtlealjcllbpgkaaAt2
import Derived.Test.YtlealjcllbpgkaaWi1
import Derived.Test.YtlealjcllbpgkaaRg
namespace Go.Proofs.Ytlealjcllbpgkaa
open Go.RowKit

set_option maxRecDepth 8000 in
set_option maxHeartbeats 1000000 in
theorem longAttr_yes (a : AttrR) (w : World) (h : 20 < a.path.length ∨ 15 < a.tags.length) :
    Calls Try.prog 11 #[.agg a.cells] w fun e w1 => e = .returned (.int .i64 1) ∧ New w w1 := by
  have u := hide ((Upd.refl (fun _ => False) w).alloc (.cells a.cells TA))
  unfold AttrR.cells at *
  by_cases h1 : 20 < a.path.length
  · have i1 : (20 : Int) < (a.path.length : Int) := by omega
    clear h h1
    go_enter Try.func11, Try.ntmps11
    go_wp2_with fail
    go_ret
    exact ⟨rfl, u.out⟩
  · have i1 : ¬ (20 : Int) < (a.path.length : Int) := by omega
    have i2 : (15 : Int) < (a.tags.length : Int) := by omega
    clear h h1
    go_enter Try.func11, Try.ntmps11
    go_wp2_with fail
    go_ret
    exact ⟨rfl, u.out⟩
set_option maxRecDepth 8000 in
set_option maxHeartbeats 1000000 in
theorem longAttr_no (a : AttrR) (w : World) (h1 : a.path.length ≤ 20) (h2 : a.tags.length ≤ 15) :
    Calls Try.prog 11 #[.agg a.cells] w fun e w1 => e = .returned (.int .i64 0) ∧ New w w1 := by
  have u := hide ((Upd.refl (fun _ => False) w).alloc (.cells a.cells TA))
  unfold AttrR.cells at *
  have i1 : ¬ (20 : Int) < (a.path.length : Int) := by omega
  have i2 : ¬ (15 : Int) < (a.tags.length : Int) := by omega
  clear h1 h2
  go_enter Try.func11, Try.ntmps11
  go_wp2_with fail
  go_ret
  exact ⟨rfl, u.out⟩
end Go.Proofs.Ytlealjcllbpgkaa
