/- Package herepathlaw2: coded and faulted. No condition but those that stand in each theorem. -/
import Derived.Test.YtimhbgpnkodlaaaGreatDoorPc1
import Derived.Test.YtimhbgpnkodlaaaGreatDoorSl
namespace Go.Proofs.YtimhbgpnkodlaaaGreatDoor
open Go.RowKit

set_option maxHeartbeats 1000000 in
theorem codedB_any (v : Value) (k : Nat) (i c : Int) (w : World) (E : Nat → Addr) (h : Errs w E) (hv : ErrV w E v k i) :
    Calls Tryz.prog 7 #[v, .int .i64 c] w fun e w1 => e = .returned (.bool (decide ((k : Int) = c ∧ i = -1))) ∧ New w w1 := by
  have Hc := hide (code_any v k i w E h hv)
  clear h hv
  by_cases h1 : (k : Int) = c
  · subst h1
    by_cases h2 : i = -1
    · subst h2
      go_enter Tryz.func7, Tryz.ntmps7
      go_wp2_with fail
      refine Hc.out.mono ?_
      rintro e w1 ⟨rfl, hu⟩
      go_wp2_with fail
      go_ret
      exact ⟨ret_bool (by simp), hu⟩
    · have b2 : (i == -1) = false := by simpa using h2
      have H2 := hide h2
      clear h2
      go_enter Tryz.func7, Tryz.ntmps7
      go_wp2_with fail
      refine Hc.out.mono ?_
      rintro e w1 ⟨rfl, hu⟩
      go_wp2_with fail
      go_ret
      exact ⟨ret_bool (by have := H2.out; simp [this]), hu⟩
  · have b1 : ((k : Int) == c) = false := by simpa using h1
    have H1 := hide h1
    clear h1
    go_enter Tryz.func7, Tryz.ntmps7
    go_wp2_with fail
    refine Hc.out.mono ?_
    rintro e w1 ⟨rfl, hu⟩
    go_wp2_with fail
    go_ret
    exact ⟨ret_bool (by have := H1.out; simp [this]), hu⟩

end Go.Proofs.YtimhbgpnkodlaaaGreatDoor
