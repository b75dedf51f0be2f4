/- The reference: is a number in a list. No condition but those that stand in each theorem. -/
import Derived.Test.YtimhbgpnkodlaaaDoorSl
import Derived.Test.YtimhbgpnkodlaaaDoorLs
import Derived.BigRegion
namespace Go.Proofs.YtimhbgpnkodlaaaDoor
open Go.RowKit

theorem inInts_any (v : Int) (A : Option Addr) (n c : Nat) (xs : List Int) (w : World) (hx : Ints w A xs) (hn : xs.length = n) (hl : n ≤ 1000000) :
    Calls Tryd.prog 8 #[.int .i64 v, .slice A n c] w fun e w1 => e = .returned (.bool (xs.any fun x => decide (v = x))) ∧ w = w1 := by
  have Hx := hide hx
  have Hn := hide hn
  clear hx hn
  go_enter Tryd.func8, Tryd.ntmps8
  go_wp2_with fail
  go_loop [5] (fun i => ∃ k : Nat, k ≤ n ∧ i = .int .i64 k ∧ ∀ (j : Nat) x, j < k → xs[j]? = some x → decide (v = x) = false) (fun i => n - (intOf i).toNat)
  case atStart => exact ⟨0, by omega, rfl, fun j x h => absurd h (by omega)⟩
  case round =>
    obtain ⟨k, hk, rfl, hz⟩ := hrel
    have Hz := hide hz
    clear hz
    by_cases hlt : k < n
    · obtain ⟨b, o, x, rfl, hb, hxk, hcx⟩ := Hx.out.at_ (k := k) (by have := Hn.out; omega)
      have Hxk := hide hxk
      have i1 : (k : Int) < (n : Int) := by omega
      clear hxk
      by_cases hd : v = x
      · have hbq : (x == v) = true := by simp [hd]
        have Hd := hide hd
        clear hd
        go_wp2_with fail
        go_ret
        exact ⟨ret_bool (by rw [← idxB_any, decide_eq_true]; rw [idxB_at (fun x => decide (v = x)) xs k x Hxk.out (decide_eq_true Hd.out) Hz.out]; omega), rfl⟩
      · have Hd := hide (decide_eq_false hd)
        have hbq : (x == v) = false := by simpa using fun h => hd h.symm
        clear hd
        go_wp2_with fail
        refine ⟨⟨k + 1, by omega, by go_num, fun j y hj hy => ?_⟩, by simp [intOf]; omega⟩
        by_cases hjk : j < k
        · exact Hz.out j y hjk hy
        · obtain rfl : j = k := by omega
          rw [Hxk.out] at hy; injection hy with hy; subst hy; exact Hd.out
    · have hkn : k = n := by omega
      subst hkn
      go_wp2_with fail
      go_ret
      exact ⟨ret_bool (by rw [← idxB_any, idxB_no (fun x => decide (v = x)) xs fun j y hy => Hz.out j y (by have := (List.getElem?_eq_some_iff.1 hy).1; have := Hn.out; omega) hy]; rfl), rfl⟩

end Go.Proofs.YtimhbgpnkodlaaaDoor
