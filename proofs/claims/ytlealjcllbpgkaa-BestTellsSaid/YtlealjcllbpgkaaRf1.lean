/- The reference's prefixes: addresses, sizes, an error's number, which is ahead. No condition but those that stand in each theorem. -/
import Derived.Test.YtlealjcllbpgkaaWi1
import Derived.Test.YtlealjcllbpgkaaIp2
namespace Go.Proofs.Ytlealjcllbpgkaa
open Go.RowKit

def isA (a : Int) : Bool := decide (0 ≤ a ∧ a < 4294967296)
theorem pw_le (k : Nat) (h : k ≤ 32) : 2 ^ k ≤ 4294967296 := by
  have := Nat.pow_le_pow_right (show 0 < 2 by omega) h
  simpa using this

theorem boolN (c : Nat) : (c = 0) ∨ (c ≠ 0) := by omega
end Go.Proofs.Ytlealjcllbpgkaa

namespace Go.Proofs.Ytlealjcllbpgkaa
open Go.RowKit

def aheadB (a n b m : Int) : Bool := if a = b then decide (n < m) else decide (a < b)
theorem ahead_cmp (a n b m : Int) : aheadB a n b m = decide (cmpP a n b m < 0) := by
  unfold aheadB cmpP
  by_cases h : a = b
  · subst h
    rw [if_pos rfl]
    simp only [sgn, firstNZ]
    split <;> (try split) <;> (try split) <;> simp_all <;> omega
  · rw [if_neg h]
    simp only [sgn, firstNZ]
    split <;> (try split) <;> (try split) <;> simp_all <;> omega
theorem less_ahead (a n b m : Int) (h1 : chk a n = 0) (h2 : chk b m = 0) : lessB a n b m = aheadB a n b m := by
  rw [ahead_cmp]
  unfold lessB
  simp [h1, h2]

def faultV (c : Nat × Int) : Value := .agg #[.int .i64 (c.1 : Nat), .int .i64 c.2]
def faultC (c : Nat × Int) : Array Value := #[.int .i64 (c.1 : Nat), .int .i64 c.2]
end Go.Proofs.Ytlealjcllbpgkaa
