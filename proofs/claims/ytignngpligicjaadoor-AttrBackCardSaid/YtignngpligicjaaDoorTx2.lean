/- Package ip: AddrText. No condition but those that stand in each theorem. -/
import Derived.Test.YtignngpligicjaaDoorTx1
import Derived.Test.YtignngpligicjaaDoorAr
namespace Go.Proofs.YtignngpligicjaaDoor
open Go.RowKit

/-- The first parts of an address, each behind a point. -/
def textK (a : Nat) : Nat → List UInt8
  | 0 => []
  | k + 1 => textK a k ++ 46 :: Lib.itoa ((a / 2 ^ (24 - 8 * k) % 256 : Nat) : Int)
theorem and255 (x : Nat) (hx : x < 9223372036854775808) : bits .and .i64 (x : Int) 255 = ((x % 256 : Nat) : Int) := by
  have h := i64_and_nat x 255 hx (by omega)
  have h2 : x &&& 255 = x % 256 := and_mask x 8
  rw [h2] at h
  exact h
theorem dec_len : ∀ u : Fin 256, (Lib.decDigits u.val).length ≤ 3 := by decide +kernel
theorem itoa_len (u : Nat) (h : u < 256) : (Lib.itoa (u : Int)).length ≤ 3 := by
  have h1 := dec_len ⟨u, h⟩
  unfold Lib.itoa
  rw [if_neg (by omega)]
  exact h1
theorem textK_len (a : Nat) : ∀ k, (textK a k).length ≤ 4 * k
  | 0 => by simp [textK]
  | k + 1 => by
    have h1 := textK_len a k
    have h2 := itoa_len (a / 2 ^ (24 - 8 * k) % 256) (Nat.mod_lt _ (by omega))
    unfold textK
    rw [List.length_append, List.length_cons]
    omega
/-- An address in words; what is none is empty. -/
def addrT (a : Int) : List UInt8 := if 0 ≤ a ∧ a < 4294967296 then (textK a.toNat 4).drop 1 else []

end Go.Proofs.YtignngpligicjaaDoor
