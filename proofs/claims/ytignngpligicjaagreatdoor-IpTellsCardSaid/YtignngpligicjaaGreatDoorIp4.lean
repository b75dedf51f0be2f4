/- Package ip: Halves. No condition but those that stand in each theorem. -/
import Derived.Test.YtignngpligicjaaGreatDoorIp3
namespace Go.Proofs.YtignngpligicjaaGreatDoor
open Go.RowKit

theorem or_pow (a k : Nat) (h : a % 2 ^ (k + 1) = 0) : a ||| 2 ^ k = a + 2 ^ k := by
  obtain ⟨c, rfl⟩ := Nat.dvd_of_mod_eq_zero h
  exact (Nat.two_pow_add_eq_or_of_lt (Nat.pow_lt_pow_right (by omega) (by omega)) c).symm

/-- The other half's address. -/
theorem or_i64 (a n : Int) (ha : 0 ≤ a ∧ a < 4294967296) (hn : 0 ≤ n ∧ n < 32) (hl : low a.toNat n.toNat = 0) :
    bits .or .i64 a (wrap64 (2 ^ (31 - n).toNat)) = a + ((2 ^ (31 - n.toNat) : Nat) : Int) := by
  obtain ⟨a, rfl⟩ := Int.eq_ofNat_of_zero_le ha.1
  obtain ⟨n, rfl⟩ := Int.eq_ofNat_of_zero_le hn.1
  have e : ((31 : Int) - (n : Int)).toNat = 31 - n := by omega
  rw [e, w64_pow _ (by omega), Int.toNat_natCast]
  have h1 := pow_le32 (31 - n) (by omega)
  rw [i64_or_nat a _ (by omega) (by omega), or_pow]
  · push_cast; rfl
  · simp only [low, Int.toNat_natCast] at hl
    rw [show 31 - n + 1 = 32 - n by omega]
    exact hl

abbrev gNone : Nat := 6

end Go.Proofs.YtignngpligicjaaGreatDoor
