/- The leaves of package ip: what each call answers. No condition but those that stand in each theorem. -/
import Derived.Test.YtlealjcllbpgkaaProg
import Derived.Test.YtlealjcllbpgkaaHp
import Derived.Deep.QuietTactic
import Derived.BigQuiet
import Derived.WalkLawsBesides
import Derived.WalkSpells
namespace Go.Proofs.Ytlealjcllbpgkaa
open Go.RowKit

/-- What lies behind the first n bits. -/
def low (a n : Nat) : Nat := a % 2 ^ (32 - n)

/-- 0: right; 2: bound; 3: shape. -/
def chk (a n : Int) : Nat := if 0 ≤ a ∧ a < 4294967296 ∧ 0 ≤ n ∧ n ≤ 32 then (if low a.toNat n.toNat = 0 then 0 else 3) else 2

theorem chk_bound {a n : Int} (h : ¬ (0 ≤ a ∧ a < 4294967296 ∧ 0 ≤ n ∧ n ≤ 32)) : chk a n = 2 := by unfold chk; rw [if_neg h]
theorem chk_right {a n : Int} (ha : 0 ≤ a ∧ a < 4294967296) (hn : 0 ≤ n ∧ n ≤ 32) : chk a n = if low a.toNat n.toNat = 0 then 0 else 3 := by
  unfold chk
  rw [if_pos ⟨ha.1, ha.2, hn.1, hn.2⟩]

theorem chk_zero {a n : Int} (h : chk a n = 0) : (0 ≤ a ∧ a < 4294967296) ∧ (0 ≤ n ∧ n ≤ 32) ∧ low a.toNat n.toNat = 0 := by
  unfold chk at h
  split at h
  · rename_i hh
    split at h
    · rename_i h0; exact ⟨⟨hh.1, hh.2.1⟩, ⟨hh.2.2.1, hh.2.2.2⟩, h0⟩
    · omega
  · omega

/-- A prefix. -/
def pfx (a n : Int) : Value := .agg #[.int .i64 a, .int .i64 n]

end Go.Proofs.Ytlealjcllbpgkaa
