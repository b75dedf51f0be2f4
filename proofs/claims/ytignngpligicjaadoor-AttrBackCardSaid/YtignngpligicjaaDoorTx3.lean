/- Package ip: ReadAddr. No condition but those that stand in each theorem. -/
import Derived.Test.YtignngpligicjaaDoorTx2
import Derived.Lib.SplitLaws
namespace Go.Proofs.YtignngpligicjaaDoor
open Go.RowKit

/-- The number that parts spell, behind what was read before. -/
def partsV : List ByteArray → Nat → Option Nat
  | [], acc => some acc
  | p :: ps, acc => match numV p.data.toList 255 with
    | some v => partsV ps (acc * 256 + v.toNat)
    | none => none
theorem partsV_some {p : ByteArray} {ps : List ByteArray} {acc : Nat} {v : Int} (h : numV p.data.toList 255 = some v) : partsV (p :: ps) acc = partsV ps (acc * 256 + v.toNat) := by
  show (match numV p.data.toList 255 with | some v => partsV ps (acc * 256 + v.toNat) | none => none) = _
  rw [h]
theorem partsV_none {p : ByteArray} {ps : List ByteArray} {acc : Nat} (h : numV p.data.toList 255 = none) : partsV (p :: ps) acc = none := by
  show (match numV p.data.toList 255 with | some v => partsV ps (acc * 256 + v.toNat) | none => none) = _
  rw [h]
def dot : ByteArray := ⟨#[46]⟩
def readParts (s : ByteArray) : List ByteArray := Lib.splitB dot 0 (Lib.countB s dot) s
def readA (s : ByteArray) : Option Nat := if (readParts s).length = 4 then partsV (readParts s) 0 else none
theorem readParts_len (s : ByteArray) : (readParts s).length = Lib.countB s dot + 1 := Lib.splitB_all dot (by decide) 0 _ s rfl
theorem piece_le (sep : ByteArray) : ∀ (k : Nat) (s p : ByteArray), p ∈ Lib.splitB sep 0 k s → p.size ≤ s.size
  | 0, s, p, h => by
    rw [Lib.splitB_zero] at h
    rw [List.mem_singleton.1 h]
    exact Nat.le_refl _
  | k + 1, s, p, h => by
    unfold Lib.splitB at h
    split at h
    · rw [List.mem_singleton.1 h]; exact Nat.le_refl _
    · rcases List.mem_cons.1 h with rfl | h
      · simp; omega
      · have := piece_le sep k _ p h
        simp at this
        omega
theorem numV_range {l : List UInt8} {most v : Int} (h : numV l most = some v) : 0 ≤ v ∧ v ≤ most := by
  unfold numV at h
  split at h
  · split at h
    · rename_i hh; injection h with h; subst h; exact ⟨hh.1, hh.2.1⟩
    · cases h
  · cases h
theorem or_256 (acc v : Nat) (hv : v < 256) : acc * 256 ||| v = acc * 256 + v := by
  have := Nat.two_pow_add_eq_or_of_lt (i := 8) (b := v) (by simpa using hv) acc
  rw [Nat.mul_comm acc 256]
  exact this.symm
theorem or_part (acc v : Nat) (ha : acc < 16777216) (hv : v < 256) : bits .or .i64 ((acc : Int) * 256) (v : Int) = ((acc * 256 + v : Nat) : Int) := by
  have h := i64_or_nat (acc * 256) v (by omega) (by omega)
  rw [or_256 acc v hv] at h
  rw [show ((acc * 256 : Nat) : Int) = (acc : Int) * 256 by omega] at h
  exact h
abbrev gText1 : Nat := 4

end Go.Proofs.YtignngpligicjaaDoor
