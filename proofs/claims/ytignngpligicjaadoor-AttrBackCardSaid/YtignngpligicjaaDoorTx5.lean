/- Package ip: Read. No condition but those that stand in each theorem. -/
import Derived.Test.YtignngpligicjaaDoorTx4
namespace Go.Proofs.YtignngpligicjaaDoor
open Go.RowKit

/-- What a text reads as: the error's number, the address, the length. -/
def readP (s : ByteArray) : Nat × Int × Int :=
  match (Lib.cut s.data.toList [47]).2.2, readA ⟨(Lib.cut s.data.toList [47]).1.toArray⟩, numV (Lib.cut s.data.toList [47]).2.1 999999999 with
  | true, some a, some n => if chk a n = 0 then (0, (a : Int), n) else (chk a n, 0, 0)
  | _, _, _ => (1, 0, 0)
theorem readP_is {s : ByteArray} (h : (Lib.cut s.data.toList [47]).2.2 = false) : readP s = (1, 0, 0) := by unfold readP; rw [h]
theorem readP_a {s : ByteArray} (h : readA ⟨(Lib.cut s.data.toList [47]).1.toArray⟩ = none) : readP s = (1, 0, 0) := by
  unfold readP
  rw [h]
  cases (Lib.cut s.data.toList [47]).2.2 <;> rfl
theorem readP_n {s : ByteArray} (h : numV (Lib.cut s.data.toList [47]).2.1 999999999 = none) : readP s = (1, 0, 0) := by
  unfold readP
  rw [h]
  cases (Lib.cut s.data.toList [47]).2.2 <;> cases readA ⟨(Lib.cut s.data.toList [47]).1.toArray⟩ <;> rfl
theorem readP_ok (s : ByteArray) (a : Nat) (n : Int) (h1 : (Lib.cut s.data.toList [47]).2.2 = true) (h2 : readA ⟨(Lib.cut s.data.toList [47]).1.toArray⟩ = some a) (h3 : numV (Lib.cut s.data.toList [47]).2.1 999999999 = some n) :
    readP s = if chk a n = 0 then (0, (a : Int), n) else (chk a n, 0, 0) := by unfold readP; rw [h1, h2, h3]
theorem cut_len (l sep : List UInt8) : (Lib.cut l sep).1.length ≤ l.length ∧ (Lib.cut l sep).2.1.length ≤ l.length := by
  unfold Lib.cut
  split
  · exact ⟨by simp; omega, by simp⟩
  · exact ⟨Nat.le_refl _, by simp⟩
end Go.Proofs.YtignngpligicjaaDoor
