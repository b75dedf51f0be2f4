/- What an error of the program's is: nil, one of package api's, a fault around one. No condition but those that stand in each theorem. -/
import Derived.Test.YtimhbgpnkodlaaaGreatDoorIp1
namespace Go.Proofs.YtimhbgpnkodlaaaGreatDoor
open Go.RowKit

theorem block_lt_of_row {w : World} {b : Nat} {o : Obj} (h : w.heap[b]? = some o) : b < w.heap.size := by
  rcases Nat.lt_or_ge b w.heap.size with hlt | hge
  · exact hlt
  · rw [Array.getElem?_eq_none hge] at h; cases h

/-- An error with code k (0: none) and place i. -/
def ErrV (w : World) (E : Nat → Addr) (v : Value) (k : Nat) (i : Int) : Prop :=
  (k = 0 ∧ i = -1 ∧ v = .nilIface) ∨ (1 ≤ k ∧ k ≤ 9 ∧ i = -1 ∧ v = errv (E k)) ∨
  (1 ≤ k ∧ k ≤ 9 ∧ ∃ p, v = .iface TFP (.pointer (some ⟨p, 0, none⟩)) ∧ Blk w p TF #[.int .i64 i, errv (E k)])

theorem ErrV.new {w w1 : World} {E : Nat → Addr} {v : Value} {k : Nat} {i : Int} (h : ErrV w E v k i) (hu : New w w1) : ErrV w1 E v k i := by
  rcases h with h | h | ⟨h1, h9, p, hv, hb⟩
  · exact .inl h
  · exact .inr (.inl h)
  · exact .inr (.inr ⟨h1, h9, p, hv, hb.new_ hu⟩)

theorem ErrV.le {w : World} {E : Nat → Addr} {v : Value} {k : Nat} {i : Int} (h : ErrV w E v k i) : k ≤ 9 := by
  rcases h with h | h | h <;> omega

/-- The call gives an error with code k and place i; nothing that was there is turned. -/
def ErrPost (E : Nat → Addr) (k : Nat) (i : Int) (w : World) (e : Ending) (w1 : World) : Prop := ∃ v, e = .returned v ∧ ErrV w1 E v k i ∧ New w w1

theorem ErrV.nil {w : World} {E : Nat → Addr} : ErrV w E .nilIface 0 (-1) := .inl ⟨rfl, rfl, rfl⟩
theorem ErrV.sent {w : World} {E : Nat → Addr} {k : Nat} (h1 : 1 ≤ k) (h9 : k ≤ 9) : ErrV w E (errv (E k)) k (-1) := .inr (.inl ⟨h1, h9, rfl, rfl⟩)
theorem ErrV.fault {w : World} {E : Nat → Addr} {k p : Nat} {i : Int} (h1 : 1 ≤ k) (h9 : k ≤ 9) (hb : Blk w p TF #[.int .i64 i, errv (E k)]) : ErrV w E (.iface TFP (.pointer (some ⟨p, 0, none⟩))) k i := .inr (.inr ⟨h1, h9, p, rfl, hb⟩)
theorem ErrV.errc {w : World} {E : Nat → Addr} {k : Nat} (h9 : k ≤ 9) : ErrV w E (errc E k) k (-1) := by
  by_cases h : k = 0
  · subst h; exact .inl ⟨rfl, rfl, rfl⟩
  · have : Go.Proofs.YtimhbgpnkodlaaaGreatDoor.errc E k = errv (E k) := by unfold Go.Proofs.YtimhbgpnkodlaaaGreatDoor.errc; rw [if_neg h]
    rw [this]
    exact .sent (by omega) h9
/-- It is nil just if its code is 0. -/
theorem ErrV.form {w : World} {E : Nat → Addr} {v : Value} {k : Nat} {i : Int} (h : ErrV w E v k i) : (k = 0 ∧ i = -1 ∧ v = .nilIface) ∨ (k ≠ 0 ∧ ∃ t p, v = .iface t (.pointer (some p))) := by
  rcases h with h | ⟨h1, _, _, rfl⟩ | ⟨h1, _, p, rfl, _⟩
  · exact .inl h
  · exact .inr ⟨by omega, _, _, rfl⟩
  · exact .inr ⟨by omega, _, _, rfl⟩
end Go.Proofs.YtimhbgpnkodlaaaGreatDoor
