/- The document's texts: NumberOf. No condition but those that stand in each theorem. -/
import Derived.Test.YtignngpligicjaaDoorDd2
import Derived.Test.YtignngpligicjaaDoorNu1
import Derived.Deep.DeepCutAuto
namespace Go.Proofs.YtignngpligicjaaDoor
open Go.RowKit

theorem num_facts (acc : Nat) (c : UInt8) (ha : acc ≤ 99999999) (h : 48 ≤ c.toNat) (h1 : c.toNat ≤ 57) : ∃ d : Nat, d = c.toNat - 48 ∧ d ≤ 9 ∧ IntKind.u8.wrap ((c.toNat : Int) - 48) = (d : Int) ∧ IntKind.i64.wrap (d : Int) = (d : Int) ∧ wrap64 (d : Int) = (d : Int) ∧
    IntKind.i64.wrap (10 * (acc : Int)) = 10 * (acc : Int) ∧ wrap64 (10 * (acc : Int)) = 10 * (acc : Int) ∧ IntKind.i64.wrap (10 * (acc : Int) + (d : Int)) = ((10 * acc + d : Nat) : Int) ∧ wrap64 (10 * (acc : Int) + (d : Int)) = ((10 * acc + d : Nat) : Int) := by
  refine ⟨c.toNat - 48, rfl, by omega, ?_, ?_, ?_, ?_, ?_, ?_, ?_⟩
  · simp [IntKind.wrap, IntKind.bits, IntKind.signed]; omega
  · rw [IntWalk.i64_in _ (by omega)]
  · rw [IntWalk.wrap64_in _ ⟨by omega, by omega⟩]
  · rw [IntWalk.i64_in _ (by omega)]
  · rw [IntWalk.wrap64_in _ ⟨by omega, by omega⟩]
  · rw [IntWalk.i64_in _ (by omega)]; omega
  · rw [IntWalk.wrap64_in _ ⟨by omega, by omega⟩]; omega
theorem byte_at (s : ByteArray) (k : Nat) (h : k < s.size) : ∃ c, s[k]'h = c ∧ s.data.toList[k]? = some c := by
  refine ⟨_, rfl, ?_⟩
  rw [List.getElem?_eq_getElem (by simpa using h)]
  rfl
theorem digR_at {l : List UInt8} {k acc : Nat} {c : UInt8} (h : l[k]? = some c) : digR (l.drop k) acc = if 48 ≤ c.toNat ∧ c.toNat ≤ 57 then digR (l.drop (k + 1)) (10 * acc + (c.toNat - 48)) else -1 := by
  have hk := (List.getElem?_eq_some_iff.1 h).1
  have e : l[k] = c := (List.getElem?_eq_some_iff.1 h).2
  rw [List.drop_eq_getElem_cons hk, e]
  rfl
theorem pow9 {k acc : Nat} (hk : k < 9) (h : acc < 10 ^ k) : acc ≤ 99999999 := by
  have := Nat.pow_le_pow_right (show 0 < 10 by omega) (show k ≤ 8 by omega)
  omega

theorem pow_step {k acc d : Nat} (h : acc < 10 ^ k) (hd : d ≤ 9) : 10 * acc + d < 10 ^ (k + 1) := by
  rw [Nat.pow_succ]
  generalize 10 ^ k = z at *
  omega
theorem cast_step (acc d : Nat) : (10 * (acc : Int) + (d : Int)) = ((10 * acc + d : Nat) : Int) := by omega

end Go.Proofs.YtignngpligicjaaDoor
