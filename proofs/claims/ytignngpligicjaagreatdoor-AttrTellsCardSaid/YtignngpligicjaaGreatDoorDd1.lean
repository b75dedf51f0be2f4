/- The document's texts: Byte, Decimal. No condition but those that stand in each theorem. -/
import Derived.Test.YtignngpligicjaaGreatDoorRg
import Derived.Test.YtignngpligicjaaGreatDoorProg
import Derived.Laws.BytesArg
import Derived.IntWalk
import Derived.Lib.ItoaNum
import Derived.Deep.DeepCutAuto
namespace Go.Proofs.YtignngpligicjaaGreatDoor
open Go.RowKit

abbrev TU8 : TypeId := 5
theorem one_byte (n : Int) : strOfNums [n] = ⟨[UInt8.ofNat n.toNat].toArray⟩ := rfl

set_option maxHeartbeats 1000000 in
theorem byte_any (n : Int) (w : World) (h : 0 ≤ n ∧ n ≤ 255) :
    Calls Tryz.prog 143 #[.int .i64 n] w fun e w1 => e = .returned (.string ⟨[UInt8.ofNat n.toNat].toArray⟩) ∧ New w w1 := by
  have hcv := run_convert_bytes_arg (P := Tryz.prog) (w.alloc (.cells #[.int .u8 n] TU8)) 146 TU8 Tryz.underlying146 Tryz.underlying5 w.heap.size 0 1 1 [n] rfl (fun i hi => by
    obtain rfl : i = 0 := by omega
    simp) 9 Tryz.underlying9
  rw [one_byte] at hcv
  obtain ⟨h0, h1⟩ := h
  have hw : IntKind.u8.wrap n = n := by simp [IntKind.wrap, IntKind.bits, IntKind.signed]; omega
  have N := hide ((Upd.refl (fun _ => False) w).alloc (.cells #[.int .u8 n] TU8))
  go_enter Tryz.func143, Tryz.ntmps143
  go_wp2_with fail
  go_ret
  exact ⟨rfl, N.out⟩

theorem str_app (l m : List UInt8) : (⟨l.toArray⟩ : ByteArray) ++ ⟨m.toArray⟩ = ⟨(l ++ m).toArray⟩ := by
  apply ByteArray.ext
  simp
theorem dec_long : ∀ u : Nat, (Lib.decDigits u).length ≤ u + 1 := by
  intro u
  induction u using Nat.strongRecOn with
  | _ u ih =>
    by_cases h : u < 10
    · rw [Lib.decDigits, dif_pos h]; simp
    · rw [Lib.decDigits, dif_neg h, List.length_append]
      have := ih (u / 10) (by omega)
      simp only [List.length_singleton]
      omega
theorem dig_facts (a b : Nat) (ha : a ≤ 999999999999) (hb : b < 10) : wrap64 (-(a : Int)) = -(a : Int) ∧ IntKind.i64.wrap (-(a : Int)) = -(a : Int) ∧ wrap64 (-(b : Int)) = -(b : Int) ∧ IntKind.i64.wrap (-(b : Int)) = -(b : Int) ∧ wrap64 (48 - -(b : Int)) = 48 + (b : Int) ∧ IntKind.i64.wrap (48 - -(b : Int)) = 48 + (b : Int) ∧ wrap64 (48 + (b : Int)) = 48 + (b : Int) ∧ IntKind.i64.wrap (48 + (b : Int)) = 48 + (b : Int) := by
  refine ⟨?_, ?_, ?_, ?_, ?_, ?_, ?_, ?_⟩
  · rw [IntWalk.wrap64_in _ ⟨by omega, by omega⟩]
  · rw [IntWalk.i64_in _ (by omega)]
  · rw [IntWalk.wrap64_in _ ⟨by omega, by omega⟩]
  · rw [IntWalk.i64_in _ (by omega)]
  · rw [IntWalk.wrap64_in _ ⟨by omega, by omega⟩]; omega
  · rw [IntWalk.i64_in _ (by omega)]; omega
  · rw [IntWalk.wrap64_in _ ⟨by omega, by omega⟩]
  · rw [IntWalk.i64_in _ (by omega)]
/-- Digits of a number up to 0. -/
theorem below_nat : ∀ (u : Nat) (w : World), u ≤ 999999999999 → Calls Tryz.prog 105 #[.int .i64 (-(u : Int))] w fun e w1 => e = .returned (.string ⟨(Lib.decDigits u).toArray⟩) ∧ New w w1 := by
  intro u
  induction u using Nat.strongRecOn with
  | _ u ih =>
    intro w hu
    by_cases h : u < 10
    · have hd := hide (show Lib.decDigits u = [UInt8.ofNat (48 + (u : Int)).toNat] by rw [Lib.decDigits, dif_pos h]; congr 2)
      have hb := hide (fun w1 => byte_any (48 + (u : Int)) w1 ⟨by omega, by omega⟩)
      obtain ⟨n, hn⟩ : ∃ n : Int, n = -(u : Int) := ⟨_, rfl⟩
      have hs : wrap64 (48 - n) = 48 + (u : Int) := by rw [hn, IntWalk.wrap64_in _ ⟨by omega, by omega⟩]; omega
      have hs2 : IntKind.i64.wrap (48 - n) = 48 + (u : Int) := by rw [hn, IntWalk.i64_in _ (by omega)]; omega
      have h1 : -10 < n := by omega
      rw [← hn]
      clear ih h hu hn
      go_enter Tryz.func105, Tryz.ntmps105
      go_wp2_with fail
      refine (hb.out _).mono ?_
      rintro e w1 ⟨rfl, hu⟩
      have U := hide hu
      clear hu
      go_wp2_with fail
      go_ret
      exact ⟨by rw [hd.out]; rfl, U.out⟩
    · have hd := hide (show Lib.decDigits u = Lib.decDigits (u / 10) ++ [UInt8.ofNat (48 + ((u % 10 : Nat) : Int)).toNat] by
        conv => lhs; rw [Lib.decDigits, dif_neg h]
        congr 2)
      have hb := hide (fun w1 => byte_any (48 + ((u % 10 : Nat) : Int)) w1 ⟨by omega, by omega⟩)
      have hi := hide (fun w1 => ih (u / 10) (by omega) w1 (by omega))
      obtain ⟨n, hn⟩ : ∃ n : Int, n = -(u : Int) := ⟨_, rfl⟩
      have h1 : ¬ -10 < n := by omega
      have q1 : Int.tdiv n 10 = -((u / 10 : Nat) : Int) := by rw [hn, Int.neg_tdiv]; rfl
      have q2 : Int.tmod n 10 = -((u % 10 : Nat) : Int) := by rw [hn, Int.neg_tmod]; rfl
      have hln : (Lib.decDigits (u / 10)).length ≤ 999999999999 := by have := dec_long (u / 10); omega
      obtain ⟨q3, q4, q5, q6, q7, q8, q9, q10⟩ := dig_facts (u / 10) (u % 10) (by omega) (by omega)
      rw [← hn]
      generalize u / 10 = a at *
      generalize u % 10 = b at *
      clear ih h hu hn
      go_enter Tryz.func105, Tryz.ntmps105
      go_wp2_with fail
      refine (hi.out _).mono ?_
      rintro e w1 ⟨rfl, hu⟩
      have U := hide hu
      clear hu hi
      go_wp2_with fail
      refine (hb.out _).mono ?_
      rintro e w2 ⟨rfl, hu⟩
      have U := hide (U.out.trans_new hu)
      clear hu hb
      go_wp2_with fail
      go_ret
      refine ⟨?_, U.out⟩
      rw [hd.out, ← str_app]
      rfl
theorem decimal_nat (u : Nat) (w : World) (hu : u ≤ 999999999) : Calls Tryz.prog 66 #[.int .i64 (u : Int)] w fun e w1 => e = .returned (.string ⟨(Lib.decDigits u).toArray⟩) ∧ New w w1 := by
  have hb := hide (fun w1 => below_nat u w1 (by omega))
  have h1 : ¬ (u : Int) < 0 := by omega
  have q1 : wrap64 (-(u : Int)) = -(u : Int) := IntWalk.wrap64_in _ ⟨by omega, by omega⟩
  have q2 : IntKind.i64.wrap (-(u : Int)) = -(u : Int) := IntWalk.i64_in _ (by omega)
  go_enter Tryz.func66, Tryz.ntmps66
  go_wp2_with fail
  refine (hb.out _).mono ?_
  rintro e w1 ⟨rfl, hu⟩
  go_wp2_with fail
  go_ret
  exact ⟨rfl, hu⟩
end Go.Proofs.YtignngpligicjaaGreatDoor
