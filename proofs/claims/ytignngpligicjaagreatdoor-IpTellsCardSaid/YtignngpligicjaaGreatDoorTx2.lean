/- Package ip: AddrText. No condition but those that stand in each theorem. -/
import Derived.Test.YtignngpligicjaaGreatDoorTx1
import Derived.Test.YtignngpligicjaaGreatDoorAr
namespace Go.Proofs.YtignngpligicjaaGreatDoor
open Go.RowKit

/-- The first parts of an address, each behind a point. -/
def textK (a : Nat) : Nat → List UInt8
  | 0 => []
  | k + 1 => textK a k ++ 46 :: Lib.itoa ((a / 2 ^ (24 - 8 * k) % 256 : Nat) : Int)
theorem and255 (x : Nat) (hx : x < 9223372036854775808) : bits .and .i64 (x : Int) 255 = ((x % 256 : Nat) : Int) := by
  have h := i64_and_nat x 255 hx (by omega)
  have h2 : x &&& 255 = x % 256 := and_mask x 8
  rw [h2] at h
  exact h
theorem dec_len : ∀ u : Fin 256, (Lib.decDigits u.val).length ≤ 3 := by decide +kernel
theorem itoa_len (u : Nat) (h : u < 256) : (Lib.itoa (u : Int)).length ≤ 3 := by
  have h1 := dec_len ⟨u, h⟩
  unfold Lib.itoa
  rw [if_neg (by omega)]
  exact h1
theorem textK_len (a : Nat) : ∀ k, (textK a k).length ≤ 4 * k
  | 0 => by simp [textK]
  | k + 1 => by
    have h1 := textK_len a k
    have h2 := itoa_len (a / 2 ^ (24 - 8 * k) % 256) (Nat.mod_lt _ (by omega))
    unfold textK
    rw [List.length_append, List.length_cons]
    omega
/-- An address in words; what is none is empty. -/
def addrT (a : Int) : List UInt8 := if 0 ≤ a ∧ a < 4294967296 then (textK a.toNat 4).drop 1 else []

set_option maxRecDepth 8000 in
set_option maxHeartbeats 4000000 in
theorem addrText_nat (a : Nat) (w : World) (h : TxtOk w) (ha : a < 4294967296) :
    Calls Tryz.prog 10 #[.int .i64 (a : Int)] w fun e w1 => e = .returned (.string ⟨((textK a 4).drop 1).toArray⟩) ∧ New w w1 := by
  have Had := hide (address_yes (a : Int) ⟨by omega, by omega⟩ w)
  have H := hide h
  have B := hide (Blk.new w 3 #[.int .i64 24, .int .i64 16, .int .i64 8, .int .i64 0])
  have U := hide ((Upd.refl (fun _ => False) w).alloc (.cells #[.int .i64 24, .int .i64 16, .int .i64 8, .int .i64 0] 3))
  have HA := hide ha
  clear h ha
  go_enter Tryz.func10, Tryz.ntmps10
  go_wp2_with fail
  refine Had.out.mono ?_
  rintro e w1 ⟨rfl, rfl⟩
  go_wp2_with fail
  go_loopw [3, 11] (fun s i wr => ∃ k : Nat, k ≤ 4 ∧ i = .int .i64 k ∧ s = .string ⟨(textK a k).toArray⟩ ∧ New (w.alloc (.cells #[.int .i64 24, .int .i64 16, .int .i64 8, .int .i64 0] 3)) wr) (fun _ i _ => 4 - (intOf i).toNat)
  case atStart => exact ⟨0, by omega, rfl, rfl, Upd.refl _ _⟩
  case round =>
    obtain ⟨k, hk, rfl, rfl, hnr⟩ := hrel
    have Nr := hide hnr
    clear hnr
    have bq := B.out.new_ Nr.out
    have c0 := bq.cell 0
    have c1 := bq.cell 1
    have c2 := bq.cell 2
    have c3 := bq.cell 3
    have zb := bq.lt
    simp only [List.getElem?_toArray, List.getElem?_cons_zero, List.getElem?_cons_succ] at c0 c1 c2 c3
    clear bq
    obtain rfl | rfl | rfl | rfl | rfl : k = 0 ∨ k = 1 ∨ k = 2 ∨ k = 3 ∨ k = 4 := by omega
    · have hb : bits .and .i64 ((a : Int) / 16777216) 255 = ((a / 2 ^ (24 - 8 * 0) % 256 : Nat) : Int) := by
        have h1 : ((a / 16777216 : Nat) : Int) = (a : Int) / 16777216 := by omega
        rw [← h1, and255 _ (by have := HA.out; omega)]
        try simp
      have Hi := hide (itoa_any ((a : Int) / 16777216 % 256) wr ((H.out.new U.out).new Nr.out) (by omega) (by omega))
      have hq : (a : Int) / 16777216 % 256 = ((a / 2 ^ (24 - 8 * 0) % 256 : Nat) : Int) := by
        have h2 : 2 ^ (24 - 8 * 0) = 16777216 := rfl
        rw [h2]; omega
      have hL := itoa_len (a / 2 ^ (24 - 8 * 0) % 256) (Nat.mod_lt _ (by omega))
      rw [← hq] at hL
      have hT := textK_len a 0
      have hL1 : ¬ 9223372036854775807 < 1 + (Lib.itoa ((a : Int) / 16777216 % 256)).length := by omega
      have hL2 : ¬ 9223372036854775807 < (textK a 0).length + (1 + (Lib.itoa ((a : Int) / 16777216 % 256)).length) := by omega
      have hL3 : ¬ 9223372036854775807 < (textK a 0).length + ((Lib.itoa ((a : Int) / 16777216 % 256)).length + 1) := by omega
      have Hq := hide hq
      clear hk hq hL hT
      go_wp2_with fail
      refine Hi.out.mono ?_
      rintro e w2 ⟨rfl, hu⟩
      have N2 := hide (Nr.out.trans_new hu)
      clear hu hb
      go_wp2_with fail
      exact ⟨⟨1, by omega, rfl, by rw [Hq.out]; exact congrArg Value.string (Go.WideShapes.bytes_inj (by simp [textK])), N2.out⟩, by simp [intOf]⟩
    · have hb : bits .and .i64 ((a : Int) / 65536) 255 = ((a / 2 ^ (24 - 8 * 1) % 256 : Nat) : Int) := by
        have h1 : ((a / 65536 : Nat) : Int) = (a : Int) / 65536 := by omega
        rw [← h1, and255 _ (by have := HA.out; omega)]
        try simp
      have Hi := hide (itoa_any ((a : Int) / 65536 % 256) wr ((H.out.new U.out).new Nr.out) (by omega) (by omega))
      have hq : (a : Int) / 65536 % 256 = ((a / 2 ^ (24 - 8 * 1) % 256 : Nat) : Int) := by
        have h2 : 2 ^ (24 - 8 * 1) = 65536 := rfl
        rw [h2]; omega
      have hL := itoa_len (a / 2 ^ (24 - 8 * 1) % 256) (Nat.mod_lt _ (by omega))
      rw [← hq] at hL
      have hT := textK_len a 1
      have hL1 : ¬ 9223372036854775807 < 1 + (Lib.itoa ((a : Int) / 65536 % 256)).length := by omega
      have hL2 : ¬ 9223372036854775807 < (textK a 1).length + (1 + (Lib.itoa ((a : Int) / 65536 % 256)).length) := by omega
      have hL3 : ¬ 9223372036854775807 < (textK a 1).length + ((Lib.itoa ((a : Int) / 65536 % 256)).length + 1) := by omega
      have Hq := hide hq
      clear hk hq hL hT
      go_wp2_with fail
      refine Hi.out.mono ?_
      rintro e w2 ⟨rfl, hu⟩
      have N2 := hide (Nr.out.trans_new hu)
      clear hu hb
      go_wp2_with fail
      exact ⟨⟨2, by omega, rfl, by rw [Hq.out]; exact congrArg Value.string (Go.WideShapes.bytes_inj (by simp [textK])), N2.out⟩, by simp [intOf]⟩
    · have hb : bits .and .i64 ((a : Int) / 256) 255 = ((a / 2 ^ (24 - 8 * 2) % 256 : Nat) : Int) := by
        have h1 : ((a / 256 : Nat) : Int) = (a : Int) / 256 := by omega
        rw [← h1, and255 _ (by have := HA.out; omega)]
        try simp
      have Hi := hide (itoa_any ((a : Int) / 256 % 256) wr ((H.out.new U.out).new Nr.out) (by omega) (by omega))
      have hq : (a : Int) / 256 % 256 = ((a / 2 ^ (24 - 8 * 2) % 256 : Nat) : Int) := by
        have h2 : 2 ^ (24 - 8 * 2) = 256 := rfl
        rw [h2]; omega
      have hL := itoa_len (a / 2 ^ (24 - 8 * 2) % 256) (Nat.mod_lt _ (by omega))
      rw [← hq] at hL
      have hT := textK_len a 2
      have hL1 : ¬ 9223372036854775807 < 1 + (Lib.itoa ((a : Int) / 256 % 256)).length := by omega
      have hL2 : ¬ 9223372036854775807 < (textK a 2).length + (1 + (Lib.itoa ((a : Int) / 256 % 256)).length) := by omega
      have hL3 : ¬ 9223372036854775807 < (textK a 2).length + ((Lib.itoa ((a : Int) / 256 % 256)).length + 1) := by omega
      have Hq := hide hq
      clear hk hq hL hT
      go_wp2_with fail
      refine Hi.out.mono ?_
      rintro e w2 ⟨rfl, hu⟩
      have N2 := hide (Nr.out.trans_new hu)
      clear hu hb
      go_wp2_with fail
      exact ⟨⟨3, by omega, rfl, by rw [Hq.out]; exact congrArg Value.string (Go.WideShapes.bytes_inj (by simp [textK])), N2.out⟩, by simp [intOf]⟩
    · have hb : bits .and .i64 ((a : Int)) 255 = ((a / 2 ^ (24 - 8 * 3) % 256 : Nat) : Int) := by
        have h1 : ((a : Nat) : Int) = (a : Int) := by omega
        rw [← h1, and255 _ (by have := HA.out; omega)]
        try simp
      have Hi := hide (itoa_any ((a : Int) % 256) wr ((H.out.new U.out).new Nr.out) (by omega) (by omega))
      have hq : (a : Int) % 256 = ((a / 2 ^ (24 - 8 * 3) % 256 : Nat) : Int) := by
        have h2 : 2 ^ (24 - 8 * 3) = 1 := rfl
        rw [h2]; omega
      have hL := itoa_len (a / 2 ^ (24 - 8 * 3) % 256) (Nat.mod_lt _ (by omega))
      rw [← hq] at hL
      have hT := textK_len a 3
      have hL1 : ¬ 9223372036854775807 < 1 + (Lib.itoa ((a : Int) % 256)).length := by omega
      have hL2 : ¬ 9223372036854775807 < (textK a 3).length + (1 + (Lib.itoa ((a : Int) % 256)).length) := by omega
      have hL3 : ¬ 9223372036854775807 < (textK a 3).length + ((Lib.itoa ((a : Int) % 256)).length + 1) := by omega
      have Hq := hide hq
      clear hk hq hL hT
      go_wp2_with fail
      refine Hi.out.mono ?_
      rintro e w2 ⟨rfl, hu⟩
      have N2 := hide (Nr.out.trans_new hu)
      clear hu hb
      go_wp2_with fail
      exact ⟨⟨4, by omega, rfl, by rw [Hq.out]; exact congrArg Value.string (Go.WideShapes.bytes_inj (by simp [textK])), N2.out⟩, by simp [intOf]⟩
    · clear hk
      have hL : 1 ≤ (textK a 4).length := by
        unfold textK
        rw [List.length_append, List.length_cons]
        omega
      have hL2 : (1 : Int) ≤ ((textK a 4).length : Int) := by omega
      go_wp2_with fail
      go_ret
      exact ⟨congrArg (fun z => Ending.returned (.string z)) (Go.WideShapes.bytes_inj (by simp [List.take_of_length_le])), U.out.trans_new Nr.out⟩
theorem addrText_any (a : Int) (w : World) (h : TxtOk w) :
    Calls Tryz.prog 10 #[.int .i64 a] w fun e w1 => e = .returned (.string ⟨(addrT a).toArray⟩) ∧ New w w1 := by
  by_cases ha : 0 ≤ a ∧ a < 4294967296
  · obtain ⟨n, rfl⟩ := Int.eq_ofNat_of_zero_le ha.1
    have := addrText_nat n w h (by omega)
    unfold addrT
    rw [if_pos ha]
    exact this
  · have Had := hide (show Calls Tryz.prog 63 #[.int .i64 a] w (fun e w1 => e = .returned (.bool false) ∧ w = w1) from (address_any a w).mono fun _ _ ⟨he, hw⟩ => ⟨by rw [he, decide_eq_false ha], hw⟩)
    have He := hide (show addrT a = [] from if_neg ha)
    clear ha h
    go_enter Tryz.func10, Tryz.ntmps10
    go_wp2_with fail
    refine Had.out.mono ?_
    rintro e w1 ⟨rfl, rfl⟩
    go_wp2_with fail
    go_ret
    exact ⟨by rw [He.out]; rfl, Upd.refl _ _⟩
end Go.Proofs.YtignngpligicjaaGreatDoor
