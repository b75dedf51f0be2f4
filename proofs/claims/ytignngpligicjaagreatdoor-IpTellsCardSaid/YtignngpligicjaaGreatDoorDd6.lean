/- The document's texts: AddrText. No condition but those that stand in each theorem. -/
import Derived.Test.YtignngpligicjaaGreatDoorDd1
import Derived.Test.YtignngpligicjaaGreatDoorTx2
import Derived.Test.YtignngpligicjaaGreatDoorRf1
namespace Go.Proofs.YtignngpligicjaaGreatDoor
open Go.RowKit

theorem quo_facts (A : Nat) (h : A < 4294967296) : ∃ x y z t : Nat, x < 256 ∧ y < 256 ∧ z < 256 ∧ t < 256 ∧ Int.tdiv (A : Int) 16777216 = (x : Int) ∧ Int.tmod (Int.tdiv (A : Int) 65536) 256 = (y : Int) ∧ Int.tmod (Int.tdiv (A : Int) 256) 256 = (z : Int) ∧ Int.tmod (A : Int) 256 = (t : Int) ∧
    (textK A 4).drop 1 = Lib.decDigits x ++ 46 :: (Lib.decDigits y ++ 46 :: (Lib.decDigits z ++ 46 :: Lib.decDigits t)) := by
  refine ⟨A / 16777216, A / 65536 % 256, A / 256 % 256, A % 256, by omega, by omega, by omega, by omega, rfl, rfl, rfl, rfl, ?_⟩
  have e : A / 2 ^ (24 - 8 * 0) % 256 = A / 16777216 := by
    show A / 16777216 % 256 = _
    omega
  unfold textK textK textK textK textK
  rw [e]
  simp only [Lib.itoa_nonneg]
  simp
theorem wrap_facts (A : Nat) (h : A < 4294967296) : IntKind.i64.wrap (Int.tdiv (A : Int) 16777216) = Int.tdiv (A : Int) 16777216 ∧ wrap64 (Int.tdiv (A : Int) 16777216) = Int.tdiv (A : Int) 16777216 ∧ IntKind.i64.wrap (Int.tdiv (A : Int) 65536) = Int.tdiv (A : Int) 65536 ∧ wrap64 (Int.tdiv (A : Int) 65536) = Int.tdiv (A : Int) 65536 ∧ IntKind.i64.wrap (Int.tdiv (A : Int) 256) = Int.tdiv (A : Int) 256 ∧ wrap64 (Int.tdiv (A : Int) 256) = Int.tdiv (A : Int) 256 := by
  have e1 : Int.tdiv (A : Int) 16777216 = ((A / 16777216 : Nat) : Int) := rfl
  have e2 : Int.tdiv (A : Int) 65536 = ((A / 65536 : Nat) : Int) := rfl
  have e3 : Int.tdiv (A : Int) 256 = ((A / 256 : Nat) : Int) := rfl
  rw [e1, e2, e3]
  refine ⟨?_, ?_, ?_, ?_, ?_, ?_⟩
  · rw [IntWalk.i64_in _ (by omega)]
  · rw [IntWalk.wrap64_in _ ⟨by omega, by omega⟩]
  · rw [IntWalk.i64_in _ (by omega)]
  · rw [IntWalk.wrap64_in _ ⟨by omega, by omega⟩]
  · rw [IntWalk.i64_in _ (by omega)]
  · rw [IntWalk.wrap64_in _ ⟨by omega, by omega⟩]

theorem more_facts (A : Nat) (h : A < 4294967296) : wrap64 ((A : Int) / 65536) = ((A / 65536 : Nat) : Int) ∧ wrap64 ((A : Int) / 256) = ((A / 256 : Nat) : Int) ∧ IntKind.i64.wrap ((A : Int) / 65536) = ((A / 65536 : Nat) : Int) ∧ IntKind.i64.wrap ((A : Int) / 256) = ((A / 256 : Nat) : Int) := by
  refine ⟨?_, ?_, ?_, ?_⟩
  · rw [IntWalk.wrap64_in _ ⟨by omega, by omega⟩]; omega
  · rw [IntWalk.wrap64_in _ ⟨by omega, by omega⟩]; omega
  · rw [IntWalk.i64_in _ (by omega)]; omega
  · rw [IntWalk.i64_in _ (by omega)]; omega
theorem four_app (x y z t : List UInt8) : (((((((⟨x.toArray⟩ : ByteArray) ++ ⟨#[46]⟩) ++ ⟨y.toArray⟩) ++ ⟨#[46]⟩) ++ ⟨z.toArray⟩) ++ ⟨#[46]⟩) ++ ⟨t.toArray⟩) = ⟨(x ++ 46 :: (y ++ 46 :: (z ++ 46 :: t))).toArray⟩ := by
  apply ByteArray.ext
  simp

set_option maxRecDepth 8000 in
set_option maxHeartbeats 1000000 in
theorem addrTextRef_any (a : Int) (w : World) : Calls Tryz.prog 11 #[.int .i64 a] w fun e w1 => e = .returned (.string ⟨(addrT a).toArray⟩) ∧ New w w1 := by
  have hA := isAddr_any a
  by_cases hr : 0 ≤ a ∧ a < 4294967296
  · have hi : isA a = true := decide_eq_true hr
    rw [hi] at hA
    have he : addrT a = (textK a.toNat 4).drop 1 := if_pos hr
    obtain ⟨A, rfl⟩ := Int.eq_ofNat_of_zero_le hr.1
    rw [Int.toNat_natCast] at he
    obtain ⟨x, y, z, t, hx, hy, hz, ht, q1, q2, q3, q4, q5⟩ := quo_facts A (by omega)
    obtain ⟨p1, p2, p3, p4, p5, p6⟩ := wrap_facts A (by omega)
    obtain ⟨r2, r3, r4, r5⟩ := more_facts A (by omega)
    have m2 : Int.tmod ((A / 65536 : Nat) : Int) 256 = (y : Int) := q2
    have m3 : Int.tmod ((A / 256 : Nat) : Int) 256 = (z : Int) := q3
    have He := hide (he.trans (q5.trans rfl))
    generalize A / 65536 = B2 at *
    generalize A / 256 = B3 at *
    have l1 := dec_long x
    have l2 := dec_long y
    have l3 := dec_long z
    have l4 := dec_long t
    have HA := hide hA
    have Hd := hide (fun u (hu : u < 256) w' => decimal_nat u w' (by omega))
    clear he q5 hA hi hr
    generalize addrT (A : Int) = T at *
    go_enter Tryz.func11, Tryz.ntmps11
    go_wp2_with fail
    refine (HA.out _).mono ?_
    rintro e w1 ⟨rfl, rfl⟩
    go_wp2_with fail
    refine (Hd.out x hx _).mono ?_
    rintro e w1 ⟨rfl, hu⟩
    have U := hide hu
    clear hu
    go_wp2_with fail
    refine (Hd.out y hy _).mono ?_
    rintro e w2 ⟨rfl, hu⟩
    have U := hide (U.out.trans_new hu)
    clear hu
    go_wp2_with fail
    refine (Hd.out z hz _).mono ?_
    rintro e w3 ⟨rfl, hu⟩
    have U := hide (U.out.trans_new hu)
    clear hu
    go_wp2_with fail
    refine (Hd.out t ht _).mono ?_
    rintro e w4 ⟨rfl, hu⟩
    have U := hide (U.out.trans_new hu)
    clear hu
    go_wp2_with fail
    go_ret
    refine ⟨?_, U.out⟩
    rw [He.out, ← four_app]
    rfl
  · have hi : isA a = false := decide_eq_false hr
    rw [hi] at hA
    have HA := hide hA
    have He := hide (show addrT a = [] from if_neg hr)
    clear hA hi hr
    go_enter Tryz.func11, Tryz.ntmps11
    go_wp2_with fail
    refine (HA.out _).mono ?_
    rintro e w1 ⟨rfl, rfl⟩
    go_wp2_with fail
    go_ret
    exact ⟨by rw [He.out]; rfl, Upd.refl _ _⟩
end Go.Proofs.YtignngpligicjaaGreatDoor
