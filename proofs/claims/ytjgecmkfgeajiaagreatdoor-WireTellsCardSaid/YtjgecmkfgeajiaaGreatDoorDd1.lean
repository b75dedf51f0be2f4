/- The document's texts: Byte, Decimal. No condition but those that stand in each theorem. -/
import Derived.Test.YtjgecmkfgeajiaaGreatDoorRg
import Derived.Test.YtjgecmkfgeajiaaGreatDoorProg
import Derived.Laws.BytesArg
import Derived.IntWalk
import Derived.Lib.ItoaNum
import Derived.Deep.DeepCutAuto
import Derived.Test.YtjgecmkfgeajiaaGreatDoorDd2
import Derived.Test.YtjgecmkfgeajiaaGreatDoorTx1
import Derived.Test.YtjgecmkfgeajiaaGreatDoorRf1
import Derived.Test.YtjgecmkfgeajiaaGreatDoorRf0
import Derived.Test.YtjgecmkfgeajiaaGreatDoorPfo
import Derived.Test.YtjgecmkfgeajiaaGreatDoorCt1
namespace Go.Proofs.YtjgecmkfgeajiaaGreatDoor
open Go.RowKit

abbrev TU8 : TypeId := 5
theorem one_byte (n : Int) : strOfNums [n] = ⟨[UInt8.ofNat n.toNat].toArray⟩ := rfl

set_option maxHeartbeats 1000000 in
theorem byte_any (n : Int) (w : World) (h : 0 ≤ n ∧ n ≤ 255) :
    Calls Tryz.prog 116 #[.int .i64 n] w fun e w1 => e = .returned (.string ⟨[UInt8.ofNat n.toNat].toArray⟩) ∧ New w w1 := by
  have hcv := run_convert_bytes_arg (P := Tryz.prog) (w.alloc (.cells #[.int .u8 n] TU8)) 110 TU8 Tryz.underlying110 Tryz.underlying5 w.heap.size 0 1 1 [n] rfl (fun i hi => by
    obtain rfl : i = 0 := by omega
    simp) 9 Tryz.underlying9
  rw [one_byte] at hcv
  obtain ⟨h0, h1⟩ := h
  have hw : IntKind.u8.wrap n = n := by simp [IntKind.wrap, IntKind.bits, IntKind.signed]; omega
  have N := hide ((Upd.refl (fun _ => False) w).alloc (.cells #[.int .u8 n] TU8))
  go_enter Tryz.func116, Tryz.ntmps116
  go_wp2_with fail
  go_ret
  exact ⟨rfl, N.out⟩

theorem str_app (l m : List UInt8) : (⟨l.toArray⟩ : ByteArray) ++ ⟨m.toArray⟩ = ⟨(l ++ m).toArray⟩ := by
  apply ByteArray.ext
  simp
theorem dec_long : ∀ u : Nat, (Lib.decDigits u).length ≤ u + 1 := by
  intro u
  induction u using Nat.strongRecOn with
  | _ u ih =>
    by_cases h : u < 10
    · rw [Lib.decDigits, dif_pos h]; simp
    · rw [Lib.decDigits, dif_neg h, List.length_append]
      have := ih (u / 10) (by omega)
      simp only [List.length_singleton]
      omega
theorem dig_facts (a b : Nat) (ha : a ≤ 999999999999) (hb : b < 10) : wrap64 (-(a : Int)) = -(a : Int) ∧ IntKind.i64.wrap (-(a : Int)) = -(a : Int) ∧ wrap64 (-(b : Int)) = -(b : Int) ∧ IntKind.i64.wrap (-(b : Int)) = -(b : Int) ∧ wrap64 (48 - -(b : Int)) = 48 + (b : Int) ∧ IntKind.i64.wrap (48 - -(b : Int)) = 48 + (b : Int) ∧ wrap64 (48 + (b : Int)) = 48 + (b : Int) ∧ IntKind.i64.wrap (48 + (b : Int)) = 48 + (b : Int) := by
  refine ⟨?_, ?_, ?_, ?_, ?_, ?_, ?_, ?_⟩
  · rw [IntWalk.wrap64_in _ ⟨by omega, by omega⟩]
  · rw [IntWalk.i64_in _ (by omega)]
  · rw [IntWalk.wrap64_in _ ⟨by omega, by omega⟩]
  · rw [IntWalk.i64_in _ (by omega)]
  · rw [IntWalk.wrap64_in _ ⟨by omega, by omega⟩]; omega
  · rw [IntWalk.i64_in _ (by omega)]; omega
  · rw [IntWalk.wrap64_in _ ⟨by omega, by omega⟩]
  · rw [IntWalk.i64_in _ (by omega)]
/-- Digits of a number up to 0. -/
theorem below_nat : ∀ (u : Nat) (w : World), u ≤ 999999999999 → Calls Tryz.prog 87 #[.int .i64 (-(u : Int))] w fun e w1 => e = .returned (.string ⟨(Lib.decDigits u).toArray⟩) ∧ New w w1 := by
  intro u
  induction u using Nat.strongRecOn with
  | _ u ih =>
    intro w hu
    by_cases h : u < 10
    · have hd := hide (show Lib.decDigits u = [UInt8.ofNat (48 + (u : Int)).toNat] by rw [Lib.decDigits, dif_pos h]; congr 2)
      have hb := hide (fun w1 => byte_any (48 + (u : Int)) w1 ⟨by omega, by omega⟩)
      obtain ⟨n, hn⟩ : ∃ n : Int, n = -(u : Int) := ⟨_, rfl⟩
      have hs : wrap64 (48 - n) = 48 + (u : Int) := by rw [hn, IntWalk.wrap64_in _ ⟨by omega, by omega⟩]; omega
      have hs2 : IntKind.i64.wrap (48 - n) = 48 + (u : Int) := by rw [hn, IntWalk.i64_in _ (by omega)]; omega
      have h1 : -10 < n := by omega
      rw [← hn]
      clear ih h hu hn
      go_enter Tryz.func87, Tryz.ntmps87
      go_wp2_with fail
      refine (hb.out _).mono ?_
      rintro e w1 ⟨rfl, hu⟩
      have U := hide hu
      clear hu
      go_wp2_with fail
      go_ret
      exact ⟨by rw [hd.out]; rfl, U.out⟩
    · have hd := hide (show Lib.decDigits u = Lib.decDigits (u / 10) ++ [UInt8.ofNat (48 + ((u % 10 : Nat) : Int)).toNat] by
        conv => lhs; rw [Lib.decDigits, dif_neg h]
        congr 2)
      have hb := hide (fun w1 => byte_any (48 + ((u % 10 : Nat) : Int)) w1 ⟨by omega, by omega⟩)
      have hi := hide (fun w1 => ih (u / 10) (by omega) w1 (by omega))
      obtain ⟨n, hn⟩ : ∃ n : Int, n = -(u : Int) := ⟨_, rfl⟩
      have h1 : ¬ -10 < n := by omega
      have q1 : Int.tdiv n 10 = -((u / 10 : Nat) : Int) := by rw [hn, Int.neg_tdiv]; rfl
      have q2 : Int.tmod n 10 = -((u % 10 : Nat) : Int) := by rw [hn, Int.neg_tmod]; rfl
      have hln : (Lib.decDigits (u / 10)).length ≤ 999999999999 := by have := dec_long (u / 10); omega
      obtain ⟨q3, q4, q5, q6, q7, q8, q9, q10⟩ := dig_facts (u / 10) (u % 10) (by omega) (by omega)
      rw [← hn]
      generalize u / 10 = a at *
      generalize u % 10 = b at *
      clear ih h hu hn
      go_enter Tryz.func87, Tryz.ntmps87
      go_wp2_with fail
      refine (hi.out _).mono ?_
      rintro e w1 ⟨rfl, hu⟩
      have U := hide hu
      clear hu hi
      go_wp2_with fail
      refine (hb.out _).mono ?_
      rintro e w2 ⟨rfl, hu⟩
      have U := hide (U.out.trans_new hu)
      clear hu hb
      go_wp2_with fail
      go_ret
      refine ⟨?_, U.out⟩
      rw [hd.out, ← str_app]
      rfl
theorem decimal_nat (u : Nat) (w : World) (hu : u ≤ 999999999) : Calls Tryz.prog 47 #[.int .i64 (u : Int)] w fun e w1 => e = .returned (.string ⟨(Lib.decDigits u).toArray⟩) ∧ New w w1 := by
  have hb := hide (fun w1 => below_nat u w1 (by omega))
  have h1 : ¬ (u : Int) < 0 := by omega
  have q1 : wrap64 (-(u : Int)) = -(u : Int) := IntWalk.wrap64_in _ ⟨by omega, by omega⟩
  have q2 : IntKind.i64.wrap (-(u : Int)) = -(u : Int) := IntWalk.i64_in _ (by omega)
  go_enter Tryz.func47, Tryz.ntmps47
  go_wp2_with fail
  refine (hb.out _).mono ?_
  rintro e w1 ⟨rfl, hu⟩
  go_wp2_with fail
  go_ret
  exact ⟨rfl, hu⟩
end Go.Proofs.YtjgecmkfgeajiaaGreatDoor

namespace Go.Proofs.YtjgecmkfgeajiaaGreatDoor
open Go.RowKit

theorem addr_facts (acc : Nat) (d : Int) (ha : acc < 16777216) (h : 0 ≤ d) (h1 : d ≤ 255) : IntKind.i64.wrap (256 * (acc : Int)) = 256 * (acc : Int) ∧ wrap64 (256 * (acc : Int)) = 256 * (acc : Int) ∧ IntKind.i64.wrap (256 * (acc : Int) + d) = ((acc * 256 + d.toNat : Nat) : Int) ∧ wrap64 (256 * (acc : Int) + d) = ((acc * 256 + d.toNat : Nat) : Int) := by
  refine ⟨?_, ?_, ?_, ?_⟩
  · rw [IntWalk.i64_in _ (by omega)]
  · rw [IntWalk.wrap64_in _ ⟨by omega, by omega⟩]
  · rw [IntWalk.i64_in _ (by omega)]; omega
  · rw [IntWalk.wrap64_in _ ⟨by omega, by omega⟩]; omega
/-- What a reading of an address gives. -/
def addrV (o : Option Nat) : Value := .tuple #[.int .i64 ((o.getD 0 : Nat) : Int), .bool o.isSome]
def partsL (P : List (List UInt8)) : List ByteArray := P.map fun p => ⟨p.toArray⟩
theorem parts_at {P : List (List UInt8)} {k acc : Nat} {p : List UInt8} (h : P[k]? = some p) : (0 ≤ numR p ∧ numR p ≤ 255 → partsV (partsL (P.drop k)) acc = partsV (partsL (P.drop (k + 1))) (acc * 256 + (numR p).toNat)) ∧ (¬ (0 ≤ numR p ∧ numR p ≤ 255) → partsV (partsL (P.drop k)) acc = none) := by
  have hk := (List.getElem?_eq_some_iff.1 h).1
  have e : P.drop k = p :: P.drop (k + 1) := by rw [List.drop_eq_getElem_cons hk, (List.getElem?_eq_some_iff.1 h).2]
  rw [e]
  exact ⟨fun h => parts_some h.1 h.2, fun h => parts_none h⟩
theorem acc_step {k acc : Nat} {d : Int} (hk : k < 4) (h : acc < 256 ^ k) (h0 : 0 ≤ d) (h1 : d ≤ 255) : acc * 256 + d.toNat < 256 ^ (k + 1) ∧ acc < 16777216 := by
  have := Nat.pow_le_pow_right (show 0 < 256 by omega) (show k ≤ 3 by omega)
  rw [Nat.pow_succ]
  generalize 256 ^ k = z at *
  omega

set_option maxRecDepth 8000 in
set_option maxHeartbeats 1000000 in
theorem readAddrRef_any (s : ByteArray) (w : World) (hs : s.size ≤ 1000000) :
    Calls Tryz.prog 91 #[.string s] w fun e w1 => e = .returned (addrV (readA s)) ∧ New w w1 := by
  have hc := cutRef_any s 46 w hs
  have h4 := fun h => readA_four (s := s) h
  have h5 := fun h => readA_parts (s := s) h
  have hpl := cutR_len 46 s.data.toList
  have hpi := cutR_piece 46 s.data.toList
  have hll : s.data.toList.length = s.size := by simp
  generalize cutR 46 s.data.toList = P at *
  have Hc := hide hc
  have H4 := hide h4
  have H5 := hide h5
  have Hpi := hide hpi
  clear hc h4 h5 hpi
  go_enter Tryz.func91, Tryz.ntmps91
  go_wp2_with fail
  refine Hc.out.mono ?_
  rintro e w1 ⟨v, rfl, ho, hu⟩
  obtain ⟨A, cap, rfl, _, _, hS⟩ := ss_of_own ho
  have HS := hide hS
  have U := hide hu
  clear ho hu hS Hc
  by_cases hp4 : P.length = 4
  · have i1 : ((P.length : Int) != 4) = false := by rw [hp4]; rfl
    have He := hide (H5.out hp4)
    go_wp2_with fail
    go_loopw [5, 6] (fun av iv wz => ∃ k acc : Nat, k ≤ 4 ∧ iv = .int .i64 k ∧ av = .int .i64 acc ∧ acc < 256 ^ k ∧ w1 = wz ∧ readA s = partsV (partsL (P.drop k)) acc) (fun _ iv _ => 4 - (intOf iv).toNat)
    case atStart => exact ⟨0, 0, by omega, rfl, rfl, by simp, rfl, He.out⟩
    case round =>
      obtain ⟨k, acc, hk, rfl, rfl, hacc, rfl, hd⟩ := hrel
      have Hd := hide hd
      have Hacc := hide hacc
      clear hd hacc
      by_cases hlt : k < 4
      · have i6 : (k : Int) < 4 := by omega
        have i7 : (k : Int) < (P.length : Int) := by omega
        obtain ⟨p, hp⟩ : ∃ p, P[k]? = some p := ⟨_, List.getElem?_eq_getElem (by omega)⟩
        obtain ⟨b, o, hA, hb, hcc⟩ := HS.out (by omega)
        have q0 := hcc k p hp
        subst hA
        have hn := numberOf_any ⟨p.toArray⟩ w1 (by have := Hpi.out p (List.mem_of_getElem? hp); have e : (⟨p.toArray⟩ : ByteArray).size = p.length := by simp [ByteArray.size]
                                                   rw [e]; omega)
        have hn : Calls Tryz.prog 90 #[.string ⟨p.toArray⟩] w1 fun e w2 => e = .returned (.int .i64 (numR p)) ∧ w1 = w2 := hn
        obtain ⟨ha, hb9⟩ := parts_at (acc := acc) hp
        generalize numR p = d at *
        have Hn := hide hn
        have Ha := hide ha
        have Hb9 := hide hb9
        clear hn ha hb9 hcc hp
        go_wp2_with fail
        refine Hn.out.mono ?_
        rintro e w2 ⟨rfl, rfl⟩
        by_cases hg : 0 ≤ d ∧ d ≤ 255
        · have Hs := hide (Hd.out.trans (Ha.out hg))
          obtain ⟨hst, hac⟩ := acc_step hlt Hacc.out hg.1 hg.2
          obtain ⟨q1, q2, q3, q4⟩ := addr_facts acc d hac hg.1 hg.2
          have j1 : ¬ d < 0 := by omega
          have j2 : ¬ 255 < d := by omega
          generalize acc * 256 + d.toNat = acc2 at *
          have Hst := hide hst
          clear hst hac Ha Hb9 hg
          go_wp2_with fail
          clear q1 q2 q3 q4 j1 j2
          exact ⟨⟨k + 1, acc2, by omega, by go_num, rfl, Hst.out, trivial, Hs.out⟩, by simp [intOf]; omega⟩
        · have Hs := hide (Hd.out.trans (Hb9.out hg))
          have hg2 : d < 0 ∨ 255 < d := by omega
          clear Ha Hb9 hg
          rcases hg2 with hg2 | hg2
          · go_wp2_with fail
            go_ret2
            exact ⟨by rw [Hs.out]; rfl, U.out⟩
          · have j1 : ¬ d < 0 := by omega
            go_wp2_with fail
            go_ret2
            exact ⟨by rw [Hs.out]; rfl, U.out⟩
      · obtain rfl : k = 4 := by omega
        have hd := Hd.out
        rw [List.drop_of_length_le (by omega)] at hd
        have Hs := hide (show readA s = some acc from hd)
        clear hd
        go_wp2_with fail
        go_ret2
        exact ⟨by rw [Hs.out]; rfl, U.out⟩
  · have i1 : ((P.length : Int) != 4) = true := by
      rw [bne_iff_ne]
      omega
    have He := hide (H4.out hp4)
    go_wp2_with fail
    go_ret2
    exact ⟨by rw [He.out]; rfl, U.out⟩
end Go.Proofs.YtjgecmkfgeajiaaGreatDoor

namespace Go.Proofs.YtjgecmkfgeajiaaGreatDoor
open Go.RowKit

theorem quo_facts (A : Nat) (h : A < 4294967296) : ∃ x y z t : Nat, x < 256 ∧ y < 256 ∧ z < 256 ∧ t < 256 ∧ Int.tdiv (A : Int) 16777216 = (x : Int) ∧ Int.tmod (Int.tdiv (A : Int) 65536) 256 = (y : Int) ∧ Int.tmod (Int.tdiv (A : Int) 256) 256 = (z : Int) ∧ Int.tmod (A : Int) 256 = (t : Int) ∧
    (textK A 4).drop 1 = Lib.decDigits x ++ 46 :: (Lib.decDigits y ++ 46 :: (Lib.decDigits z ++ 46 :: Lib.decDigits t)) := by
  refine ⟨A / 16777216, A / 65536 % 256, A / 256 % 256, A % 256, by omega, by omega, by omega, by omega, rfl, rfl, rfl, rfl, ?_⟩
  have e : A / 2 ^ (24 - 8 * 0) % 256 = A / 16777216 := by
    show A / 16777216 % 256 = _
    omega
  unfold textK textK textK textK textK
  rw [e]
  simp only [Lib.itoa_nonneg]
  simp
theorem wrap_facts (A : Nat) (h : A < 4294967296) : IntKind.i64.wrap (Int.tdiv (A : Int) 16777216) = Int.tdiv (A : Int) 16777216 ∧ wrap64 (Int.tdiv (A : Int) 16777216) = Int.tdiv (A : Int) 16777216 ∧ IntKind.i64.wrap (Int.tdiv (A : Int) 65536) = Int.tdiv (A : Int) 65536 ∧ wrap64 (Int.tdiv (A : Int) 65536) = Int.tdiv (A : Int) 65536 ∧ IntKind.i64.wrap (Int.tdiv (A : Int) 256) = Int.tdiv (A : Int) 256 ∧ wrap64 (Int.tdiv (A : Int) 256) = Int.tdiv (A : Int) 256 := by
  have e1 : Int.tdiv (A : Int) 16777216 = ((A / 16777216 : Nat) : Int) := rfl
  have e2 : Int.tdiv (A : Int) 65536 = ((A / 65536 : Nat) : Int) := rfl
  have e3 : Int.tdiv (A : Int) 256 = ((A / 256 : Nat) : Int) := rfl
  rw [e1, e2, e3]
  refine ⟨?_, ?_, ?_, ?_, ?_, ?_⟩
  · rw [IntWalk.i64_in _ (by omega)]
  · rw [IntWalk.wrap64_in _ ⟨by omega, by omega⟩]
  · rw [IntWalk.i64_in _ (by omega)]
  · rw [IntWalk.wrap64_in _ ⟨by omega, by omega⟩]
  · rw [IntWalk.i64_in _ (by omega)]
  · rw [IntWalk.wrap64_in _ ⟨by omega, by omega⟩]

theorem more_facts (A : Nat) (h : A < 4294967296) : wrap64 ((A : Int) / 65536) = ((A / 65536 : Nat) : Int) ∧ wrap64 ((A : Int) / 256) = ((A / 256 : Nat) : Int) ∧ IntKind.i64.wrap ((A : Int) / 65536) = ((A / 65536 : Nat) : Int) ∧ IntKind.i64.wrap ((A : Int) / 256) = ((A / 256 : Nat) : Int) := by
  refine ⟨?_, ?_, ?_, ?_⟩
  · rw [IntWalk.wrap64_in _ ⟨by omega, by omega⟩]; omega
  · rw [IntWalk.wrap64_in _ ⟨by omega, by omega⟩]; omega
  · rw [IntWalk.i64_in _ (by omega)]; omega
  · rw [IntWalk.i64_in _ (by omega)]; omega
theorem four_app (x y z t : List UInt8) : (((((((⟨x.toArray⟩ : ByteArray) ++ ⟨#[46]⟩) ++ ⟨y.toArray⟩) ++ ⟨#[46]⟩) ++ ⟨z.toArray⟩) ++ ⟨#[46]⟩) ++ ⟨t.toArray⟩) = ⟨(x ++ 46 :: (y ++ 46 :: (z ++ 46 :: t))).toArray⟩ := by
  apply ByteArray.ext
  simp

set_option maxRecDepth 8000 in
set_option maxHeartbeats 1000000 in
theorem addrTextRef_any (a : Int) (w : World) : Calls Tryz.prog 88 #[.int .i64 a] w fun e w1 => e = .returned (.string ⟨(addrT a).toArray⟩) ∧ New w w1 := by
  have hA := isAddr_any a
  by_cases hr : 0 ≤ a ∧ a < 4294967296
  · have hi : isA a = true := decide_eq_true hr
    rw [hi] at hA
    have he : addrT a = (textK a.toNat 4).drop 1 := if_pos hr
    obtain ⟨A, rfl⟩ := Int.eq_ofNat_of_zero_le hr.1
    rw [Int.toNat_natCast] at he
    obtain ⟨x, y, z, t, hx, hy, hz, ht, q1, q2, q3, q4, q5⟩ := quo_facts A (by omega)
    obtain ⟨p1, p2, p3, p4, p5, p6⟩ := wrap_facts A (by omega)
    obtain ⟨r2, r3, r4, r5⟩ := more_facts A (by omega)
    have m2 : Int.tmod ((A / 65536 : Nat) : Int) 256 = (y : Int) := q2
    have m3 : Int.tmod ((A / 256 : Nat) : Int) 256 = (z : Int) := q3
    have He := hide (he.trans (q5.trans rfl))
    generalize A / 65536 = B2 at *
    generalize A / 256 = B3 at *
    have l1 := dec_long x
    have l2 := dec_long y
    have l3 := dec_long z
    have l4 := dec_long t
    have HA := hide hA
    have Hd := hide (fun u (hu : u < 256) w' => decimal_nat u w' (by omega))
    clear he q5 hA hi hr
    generalize addrT (A : Int) = T at *
    go_enter Tryz.func88, Tryz.ntmps88
    go_wp2_with fail
    refine (HA.out _).mono ?_
    rintro e w1 ⟨rfl, rfl⟩
    go_wp2_with fail
    refine (Hd.out x hx _).mono ?_
    rintro e w1 ⟨rfl, hu⟩
    have U := hide hu
    clear hu
    go_wp2_with fail
    refine (Hd.out y hy _).mono ?_
    rintro e w2 ⟨rfl, hu⟩
    have U := hide (U.out.trans_new hu)
    clear hu
    go_wp2_with fail
    refine (Hd.out z hz _).mono ?_
    rintro e w3 ⟨rfl, hu⟩
    have U := hide (U.out.trans_new hu)
    clear hu
    go_wp2_with fail
    refine (Hd.out t ht _).mono ?_
    rintro e w4 ⟨rfl, hu⟩
    have U := hide (U.out.trans_new hu)
    clear hu
    go_wp2_with fail
    go_ret
    refine ⟨?_, U.out⟩
    rw [He.out, ← four_app]
    rfl
  · have hi : isA a = false := decide_eq_false hr
    rw [hi] at hA
    have HA := hide hA
    have He := hide (show addrT a = [] from if_neg hr)
    clear hA hi hr
    go_enter Tryz.func88, Tryz.ntmps88
    go_wp2_with fail
    refine (HA.out _).mono ?_
    rintro e w1 ⟨rfl, rfl⟩
    go_wp2_with fail
    go_ret
    exact ⟨by rw [He.out]; rfl, Upd.refl _ _⟩
end Go.Proofs.YtjgecmkfgeajiaaGreatDoor

namespace Go.Proofs.YtjgecmkfgeajiaaGreatDoor
open Go.RowKit

theorem TPf_info2 : (Tryz.prog.info? TPf).map (·.size) = some 2 := by kernel_rfl
/-- What a call hands back of its own block of a prefix and a slot. -/
theorem pref_out2 {fn : Func} {p t : Tmp} {tmps : Array Value} {w : World} {R : Nat} {x y : Value} (h : fn.results = #[.cell p TPf, .tmp t]) (hp : tmps.getD p undef = .pointer (some ⟨R, 0, none⟩)) (hb : Blk w R TPf #[x, y]) :
    (results fn tmps).run Tryz.prog w = .ok (.tuple #[.agg #[x, y], tmps.getD t undef]) w := by
  have hp' : tmps[p]?.getD undef = .pointer (some ⟨R, 0, none⟩) := by simpa using hp
  simp [results, h, hp', asAddr, run_loadVar_row w R TPf TPf #[x, y] (0, 0) _ hb Tryz.underlying43 rfl (by rw [TPf_info2]; rfl)]
theorem pref_set {w : World} {R : Nat} {x y u v : Value} (hb : Blk w R TPf #[x, y]) : Blk ((w.setCell ⟨R, 0, none⟩ u).setCell ⟨R, 1, none⟩ v) R TPf #[u, v] := by
  have := (hb.set_ 0 u).set_ 1 v
  simpa using this
theorem rem_facts (A Z : Nat) (h : A < 4294967296) (hz : 0 < Z) : ∃ B : Nat, B = A % Z ∧ Int.tmod (A : Int) (Z : Int) = (B : Int) ∧ (A : Int) % (Z : Int) = (B : Int) ∧ IntKind.i64.wrap ((A : Int) - (B : Int)) = (A : Int) - (B : Int) ∧ wrap64 ((A : Int) - (B : Int)) = (A : Int) - (B : Int) ∧ ¬ (Z : Int) = 0 := by
  have := Nat.mod_le A Z
  refine ⟨A % Z, rfl, rfl, rfl, ?_, ?_, by omega⟩
  · rw [IntWalk.i64_in _ (by omega)]
  · rw [IntWalk.wrap64_in _ ⟨by omega, by omega⟩]
/-- What the document cuts. -/
def cutV (a n : Int) : Value := if (0 ≤ a ∧ a < 4294967296) ∧ 0 ≤ n ∧ n ≤ 32 then .tuple #[.agg #[.int .i64 (a - (low a.toNat n.toNat : Int)), .int .i64 n], .int .i64 0] else .tuple #[.agg #[.int .i64 0, .int .i64 0], .int .i64 2]

end Go.Proofs.YtjgecmkfgeajiaaGreatDoor

namespace Go.Proofs.YtjgecmkfgeajiaaGreatDoor
open Go.RowKit

theorem pref_app (x y : List UInt8) : (((⟨x.toArray⟩ : ByteArray) ++ ⟨#[47]⟩) ++ ⟨y.toArray⟩) = ⟨(x ++ 47 :: y).toArray⟩ := by
  apply ByteArray.ext
  simp

set_option maxRecDepth 8000 in
set_option maxHeartbeats 1000000 in
theorem prefTextRef_any (a n : Int) (w : World) : Calls Tryz.prog 48 #[.agg #[.int .i64 a, .int .i64 n]] w fun e w1 => e = .returned (.string ⟨(prefT a n).toArray⟩) ∧ New w w1 := by
  have N := hide ((Upd.refl (fun _ => False) w).alloc (.cells #[.int .i64 a, .int .i64 n] TPf))
  have HB := hide (Blk.new w TPf #[.int .i64 a, .int .i64 n])
  go_enter Tryz.func48, Tryz.ntmps48
  go_upto_region 1 with (fail)
  generalize w.alloc (.cells #[.int .i64 a, .int .i64 n] TPf) = W at *
  generalize w.heap.size = X at *
  have bq := HB.out
  have x0 := bq.cell 0
  have x1 := bq.cell 1
  have xz := bq.lt
  simp only [List.getElem?_toArray, List.getElem?_cons_zero, List.getElem?_cons_succ] at x0 x1
  clear bq
  have hp := prefixError_any a n W
  by_cases hc : chk a n = 0
  · rw [hc] at hp
    have Hp := hide hp
    obtain ⟨ha, hn, _⟩ := chk_zero hc
    have he : prefT a n = addrT a ++ 47 :: Lib.decDigits n.toNat := by
      unfold prefT
      rw [if_pos hc]
      congr 2
      obtain ⟨m, rfl⟩ := Int.eq_ofNat_of_zero_le hn.1
      exact Lib.itoa_nonneg m
    have hd := fun w' => decimal_nat n.toNat w' (by omega)
    rw [Int.toNat_of_nonneg hn.1] at hd
    have l1 := addrT_len a
    have l2 := dec_long n.toNat
    have l3 : (Lib.decDigits n.toNat).length ≤ 100 := by omega
    have ht := fun w' => addrTextRef_any a w'
    generalize Lib.decDigits n.toNat = D at *
    generalize addrT a = T at *
    have He := hide he
    have Hd := hide hd
    have Ht := hide ht
    clear hp hc he hd ht ha hn l2
    go_wp2_with fail
    refine Hp.out.mono ?_
    rintro e w1 ⟨rfl, hu⟩
    have HB := hide (HB.out.new_ hu)
    have N := hide (N.out.trans_new hu)
    clear hu x0 x1 xz
    have bq := HB.out
    have x0 := bq.cell 0
    have x1 := bq.cell 1
    have xz := bq.lt
    simp only [List.getElem?_toArray, List.getElem?_cons_zero, List.getElem?_cons_succ] at x0 x1
    clear bq
    go_upto_region 3 with (fail)
    refine wp_region_new w1 (Upd.refl _ _) (by kernel_rfl) (by kernel_rfl) ?_
    repeat (go_big_quiet_step (first | (go_at_call 88; exact new_call (Ht.out _)) | (go_at_call 47; exact new_call (Hd.out _))))
    refine wpQuiet_nil ?_
    rintro _ ⟨nq, rfl⟩
    obtain ⟨wq, hu⟩ := nq
    dsimp only
    have N := hide (N.out.trans_new hu)
    clear hu x0 x1 xz
    go_wp2_with fail
    go_ret
    refine ⟨?_, N.out⟩
    rw [He.out, ← pref_app]
    rfl
  · have k3 : 0 < chk a n := by omega
    have He := hide (show prefT a n = [] from if_neg hc)
    have Hp := hide hp
    clear hp hc
    go_wp2_with fail
    refine Hp.out.mono ?_
    rintro e w1 ⟨rfl, hu⟩
    have N := hide (N.out.trans_new hu)
    clear hu x0 x1 xz
    go_wp2_with fail
    go_ret
    exact ⟨by rw [He.out]; rfl, N.out⟩
end Go.Proofs.YtjgecmkfgeajiaaGreatDoor

namespace Go.Proofs.YtjgecmkfgeajiaaGreatDoor
open Go.RowKit

/-- What the document reads. -/
def readV (r : Nat × Int × Int) : Value := .tuple #[.agg #[.int .i64 r.2.1, .int .i64 r.2.2], .int .i64 (r.1 : Nat)]

set_option maxRecDepth 20000 in
set_option maxHeartbeats 1000000 in
theorem readPrefRef_any (s : ByteArray) (w : World) (hs : s.size ≤ 1000000) :
    Calls Tryz.prog 52 #[.string s] w fun e w1 => e = .returned (readV (readP s)) ∧ New w w1 := by
  have u := (Upd.refl (fun _ => False) w).alloc (.cells #[.int .i64 0, .int .i64 0] TPf)
  have N := hide u
  have HR := hide (Blk.new w TPf #[.int .i64 0, .int .i64 0])
  have hc := cutRef_any s 47 (w.alloc (.cells #[.int .i64 0, .int .i64 0] TPf)) hs
  have h2 := fun p q h => readP_two (s := s) (p := p) (q := q) h
  have hn := fun h => readP_not (s := s) h
  obtain ⟨R, hR⟩ : ∃ R, R = readP s := ⟨_, rfl⟩
  simp only [← hR] at h2 hn ⊢
  have hpl := cutR_len 47 s.data.toList
  have hpi := cutR_piece 47 s.data.toList
  have hll : s.data.toList.length = s.size := by simp
  generalize cutR 47 s.data.toList = P at *
  have Hc := hide hc
  have H2 := hide h2
  have Hn := hide hn
  have Hpi := hide hpi
  clear hc h2 hn hpi u hR
  go_enter Tryz.func52, Tryz.ntmps52
  go_upto_region 1 with (fail)
  generalize w.alloc (.cells #[.int .i64 0, .int .i64 0] TPf) = W at *
  go_wp2_with fail
  refine Hc.out.mono ?_
  rintro e w1 ⟨v, rfl, ho, hu⟩
  obtain ⟨A, cap, rfl, _, _, hS⟩ := ss_of_own ho
  have HS := hide hS
  have N := hide (N.out.trans_new hu)
  have HR := hide (HR.out.new_ hu)
  clear ho hu hS Hc
  by_cases hp2 : P.length = 2
  rotate_left
  · have i1 : ((P.length : Int) != 2) = true := by
      rw [bne_iff_ne]
      omega
    have He := hide (Hn.out hp2)
    have bq := HR.out
    have r0 := bq.cell 0
    have r1 := bq.cell 1
    have s0 := bq.frozen 0
    have s1 := bq.frozen 1
    have rz := bq.lt
    simp only [List.getElem?_toArray, List.getElem?_cons_zero, List.getElem?_cons_succ] at r0 r1
    clear bq hp2
    go_wp2_with fail
    refine bodyPost_ret (pref_out2 Tryz.results52 rfl (pref_set HR.out)) rfl ⟨by rw [He.out]; rfl, new_set2 N.out (Nat.le_refl _)⟩
  obtain ⟨p, q, rfl⟩ : ∃ p q, P = [p, q] := by
    match P, hp2 with
    | [p, q], _ => exact ⟨p, q, rfl⟩
  clear hp2 Hn hpl
  obtain ⟨hA, hN, hO⟩ := H2.out p q rfl
  obtain ⟨b, o, hAa, hb, hcc⟩ := HS.out (by simp)
  have q0 : w1.cell? ⟨b, o, none⟩ = some (sV p) := hcc 0 p rfl
  have q1 : w1.cell? ⟨b, o + 1, none⟩ = some (sV q) := hcc 1 q rfl
  subst hAa
  unfold sV at q0 q1
  have lp : (⟨p.toArray⟩ : ByteArray).size ≤ 1000000 := by
    have := Hpi.out p (by simp)
    have e : (⟨p.toArray⟩ : ByteArray).size = p.length := by simp [ByteArray.size]
    omega
  have lq : (⟨q.toArray⟩ : ByteArray).size ≤ 1000000 := by
    have := Hpi.out q (by simp)
    have e : (⟨q.toArray⟩ : ByteArray).size = q.length := by simp [ByteArray.size]
    omega
  have hra := fun w' => readAddrRef_any ⟨p.toArray⟩ w' lp
  have hnu := fun w' => numberOf_any ⟨q.toArray⟩ w' lq
  have hnu : ∀ w', Calls Tryz.prog 90 #[.string ⟨q.toArray⟩] w' fun e w2 => e = .returned (.int .i64 (numR q)) ∧ w' = w2 := hnu
  clear lp lq hcc
  generalize readA ⟨p.toArray⟩ = ra at *
  generalize numR q = n at *
  have Hra := hide hra
  have Hnu := hide hnu
  have HA := hide hA
  have HN := hide hN
  have HO := hide hO
  clear hra hnu hA hN hO H2 HS Hpi
  have Q0 := hide q0
  have Q1 := hide q1
  clear q0 q1
  have i1 : (((2 : Nat) : Int) != 2) = false := rfl
  have q0 := Q0.out
  have q1 := Q1.out
  go_wp2_with fail
  refine (Hra.out _).mono ?_
  rintro e w2 ⟨rfl, hu⟩
  have N := hide (N.out.trans_new hu)
  have HR := hide (HR.out.new_ hu)
  have Q1 := hide ((hu.cell hb (fun x => x)).trans Q1.out)
  clear hu q0 q1 Hra
  have q1 := Q1.out
  unfold addrV
  cases ra with
  | none =>
    have He := hide (HA.out rfl)
    dsimp only [Option.isSome, Option.getD]
    go_wp2_with fail
    refine (Hnu.out _).mono ?_
    rintro e w3 ⟨rfl, rfl⟩
    have bq := HR.out
    have r0 := bq.cell 0
    have r1 := bq.cell 1
    have s0 := bq.frozen 0
    have s1 := bq.frozen 1
    have rz := bq.lt
    simp only [List.getElem?_toArray, List.getElem?_cons_zero, List.getElem?_cons_succ] at r0 r1
    clear bq
    go_wp2_with fail
    refine bodyPost_ret (pref_out2 Tryz.results52 rfl (pref_set HR.out)) rfl ⟨by rw [He.out]; rfl, new_set2 N.out (Nat.le_refl _)⟩
  | some a =>
    dsimp only [Option.isSome, Option.getD]
    by_cases hn0 : n < 0
    · have He := hide (HN.out hn0)
      go_wp2_with fail
      refine (Hnu.out _).mono ?_
      rintro e w3 ⟨rfl, rfl⟩
      have bq := HR.out
      have r0 := bq.cell 0
      have r1 := bq.cell 1
      have s0 := bq.frozen 0
      have s1 := bq.frozen 1
      have rz := bq.lt
      simp only [List.getElem?_toArray, List.getElem?_cons_zero, List.getElem?_cons_succ] at r0 r1
      clear bq
      go_wp2_with fail
      refine bodyPost_ret (pref_out2 Tryz.results52 rfl (pref_set HR.out)) rfl ⟨by rw [He.out]; rfl, new_set2 N.out (Nat.le_refl _)⟩
    · have he := HO.out a rfl (by omega)
      have Hp := hide (fun w' => prefixError_any (a : Int) n w')
      clear HA HN HO
      go_wp2_with fail
      refine (Hnu.out _).mono ?_
      rintro e w3 ⟨rfl, rfl⟩
      go_upto_region 9 with (fail)
      have B8 := hide (Blk.new w2 TPf #[.int .i64 (a : Int), .int .i64 n])
      have u := (Upd.refl (fun _ => False) w2).alloc (.cells #[.int .i64 (a : Int), .int .i64 n] TPf)
      have N := hide (N.out.trans_new u)
      have HR := hide (HR.out.new_ u)
      clear u q1 Q1 Q0
      generalize w2.alloc (.cells #[.int .i64 (a : Int), .int .i64 n] TPf) = W2 at *
      generalize w2.heap.size = X at *
      have bq := B8.out
      have t0 := bq.cell 0
      have t1 := bq.cell 1
      have tz := bq.lt
      simp only [List.getElem?_toArray, List.getElem?_cons_zero, List.getElem?_cons_succ] at t0 t1
      clear bq
      by_cases hk : chk a n = 0
      · rw [if_pos hk] at he
        have Hp := hide (fun w' => (by have := Hp.out w'; rw [hk] at this; exact this : Calls Tryz.prog 41 #[.agg #[.int .i64 (a : Int), .int .i64 n]] w' fun e w1 => e = .returned (.int .i64 ((0 : Nat) : Int)) ∧ New w' w1))
        have He := hide he
        clear he hk
        go_wp2_with fail
        refine (Hp.out _).mono ?_
        rintro e w4 ⟨rfl, hu⟩
        have N := hide (N.out.trans_new hu)
        have HR := hide (HR.out.new_ hu)
        have B8 := hide (B8.out.new_ hu)
        clear hu t0 t1 tz
        have bq := B8.out
        have t0 := bq.cell 0
        have t1 := bq.cell 1
        have tz := bq.lt
        simp only [List.getElem?_toArray, List.getElem?_cons_zero, List.getElem?_cons_succ] at t0 t1
        clear bq
        have bq := HR.out
        have r0 := bq.cell 0
        have r1 := bq.cell 1
        have s0 := bq.frozen 0
        have s1 := bq.frozen 1
        have rz := bq.lt
        simp only [List.getElem?_toArray, List.getElem?_cons_zero, List.getElem?_cons_succ] at r0 r1
        clear bq
        go_wp2_with fail
        refine bodyPost_ret (pref_out2 Tryz.results52 rfl (pref_set HR.out)) rfl ⟨by rw [He.out]; rfl, new_set2 N.out (Nat.le_refl _)⟩
      · rw [if_neg hk] at he
        have k3 : 0 < chk a n := by omega
        have He := hide he
        clear he
        generalize chk a n = kc at *
        clear hk
        go_wp2_with fail
        refine (Hp.out _).mono ?_
        rintro e w4 ⟨rfl, hu⟩
        have N := hide (N.out.trans_new hu)
        have HR := hide (HR.out.new_ hu)
        clear hu t0 t1 tz
        have bq := HR.out
        have r0 := bq.cell 0
        have r1 := bq.cell 1
        have s0 := bq.frozen 0
        have s1 := bq.frozen 1
        have rz := bq.lt
        simp only [List.getElem?_toArray, List.getElem?_cons_zero, List.getElem?_cons_succ] at r0 r1
        clear bq
        have k4 : (0 : Int) < (kc : Int) := by omega
        go_wp2_with fail
        refine bodyPost_ret (pref_out2 Tryz.results52 rfl (pref_set HR.out)) rfl ⟨by rw [He.out]; rfl, new_set2 N.out (Nat.le_refl _)⟩
end Go.Proofs.YtjgecmkfgeajiaaGreatDoor
