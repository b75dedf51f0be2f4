/- Package ip: Number. No condition but those that stand in each theorem. -/
import Derived.Test.YtjgecmkfgeajiaaGreatDoorTx0
import Derived.Test.YtjgecmkfgeajiaaGreatDoorSl
import Derived.BigRegion
import Derived.Test.YtjgecmkfgeajiaaGreatDoorHp
import Derived.Lib.SplitLaws
import Derived.Test.YtjgecmkfgeajiaaGreatDoorRg
import Derived.Test.YtjgecmkfgeajiaaGreatDoorPfo
namespace Go.Proofs.YtjgecmkfgeajiaaGreatDoor
open Go.RowKit

/-- The number that a text spells as it is written, up to the most. -/
def numV (l : List UInt8) (most : Int) : Option Int := match Lib.atoiAll l with
  | .ok v => if 0 ≤ v ∧ v ≤ most ∧ Lib.itoa v = l then some v else none
  | _ => none
theorem numV_ok {l : List UInt8} {most v : Int} (h : Lib.atoiAll l = .ok v) : numV l most = if 0 ≤ v ∧ v ≤ most ∧ Lib.itoa v = l then some v else none := by unfold numV; rw [h]
theorem numV_bad {l : List UInt8} {most : Int} (h : ∀ v, Lib.atoiAll l ≠ .ok v) : numV l most = none := by
  unfold numV
  split
  · rename_i v hv; exact absurd hv (h v)
  · rfl

set_option maxRecDepth 8000 in
set_option maxHeartbeats 2000000 in
theorem number_any (s : ByteArray) (most : Int) (w : World) (h : TxtOk w) (hs : s.size ≤ 1000000) (hm : most ≤ 999999999) :
    Calls Tryz.prog 57 #[.string s, .int .i64 most] w fun e w1 => ∃ x, e = .returned (.tuple #[.int .i64 x, .bool (numV s.data.toList most).isSome]) ∧ (∀ v, numV s.data.toList most = some v → x = v) ∧ New w w1 := by
  have Ha := hide (atoi_any s w h (by omega))
  have H := hide h
  clear h
  go_enter Tryz.func57, Tryz.ntmps57
  go_wp2_with fail
  refine Ha.out.mono ?_
  rintro e w1 ⟨⟨v, hv, rfl⟩ | ⟨hv, x, t, p, rfl⟩, hu⟩
  · have Hv := hide (numV_ok (most := most) hv)
    have H1 := hide (H.out.new hu)
    have U1 := hide hu
    clear hv hu
    by_cases g1 : 0 ≤ v
    · by_cases g2 : v ≤ most
      · have Hi := hide (itoa_any v w1 H1.out (by omega) (by omega))
        go_wp2_with fail
        refine Hi.out.mono ?_
        rintro e w2 ⟨rfl, hu⟩
        have U2 := hide (U1.out.trans_new hu)
        clear hu
        go_wp2_with fail
        go_ret2
        refine ⟨v, ?_, fun z hz => ?_, U2.out⟩
        · rw [Hv.out, ByteArray.toList_eq]
          by_cases g3 : Lib.itoa v = s.data.toList
          · rw [if_pos ⟨g1, g2, g3⟩, beq_iff_eq.2 g3]; rfl
          · rw [if_neg fun h => g3 h.2.2, beq_eq_false_iff_ne.2 g3]; rfl
        · rw [Hv.out] at hz
          split at hz
          · exact Option.some.inj hz
          · cases hz
      · have Hv2 := hide (Hv.out.trans (if_neg fun h => g2 h.2.1))
        go_wp2_with fail
        go_ret2
        exact ⟨v, by rw [Hv2.out]; rfl, (fun z hz => by rw [Hv2.out] at hz; cases hz), U1.out⟩
    · have Hv2 := hide (Hv.out.trans (if_neg fun h => g1 h.1))
      go_wp2_with fail
      go_ret2
      exact ⟨v, by rw [Hv2.out]; rfl, (fun z hz => by rw [Hv2.out] at hz; cases hz), U1.out⟩
  · have Hv2 := hide (numV_bad (most := most) hv)
    have U1 := hide hu
    clear hv hu
    go_wp2_with fail
    go_ret2
    exact ⟨x, by rw [Hv2.out]; rfl, (fun z hz => by rw [Hv2.out] at hz; cases hz), U1.out⟩
end Go.Proofs.YtjgecmkfgeajiaaGreatDoor

namespace Go.Proofs.YtjgecmkfgeajiaaGreatDoor
open Go.RowKit

/-- The first parts of an address, each behind a point. -/
def textK (a : Nat) : Nat → List UInt8
  | 0 => []
  | k + 1 => textK a k ++ 46 :: Lib.itoa ((a / 2 ^ (24 - 8 * k) % 256 : Nat) : Int)
theorem and255 (x : Nat) (hx : x < 9223372036854775808) : bits .and .i64 (x : Int) 255 = ((x % 256 : Nat) : Int) := by
  have h := i64_and_nat x 255 hx (by omega)
  have h2 : x &&& 255 = x % 256 := and_mask x 8
  rw [h2] at h
  exact h
theorem dec_len : ∀ u : Fin 256, (Lib.decDigits u.val).length ≤ 3 := by decide +kernel
theorem itoa_len (u : Nat) (h : u < 256) : (Lib.itoa (u : Int)).length ≤ 3 := by
  have h1 := dec_len ⟨u, h⟩
  unfold Lib.itoa
  rw [if_neg (by omega)]
  exact h1
theorem textK_len (a : Nat) : ∀ k, (textK a k).length ≤ 4 * k
  | 0 => by simp [textK]
  | k + 1 => by
    have h1 := textK_len a k
    have h2 := itoa_len (a / 2 ^ (24 - 8 * k) % 256) (Nat.mod_lt _ (by omega))
    unfold textK
    rw [List.length_append, List.length_cons]
    omega
/-- An address in words; what is none is empty. -/
def addrT (a : Int) : List UInt8 := if 0 ≤ a ∧ a < 4294967296 then (textK a.toNat 4).drop 1 else []

set_option maxRecDepth 8000 in
set_option maxHeartbeats 4000000 in
theorem addrText_nat (a : Nat) (w : World) (h : TxtOk w) (ha : a < 4294967296) :
    Calls Tryz.prog 35 #[.int .i64 (a : Int)] w fun e w1 => e = .returned (.string ⟨((textK a 4).drop 1).toArray⟩) ∧ New w w1 := by
  have Had := hide (address_yes (a : Int) ⟨by omega, by omega⟩ w)
  have H := hide h
  have B := hide (Blk.new w 3 #[.int .i64 24, .int .i64 16, .int .i64 8, .int .i64 0])
  have U := hide ((Upd.refl (fun _ => False) w).alloc (.cells #[.int .i64 24, .int .i64 16, .int .i64 8, .int .i64 0] 3))
  have HA := hide ha
  clear h ha
  go_enter Tryz.func35, Tryz.ntmps35
  go_wp2_with fail
  refine Had.out.mono ?_
  rintro e w1 ⟨rfl, rfl⟩
  go_wp2_with fail
  go_loopw [3, 11] (fun s i wr => ∃ k : Nat, k ≤ 4 ∧ i = .int .i64 k ∧ s = .string ⟨(textK a k).toArray⟩ ∧ New (w.alloc (.cells #[.int .i64 24, .int .i64 16, .int .i64 8, .int .i64 0] 3)) wr) (fun _ i _ => 4 - (intOf i).toNat)
  case atStart => exact ⟨0, by omega, rfl, rfl, Upd.refl _ _⟩
  case round =>
    obtain ⟨k, hk, rfl, rfl, hnr⟩ := hrel
    have Nr := hide hnr
    clear hnr
    have bq := B.out.new_ Nr.out
    have c0 := bq.cell 0
    have c1 := bq.cell 1
    have c2 := bq.cell 2
    have c3 := bq.cell 3
    have zb := bq.lt
    simp only [List.getElem?_toArray, List.getElem?_cons_zero, List.getElem?_cons_succ] at c0 c1 c2 c3
    clear bq
    obtain rfl | rfl | rfl | rfl | rfl : k = 0 ∨ k = 1 ∨ k = 2 ∨ k = 3 ∨ k = 4 := by omega
    · have hb : bits .and .i64 ((a : Int) / 16777216) 255 = ((a / 2 ^ (24 - 8 * 0) % 256 : Nat) : Int) := by
        have h1 : ((a / 16777216 : Nat) : Int) = (a : Int) / 16777216 := by omega
        rw [← h1, and255 _ (by have := HA.out; omega)]
        try simp
      have Hi := hide (itoa_any ((a : Int) / 16777216 % 256) wr ((H.out.new U.out).new Nr.out) (by omega) (by omega))
      have hq : (a : Int) / 16777216 % 256 = ((a / 2 ^ (24 - 8 * 0) % 256 : Nat) : Int) := by
        have h2 : 2 ^ (24 - 8 * 0) = 16777216 := rfl
        rw [h2]; omega
      have hL := itoa_len (a / 2 ^ (24 - 8 * 0) % 256) (Nat.mod_lt _ (by omega))
      rw [← hq] at hL
      have hT := textK_len a 0
      have hL1 : ¬ 9223372036854775807 < 1 + (Lib.itoa ((a : Int) / 16777216 % 256)).length := by omega
      have hL2 : ¬ 9223372036854775807 < (textK a 0).length + (1 + (Lib.itoa ((a : Int) / 16777216 % 256)).length) := by omega
      have hL3 : ¬ 9223372036854775807 < (textK a 0).length + ((Lib.itoa ((a : Int) / 16777216 % 256)).length + 1) := by omega
      have Hq := hide hq
      clear hk hq hL hT
      go_wp2_with fail
      refine Hi.out.mono ?_
      rintro e w2 ⟨rfl, hu⟩
      have N2 := hide (Nr.out.trans_new hu)
      clear hu hb
      go_wp2_with fail
      exact ⟨⟨1, by omega, rfl, by rw [Hq.out]; exact congrArg Value.string (Go.WideShapes.bytes_inj (by simp [textK])), N2.out⟩, by simp [intOf]⟩
    · have hb : bits .and .i64 ((a : Int) / 65536) 255 = ((a / 2 ^ (24 - 8 * 1) % 256 : Nat) : Int) := by
        have h1 : ((a / 65536 : Nat) : Int) = (a : Int) / 65536 := by omega
        rw [← h1, and255 _ (by have := HA.out; omega)]
        try simp
      have Hi := hide (itoa_any ((a : Int) / 65536 % 256) wr ((H.out.new U.out).new Nr.out) (by omega) (by omega))
      have hq : (a : Int) / 65536 % 256 = ((a / 2 ^ (24 - 8 * 1) % 256 : Nat) : Int) := by
        have h2 : 2 ^ (24 - 8 * 1) = 65536 := rfl
        rw [h2]; omega
      have hL := itoa_len (a / 2 ^ (24 - 8 * 1) % 256) (Nat.mod_lt _ (by omega))
      rw [← hq] at hL
      have hT := textK_len a 1
      have hL1 : ¬ 9223372036854775807 < 1 + (Lib.itoa ((a : Int) / 65536 % 256)).length := by omega
      have hL2 : ¬ 9223372036854775807 < (textK a 1).length + (1 + (Lib.itoa ((a : Int) / 65536 % 256)).length) := by omega
      have hL3 : ¬ 9223372036854775807 < (textK a 1).length + ((Lib.itoa ((a : Int) / 65536 % 256)).length + 1) := by omega
      have Hq := hide hq
      clear hk hq hL hT
      go_wp2_with fail
      refine Hi.out.mono ?_
      rintro e w2 ⟨rfl, hu⟩
      have N2 := hide (Nr.out.trans_new hu)
      clear hu hb
      go_wp2_with fail
      exact ⟨⟨2, by omega, rfl, by rw [Hq.out]; exact congrArg Value.string (Go.WideShapes.bytes_inj (by simp [textK])), N2.out⟩, by simp [intOf]⟩
    · have hb : bits .and .i64 ((a : Int) / 256) 255 = ((a / 2 ^ (24 - 8 * 2) % 256 : Nat) : Int) := by
        have h1 : ((a / 256 : Nat) : Int) = (a : Int) / 256 := by omega
        rw [← h1, and255 _ (by have := HA.out; omega)]
        try simp
      have Hi := hide (itoa_any ((a : Int) / 256 % 256) wr ((H.out.new U.out).new Nr.out) (by omega) (by omega))
      have hq : (a : Int) / 256 % 256 = ((a / 2 ^ (24 - 8 * 2) % 256 : Nat) : Int) := by
        have h2 : 2 ^ (24 - 8 * 2) = 256 := rfl
        rw [h2]; omega
      have hL := itoa_len (a / 2 ^ (24 - 8 * 2) % 256) (Nat.mod_lt _ (by omega))
      rw [← hq] at hL
      have hT := textK_len a 2
      have hL1 : ¬ 9223372036854775807 < 1 + (Lib.itoa ((a : Int) / 256 % 256)).length := by omega
      have hL2 : ¬ 9223372036854775807 < (textK a 2).length + (1 + (Lib.itoa ((a : Int) / 256 % 256)).length) := by omega
      have hL3 : ¬ 9223372036854775807 < (textK a 2).length + ((Lib.itoa ((a : Int) / 256 % 256)).length + 1) := by omega
      have Hq := hide hq
      clear hk hq hL hT
      go_wp2_with fail
      refine Hi.out.mono ?_
      rintro e w2 ⟨rfl, hu⟩
      have N2 := hide (Nr.out.trans_new hu)
      clear hu hb
      go_wp2_with fail
      exact ⟨⟨3, by omega, rfl, by rw [Hq.out]; exact congrArg Value.string (Go.WideShapes.bytes_inj (by simp [textK])), N2.out⟩, by simp [intOf]⟩
    · have hb : bits .and .i64 ((a : Int)) 255 = ((a / 2 ^ (24 - 8 * 3) % 256 : Nat) : Int) := by
        have h1 : ((a : Nat) : Int) = (a : Int) := by omega
        rw [← h1, and255 _ (by have := HA.out; omega)]
        try simp
      have Hi := hide (itoa_any ((a : Int) % 256) wr ((H.out.new U.out).new Nr.out) (by omega) (by omega))
      have hq : (a : Int) % 256 = ((a / 2 ^ (24 - 8 * 3) % 256 : Nat) : Int) := by
        have h2 : 2 ^ (24 - 8 * 3) = 1 := rfl
        rw [h2]; omega
      have hL := itoa_len (a / 2 ^ (24 - 8 * 3) % 256) (Nat.mod_lt _ (by omega))
      rw [← hq] at hL
      have hT := textK_len a 3
      have hL1 : ¬ 9223372036854775807 < 1 + (Lib.itoa ((a : Int) % 256)).length := by omega
      have hL2 : ¬ 9223372036854775807 < (textK a 3).length + (1 + (Lib.itoa ((a : Int) % 256)).length) := by omega
      have hL3 : ¬ 9223372036854775807 < (textK a 3).length + ((Lib.itoa ((a : Int) % 256)).length + 1) := by omega
      have Hq := hide hq
      clear hk hq hL hT
      go_wp2_with fail
      refine Hi.out.mono ?_
      rintro e w2 ⟨rfl, hu⟩
      have N2 := hide (Nr.out.trans_new hu)
      clear hu hb
      go_wp2_with fail
      exact ⟨⟨4, by omega, rfl, by rw [Hq.out]; exact congrArg Value.string (Go.WideShapes.bytes_inj (by simp [textK])), N2.out⟩, by simp [intOf]⟩
    · clear hk
      have hL : 1 ≤ (textK a 4).length := by
        unfold textK
        rw [List.length_append, List.length_cons]
        omega
      have hL2 : (1 : Int) ≤ ((textK a 4).length : Int) := by omega
      go_wp2_with fail
      go_ret
      exact ⟨congrArg (fun z => Ending.returned (.string z)) (Go.WideShapes.bytes_inj (by simp [List.take_of_length_le])), U.out.trans_new Nr.out⟩
theorem addrText_any (a : Int) (w : World) (h : TxtOk w) :
    Calls Tryz.prog 35 #[.int .i64 a] w fun e w1 => e = .returned (.string ⟨(addrT a).toArray⟩) ∧ New w w1 := by
  by_cases ha : 0 ≤ a ∧ a < 4294967296
  · obtain ⟨n, rfl⟩ := Int.eq_ofNat_of_zero_le ha.1
    have := addrText_nat n w h (by omega)
    unfold addrT
    rw [if_pos ha]
    exact this
  · have Had := hide (show Calls Tryz.prog 71 #[.int .i64 a] w (fun e w1 => e = .returned (.bool false) ∧ w = w1) from (address_any a w).mono fun _ _ ⟨he, hw⟩ => ⟨by rw [he, decide_eq_false ha], hw⟩)
    have He := hide (show addrT a = [] from if_neg ha)
    clear ha h
    go_enter Tryz.func35, Tryz.ntmps35
    go_wp2_with fail
    refine Had.out.mono ?_
    rintro e w1 ⟨rfl, rfl⟩
    go_wp2_with fail
    go_ret
    exact ⟨by rw [He.out]; rfl, Upd.refl _ _⟩
end Go.Proofs.YtjgecmkfgeajiaaGreatDoor

namespace Go.Proofs.YtjgecmkfgeajiaaGreatDoor
open Go.RowKit

/-- The number that parts spell, behind what was read before. -/
def partsV : List ByteArray → Nat → Option Nat
  | [], acc => some acc
  | p :: ps, acc => match numV p.data.toList 255 with
    | some v => partsV ps (acc * 256 + v.toNat)
    | none => none
theorem partsV_some {p : ByteArray} {ps : List ByteArray} {acc : Nat} {v : Int} (h : numV p.data.toList 255 = some v) : partsV (p :: ps) acc = partsV ps (acc * 256 + v.toNat) := by
  show (match numV p.data.toList 255 with | some v => partsV ps (acc * 256 + v.toNat) | none => none) = _
  rw [h]
theorem partsV_none {p : ByteArray} {ps : List ByteArray} {acc : Nat} (h : numV p.data.toList 255 = none) : partsV (p :: ps) acc = none := by
  show (match numV p.data.toList 255 with | some v => partsV ps (acc * 256 + v.toNat) | none => none) = _
  rw [h]
def dot : ByteArray := ⟨#[46]⟩
def readParts (s : ByteArray) : List ByteArray := Lib.splitB dot 0 (Lib.countB s dot) s
def readA (s : ByteArray) : Option Nat := if (readParts s).length = 4 then partsV (readParts s) 0 else none
theorem readParts_len (s : ByteArray) : (readParts s).length = Lib.countB s dot + 1 := Lib.splitB_all dot (by decide) 0 _ s rfl
theorem piece_le (sep : ByteArray) : ∀ (k : Nat) (s p : ByteArray), p ∈ Lib.splitB sep 0 k s → p.size ≤ s.size
  | 0, s, p, h => by
    rw [Lib.splitB_zero] at h
    rw [List.mem_singleton.1 h]
    exact Nat.le_refl _
  | k + 1, s, p, h => by
    unfold Lib.splitB at h
    split at h
    · rw [List.mem_singleton.1 h]; exact Nat.le_refl _
    · rcases List.mem_cons.1 h with rfl | h
      · simp; omega
      · have := piece_le sep k _ p h
        simp at this
        omega
theorem numV_range {l : List UInt8} {most v : Int} (h : numV l most = some v) : 0 ≤ v ∧ v ≤ most := by
  unfold numV at h
  split at h
  · split at h
    · rename_i hh; injection h with h; subst h; exact ⟨hh.1, hh.2.1⟩
    · cases h
  · cases h
theorem or_256 (acc v : Nat) (hv : v < 256) : acc * 256 ||| v = acc * 256 + v := by
  have := Nat.two_pow_add_eq_or_of_lt (i := 8) (b := v) (by simpa using hv) acc
  rw [Nat.mul_comm acc 256]
  exact this.symm
theorem or_part (acc v : Nat) (ha : acc < 16777216) (hv : v < 256) : bits .or .i64 ((acc : Int) * 256) (v : Int) = ((acc * 256 + v : Nat) : Int) := by
  have h := i64_or_nat (acc * 256) v (by omega) (by omega)
  rw [or_256 acc v hv] at h
  rw [show ((acc * 256 : Nat) : Int) = (acc : Int) * 256 by omega] at h
  exact h
abbrev gText1 : Nat := 1

set_option maxRecDepth 8000 in
set_option maxHeartbeats 4000000 in
theorem readAddr_any (s : ByteArray) (E : Nat → Addr) (w : World) (h : TxtOk w) (h1 : Sen w gText1 (E 1)) (hs : s.size ≤ 1000000) :
    Calls Tryz.prog 100 #[.string s] w fun e w1 => ((∃ v : Nat, readA s = some v ∧ v < 4294967296 ∧ e = .returned (.tuple #[.int .i64 (v : Int), .nilIface])) ∨ (readA s = none ∧ e = .returned (.tuple #[.int .i64 0, errv (E 1)]))) ∧ New w w1 := by
  have Hsp := hide (split_any s dot w h (by omega) (by decide))
  unfold dot at Hsp
  have hlen := readParts_len s
  have hle := fun p hp => piece_le dot (Lib.countB s dot) s p hp
  have hr : readA s = if (readParts s).length = 4 then partsV (readParts s) 0 else none := rfl
  unfold readParts dot at hlen hr
  unfold dot at hle
  generalize Lib.countB s ⟨#[46]⟩ = n at *
  generalize Lib.splitB ⟨#[46]⟩ 0 n s = ps at *
  have Hle := hide hle
  have Hr := hide hr
  have Hlen := hide hlen
  have H := hide h
  have H1 := hide h1
  clear h h1 hle hr hlen
  go_enter Tryz.func100, Tryz.ntmps100
  go_wp2_with fail
  refine Hsp.out.mono ?_
  rintro e w1 ⟨g, rfl, hg, hb, hu⟩
  have U1 := hide hu
  have HB := hide hb
  have c1 : w1.cell? ⟨1, 0, none⟩ = some (errv (E 1)) := H1.out.new hu
  have z1 : 1 < w1.heap.size := (H1.out.new hu).lt
  unfold errv at c1
  clear hu hb hg Hsp
  by_cases hn : n = 3
  · subst hn
    obtain ⟨p0, p1, p2, p3, hps⟩ : ∃ p0 p1 p2 p3, ps = [p0, p1, p2, p3] := by
      have h := Hlen.out
      match ps, h with
      | [a, b, c, d], _ => exact ⟨a, b, c, d, rfl⟩
    subst hps
    have Hr2 := hide (Hr.out.trans (if_pos rfl))
    clear c1 z1
    go_wp2_with fail
    go_loopw [5, 18] (fun a i wr => ∃ k acc : Nat, k ≤ 4 ∧ i = .int .i64 k ∧ a = .int .i64 acc ∧ acc < 256 ^ k ∧ partsV ([p0, p1, p2, p3].drop k) acc = readA s ∧ New w1 wr) (fun _ i _ => 4 - (intOf i).toNat)
    case atStart => exact ⟨0, 0, by omega, rfl, rfl, by omega, Hr2.out.symm, Upd.refl _ _⟩
    case round =>
      obtain ⟨k, acc, hk, rfl, rfl, hacc, hpv, hnr⟩ := hrel
      have Nr := hide hnr
      have Hpv := hide hpv
      clear hnr hpv
      have bq := HB.out.new_ Nr.out
      have c0 := bq.cell 0
      have c1 := bq.cell 1
      have c2 := bq.cell 2
      have c3 := bq.cell 3
      have zb := bq.lt
      simp only [List.map_cons, List.map_nil, List.getElem?_toArray, List.getElem?_cons_zero, List.getElem?_cons_succ] at c0 c1 c2 c3
      clear bq
      have e1 : wr.cell? ⟨1, 0, none⟩ = some (errv (E 1)) := (H1.out.new U1.out).new Nr.out
      have z1 : 1 < wr.heap.size := ((H1.out.new U1.out).new Nr.out).lt
      unfold errv at e1
      obtain rfl | rfl | rfl | rfl | rfl : k = 0 ∨ k = 1 ∨ k = 2 ∨ k = 3 ∨ k = 4 := by omega
      · have hacc2 : acc < 1 := by simpa using hacc
        have Hnu := hide (number_any p0 255 wr ((H.out.new U1.out).new Nr.out) (Nat.le_trans (Hle.out p0 (by simp)) hs) (by omega))
        clear hk hacc
        cases hv : numV p0.data.toList 255 with
        | none =>
          have Hz := hide (show readA s = none from Hpv.out.symm.trans (partsV_none hv))
          rw [hv] at Hnu
          clear hv
          go_wp2_with fail
          refine Hnu.out.mono ?_
          rintro e w3 ⟨x, rfl, _, hu⟩
          have N3 := hide (Nr.out.trans_new hu)
          have e1 : w3.cell? ⟨1, 0, none⟩ = some (errv (E 1)) := (H1.out.new U1.out).new N3.out
          have z1 : 1 < w3.heap.size := ((H1.out.new U1.out).new N3.out).lt
          unfold errv at e1
          clear hu
          go_wp2_with fail
          go_region
          all_goals
            go_wp2_with fail
            go_ret2
            exact ⟨.inr ⟨Hz.out, rfl⟩, (U1.out.trans_new N3.out).drew⟩
        | some v =>
          obtain ⟨v1, v2⟩ := numV_range hv
          obtain ⟨m, rfl⟩ := Int.eq_ofNat_of_zero_le v1
          have Hz := hide (show partsV ([p0, p1, p2, p3].drop (0 + 1)) (acc * 256 + m) = readA s from (partsV_some hv).symm.trans Hpv.out)
          have hx := hv
          rw [hv] at Hnu
          clear hv hx v1
          have hm : m < 256 := by omega
          have hor := or_part acc m (by omega) hm
          have iw : IntKind.i64.wrap ((acc : Int) * 256) = (acc : Int) * 256 := IntWalk.i64_in _ (by omega)
          have iw2 : wrap64 ((acc : Int) * 256) = (acc : Int) * 256 := IntWalk.wrap64_in _ (by omega)
          go_wp2_with fail
          refine Hnu.out.mono ?_
          rintro e w3 ⟨x, rfl, hx, hu⟩
          obtain rfl := hx _ rfl
          have N3 := hide (Nr.out.trans_new hu)
          clear hu hx
          go_wp2_with fail
          exact ⟨⟨0 + 1, acc * 256 + m, by omega, rfl, rfl, by simp; omega, Hz.out, N3.out⟩, by simp [intOf]⟩
      · have hacc2 : acc < 256 := by simpa using hacc
        have Hnu := hide (number_any p1 255 wr ((H.out.new U1.out).new Nr.out) (Nat.le_trans (Hle.out p1 (by simp)) hs) (by omega))
        clear hk hacc
        cases hv : numV p1.data.toList 255 with
        | none =>
          have Hz := hide (show readA s = none from Hpv.out.symm.trans (partsV_none hv))
          rw [hv] at Hnu
          clear hv
          go_wp2_with fail
          refine Hnu.out.mono ?_
          rintro e w3 ⟨x, rfl, _, hu⟩
          have N3 := hide (Nr.out.trans_new hu)
          have e1 : w3.cell? ⟨1, 0, none⟩ = some (errv (E 1)) := (H1.out.new U1.out).new N3.out
          have z1 : 1 < w3.heap.size := ((H1.out.new U1.out).new N3.out).lt
          unfold errv at e1
          clear hu
          go_wp2_with fail
          go_region
          all_goals
            go_wp2_with fail
            go_ret2
            exact ⟨.inr ⟨Hz.out, rfl⟩, (U1.out.trans_new N3.out).drew⟩
        | some v =>
          obtain ⟨v1, v2⟩ := numV_range hv
          obtain ⟨m, rfl⟩ := Int.eq_ofNat_of_zero_le v1
          have Hz := hide (show partsV ([p0, p1, p2, p3].drop (1 + 1)) (acc * 256 + m) = readA s from (partsV_some hv).symm.trans Hpv.out)
          have hx := hv
          rw [hv] at Hnu
          clear hv hx v1
          have hm : m < 256 := by omega
          have hor := or_part acc m (by omega) hm
          have iw : IntKind.i64.wrap ((acc : Int) * 256) = (acc : Int) * 256 := IntWalk.i64_in _ (by omega)
          have iw2 : wrap64 ((acc : Int) * 256) = (acc : Int) * 256 := IntWalk.wrap64_in _ (by omega)
          go_wp2_with fail
          refine Hnu.out.mono ?_
          rintro e w3 ⟨x, rfl, hx, hu⟩
          obtain rfl := hx _ rfl
          have N3 := hide (Nr.out.trans_new hu)
          clear hu hx
          go_wp2_with fail
          exact ⟨⟨1 + 1, acc * 256 + m, by omega, rfl, rfl, by simp; omega, Hz.out, N3.out⟩, by simp [intOf]⟩
      · have hacc2 : acc < 65536 := by simpa using hacc
        have Hnu := hide (number_any p2 255 wr ((H.out.new U1.out).new Nr.out) (Nat.le_trans (Hle.out p2 (by simp)) hs) (by omega))
        clear hk hacc
        cases hv : numV p2.data.toList 255 with
        | none =>
          have Hz := hide (show readA s = none from Hpv.out.symm.trans (partsV_none hv))
          rw [hv] at Hnu
          clear hv
          go_wp2_with fail
          refine Hnu.out.mono ?_
          rintro e w3 ⟨x, rfl, _, hu⟩
          have N3 := hide (Nr.out.trans_new hu)
          have e1 : w3.cell? ⟨1, 0, none⟩ = some (errv (E 1)) := (H1.out.new U1.out).new N3.out
          have z1 : 1 < w3.heap.size := ((H1.out.new U1.out).new N3.out).lt
          unfold errv at e1
          clear hu
          go_wp2_with fail
          go_region
          all_goals
            go_wp2_with fail
            go_ret2
            exact ⟨.inr ⟨Hz.out, rfl⟩, (U1.out.trans_new N3.out).drew⟩
        | some v =>
          obtain ⟨v1, v2⟩ := numV_range hv
          obtain ⟨m, rfl⟩ := Int.eq_ofNat_of_zero_le v1
          have Hz := hide (show partsV ([p0, p1, p2, p3].drop (2 + 1)) (acc * 256 + m) = readA s from (partsV_some hv).symm.trans Hpv.out)
          have hx := hv
          rw [hv] at Hnu
          clear hv hx v1
          have hm : m < 256 := by omega
          have hor := or_part acc m (by omega) hm
          have iw : IntKind.i64.wrap ((acc : Int) * 256) = (acc : Int) * 256 := IntWalk.i64_in _ (by omega)
          have iw2 : wrap64 ((acc : Int) * 256) = (acc : Int) * 256 := IntWalk.wrap64_in _ (by omega)
          go_wp2_with fail
          refine Hnu.out.mono ?_
          rintro e w3 ⟨x, rfl, hx, hu⟩
          obtain rfl := hx _ rfl
          have N3 := hide (Nr.out.trans_new hu)
          clear hu hx
          go_wp2_with fail
          exact ⟨⟨2 + 1, acc * 256 + m, by omega, rfl, rfl, by simp; omega, Hz.out, N3.out⟩, by simp [intOf]⟩
      · have hacc2 : acc < 16777216 := by simpa using hacc
        have Hnu := hide (number_any p3 255 wr ((H.out.new U1.out).new Nr.out) (Nat.le_trans (Hle.out p3 (by simp)) hs) (by omega))
        clear hk hacc
        cases hv : numV p3.data.toList 255 with
        | none =>
          have Hz := hide (show readA s = none from Hpv.out.symm.trans (partsV_none hv))
          rw [hv] at Hnu
          clear hv
          go_wp2_with fail
          refine Hnu.out.mono ?_
          rintro e w3 ⟨x, rfl, _, hu⟩
          have N3 := hide (Nr.out.trans_new hu)
          have e1 : w3.cell? ⟨1, 0, none⟩ = some (errv (E 1)) := (H1.out.new U1.out).new N3.out
          have z1 : 1 < w3.heap.size := ((H1.out.new U1.out).new N3.out).lt
          unfold errv at e1
          clear hu
          go_wp2_with fail
          go_region
          all_goals
            go_wp2_with fail
            go_ret2
            exact ⟨.inr ⟨Hz.out, rfl⟩, (U1.out.trans_new N3.out).drew⟩
        | some v =>
          obtain ⟨v1, v2⟩ := numV_range hv
          obtain ⟨m, rfl⟩ := Int.eq_ofNat_of_zero_le v1
          have Hz := hide (show partsV ([p0, p1, p2, p3].drop (3 + 1)) (acc * 256 + m) = readA s from (partsV_some hv).symm.trans Hpv.out)
          have hx := hv
          rw [hv] at Hnu
          clear hv hx v1
          have hm : m < 256 := by omega
          have hor := or_part acc m (by omega) hm
          have iw : IntKind.i64.wrap ((acc : Int) * 256) = (acc : Int) * 256 := IntWalk.i64_in _ (by omega)
          have iw2 : wrap64 ((acc : Int) * 256) = (acc : Int) * 256 := IntWalk.wrap64_in _ (by omega)
          go_wp2_with fail
          refine Hnu.out.mono ?_
          rintro e w3 ⟨x, rfl, hx, hu⟩
          obtain rfl := hx _ rfl
          have N3 := hide (Nr.out.trans_new hu)
          clear hu hx
          go_wp2_with fail
          exact ⟨⟨3 + 1, acc * 256 + m, by omega, rfl, rfl, by simp; omega, Hz.out, N3.out⟩, by simp [intOf]⟩
      · have hacc2 : acc < 4294967296 := by simpa using hacc
        have Hz := hide (show readA s = some acc from Hpv.out.symm)
        clear hk hacc
        go_wp2_with fail
        go_ret2
        exact ⟨.inl ⟨acc, Hz.out, hacc2, rfl⟩, U1.out.trans_new Nr.out⟩
  · have Hz := hide (show readA s = none from Hr.out.trans (if_neg (by rw [Hlen.out]; omega)))
    have b1 : (((n + 1 : Nat) : Int) != 4) = true := by simp; omega
    have b2 : (((n : Int) + 1) != 4) = true := by simp; omega
    clear hn
    go_wp2_with fail
    go_region
    all_goals
      go_wp2_with fail
      go_ret2
      exact ⟨.inr ⟨Hz.out, rfl⟩, U1.out.drew⟩
end Go.Proofs.YtjgecmkfgeajiaaGreatDoor

namespace Go.Proofs.YtjgecmkfgeajiaaGreatDoor
open Go.RowKit

/-- A prefix in words; what is none is empty. -/
def prefT (a n : Int) : List UInt8 := if chk a n = 0 then addrT a ++ 47 :: Lib.itoa n else []
theorem addrT_len (a : Int) : (addrT a).length ≤ 16 := by
  unfold addrT
  split
  · have := textK_len a.toNat 4
    rw [List.length_drop]; omega
  · simp
set_option maxRecDepth 8000 in
set_option maxHeartbeats 2000000 in
theorem text_any (a n : Int) (E : Nat → Addr) (w : World) (h : TxtOk w) (h2 : Sen w gBound (E 2)) (h3 : Sen w gShape (E 3)) :
    Calls Tryz.prog 12 #[.agg #[.int .i64 a, .int .i64 n]] w fun e w1 => e = .returned (.string ⟨(prefT a n).toArray⟩) ∧ New w w1 := by
  have u := (Upd.refl (fun _ => False) w).alloc (.cells #[.int .i64 a, .int .i64 n] TPf)
  have U := hide u
  have B := hide (Blk.new w TPf #[.int .i64 a, .int .i64 n])
  have H := hide (h.new u)
  by_cases hc : chk a n = 0
  · have Hck := hide (check_yes a n E _ (h2.new u) (h3.new u) hc)
    have He := hide (show prefT a n = addrT a ++ 47 :: Lib.itoa n from if_pos hc)
    obtain ⟨⟨a1, a2⟩, ⟨n1, n2⟩, _⟩ := chk_zero hc
    have Hn := hide (show 0 ≤ n ∧ n ≤ 32 from ⟨n1, n2⟩)
    clear h h2 h3 u hc a1 a2 n1 n2
    go_enter Tryz.func12, Tryz.ntmps12
    go_upto_region 1 with (fail)
    generalize w.alloc (.cells #[.int .i64 a, .int .i64 n] TPf) = W at *
    have bq := B.out
    have c0 := bq.cell 0
    have c1 := bq.cell 1
    have zb := bq.lt
    simp only [List.getElem?_toArray, List.getElem?_cons_zero, List.getElem?_cons_succ] at c0 c1
    clear bq
    go_wp2_with fail
    refine Hck.out.mono ?_
    rintro e w1 ⟨rfl, hu⟩
    have bq := B.out.new_ hu
    have d0 := bq.cell 0
    have d1 := bq.cell 1
    have zd := bq.lt
    simp only [List.getElem?_toArray, List.getElem?_cons_zero, List.getElem?_cons_succ] at d0 d1
    have U1 := hide (U.out.trans_new hu)
    have H1 := hide (H.out.new hu)
    clear bq hu c0 c1 zb Hck
    have Hat := hide (fun w' (nw : New w1 w') => addrText_any a w' (H1.out.new nw))
    have Hit := hide (fun w' (nw : New w1 w') => itoa_any n w' (H1.out.new nw) (by have := Hn.out; omega) (by have := Hn.out; omega))
    have hL := addrT_len a
    have hM : (Lib.itoa n).length ≤ 3 := by
      obtain ⟨m, rfl⟩ := Int.eq_ofNat_of_zero_le Hn.out.1
      exact itoa_len m (by have := Hn.out; omega)
    have hL1 : ¬ 9223372036854775807 < (addrT a).length + 1 := by omega
    have hL2 : ¬ 9223372036854775807 < (addrT a).length + 1 + (Lib.itoa n).length := by omega
    clear hL hM
    go_upto_region 3 with (fail)
    refine wp_region_new w1 (Upd.refl _ _) (by kernel_rfl) (by kernel_rfl) ?_
    repeat (go_big_quiet_step ((first | (go_at_call 35; exact new_call (Hat.out _ (NewW.h _))) | (go_at_call 21; exact new_call (Hit.out _ (NewW.h _))))))
    refine wpQuiet_nil ?_
    rintro _ ⟨nq, rfl⟩
    go_wp2_with fail
    go_ret
    exact ⟨congrArg (fun z => Ending.returned (.string z)) (Go.WideShapes.bytes_inj (by rw [He.out]; simp)), U1.out.trans_new nq.h⟩
  · have hck := check_no a n E _ (h2.new u) (h3.new u) hc
    unfold errv at hck
    have Hck := hide hck
    have He := hide (show prefT a n = [] from if_neg hc)
    clear h h2 h3 u hc hck
    go_enter Tryz.func12, Tryz.ntmps12
    go_upto_region 1 with (fail)
    generalize w.alloc (.cells #[.int .i64 a, .int .i64 n] TPf) = W at *
    have bq := B.out
    have c0 := bq.cell 0
    have c1 := bq.cell 1
    have zb := bq.lt
    simp only [List.getElem?_toArray, List.getElem?_cons_zero, List.getElem?_cons_succ] at c0 c1
    clear bq
    go_wp2_with fail
    refine Hck.out.mono ?_
    rintro e w1 ⟨rfl, hu⟩
    have U1 := hide (U.out.trans_new hu)
    clear hu
    go_wp2_with fail
    go_ret
    exact ⟨by rw [He.out]; rfl, U1.out⟩
end Go.Proofs.YtjgecmkfgeajiaaGreatDoor

namespace Go.Proofs.YtjgecmkfgeajiaaGreatDoor
open Go.RowKit

/-- What a text reads as: the error's number, the address, the length. -/
def readP (s : ByteArray) : Nat × Int × Int :=
  match (Lib.cut s.data.toList [47]).2.2, readA ⟨(Lib.cut s.data.toList [47]).1.toArray⟩, numV (Lib.cut s.data.toList [47]).2.1 999999999 with
  | true, some a, some n => if chk a n = 0 then (0, (a : Int), n) else (chk a n, 0, 0)
  | _, _, _ => (1, 0, 0)
theorem readP_is {s : ByteArray} (h : (Lib.cut s.data.toList [47]).2.2 = false) : readP s = (1, 0, 0) := by unfold readP; rw [h]
theorem readP_a {s : ByteArray} (h : readA ⟨(Lib.cut s.data.toList [47]).1.toArray⟩ = none) : readP s = (1, 0, 0) := by
  unfold readP
  rw [h]
  cases (Lib.cut s.data.toList [47]).2.2 <;> rfl
theorem readP_n {s : ByteArray} (h : numV (Lib.cut s.data.toList [47]).2.1 999999999 = none) : readP s = (1, 0, 0) := by
  unfold readP
  rw [h]
  cases (Lib.cut s.data.toList [47]).2.2 <;> cases readA ⟨(Lib.cut s.data.toList [47]).1.toArray⟩ <;> rfl
theorem readP_ok (s : ByteArray) (a : Nat) (n : Int) (h1 : (Lib.cut s.data.toList [47]).2.2 = true) (h2 : readA ⟨(Lib.cut s.data.toList [47]).1.toArray⟩ = some a) (h3 : numV (Lib.cut s.data.toList [47]).2.1 999999999 = some n) :
    readP s = if chk a n = 0 then (0, (a : Int), n) else (chk a n, 0, 0) := by unfold readP; rw [h1, h2, h3]
theorem cut_len (l sep : List UInt8) : (Lib.cut l sep).1.length ≤ l.length ∧ (Lib.cut l sep).2.1.length ≤ l.length := by
  unfold Lib.cut
  split
  · exact ⟨by simp; omega, by simp⟩
  · exact ⟨Nat.le_refl _, by simp⟩
set_option maxRecDepth 8000 in
set_option maxHeartbeats 4000000 in
theorem read_any (s : ByteArray) (E : Nat → Addr) (w : World) (h : TxtOk w) (h1 : Sen w gText1 (E 1)) (h2 : Sen w gBound (E 2)) (h3 : Sen w gShape (E 3)) (hs : s.size ≤ 1000000) :
    Calls Tryz.prog 59 #[.string s] w fun e w1 => e = .returned (.tuple #[.agg #[.int .i64 (readP s).2.1, .int .i64 (readP s).2.2], errc E (readP s).1]) ∧ New w w1 := by
  have u := (Upd.refl (fun _ => False) w).alloc (.cells #[.int .i64 0, .int .i64 0] TPf)
  have N := hide u
  have HR := hide (Blk.new w TPf #[.int .i64 0, .int .i64 0])
  have Hcu := hide (show Calls Tryz.prog 99 #[.string s, .string ⟨#[47]⟩] (w.alloc (.cells #[.int .i64 0, .int .i64 0] TPf)) (fun e w1 => e = .returned (.tuple #[.string ⟨(Lib.cut s.data.toList [47]).1.toArray⟩, .string ⟨(Lib.cut s.data.toList [47]).2.1.toArray⟩, .bool (Lib.cut s.data.toList [47]).2.2]) ∧ New (w.alloc (.cells #[.int .i64 0, .int .i64 0] TPf)) w1) from cut_any s ⟨#[47]⟩ _ (h.new u) (by omega))
  have hl := cut_len s.data.toList [47]
  have hsz : s.data.toList.length = s.size := Array.length_toList
  have hz6 : 1 < w.heap.size := h1.lt
  have q6 : ¬ (w.heap.size = 1) := by omega
  have q61 : ¬ (1 = w.heap.size) := by omega
  have H := hide (h.new u)
  have H1 := hide (h1.new u)
  have H2 := hide (h2.new u)
  have H3 := hide (h3.new u)
  clear h h1 h2 h3 u
  obtain ⟨D, hD⟩ : ∃ D, D = (Lib.cut s.data.toList [47]).1 := ⟨_, rfl⟩
  obtain ⟨T, hT⟩ : ∃ T, T = (Lib.cut s.data.toList [47]).2.1 := ⟨_, rfl⟩
  obtain ⟨B, hB⟩ : ∃ B, B = (Lib.cut s.data.toList [47]).2.2 := ⟨_, rfl⟩
  have Ha := hide (@readP_a s)
  have Hn := hide (@readP_n s)
  have Hi := hide (@readP_is s)
  have Ho := hide (readP_ok s)
  rw [← hD, ← hT] at hl
  rw [← hD, ← hT, ← hB] at Hcu
  rw [← hD] at Ha
  rw [← hT] at Hn
  rw [← hB] at Hi
  rw [← hD, ← hT, ← hB] at Ho
  clear hD hT hB
  obtain ⟨P, hP⟩ : ∃ P, P = readP s := ⟨_, rfl⟩
  rw [← hP] at Ha Hn Hi
  have Ho2 := hide (fun (a : Nat) (n : Int) (x1 : B = true) (x2 : readA ⟨D.toArray⟩ = some a) (x3 : numV T 999999999 = some n) => hP.trans (Ho.out a n x1 x2 x3))
  rw [← hP]
  clear Ho hP
  go_enter Tryz.func59, Tryz.ntmps59
  go_upto_region 1 with (fail)
  generalize w.alloc (.cells #[.int .i64 0, .int .i64 0] TPf) = W at *
  go_wp2_with fail
  refine Hcu.out.mono ?_
  rintro e w1 ⟨rfl, hu⟩
  have N := hide (N.out.trans_new hu)
  have HR := hide (HR.out.new_ hu)
  have H := hide (H.out.new hu)
  have H1 := hide (H1.out.new hu)
  have H2 := hide (H2.out.new hu)
  have H3 := hide (H3.out.new hu)
  clear hu Hcu
  have Hra := hide (readAddr_any ⟨D.toArray⟩ E w1 H.out H1.out (by show D.toArray.size ≤ 1000000; simp; omega))
  go_wp2_with fail
  refine Hra.out.mono ?_
  rintro e w2 ⟨hv, hu⟩
  have N := hide (N.out.trans_new hu)
  have HR := hide (HR.out.new_ hu)
  have H := hide (H.out.new hu)
  have H1 := hide (H1.out.new hu)
  have H2 := hide (H2.out.new hu)
  have H3 := hide (H3.out.new hu)
  clear hu Hra
  have Hnu := hide (number_any ⟨T.toArray⟩ 999999999 w2 H.out (by show T.toArray.size ≤ 1000000; simp; omega) (by omega))
  rcases hv with ⟨av, hv, hlt, rfl⟩ | ⟨hv, rfl⟩
  rotate_left
  · have HP := hide (Ha.out hv)
    clear hv
    unfold errv
    cases B with
    | false =>
      go_wp2_with fail
      refine Hnu.out.mono ?_
      rintro e w3 ⟨x, rfl, hx, hu⟩
      have N := hide (N.out.trans_new hu)
      have HR := hide (HR.out.new_ hu)
      have H1 := hide (H1.out.new hu)
      have H2 := hide (H2.out.new hu)
      have H3 := hide (H3.out.new hu)
      clear hu Hnu
      clear hx
      have bq := HR.out
      have r0 := bq.cell 0
      have r1 := bq.cell 1
      have f0 := bq.frozen 0
      have f1 := bq.frozen 1
      have zR := bq.lt
      simp only [List.getElem?_toArray, List.getElem?_cons_zero, List.getElem?_cons_succ] at r0 r1
      clear bq
      have e1 : w3.cell? ⟨1, 0, none⟩ = some (errv (E 1)) := H1.out
      have z1 : 1 < w3.heap.size := H1.out.lt
      unfold errv at e1
      go_wp2_with fail
      go_region
      all_goals
        go_wp2_with fail
        refine bodyPost_ret (pf_err_out Tryz.results59 rfl (pf_set HR.out).drew) rfl ?_
        exact ⟨by rw [HP.out]; rfl, (pf_new N.out (Nat.le_refl _)).drew⟩
    | true =>
      go_wp2_with fail
      refine Hnu.out.mono ?_
      rintro e w3 ⟨x, rfl, hx, hu⟩
      have N := hide (N.out.trans_new hu)
      have HR := hide (HR.out.new_ hu)
      have H1 := hide (H1.out.new hu)
      have H2 := hide (H2.out.new hu)
      have H3 := hide (H3.out.new hu)
      clear hu Hnu
      clear hx
      have bq := HR.out
      have r0 := bq.cell 0
      have r1 := bq.cell 1
      have f0 := bq.frozen 0
      have f1 := bq.frozen 1
      have zR := bq.lt
      simp only [List.getElem?_toArray, List.getElem?_cons_zero, List.getElem?_cons_succ] at r0 r1
      clear bq
      have e1 : w3.cell? ⟨1, 0, none⟩ = some (errv (E 1)) := H1.out
      have z1 : 1 < w3.heap.size := H1.out.lt
      unfold errv at e1
      go_wp2_with fail
      go_region
      all_goals
        go_wp2_with fail
        refine bodyPost_ret (pf_err_out Tryz.results59 rfl (pf_set HR.out).drew) rfl ?_
        exact ⟨by rw [HP.out]; rfl, (pf_new N.out (Nat.le_refl _)).drew⟩
  have Hv := hide hv
  clear hv
  cases B with
  | false =>
    have HP := hide (Hi.out rfl)
    go_wp2_with fail
    refine Hnu.out.mono ?_
    rintro e w3 ⟨x, rfl, hx, hu⟩
    have N := hide (N.out.trans_new hu)
    have HR := hide (HR.out.new_ hu)
    have H1 := hide (H1.out.new hu)
    have H2 := hide (H2.out.new hu)
    have H3 := hide (H3.out.new hu)
    clear hu Hnu
    clear hx
    have bq := HR.out
    have r0 := bq.cell 0
    have r1 := bq.cell 1
    have f0 := bq.frozen 0
    have f1 := bq.frozen 1
    have zR := bq.lt
    simp only [List.getElem?_toArray, List.getElem?_cons_zero, List.getElem?_cons_succ] at r0 r1
    clear bq
    have e1 : w3.cell? ⟨1, 0, none⟩ = some (errv (E 1)) := H1.out
    have z1 : 1 < w3.heap.size := H1.out.lt
    unfold errv at e1
    go_wp2_with fail
    go_region
    all_goals
      go_wp2_with fail
      refine bodyPost_ret (pf_err_out Tryz.results59 rfl (pf_set HR.out).drew) rfl ?_
      exact ⟨by rw [HP.out]; rfl, (pf_new N.out (Nat.le_refl _)).drew⟩
  | true =>
    cases hn : numV T 999999999 with
    | none =>
      have HP := hide (Hn.out hn)
      have hq : (numV (⟨T.toArray⟩ : ByteArray).data.toList 999999999) = none := by simpa using hn
      rw [hq] at Hnu
      clear hn hq
      go_wp2_with fail
      refine Hnu.out.mono ?_
      rintro e w3 ⟨x, rfl, hx, hu⟩
      have N := hide (N.out.trans_new hu)
      have HR := hide (HR.out.new_ hu)
      have H1 := hide (H1.out.new hu)
      have H2 := hide (H2.out.new hu)
      have H3 := hide (H3.out.new hu)
      clear hu Hnu
      clear hx
      have bq := HR.out
      have r0 := bq.cell 0
      have r1 := bq.cell 1
      have f0 := bq.frozen 0
      have f1 := bq.frozen 1
      have zR := bq.lt
      simp only [List.getElem?_toArray, List.getElem?_cons_zero, List.getElem?_cons_succ] at r0 r1
      clear bq
      have e1 : w3.cell? ⟨1, 0, none⟩ = some (errv (E 1)) := H1.out
      have z1 : 1 < w3.heap.size := H1.out.lt
      unfold errv at e1
      go_wp2_with fail
      go_region
      all_goals
        go_wp2_with fail
        refine bodyPost_ret (pf_err_out Tryz.results59 rfl (pf_set HR.out).drew) rfl ?_
        exact ⟨by rw [HP.out]; rfl, (pf_new N.out (Nat.le_refl _)).drew⟩
    | some n =>
      have HP0 := hide (Ho2.out av n rfl Hv.out hn)
      have hq : (numV (⟨T.toArray⟩ : ByteArray).data.toList 999999999) = some n := by simpa using hn
      rw [hq] at Hnu
      clear hn hq
      go_wp2_with fail
      refine Hnu.out.mono ?_
      rintro e w3 ⟨x, rfl, hx, hu⟩
      have N := hide (N.out.trans_new hu)
      have HR := hide (HR.out.new_ hu)
      have H1 := hide (H1.out.new hu)
      have H2 := hide (H2.out.new hu)
      have H3 := hide (H3.out.new hu)
      clear hu Hnu
      obtain rfl := hx _ rfl
      clear hx
      by_cases hc : chk av x = 0
      · have HP := hide (HP0.out.trans (if_pos hc))
        have Hck := hide (check_yes av x E (w3.alloc (.cells #[.int .i64 av, .int .i64 x] TPf)) (H2.out.new ((Upd.refl (fun _ => False) w3).alloc _)) (H3.out.new ((Upd.refl (fun _ => False) w3).alloc _)) hc)
        have B3 := hide (Blk.new w3 TPf #[.int .i64 av, .int .i64 x])
        have N3 := hide ((Upd.refl (fun _ => False) w3).alloc (.cells #[.int .i64 av, .int .i64 x] TPf))
        have hne : ¬ w.heap.size = w3.heap.size := by have := HR.out.lt; omega
        have hne2 : ¬ w3.heap.size = w.heap.size := by omega
        clear hc
        go_upto_region 7 with (fail)
        generalize w3.alloc (.cells #[.int .i64 av, .int .i64 x] TPf) = W3 at *
        generalize w3.heap.size = X at *
        have bq := B3.out
        have b0 := bq.cell 0
        have b1 := bq.cell 1
        have zB := bq.lt
        simp only [List.getElem?_toArray, List.getElem?_cons_zero, List.getElem?_cons_succ] at b0 b1
        clear bq
        go_wp2_with fail
        refine Hck.out.mono ?_
        rintro e w4 ⟨rfl, hu⟩
        have N4 := hide (N.out.trans_new (N3.out.trans_new hu))
        have HR4 := hide ((HR.out.new_ N3.out).new_ hu)
        have bq := B3.out.new_ hu
        have d0 := bq.cell 0
        have d1 := bq.cell 1
        have zD := bq.lt
        simp only [List.getElem?_toArray, List.getElem?_cons_zero, List.getElem?_cons_succ] at d0 d1
        clear bq b0 b1 zB
        have bq := HR4.out
        have r0 := bq.cell 0
        have r1 := bq.cell 1
        have f0 := bq.frozen 0
        have f1 := bq.frozen 1
        have zR := bq.lt
        simp only [List.getElem?_toArray, List.getElem?_cons_zero, List.getElem?_cons_succ] at r0 r1
        clear bq hu
        go_wp2_with fail
        refine bodyPost_ret (pf_err_out Tryz.results59 rfl (pf_set HR4.out)) rfl ?_
        exact ⟨by rw [HP.out]; rfl, pf_new N4.out (Nat.le_refl _)⟩
      · have HP := hide (HP0.out.trans (if_neg hc))
        have hck := check_no av x E (w3.alloc (.cells #[.int .i64 av, .int .i64 x] TPf)) (H2.out.new ((Upd.refl (fun _ => False) w3).alloc _)) (H3.out.new ((Upd.refl (fun _ => False) w3).alloc _)) hc
        unfold errv at hck
        have Hck := hide hck
        have He := hide (show errc E (chk av x) = errv (E (chk av x)) from by unfold errc; rw [if_neg hc])
        have B3 := hide (Blk.new w3 TPf #[.int .i64 av, .int .i64 x])
        have N3 := hide ((Upd.refl (fun _ => False) w3).alloc (.cells #[.int .i64 av, .int .i64 x] TPf))
        have hne : ¬ w.heap.size = w3.heap.size := by have := HR.out.lt; omega
        have hne2 : ¬ w3.heap.size = w.heap.size := by omega
        clear hc hck
        go_upto_region 7 with (fail)
        generalize w3.alloc (.cells #[.int .i64 av, .int .i64 x] TPf) = W3 at *
        generalize w3.heap.size = X at *
        have bq := B3.out
        have b0 := bq.cell 0
        have b1 := bq.cell 1
        have zB := bq.lt
        simp only [List.getElem?_toArray, List.getElem?_cons_zero, List.getElem?_cons_succ] at b0 b1
        clear bq
        go_wp2_with fail
        refine Hck.out.mono ?_
        rintro e w4 ⟨rfl, hu⟩
        have N4 := hide (N.out.trans_new (N3.out.trans_new hu))
        have HR4 := hide ((HR.out.new_ N3.out).new_ hu)
        clear b0 b1 zB
        have bq := HR4.out
        have r0 := bq.cell 0
        have r1 := bq.cell 1
        have f0 := bq.frozen 0
        have f1 := bq.frozen 1
        have zR := bq.lt
        simp only [List.getElem?_toArray, List.getElem?_cons_zero, List.getElem?_cons_succ] at r0 r1
        clear bq hu
        go_wp2_with fail
        refine bodyPost_ret (pf_err_out Tryz.results59 rfl (pf_set HR4.out)) rfl ?_
        exact ⟨by rw [HP.out, He.out]; rfl, pf_new N4.out (Nat.le_refl _)⟩
end Go.Proofs.YtjgecmkfgeajiaaGreatDoor
