/- The document's texts: ReadAddr. No condition but those that stand in each theorem. -/
import Derived.Test.YtignngpligicjaaGreatDoorDd4
namespace Go.Proofs.YtignngpligicjaaGreatDoor
open Go.RowKit

theorem addr_facts (acc : Nat) (d : Int) (ha : acc < 16777216) (h : 0 ≤ d) (h1 : d ≤ 255) : IntKind.i64.wrap (256 * (acc : Int)) = 256 * (acc : Int) ∧ wrap64 (256 * (acc : Int)) = 256 * (acc : Int) ∧ IntKind.i64.wrap (256 * (acc : Int) + d) = ((acc * 256 + d.toNat : Nat) : Int) ∧ wrap64 (256 * (acc : Int) + d) = ((acc * 256 + d.toNat : Nat) : Int) := by
  refine ⟨?_, ?_, ?_, ?_⟩
  · rw [IntWalk.i64_in _ (by omega)]
  · rw [IntWalk.wrap64_in _ ⟨by omega, by omega⟩]
  · rw [IntWalk.i64_in _ (by omega)]; omega
  · rw [IntWalk.wrap64_in _ ⟨by omega, by omega⟩]; omega
/-- What a reading of an address gives. -/
def addrV (o : Option Nat) : Value := .tuple #[.int .i64 ((o.getD 0 : Nat) : Int), .bool o.isSome]
def partsL (P : List (List UInt8)) : List ByteArray := P.map fun p => ⟨p.toArray⟩
theorem parts_at {P : List (List UInt8)} {k acc : Nat} {p : List UInt8} (h : P[k]? = some p) : (0 ≤ numR p ∧ numR p ≤ 255 → partsV (partsL (P.drop k)) acc = partsV (partsL (P.drop (k + 1))) (acc * 256 + (numR p).toNat)) ∧ (¬ (0 ≤ numR p ∧ numR p ≤ 255) → partsV (partsL (P.drop k)) acc = none) := by
  have hk := (List.getElem?_eq_some_iff.1 h).1
  have e : P.drop k = p :: P.drop (k + 1) := by rw [List.drop_eq_getElem_cons hk, (List.getElem?_eq_some_iff.1 h).2]
  rw [e]
  exact ⟨fun h => parts_some h.1 h.2, fun h => parts_none h⟩
theorem acc_step {k acc : Nat} {d : Int} (hk : k < 4) (h : acc < 256 ^ k) (h0 : 0 ≤ d) (h1 : d ≤ 255) : acc * 256 + d.toNat < 256 ^ (k + 1) ∧ acc < 16777216 := by
  have := Nat.pow_le_pow_right (show 0 < 256 by omega) (show k ≤ 3 by omega)
  rw [Nat.pow_succ]
  generalize 256 ^ k = z at *
  omega

set_option maxRecDepth 8000 in
set_option maxHeartbeats 1000000 in
theorem readAddrRef_any (s : ByteArray) (w : World) (hs : s.size ≤ 1000000) :
    Calls Tryz.prog 8 #[.string s] w fun e w1 => e = .returned (addrV (readA s)) ∧ New w w1 := by
  have hc := cutRef_any s 46 w hs
  have h4 := fun h => readA_four (s := s) h
  have h5 := fun h => readA_parts (s := s) h
  have hpl := cutR_len 46 s.data.toList
  have hpi := cutR_piece 46 s.data.toList
  have hll : s.data.toList.length = s.size := by simp
  generalize cutR 46 s.data.toList = P at *
  have Hc := hide hc
  have H4 := hide h4
  have H5 := hide h5
  have Hpi := hide hpi
  clear hc h4 h5 hpi
  go_enter Tryz.func8, Tryz.ntmps8
  go_wp2_with fail
  refine Hc.out.mono ?_
  rintro e w1 ⟨v, rfl, ho, hu⟩
  obtain ⟨A, cap, rfl, _, _, hS⟩ := ss_of_own ho
  have HS := hide hS
  have U := hide hu
  clear ho hu hS Hc
  by_cases hp4 : P.length = 4
  · have i1 : ((P.length : Int) != 4) = false := by rw [hp4]; rfl
    have He := hide (H5.out hp4)
    go_wp2_with fail
    go_loopw [5, 6] (fun av iv wz => ∃ k acc : Nat, k ≤ 4 ∧ iv = .int .i64 k ∧ av = .int .i64 acc ∧ acc < 256 ^ k ∧ w1 = wz ∧ readA s = partsV (partsL (P.drop k)) acc) (fun _ iv _ => 4 - (intOf iv).toNat)
    case atStart => exact ⟨0, 0, by omega, rfl, rfl, by simp, rfl, He.out⟩
    case round =>
      obtain ⟨k, acc, hk, rfl, rfl, hacc, rfl, hd⟩ := hrel
      have Hd := hide hd
      have Hacc := hide hacc
      clear hd hacc
      by_cases hlt : k < 4
      · have i6 : (k : Int) < 4 := by omega
        have i7 : (k : Int) < (P.length : Int) := by omega
        obtain ⟨p, hp⟩ : ∃ p, P[k]? = some p := ⟨_, List.getElem?_eq_getElem (by omega)⟩
        obtain ⟨b, o, hA, hb, hcc⟩ := HS.out (by omega)
        have q0 := hcc k p hp
        subst hA
        have hn := numberOf_any ⟨p.toArray⟩ w1 (by have := Hpi.out p (List.mem_of_getElem? hp); have e : (⟨p.toArray⟩ : ByteArray).size = p.length := by simp [ByteArray.size]
                                                   rw [e]; omega)
        have hn : Calls Tryz.prog 61 #[.string ⟨p.toArray⟩] w1 fun e w2 => e = .returned (.int .i64 (numR p)) ∧ w1 = w2 := hn
        obtain ⟨ha, hb9⟩ := parts_at (acc := acc) hp
        generalize numR p = d at *
        have Hn := hide hn
        have Ha := hide ha
        have Hb9 := hide hb9
        clear hn ha hb9 hcc hp
        go_wp2_with fail
        refine Hn.out.mono ?_
        rintro e w2 ⟨rfl, rfl⟩
        by_cases hg : 0 ≤ d ∧ d ≤ 255
        · have Hs := hide (Hd.out.trans (Ha.out hg))
          obtain ⟨hst, hac⟩ := acc_step hlt Hacc.out hg.1 hg.2
          obtain ⟨q1, q2, q3, q4⟩ := addr_facts acc d hac hg.1 hg.2
          have j1 : ¬ d < 0 := by omega
          have j2 : ¬ 255 < d := by omega
          generalize acc * 256 + d.toNat = acc2 at *
          have Hst := hide hst
          clear hst hac Ha Hb9 hg
          go_wp2_with fail
          clear q1 q2 q3 q4 j1 j2
          exact ⟨⟨k + 1, acc2, by omega, by go_num, rfl, Hst.out, trivial, Hs.out⟩, by simp [intOf]; omega⟩
        · have Hs := hide (Hd.out.trans (Hb9.out hg))
          have hg2 : d < 0 ∨ 255 < d := by omega
          clear Ha Hb9 hg
          rcases hg2 with hg2 | hg2
          · go_wp2_with fail
            go_ret2
            exact ⟨by rw [Hs.out]; rfl, U.out⟩
          · have j1 : ¬ d < 0 := by omega
            go_wp2_with fail
            go_ret2
            exact ⟨by rw [Hs.out]; rfl, U.out⟩
      · obtain rfl : k = 4 := by omega
        have hd := Hd.out
        rw [List.drop_of_length_le (by omega)] at hd
        have Hs := hide (show readA s = some acc from hd)
        clear hd
        go_wp2_with fail
        go_ret2
        exact ⟨by rw [Hs.out]; rfl, U.out⟩
  · have i1 : ((P.length : Int) != 4) = true := by
      rw [bne_iff_ne]
      omega
    have He := hide (H4.out hp4)
    go_wp2_with fail
    go_ret2
    exact ⟨by rw [He.out]; rfl, U.out⟩
end Go.Proofs.YtignngpligicjaaGreatDoor
