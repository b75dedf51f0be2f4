/- Package best: first, Compare. No condition but those that stand in each theorem. -/
import Derived.Test.YtlealjcllbpgkaaBt1
import Derived.Test.YtlealjcllbpgkaaSf1
import Derived.Test.YtlealjcllbpgkaaOw1
namespace Go.Proofs.Ytlealjcllbpgkaa
open Go.RowKit
set_option maxHeartbeats 400000 in
theorem first_any (b o c : Nat) (zs : List Int) (w : World) (hc : ∀ i x, zs[i]? = some x → w.cell? ⟨b, o + i, none⟩ = some (.int .i64 x)) (hl : zs.length ≤ 1000) :
    Calls Try.prog 23 #[.slice (some ⟨b, o, none⟩) zs.length c] w fun e w1 => e = .returned (.int .i64 (firstNZ zs)) ∧ w = w1 := by
  have Hc := hide hc
  generalize hlen : zs.length = len at *
  have Hlen := hide hlen
  clear hc hlen
  go_enter Try.func23, Try.ntmps23
  go_wp2_with fail
  go_loop [7] (fun i => ∃ k : Nat, k ≤ len ∧ i = .int .i64 k ∧ ∀ j x, j < k → zs[j]? = some x → x = 0) (fun i => len - (intOf i).toNat)
  case atStart => exact ⟨0, by omega, rfl, fun j x h => absurd h (by omega)⟩
  case round =>
    obtain ⟨k, hk, rfl, hz⟩ := hrel
    have Hz := hide hz
    clear hz
    by_cases hlt : k < len
    · obtain ⟨x, hx⟩ : ∃ x, zs[k]? = some x := ⟨_, List.getElem?_eq_getElem (by have := Hlen.out; omega)⟩
      have hcell := Hc.out k x hx
      have Hx := hide hx
      clear hx
      have i1 : (k : Int) < (len : Int) := by omega
      by_cases hx0 : x = 0
      · have hb : (x != 0) = false := by simpa using hx0
        have Hx0 := hide hx0
        clear hx0
        go_wp2_with fail
        exact ⟨⟨k + 1, by omega, by go_num, fun j y hj hy => by
          by_cases hjk : j < k
          · exact Hz.out j y hjk hy
          · have : j = k := by omega
            subst this
            rw [Hx.out] at hy; injection hy with hy; subst hy; exact Hx0.out⟩, by simp [intOf]; omega⟩
      · have hb : (x != 0) = true := by simpa using hx0
        have Hx0 := hide hx0
        clear hx0
        go_wp2_with fail
        go_ret
        refine ⟨?_, rfl⟩
        rw [firstNZ_skip zs k Hz.out]
        have hd : zs.drop k = x :: zs.drop (k + 1) := by
          have hkl : k < zs.length := (List.getElem?_eq_some_iff.1 Hx.out).1
          rw [List.drop_eq_getElem_cons hkl]
          have := Hx.out
          rw [List.getElem?_eq_getElem hkl] at this
          injection this with this
          rw [this]
        rw [hd, firstNZ, if_neg Hx0.out]
        rfl
    · have hkl : k = len := by omega
      have Hkl := hide hkl
      clear hkl
      go_wp2_with fail
      go_ret
      refine ⟨?_, rfl⟩
      rw [firstNZ_skip zs k Hz.out, List.drop_eq_nil_of_le (by have := Hlen.out; have := Hkl.out; omega)]
      rfl
theorem drop_cons {xs : List Int} {k : Nat} {x : Int} (h : xs[k]? = some x) : xs.drop k = x :: xs.drop (k + 1) := by
  obtain ⟨hk, e⟩ := List.getElem?_eq_some_iff.1 h
  rw [List.drop_eq_getElem_cons hk, e]
set_option maxHeartbeats 1000000 in
theorem cmpInts_any (A B : Option Addr) (n m c d : Nat) (xs ys : List Int) (w : World) (hx : Ints w A xs) (hy : Ints w B ys) (hn : xs.length = n) (hm : ys.length = m) (hl : n ≤ 1000) (hl2 : m ≤ 1000) :
    Calls Try.prog 25 #[.slice A n c, .slice B m d] w fun e w1 => e = .returned (.int .i64 (lexC xs ys)) ∧ w = w1 := by
  have Hx := hide hx
  have Hy := hide hy
  have Hn := hide hn
  have Hm := hide hm
  clear hx hy hn hm
  go_enter Try.func25, Try.ntmps25
  go_wp2_with fail
  go_loop [11] (fun i => ∃ k : Nat, k ≤ n ∧ k ≤ m ∧ i = .int .i64 k ∧ lexC xs ys = lexC (xs.drop k) (ys.drop k)) (fun i => n - (intOf i).toNat)
  case atStart => exact ⟨0, by omega, by omega, rfl, rfl⟩
  case round =>
    obtain ⟨k, hk, hk2, rfl, hz⟩ := hrel
    have Hz := hide hz
    clear hz
    by_cases hlt : k < n
    · obtain ⟨x, hxk⟩ : ∃ x, xs[k]? = some x := ⟨_, List.getElem?_eq_getElem (by have := Hn.out; omega)⟩
      obtain ⟨b, o, hA, hb, hcx⟩ := Hx.out (by have := Hn.out; omega)
      subst hA
      have d0 := hcx k x hxk
      have Hxk := hide hxk
      have i1 : (k : Int) < (n : Int) := by omega
      clear hcx hxk
      by_cases hlt2 : k < m
      · obtain ⟨y, hyk⟩ : ∃ y, ys[k]? = some y := ⟨_, List.getElem?_eq_getElem (by have := Hm.out; omega)⟩
        obtain ⟨b2, o2, hB, hb2, hcy⟩ := Hy.out (by have := Hm.out; omega)
        subst hB
        have d1 := hcy k y hyk
        have Hyk := hide hyk
        have i2 : (k : Int) < (m : Int) := by omega
        clear hcy hyk
        by_cases hs : sgn x y = 0
        · have Hs := hide hs
          go_wp2_with ((go_at_call 24; refine (compare_any _ _ _).mono ?_; rintro e w' ⟨rfl, rfl⟩))
          exact ⟨⟨k + 1, by omega, by omega, by go_num, by rw [Hz.out, drop_cons Hxk.out, drop_cons Hyk.out, lexC, if_pos Hs.out]⟩, by simp [intOf]; omega⟩
        · have Hs := hide hs
          go_wp2_with ((go_at_call 24; refine (compare_any _ _ _).mono ?_; rintro e w' ⟨rfl, rfl⟩))
          go_ret
          exact ⟨by rw [Hz.out, drop_cons Hxk.out, drop_cons Hyk.out, lexC, if_neg Hs.out]; rfl, rfl⟩
      · have i2 : (m : Int) ≤ (k : Int) := by omega
        have Hkm := hide (show m ≤ k by omega)
        clear hlt2
        go_wp2_with fail
        go_ret
        exact ⟨by rw [Hz.out, drop_cons Hxk.out, List.drop_eq_nil_of_le (show ys.length ≤ k by have := Hm.out; have := Hkm.out; omega)]; rfl, rfl⟩
    · have Hkn := hide (show k = n by omega)
      have i1 : (n : Int) ≤ (k : Int) := by omega
      clear hlt
      by_cases hnm : n < m
      · have i2 : (n : Int) < (m : Int) := by omega
        obtain ⟨y, hyk⟩ : ∃ y, ys[k]? = some y := ⟨_, List.getElem?_eq_getElem (by have := Hm.out; have := Hkn.out; omega)⟩
        have Hyk := hide hyk
        clear hyk
        go_wp2_with fail
        go_ret
        exact ⟨by rw [Hz.out, drop_cons Hyk.out, List.drop_eq_nil_of_le (by have := Hn.out; have := Hkn.out; omega)]; rfl, rfl⟩
      · have i2 : (m : Int) ≤ (n : Int) := by omega
        have Hnm := hide (show m = n by have := Hkn.out; omega)
        go_wp2_with fail
        go_ret
        exact ⟨by rw [Hz.out, List.drop_eq_nil_of_le (by have := Hn.out; have := Hkn.out; omega), List.drop_eq_nil_of_le (by have := Hm.out; have := Hkn.out; have := Hnm.out; omega)]; rfl, rfl⟩
end Go.Proofs.Ytlealjcllbpgkaa
