/- The reference's sameness of prefixes. No condition but those that stand in each theorem. -/
import Derived.Test.YtimhbgpnkodlaaaGreatDoorSt3
import Derived.Test.YtimhbgpnkodlaaaGreatDoorEq
import Derived.Test.YtimhbgpnkodlaaaGreatDoorSl
namespace Go.Proofs.YtimhbgpnkodlaaaGreatDoor
open Go.RowKit

/-- Prefixes that are the same, one by one. -/
def sameL (ps qs : List Pf) : Bool := decide (ps = qs)
theorem sameL_iff (ps qs : List Pf) : sameL ps qs = true ↔ ps = qs := decide_eq_true_iff
theorem sameL_ne {ps qs : List Pf} {j : Nat} {p q : Pf} (hp : ps[j]? = some p) (hq : qs[j]? = some q) (h : (p.a == q.a && p.n == q.n) = false) : sameL ps qs = false := by
  cases hs : sameL ps qs with
  | false => rfl
  | true =>
    rw [sameL_iff] at hs
    subst hs
    rw [hp] at hq
    injection hq with hq
    subst hq
    simp at h
theorem sameL_eq {ps qs : List Pf} (hl : ps.length = qs.length) (h : ∀ (i : Nat) p q, i < ps.length → ps[i]? = some p → qs[i]? = some q → p = q) : sameL ps qs = true := by
  rw [sameL_iff]
  refine List.ext_getElem? fun i => ?_
  by_cases hi : i < ps.length
  · have h1 : ps[i]? = some ps[i] := List.getElem?_eq_getElem hi
    have h2 : qs[i]? = some (qs[i]'(by omega)) := List.getElem?_eq_getElem (by omega)
    rw [h1, h2, h i _ _ hi h1 h2]
  · rw [List.getElem?_eq_none (by omega), List.getElem?_eq_none (by omega)]

set_option maxRecDepth 8000 in
set_option maxHeartbeats 1000000 in
theorem samePrefixes_any (A B : Option Addr) (n m c d : Nat) (ps qs : List Pf) (w : World) (hx : Rws w A 2 (ps.map Pf.cells)) (hy : Rws w B 2 (qs.map Pf.cells)) (hn : ps.length = n) (hm : qs.length = m) (hl : n ≤ 4294967296) (hl2 : m ≤ 4294967296) :
    Calls Tryz.prog 17 #[.slice A n c, .slice B m d] w fun e w1 => e = .returned (.bool (sameL ps qs)) ∧ New w w1 := by
  have Hx := hide hx
  have Hy := hide hy
  have Hn := hide hn
  have Hm := hide hm
  clear hx hy hn hm
  by_cases hnm : n = m
  · subst hnm
    have g1 := guard_pfx
    have g3 := neq_pfx
    go_enter Tryz.func17, Tryz.ntmps17
    go_wp2_with fail
    go_loopw [5] (fun i wr => ∃ k : Nat, k ≤ n ∧ i = .int .i64 k ∧ New w wr ∧ ∀ (i : Nat) r s, i < k → ps[i]? = some r → qs[i]? = some s → r = s) (fun i _ => n - (intOf i).toNat)
    case atStart => exact ⟨0, by omega, rfl, Upd.refl _ _, fun j r s h => absurd h (by omega)⟩
    case round =>
      obtain ⟨k, hk, rfl, hnew, hz⟩ := hrel
      have Hz := hide hz
      have Hnew := hide hnew
      clear hz
      by_cases hlt : k < n
      · obtain ⟨b, o, r, hA, hb, hr, q0, q1⟩ := rws_two (Hx.out.new_ hnew) (k := k) (by have := Hn.out; omega)
        obtain ⟨b2, o2, s, hB, hb2, hs, p0, p1⟩ := rws_two (Hy.out.new_ hnew) (k := k) (by have := Hm.out; omega)
        subst hA; subst hB
        have Hr := hide hr
        have Hs2 := hide hs
        have i1 : (k : Int) < (n : Int) := by omega
        clear hr hs hnew
        obtain ⟨wo, rfl⟩ : ∃ wo : World, wo = wr := ⟨_, rfl⟩
        cases h1 : (r.a == s.a && r.n == s.n) with
        | false =>
          have Hne := hide (sameL_ne Hr.out Hs2.out h1)
          go_upto_region 6 with (fail)
          refine wp_region_new wo (Upd.refl _ _) (by kernel_rfl) (by kernel_rfl) ?_
          repeat (go_big_quiet_step (fail))
          refine wpQuiet_nil ?_
          rintro _ ⟨nq2, rfl⟩
          go_wp2_with fail
          go_ret
          exact ⟨ret_bool Hne.out.symm, Hnew.out.trans_new nq2.h⟩
        | true =>
          have He := hide (show r = s by
            simp at h1
            obtain ⟨a, n⟩ := r
            obtain ⟨b, m⟩ := s
            obtain ⟨rfl, rfl⟩ := h1
            rfl)
          go_upto_region 6 with (fail)
          refine wp_region_new wo (Upd.refl _ _) (by kernel_rfl) (by kernel_rfl) ?_
          repeat (go_big_quiet_step (fail))
          refine wpQuiet_nil ?_
          rintro _ ⟨nq2, rfl⟩
          go_wp2_with fail
          refine ⟨⟨k + 1, by omega, by go_num, Hnew.out.trans_new nq2.h, fun i x y hi hx hy => ?_⟩, by simp [intOf]; omega⟩
          by_cases hij : i < k
          · exact Hz.out i x y hij hx hy
          · obtain rfl : i = k := by omega
            rw [Hr.out] at hx; injection hx with hx; subst hx
            rw [Hs2.out] at hy; injection hy with hy; subst hy
            exact He.out
      · have i1 : ¬ (k : Int) < (n : Int) := by omega
        have He := hide (sameL_eq (ps := ps) (qs := qs) (by have := Hn.out; have := Hm.out; omega) fun i r s hi hr hs => Hz.out i r s (by have := Hn.out; omega) hr hs)
        go_wp2_with fail
        go_ret
        exact ⟨ret_bool He.out.symm, Hnew.out⟩
  · have He : Hid (sameL ps qs = false) := hide (by
      cases hs : sameL ps qs with
      | false => rfl
      | true =>
        rw [sameL_iff] at hs
        have := congrArg List.length hs
        have h1 := Hn.out
        have h2 := Hm.out
        exact absurd (by omega) hnm)
    have i1 : ((n : Int) != (m : Int)) = true := by simp; omega
    go_enter Tryz.func17, Tryz.ntmps17
    go_wp2_with fail
    go_ret
    exact ⟨ret_bool He.out.symm, Upd.refl _ _⟩
end Go.Proofs.YtimhbgpnkodlaaaGreatDoor
