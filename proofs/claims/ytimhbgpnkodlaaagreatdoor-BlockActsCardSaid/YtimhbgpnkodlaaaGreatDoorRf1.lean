/- The reference's prefixes: addresses, sizes, an error's number, which is ahead. No condition but those that stand in each theorem. -/
import Derived.Test.YtimhbgpnkodlaaaGreatDoorWi1
import Derived.Test.YtimhbgpnkodlaaaGreatDoorIp2
namespace Go.Proofs.YtimhbgpnkodlaaaGreatDoor
open Go.RowKit

def isA (a : Int) : Bool := decide (0 ≤ a ∧ a < 4294967296)
set_option maxHeartbeats 400000 in
theorem isAddr_any (a : Int) (w : World) : Calls Tryz.prog 45 #[.int .i64 a] w fun e w1 => e = .returned (.bool (isA a)) ∧ w = w1 := by
  go_enter Tryz.func45, Tryz.ntmps45
  go_wp2
  all_goals go_ret
  · rename_i h
    exact ⟨by simp [isA, h], rfl⟩
  · rename_i h
    exact ⟨by simp [isA]; omega, rfl⟩

theorem pw_le (k : Nat) (h : k ≤ 32) : 2 ^ k ≤ 4294967296 := by
  have := Nat.pow_le_pow_right (show 0 < 2 by omega) h
  simpa using this

set_option maxHeartbeats 1000000 in
theorem sizeOf_nat (n : Nat) (hn : n ≤ 32) (w : World) : Calls Tryz.prog 27 #[.int .i64 n] w fun e w1 => e = .returned (.int .i64 ((2 ^ (32 - n) : Nat) : Int)) ∧ w = w1 := by
  have Hn := hide hn
  have n1 : (n : Int) ≤ 32 := by omega
  go_enter Tryz.func27, Tryz.ntmps27
  go_wp2_with fail
  go_loopw [3, 4] (fun size i wr => ∃ k : Nat, n + k ≤ 32 ∧ i = .int .i64 (n + k : Nat) ∧ size = .int .i64 (2 ^ k : Nat) ∧ wr = w) (fun _ i _ => 32 - (intOf i).toNat)
  case atStart => exact ⟨0, by omega, rfl, rfl, rfl⟩
  case round =>
    obtain ⟨k, hk, rfl, rfl, rfl⟩ := hrel
    have hp := pw_le k (by omega)
    obtain ⟨p, hp2⟩ : ∃ p, p = 2 ^ k := ⟨_, rfl⟩
    rw [← hp2] at hp ⊢
    have Hp2 := hide hp2
    clear hp2
    by_cases h : n + k < 32
    · have i1 : ((n + k : Nat) : Int) < 32 := by omega
      have hq := pw_le (k + 1) (by omega)
      have h2 : ((2 ^ (k + 1) : Nat) : Int) = 2 * (p : Int) := by rw [Nat.pow_succ, ← Hp2.out]; omega
      go_wp2_with fail
      exact ⟨⟨k + 1, by omega, by rw [Int.natCast_add, Int.natCast_add]; congr 1, by rw [h2], trivial⟩, by simp [intOf]; omega⟩
    · have i1 : ¬ ((n + k : Nat) : Int) < 32 := by omega
      go_wp2_with fail
      go_ret
      exact ⟨ret_int (by rw [Hp2.out, show 32 - n = k by omega, Int.natCast_pow]; rfl), rfl⟩
theorem sizeOf_any (n : Int) (hn : 0 ≤ n ∧ n ≤ 32) (w : World) : Calls Tryz.prog 27 #[.int .i64 n] w fun e w1 => e = .returned (.int .i64 ((2 ^ (32 - n.toNat) : Nat) : Int)) ∧ w = w1 := by
  obtain ⟨n, rfl⟩ := Int.eq_ofNat_of_zero_le hn.1
  exact sizeOf_nat n (by omega) w

theorem boolN (c : Nat) : (c = 0) ∨ (c ≠ 0) := by omega
set_option maxHeartbeats 1000000 in
theorem prefixError_any (a n : Int) (w : World) : Calls Tryz.prog 26 #[.agg #[.int .i64 a, .int .i64 n]] w fun e w1 => e = .returned (.int .i64 (chk a n : Nat)) ∧ New w w1 := by
  have u := (Upd.refl (fun _ => False) w).alloc (.cells #[.int .i64 a, .int .i64 n] 23)
  have Hu := hide u
  have Hb := hide (Blk.new w 23 #[.int .i64 a, .int .i64 n])
  clear u
  generalize hL : chk a n = L
  have HL := hide hL
  clear hL
  by_cases ha : 0 ≤ a ∧ a < 4294967296
  · have hi : isA a = true := decide_eq_true ha
    have Ha := hide ha
    have hA := isAddr_any a
    rw [hi] at hA
    have HA := hide hA
    clear hA hi ha
    by_cases h0 : n < 0
    · have Hc : Hid (L = 2) := hide (by rw [← HL.out]; exact chk_bound (by omega))
      go_enter Tryz.func26, Tryz.ntmps26
      go_wp2_with (go_at_call 45; refine (HA.out _).mono ?_; rintro e w' ⟨rfl, rfl⟩)
      go_ret
      exact ⟨by rw [Hc.out]; rfl, Hu.out⟩
    · by_cases h1 : n > 32
      · have Hc : Hid (L = 2) := hide (by rw [← HL.out]; exact chk_bound (by omega))
        go_enter Tryz.func26, Tryz.ntmps26
        go_wp2_with (go_at_call 45; refine (HA.out _).mono ?_; rintro e w' ⟨rfl, rfl⟩)
        go_ret
        exact ⟨by rw [Hc.out]; rfl, Hu.out⟩
      · have hn : 0 ≤ n ∧ n ≤ 32 := by omega
        have hs := sizeOf_any n hn
        have hr : chk a n = if low a.toNat n.toNat = 0 then 0 else 3 := chk_right Ha.out hn
        have hlow : a.tmod ((2 ^ (32 - n.toNat) : Nat) : Int) = (low a.toNat n.toNat : Int) := by
          obtain ⟨a, rfl⟩ := Int.eq_ofNat_of_zero_le Ha.out.1
          rfl
        have hp := Nat.two_pow_pos (32 - n.toNat)
        have hle : 2 ^ (32 - n.toNat) ≤ 4294967296 := pw_le _ (by omega)
        have hlt : low a.toNat n.toNat < 2 ^ (32 - n.toNat) := Nat.mod_lt _ hp
        obtain ⟨z, hz⟩ : ∃ z, z = low a.toNat n.toNat := ⟨_, rfl⟩
        obtain ⟨y, hy⟩ : ∃ y, y = 2 ^ (32 - n.toNat) := ⟨_, rfl⟩
        rw [← hz] at hr hlow hlt
        rw [← hy] at hs hlow hp hle hlt
        have Hs := hide hs
        have Hr := hide hr
        have y0 : ¬ (y : Int) = 0 := by omega
        have y1 : (y : Int) ≠ -1 := by omega
        have hw : IntKind.i64.wrap (z : Int) = (z : Int) := IntWalk.i64_in _ (by omega)
        clear hs hr hz hy hn hle hlt
        go_enter Tryz.func26, Tryz.ntmps26
        go_wp2_with (go_at_call 45; refine (HA.out _).mono ?_; rintro e w' ⟨rfl, rfl⟩)
        generalize (w.alloc (.cells #[.int .i64 a, .int .i64 n] 23)) = W at *
        have c00 := Hb.out.cell 0
        have c01 := Hb.out.cell 1
        have zb := Hb.out.lt
        simp only [List.getElem?_toArray, List.getElem?_cons_zero, List.getElem?_cons_succ] at c00 c01
        by_cases hz0 : z = 0
        · subst hz0
          have Hc : Hid (L = 0) := hide (by rw [← HL.out, Hr.out]; rfl)
          refine wp_region_new W (Upd.refl _ _) (by kernel_rfl) (by kernel_rfl) ?_
          repeat (go_big_quiet_step ((go_at_call 27; exact new_call_same (Hs.out _))))
          refine wpQuiet_nil ?_
          rintro _ ⟨nq, rfl⟩
          go_wp2_with fail
          go_ret
          exact ⟨by rw [Hc.out]; rfl, Hu.out.trans_new nq.h⟩
        · have Hc : Hid (L = 3) := hide (by rw [← HL.out, Hr.out, if_neg hz0])
          have z1 : ((z : Int) != 0) = true := by simp; omega
          refine wp_region_new W (Upd.refl _ _) (by kernel_rfl) (by kernel_rfl) ?_
          repeat (go_big_quiet_step ((go_at_call 27; exact new_call_same (Hs.out _))))
          refine wpQuiet_nil ?_
          rintro _ ⟨nq, rfl⟩
          go_wp2_with fail
          go_ret
          exact ⟨by rw [Hc.out]; rfl, Hu.out.trans_new nq.h⟩
  · have hi : isA a = false := decide_eq_false ha
    have Hc : Hid (L = 2) := hide (by rw [← HL.out]; exact chk_bound (by omega))
    have hA := isAddr_any a
    rw [hi] at hA
    have HA := hide hA
    clear hA hi ha
    go_enter Tryz.func26, Tryz.ntmps26
    go_wp2_with (go_at_call 45; refine (HA.out _).mono ?_; rintro e w' ⟨rfl, rfl⟩)
    go_ret
    exact ⟨by rw [Hc.out]; rfl, Hu.out⟩
end Go.Proofs.YtimhbgpnkodlaaaGreatDoor

namespace Go.Proofs.YtimhbgpnkodlaaaGreatDoor
open Go.RowKit

def aheadB (a n b m : Int) : Bool := if a = b then decide (n < m) else decide (a < b)
theorem ahead_cmp (a n b m : Int) : aheadB a n b m = decide (cmpP a n b m < 0) := by
  unfold aheadB cmpP
  by_cases h : a = b
  · subst h
    rw [if_pos rfl]
    simp only [sgn, firstNZ]
    split <;> (try split) <;> (try split) <;> simp_all <;> omega
  · rw [if_neg h]
    simp only [sgn, firstNZ]
    split <;> (try split) <;> (try split) <;> simp_all <;> omega
theorem less_ahead (a n b m : Int) (h1 : chk a n = 0) (h2 : chk b m = 0) : lessB a n b m = aheadB a n b m := by
  rw [ahead_cmp]
  unfold lessB
  simp [h1, h2]

set_option maxHeartbeats 1000000 in
theorem isAhead_any (a n b m : Int) (w : World) : Calls Tryz.prog 56 #[.agg #[.int .i64 a, .int .i64 n], .agg #[.int .i64 b, .int .i64 m]] w fun e w1 => e = .returned (.bool (aheadB a n b m)) ∧ New w w1 := by
  have u := ((Upd.refl (fun _ => False) w).alloc (.cells #[.int .i64 a, .int .i64 n] 23)).alloc (.cells #[.int .i64 b, .int .i64 m] 23)
  have Hu := hide u
  clear u
  by_cases h : a = b
  · have e : aheadB a n b m = decide (n < m) := if_pos h
    have He := hide e
    have h1 : (a != b) = false := by simp [h]
    clear e h
    go_enter Tryz.func56, Tryz.ntmps56
    go_wp2_with fail
    go_ret
    exact ⟨ret_bool He.out.symm, Hu.out⟩
  · have e : aheadB a n b m = decide (a < b) := if_neg h
    have He := hide e
    have h1 : (a != b) = true := by simp [h]
    clear e h
    go_enter Tryz.func56, Tryz.ntmps56
    go_wp2_with fail
    go_ret
    exact ⟨ret_bool He.out.symm, Hu.out⟩

def faultV (c : Nat × Int) : Value := .agg #[.int .i64 (c.1 : Nat), .int .i64 c.2]
def faultC (c : Nat × Int) : Array Value := #[.int .i64 (c.1 : Nat), .int .i64 c.2]
end Go.Proofs.YtimhbgpnkodlaaaGreatDoor
