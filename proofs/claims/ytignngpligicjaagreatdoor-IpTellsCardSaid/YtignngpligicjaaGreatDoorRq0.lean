/- The reference: is a prefix in another. No condition but those that stand in each theorem. -/
import Derived.Test.YtignngpligicjaaGreatDoorRf2
import Derived.Test.YtignngpligicjaaGreatDoorPfo
import Derived.BigRegion
import Derived.Test.YtignngpligicjaaGreatDoorSl
namespace Go.Proofs.YtignngpligicjaaGreatDoor
open Go.RowKit

theorem isin_nat (a b n m : Nat) (hn : n ≤ 32) (hm : m ≤ 32) (ha : a % 2 ^ (32 - n) = 0) (hb : b % 2 ^ (32 - m) = 0) :
    (a ≤ b ∧ b + 2 ^ (32 - m) ≤ a + 2 ^ (32 - n)) ↔ (b - b % 2 ^ (32 - n) = a ∧ n ≤ m) := by
  have hM : 0 < 2 ^ (32 - m) := Nat.pow_pos (by omega)
  have hN : 0 < 2 ^ (32 - n) := Nat.pow_pos (by omega)
  constructor
  · rintro ⟨h1, h2⟩
    have hbm : b % 2 ^ (32 - n) = b - a := by
      obtain ⟨q, hq⟩ := Nat.dvd_of_mod_eq_zero ha
      have h3 : b = (b - a) + 2 ^ (32 - n) * q := by omega
      have h4 : ((b - a) + 2 ^ (32 - n) * q) % 2 ^ (32 - n) = (b - a) % 2 ^ (32 - n) := Nat.add_mul_mod_self_left _ _ _
      rw [← h3] at h4
      rw [h4, Nat.mod_eq_of_lt (by omega)]
    refine ⟨by omega, ?_⟩
    rcases Nat.lt_or_ge m n with h | h
    · have := Nat.pow_lt_pow_right (show 1 < 2 by omega) (show 32 - n < 32 - m by omega)
      omega
    · exact h
  · rintro ⟨h1, h2⟩
    have hr := Nat.mod_lt b hN
    have hle := Nat.mod_le b (2 ^ (32 - n))
    have hd : 2 ^ (32 - m) ∣ 2 ^ (32 - n) := Nat.pow_dvd_pow 2 (by omega)
    have h3 : b % 2 ^ (32 - n) % 2 ^ (32 - m) = 0 := by rw [Nat.mod_mod_of_dvd b hd]; exact hb
    refine ⟨by omega, ?_⟩
    generalize b % 2 ^ (32 - n) = r at *
    generalize 2 ^ (32 - n) = N at *
    generalize 2 ^ (32 - m) = M at *
    obtain ⟨s, hs⟩ := Nat.dvd_of_mod_eq_zero h3
    obtain ⟨t, ht⟩ := hd
    have hst : s < t := by
      rcases Nat.lt_or_ge s t with h | h
      · exact h
      · have := Nat.mul_le_mul_left M h
        omega
    have := Nat.mul_le_mul_left M (show s + 1 ≤ t by omega)
    rw [Nat.mul_add, Nat.mul_one] at this
    omega
/-- In words of the reference. -/
theorem inB_ref {b m a n : Int} (hb : chk b m = 0) (ha : chk a n = 0) : inB b m a n = decide (a ≤ b ∧ b + ((2 ^ (32 - m.toNat) : Nat) : Int) ≤ a + ((2 ^ (32 - n.toNat) : Nat) : Int)) := by
  obtain ⟨b1, b2, b3⟩ := chk_zero hb
  obtain ⟨a1, a2, a3⟩ := chk_zero ha
  have h := isin_nat a.toNat b.toNat n.toNat m.toNat (by omega) (by omega) a3 b3
  unfold inB hasB
  rw [Bool.eq_iff_iff]
  simp only [decide_eq_true_iff]
  have h3 : low b.toNat n.toNat = b.toNat % 2 ^ (32 - n.toNat) := rfl
  have h4 := Nat.mod_le b.toNat (2 ^ (32 - n.toNat))
  rw [h3]
  generalize b.toNat % 2 ^ (32 - n.toNat) = r at *
  generalize 2 ^ (32 - n.toNat) = N at *
  generalize 2 ^ (32 - m.toNat) = M at *
  constructor
  · rintro ⟨_, ⟨_, _, h5⟩, h6⟩
    have := h.2 ⟨by omega, by omega⟩
    omega
  · rintro ⟨h5, h6⟩
    have := h.1 ⟨by omega, by omega⟩
    exact ⟨hb, ⟨ha, b1, by omega⟩, by omega⟩
theorem inB_q {b m a n : Int} (hb : chk b m ≠ 0) : inB b m a n = false := decide_eq_false fun h => hb h.1
theorem inB_p {b m a n : Int} (ha : chk a n ≠ 0) : inB b m a n = false := decide_eq_false fun h => ha (of_decide_eq_true h.2.1).1

set_option maxRecDepth 8000 in
set_option maxHeartbeats 4000000 in
theorem isIn_any (b m a n : Int) (w : World) : Calls Tryz.prog 21 #[.agg #[.int .i64 b, .int .i64 m], .agg #[.int .i64 a, .int .i64 n]] w fun e w1 => e = .returned (.bool (inB b m a n)) ∧ New w w1 := by
  have u := ((Upd.refl (fun _ => False) w).alloc (.cells #[.int .i64 b, .int .i64 m] TPf)).alloc (.cells #[.int .i64 a, .int .i64 n] TPf)
  have b0 := (Blk.new w TPf #[.int .i64 b, .int .i64 m]).alloc (.cells #[.int .i64 a, .int .i64 n] TPf)
  have b1 := Blk.at_ (w.alloc (.cells #[.int .i64 b, .int .i64 m] TPf)) TPf #[.int .i64 a, .int .i64 n] (w.heap.size + 1) (by simp)
  have N := hide u
  have HK := hide b0
  have HL := hide b1
  clear u b0 b1
  generalize hz : inB b m a n = Z
  have HZ := hide hz
  clear hz
  go_enter Tryz.func21, Tryz.ntmps21
  go_upto_region 1 with (fail)
  generalize ((w.alloc (.cells #[.int .i64 b, .int .i64 m] TPf)).alloc (.cells #[.int .i64 a, .int .i64 n] TPf)) = W at *
  have Hp := hide (prefixError_any b m W)
  have bq := HK.out
  have k0 := bq.cell 0
  have k1 := bq.cell 1
  have zK := bq.lt
  simp only [List.getElem?_toArray, List.getElem?_cons_zero, List.getElem?_cons_succ] at k0 k1
  clear bq
  have bq := HL.out
  have l0 := bq.cell 0
  have l1 := bq.cell 1
  have zL := bq.lt
  simp only [List.getElem?_toArray, List.getElem?_cons_zero, List.getElem?_cons_succ] at l0 l1
  clear bq
  go_wp2_with fail
  refine Hp.out.mono ?_
  rintro e w1 ⟨rfl, hu⟩
  clear Hp k0 k1 zK l0 l1 zL
  have N := hide (N.out.trans_new hu)
  have HK := hide (HK.out.new_ hu)
  have HL := hide (HL.out.new_ hu)
  clear hu
  by_cases h1 : chk b m = 0
  · have Hq := hide (prefixError_any a n w1)
    have H1 := hide h1
    rw [h1]
    clear h1
    have bq := HK.out
    have k0 := bq.cell 0
    have k1 := bq.cell 1
    have zK := bq.lt
    simp only [List.getElem?_toArray, List.getElem?_cons_zero, List.getElem?_cons_succ] at k0 k1
    clear bq
    have bq := HL.out
    have l0 := bq.cell 0
    have l1 := bq.cell 1
    have zL := bq.lt
    simp only [List.getElem?_toArray, List.getElem?_cons_zero, List.getElem?_cons_succ] at l0 l1
    clear bq
    go_wp2_with fail
    refine Hq.out.mono ?_
    rintro e w2 ⟨rfl, hu⟩
    clear Hq k0 k1 zK l0 l1 zL
    have N := hide (N.out.trans_new hu)
    have HK := hide (HK.out.new_ hu)
    have HL := hide (HL.out.new_ hu)
    clear hu
    by_cases h2 : chk a n = 0
    · have hr := inB_ref H1.out h2
      obtain ⟨p1, p2, _⟩ := chk_zero H1.out
      obtain ⟨p3, p4, _⟩ := chk_zero h2
      have hM := pw_le (32 - m.toNat) (by omega)
      have hN := pw_le (32 - n.toNat) (by omega)
      have S1 := hide (sizeOf_any m p2)
      have S2 := hide (sizeOf_any n p4)
      rw [h2]
      generalize 2 ^ (32 - m.toNat) = M at *
      generalize 2 ^ (32 - n.toNat) = N2 at *
      have iw1 : IntKind.i64.wrap (b + (M : Int)) = b + (M : Int) := IntWalk.i64_in _ (by omega)
      have iw2 : IntKind.i64.wrap (a + (N2 : Int)) = a + (N2 : Int) := IntWalk.i64_in _ (by omega)
      have Hr := hide hr
      clear hr h2 hM hN p1 p2 p3 p4
      have bq := HK.out
      have k0 := bq.cell 0
      have k1 := bq.cell 1
      have zK := bq.lt
      simp only [List.getElem?_toArray, List.getElem?_cons_zero, List.getElem?_cons_succ] at k0 k1
      clear bq
      have bq := HL.out
      have l0 := bq.cell 0
      have l1 := bq.cell 1
      have zL := bq.lt
      simp only [List.getElem?_toArray, List.getElem?_cons_zero, List.getElem?_cons_succ] at l0 l1
      clear bq
      by_cases h3 : a ≤ b
      · by_cases h4 : b + (M : Int) ≤ a + (N2 : Int)
        · have Hv := hide (HZ.out.symm.trans (Hr.out.trans (decide_eq_true ⟨h3, h4⟩)))
          go_wp2_with fail
          refine wp_region_new w2 (Upd.refl _ _) (by kernel_rfl) (by kernel_rfl) ?_
          iterate 11 (go_big_quiet_step ((go_at_call 26; exact new_call_same (S1.out _))))
          repeat (go_big_quiet_step ((go_at_call 26; exact new_call_same (S2.out _))))
          refine wpQuiet_nil ?_
          rintro _ ⟨nq, rfl⟩
          go_wp2_with fail
          go_ret
          exact ⟨ret_bool (by first | exact Hv.out.symm | exact hd4.trans Hv.out.symm), N.out.trans_new nq.h⟩
        · have Hv := hide (HZ.out.symm.trans (Hr.out.trans (decide_eq_false fun h => h4 h.2)))
          have hd4 : decide (b + (M : Int) ≤ a + (N2 : Int)) = false := decide_eq_false h4
          go_wp2_with fail
          refine wp_region_new w2 (Upd.refl _ _) (by kernel_rfl) (by kernel_rfl) ?_
          iterate 11 (go_big_quiet_step ((go_at_call 26; exact new_call_same (S1.out _))))
          repeat (go_big_quiet_step ((go_at_call 26; exact new_call_same (S2.out _))))
          refine wpQuiet_nil ?_
          rintro _ ⟨nq, rfl⟩
          go_wp2_with fail
          go_ret
          exact ⟨ret_bool (by first | exact Hv.out.symm | exact hd4.trans Hv.out.symm), N.out.trans_new nq.h⟩
      · have Hv := hide (HZ.out.symm.trans (Hr.out.trans (decide_eq_false fun h => h3 h.1)))
        have hd3 : decide (a ≤ b) = false := decide_eq_false h3
        go_wp2_with fail
        refine wp_region_new w2 (Upd.refl _ _) (by kernel_rfl) (by kernel_rfl) ?_
        iterate 11 (go_big_quiet_step ((go_at_call 26; exact new_call_same (S1.out _))))
        repeat (go_big_quiet_step ((go_at_call 26; exact new_call_same (S2.out _))))
        refine wpQuiet_nil ?_
        rintro _ ⟨nq, rfl⟩
        go_wp2_with fail
        go_ret
        exact ⟨ret_bool (by first | exact Hv.out.symm | exact hd4.trans Hv.out.symm), N.out.trans_new nq.h⟩
    · have Hv := hide (HZ.out.symm.trans (inB_p h2))
      have i1 : (0 : Int) < (chk a n : Int) := by omega
      clear h2
      go_wp2_with fail
      go_ret
      exact ⟨ret_bool Hv.out.symm, N.out⟩
  · have Hv := hide (HZ.out.symm.trans (inB_q h1))
    have i1 : (0 : Int) < (chk b m : Int) := by omega
    clear h1
    go_wp2_with fail
    go_ret
    exact ⟨ret_bool Hv.out.symm, N.out⟩
end Go.Proofs.YtignngpligicjaaGreatDoor
