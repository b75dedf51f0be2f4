/- The reference's HasAddr. No condition but those that stand in each theorem. -/
import Derived.Test.YtignngpligicjaaGreatDoorRf1
import Derived.Test.YtignngpligicjaaGreatDoorIp3
namespace Go.Proofs.YtignngpligicjaaGreatDoor
open Go.RowKit

theorem has_range {a n x : Int} (h : chk a n = 0) (hx : 0 ≤ x ∧ x < 4294967296) : hasB a n x = decide (a ≤ x ∧ x < a + ((2 ^ (32 - n.toNat) : Nat) : Int)) := by
  obtain ⟨ha, hn, hl⟩ := chk_zero h
  obtain ⟨a, rfl⟩ := Int.eq_ofNat_of_zero_le ha.1
  obtain ⟨x, rfl⟩ := Int.eq_ofNat_of_zero_le hx.1
  rw [Int.toNat_natCast] at hl
  unfold hasB
  rw [Int.toNat_natCast]
  unfold low at hl ⊢
  obtain ⟨p, hp⟩ : ∃ p, p = 2 ^ (32 - n.toNat) := ⟨_, rfl⟩
  rw [← hp] at hl ⊢
  have hp0 : 0 < p := by rw [hp]; exact Nat.two_pow_pos _
  have h1 := Nat.div_add_mod x p
  have h2 := Nat.mod_lt x hp0
  have h3 := Nat.div_add_mod a p
  rw [hl, Nat.add_zero] at h3
  rw [Bool.eq_iff_iff]
  simp only [decide_eq_true_eq]
  constructor
  · rintro ⟨_, _, h4⟩
    omega
  · rintro ⟨h4, h5⟩
    refine ⟨h, hx, ?_⟩
    have h6 : x / p = a / p := by
      have e1 : a / p ≤ x / p := Nat.div_le_div_right (by omega)
      have e2 : x / p < a / p + 1 := by
        rw [Nat.div_lt_iff_lt_mul hp0, Nat.add_mul, Nat.one_mul, Nat.mul_comm]
        omega
      omega
    rw [h6] at h1
    omega

set_option maxRecDepth 8000 in
set_option maxHeartbeats 2000000 in
theorem hasAddr_any (a n x : Int) (w : World) : Calls Tryz.prog 20 #[.agg #[.int .i64 a, .int .i64 n], .int .i64 x] w fun e w1 => e = .returned (.bool (hasB a n x)) ∧ New w w1 := by
  have u := (Upd.refl (fun _ => False) w).alloc (.cells #[.int .i64 a, .int .i64 n] 23)
  have Hu := hide u
  have Hb := hide (Blk.new w 23 #[.int .i64 a, .int .i64 n])
  clear u
  by_cases hx : 0 ≤ x ∧ x < 4294967296
  · have hi : isA x = true := decide_eq_true hx
    have hA := isAddr_any x
    rw [hi] at hA
    have HA := hide hA
    have HX := hide hx
    clear hA hi hx
    have HP := hide (prefixError_any a n)
    by_cases k1 : chk a n = 0
    · have He := hide (has_range k1 HX.out)
      have hn := (chk_zero k1).2.1
      have ha := (chk_zero k1).1
      have hs := sizeOf_any n hn
      have hle : 2 ^ (32 - n.toNat) ≤ 4294967296 := pw_le _ (by omega)
      obtain ⟨p, hp⟩ : ∃ p, p = 2 ^ (32 - n.toNat) := ⟨_, rfl⟩
      rw [← hp] at hs hle He
      have Hs := hide hs
      have hw : IntKind.i64.wrap (a + (p : Int)) = a + (p : Int) := IntWalk.i64_in _ (by omega)
      have K1 := hide k1
      clear hs hp hn ha hle
      go_enter Tryz.func20, Tryz.ntmps20
      go_wp2_with (go_at_call 65; refine (HA.out _).mono ?_; rintro e w' ⟨rfl, rfl⟩)
      generalize (w.alloc (.cells #[.int .i64 a, .int .i64 n] 23)) = W at *
      refine (HP.out W).mono ?_
      rintro e w2 ⟨rfl, hu2⟩
      rw [k1]
      clear k1
      have bb := Hb.out.new_ hu2
      have c0 := bb.cell 0
      have c1 := bb.cell 1
      have zb := bb.lt
      simp only [List.getElem?_toArray, List.getElem?_cons_zero, List.getElem?_cons_succ] at c0 c1
      have N2 := hide (Hu.out.trans_new hu2)
      clear bb hu2
      by_cases h1 : a ≤ x
      · have He2 : Hid (hasB a n x = decide (x < a + (p : Int))) := hide (by rw [He.out]; simp [h1])
        go_upto_region 4 with (fail)
        refine wp_region_new w2 (Upd.refl _ _) (by kernel_rfl) (by kernel_rfl) ?_
        repeat (go_big_quiet_step ((go_at_call 26; exact new_call_same (Hs.out _))))
        refine wpQuiet_nil ?_
        rintro _ ⟨nq, rfl⟩
        go_wp2_with fail
        go_ret
        exact ⟨ret_bool He2.out.symm, N2.out.trans_new nq.h⟩
      · have He2 : Hid (hasB a n x = false) := hide (by rw [He.out]; simp [h1])
        have h2 : x < a := by omega
        have h3 : decide (a ≤ x) = false := decide_eq_false h1
        go_upto_region 4 with (fail)
        refine wp_region_new w2 (Upd.refl _ _) (by kernel_rfl) (by kernel_rfl) ?_
        repeat (go_big_quiet_step (fail))
        refine wpQuiet_nil ?_
        rintro _ ⟨nq, rfl⟩
        go_wp2_with fail
        go_ret
        exact ⟨ret_bool He2.out.symm, N2.out.trans_new nq.h⟩
    · have He : Hid (hasB a n x = false) := hide (by unfold hasB; exact decide_eq_false fun h => k1 h.1)
      go_enter Tryz.func20, Tryz.ntmps20
      go_wp2_with (go_at_call 65; refine (HA.out _).mono ?_; rintro e w' ⟨rfl, rfl⟩)
      generalize (w.alloc (.cells #[.int .i64 a, .int .i64 n] 23)) = W at *
      refine (HP.out W).mono ?_
      rintro e w2 ⟨rfl, hu2⟩
      generalize chk a n = kc at *
      have k2 : 0 < kc := by omega
      have k4 : (0 : Int) < (kc : Int) := by omega
      clear k1
      go_wp2_with fail
      go_ret
      exact ⟨ret_bool He.out.symm, Hu.out.trans_new hu2⟩
  · have hi : isA x = false := decide_eq_false hx
    have He : Hid (hasB a n x = false) := hide (by unfold hasB; exact decide_eq_false fun h => hx h.2.1)
    have hA := isAddr_any x
    rw [hi] at hA
    have HA := hide hA
    clear hA hi hx
    go_enter Tryz.func20, Tryz.ntmps20
    go_wp2_with (go_at_call 65; refine (HA.out _).mono ?_; rintro e w' ⟨rfl, rfl⟩)
    go_ret
    exact ⟨ret_bool He.out.symm, Hu.out⟩
end Go.Proofs.YtignngpligicjaaGreatDoor
