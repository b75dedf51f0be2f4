/- Package ip: Has, In, Size, Halves, Up. No condition but those that stand in each theorem. -/
import Derived.Test.YtignngpligicjaaGreatDoorIp2
import Derived.Test.YtignngpligicjaaGreatDoorRg
import Derived.Deep.Cut
namespace Go.Proofs.YtignngpligicjaaGreatDoor
open Go.RowKit

/-- Has a right range an address? -/
def hasB (a n x : Int) : Bool := decide (chk a n = 0 ∧ (0 ≤ x ∧ x < 4294967296) ∧ x - (low x.toNat n.toNat : Int) = a)
/-- Is one in another one? -/
def inB (b m a n : Int) : Bool := decide (chk b m = 0 ∧ hasB a n b = true ∧ n ≤ m)

theorem blk2 {w : World} {g : Nat} {t : TypeId} {x y : Value} (h : Blk w g t #[x, y]) : w.cell? ⟨g, 0, none⟩ = some x ∧ w.cell? ⟨g, 1, none⟩ = some y :=
  ⟨h.cell 0, h.cell 1⟩
theorem Sen.drew {w : World} {g : Nat} {p : Addr} (h : Sen w g p) : Sen w.drew g p := h
theorem check_no2 (a n : Int) (E : Nat → Addr) (w : World) (h2 : Sen w gBound (E 2)) (h3 : Sen w gShape (E 3)) (h : chk a n ≠ 0) :
    Calls Tryz.prog 14 #[.agg #[.int .i64 a, .int .i64 n]] w fun e w1 => e = .returned (.iface 255 (.pointer (some (E (chk a n))))) ∧ New w w1 :=
  check_no a n E w h2 h3 h
theorem low_le (a n : Nat) : low a n ≤ a := Nat.mod_le _ _

set_option maxHeartbeats 1000000 in
theorem has_any (a n x : Int) (E : Nat → Addr) (w : World) (h2 : Sen w gBound (E 2)) (h3 : Sen w gShape (E 3)) :
    Calls Tryz.prog 23 #[.agg #[.int .i64 a, .int .i64 n], .int .i64 x] w fun e w1 => e = .returned (.bool (hasB a n x)) ∧ New w w1 := by
  have b0 := Blk.new w 23 #[.int .i64 a, .int .i64 n]
  have u := (Upd.refl (fun _ => False) w).alloc (.cells #[.int .i64 a, .int .i64 n] 23)
  have Hb0 := hide b0
  have Hu := hide u
  have H2 := hide (h2.new u)
  have H3 := hide (h3.new u)
  clear b0 u h2 h3
  generalize hL : hasB a n x = L
  have HL := hide hL
  clear hL
  go_enter Tryz.func23, Tryz.ntmps23
  go_wp2_with fail
  generalize (w.alloc (.cells #[.int .i64 a, .int .i64 n] 23)) = W at *
  have b1 := Hb0.out
  have c00 := b1.cell 0
  have c01 := b1.cell 1
  have z1 := b1.lt
  simp only [List.getElem?_toArray, List.getElem?_cons_zero, List.getElem?_cons_succ] at c00 c01
  clear b1
  by_cases k1 : chk a n = 0
  · have K1 := hide k1
    have hn := (chk_zero k1).2.1
    have Hn := hide hn
    clear k1 hn
    by_cases hx : 0 ≤ x ∧ x < 4294967296
    · have Hx := hide hx
      have x0 := hx.1
      have x1 : x ≤ 9223372036854775807 := by omega
      have hl := low_le x.toNat n.toNat
      have hl2 : (low x.toNat n.toNat : Int) ≤ x := by omega
      have hwr : IntKind.i64.wrap (x - (low x.toNat n.toNat : Int)) = x - (low x.toNat n.toNat : Int) := IntWalk.i64_in _ (by omega)
      clear hx hl hl2
      refine wp_region_new W (Upd.refl _ _) (by kernel_rfl) (by kernel_rfl) ?_
      repeat (go_big_quiet_step (first
        | (go_at_call 14; exact new_call (check_yes a n E _ (H2.out.new (NewW.h _)) (H3.out.new (NewW.h _)) K1.out))
        | (go_at_call 63; exact new_call_same (address_yes x Hx.out _))
        | (go_at_call 68; exact new_call_same (behind_any x n Hx.out Hn.out _))))
      refine wpQuiet_nil ?_
      rintro _ ⟨nq, rfl⟩
      go_wp2_with fail
      go_ret
      refine ⟨?_, Hu.out.trans_new nq.h⟩
      rw [← HL.out]
      have e : hasB a n x = (x - (low x.toNat n.toNat : Int) == a) := by
        unfold hasB
        rw [Bool.eq_iff_iff]
        simp only [decide_eq_true_eq, beq_iff_eq]
        exact ⟨fun h => h.2.2, fun h => ⟨K1.out, Hx.out, h⟩⟩
      rw [e]
      rfl
    · have hf : decide (0 ≤ x ∧ x < 4294967296) = false := decide_eq_false hx
      have Had := hide (address_any x)
      rw [hf] at Had
      have Hx := hide hx
      clear hx hf
      refine wp_region_new W (Upd.refl _ _) (by kernel_rfl) (by kernel_rfl) ?_
      repeat (go_big_quiet_step (first
        | (go_at_call 14; exact new_call (check_yes a n E _ (H2.out.new (NewW.h _)) (H3.out.new (NewW.h _)) K1.out))
        | (go_at_call 63; exact new_call_same (Had.out _))))
      refine wpQuiet_nil ?_
      rintro _ ⟨nq, rfl⟩
      go_wp2_with fail
      go_ret
      refine ⟨?_, Hu.out.trans_new nq.h⟩
      rw [← HL.out]
      have : hasB a n x = false := by unfold hasB; exact decide_eq_false fun h => Hx.out h.2.1
      rw [this]; rfl
  · have K1 := hide k1
    clear k1
    refine wp_region_new W (Upd.refl _ _) (by kernel_rfl) (by kernel_rfl) ?_
    repeat (go_big_quiet_step ((go_at_call 14; exact new_call (check_no2 a n E _ (H2.out.new (NewW.h _)) (H3.out.new (NewW.h _)) K1.out))))
    refine wpQuiet_nil ?_
    rintro _ ⟨nq, rfl⟩
    go_wp2_with fail
    go_ret
    refine ⟨?_, Hu.out.trans_new nq.h⟩
    rw [← HL.out]
    have : hasB a n x = false := by unfold hasB; exact decide_eq_false fun h => K1.out h.1
    rw [this]; rfl

set_option maxHeartbeats 1000000 in
theorem in_any (b m a n : Int) (E : Nat → Addr) (w : World) (h2 : Sen w gBound (E 2)) (h3 : Sen w gShape (E 3)) :
    Calls Tryz.prog 24 #[.agg #[.int .i64 b, .int .i64 m], .agg #[.int .i64 a, .int .i64 n]] w fun e w1 => e = .returned (.bool (inB b m a n)) ∧ New w w1 := by
  have b0 := (Blk.new w 23 #[.int .i64 b, .int .i64 m]).alloc (.cells #[.int .i64 a, .int .i64 n] 23)
  have b1 := Blk.at_ (w.alloc (.cells #[.int .i64 b, .int .i64 m] 23)) 23 #[.int .i64 a, .int .i64 n] (w.heap.size + 1) (by simp)
  have u := ((Upd.refl (fun _ => False) w).alloc (.cells #[.int .i64 b, .int .i64 m] 23)).alloc (.cells #[.int .i64 a, .int .i64 n] 23)
  have Hb0 := hide b0
  have Hb1 := hide b1
  have Hu := hide u
  have H2 := hide (h2.new u)
  have H3 := hide (h3.new u)
  clear b0 b1 u h2 h3
  generalize hL : inB b m a n = L
  have HL := hide hL
  clear hL
  go_enter Tryz.func24, Tryz.ntmps24
  go_upto_region 1 with (fail)
  generalize ((w.alloc (.cells #[.int .i64 b, .int .i64 m] 23)).alloc (.cells #[.int .i64 a, .int .i64 n] 23)) = W at *
  have c00 := Hb0.out.cell 0
  have c01 := Hb0.out.cell 1
  have c10 := Hb1.out.cell 0
  have c11 := Hb1.out.cell 1
  have z0 := Hb0.out.lt
  have z1 := Hb1.out.lt
  simp only [List.getElem?_toArray, List.getElem?_cons_zero, List.getElem?_cons_succ] at c00 c01 c10 c11
  by_cases k1 : chk b m = 0
  · have K1 := hide k1
    clear k1
    cases hh : hasB a n b with
    | true =>
      have Hh := hide hh
      have Hhas := hide (has_any a n b E)
      rw [hh] at Hhas
      clear hh
      refine wp_region_seq W (Upd.refl _ _) ?_
      repeat (go_big_quiet_step (first
        | (go_at_call 14; exact new_call (check_yes b m E _ (H2.out.new (NewW.h _)) (H3.out.new (NewW.h _)) K1.out))
        | (go_at_call 23; exact new_call (Hhas.out _ (H2.out.new (NewW.h _)) (H3.out.new (NewW.h _))))))
      refine wpQuiet_nil ?_
      rintro _ ⟨nq, rfl⟩
      go_wp2_with fail
      go_ret
      refine ⟨?_, Hu.out.trans_new nq.h⟩
      rw [← HL.out]
      have e : inB b m a n = decide (n ≤ m) := by
        unfold inB
        rw [Bool.eq_iff_iff]
        simp only [decide_eq_true_eq]
        exact ⟨fun h => h.2.2, fun h => ⟨K1.out, Hh.out, h⟩⟩
      rw [e]
      rfl
    | false =>
      have Hh := hide hh
      have Hhas := hide (has_any a n b E)
      rw [hh] at Hhas
      clear hh
      refine wp_region_seq W (Upd.refl _ _) ?_
      repeat (go_big_quiet_step (first
        | (go_at_call 14; exact new_call (check_yes b m E _ (H2.out.new (NewW.h _)) (H3.out.new (NewW.h _)) K1.out))
        | (go_at_call 23; exact new_call (Hhas.out _ (H2.out.new (NewW.h _)) (H3.out.new (NewW.h _))))))
      refine wpQuiet_nil ?_
      rintro _ ⟨nq, rfl⟩
      go_wp2_with fail
      go_ret
      refine ⟨?_, Hu.out.trans_new nq.h⟩
      rw [← HL.out]
      have : inB b m a n = false := by unfold inB; exact decide_eq_false fun h => by rw [Hh.out] at h; cases h.2.1
      rw [this]; rfl
  · have K1 := hide k1
    clear k1
    refine wp_region_seq W (Upd.refl _ _) ?_
    repeat (go_big_quiet_step ((go_at_call 14; exact new_call (check_no2 b m E _ (H2.out.new (NewW.h _)) (H3.out.new (NewW.h _)) K1.out))))
    refine wpQuiet_nil ?_
    rintro _ ⟨nq, rfl⟩
    go_wp2_with fail
    go_ret
    refine ⟨?_, Hu.out.trans_new nq.h⟩
    rw [← HL.out]
    have : inB b m a n = false := by unfold inB; exact decide_eq_false fun h => K1.out h.1
    rw [this]; rfl

set_option maxHeartbeats 1000000 in
theorem size_any (a n : Int) (E : Nat → Addr) (w : World) (h2 : Sen w gBound (E 2)) (h3 : Sen w gShape (E 3)) :
    Calls Tryz.prog 27 #[.agg #[.int .i64 a, .int .i64 n]] w fun e w1 => e = .returned (.int .i64 (if chk a n = 0 then ((2 ^ (32 - n.toNat) : Nat) : Int) else 0)) ∧ New w w1 := by
  have b0 := Blk.new w 23 #[.int .i64 a, .int .i64 n]
  have u := (Upd.refl (fun _ => False) w).alloc (.cells #[.int .i64 a, .int .i64 n] 23)
  have Hb0 := hide b0
  have Hu := hide u
  have H2 := hide (h2.new u)
  have H3 := hide (h3.new u)
  clear b0 u h2 h3
  by_cases k1 : chk a n = 0
  · rw [if_pos k1]
    have hn := (chk_zero k1).2.1
    have hw : wrap64 (2 ^ (32 - n).toNat) = ((2 ^ (32 - n.toNat) : Nat) : Int) := by
      rw [show (32 - n).toNat = 32 - n.toNat by omega]
      exact w64_pow _ (by omega)
    have Hw := hide hw
    obtain ⟨n0, n1⟩ := hn
    have Hc := hide (check_yes a n E _ H2.out H3.out k1)
    clear k1 hw
    go_enter Tryz.func27, Tryz.ntmps27
    go_wp2_with fail
    refine Hc.out.mono ?_
    rintro e w1 ⟨rfl, hu1⟩
    have b1 := Hb0.out.new_ hu1
    have c00 := b1.cell 0
    have c01 := b1.cell 1
    have z1 := b1.lt
    simp only [List.getElem?_toArray, List.getElem?_cons_zero, List.getElem?_cons_succ] at c00 c01
    clear b1
    go_wp2_with fail
    go_ret
    refine ⟨?_, Hu.out.trans_new hu1⟩
    rw [← Hw.out]
    rfl
  · rw [if_neg k1]
    have Hc := hide (check_no a n E _ H2.out H3.out k1)
    clear k1
    go_enter Tryz.func27, Tryz.ntmps27
    go_wp2_with fail
    refine Hc.out.mono ?_
    unfold errv
    rintro e w1 ⟨rfl, hu1⟩
    go_wp2_with fail
    go_ret
    exact ⟨rfl, Hu.out.trans_new hu1⟩
end Go.Proofs.YtignngpligicjaaGreatDoor
