/- The reference's order of prefixes; faults. No condition but those that stand in each theorem. -/
import Derived.Test.YtignngpligicjaaGreatDoorRf1
import Derived.Test.YtignngpligicjaaGreatDoorIp3
namespace Go.Proofs.YtignngpligicjaaGreatDoor
open Go.RowKit

def aheadB (a n b m : Int) : Bool := if a = b then decide (n < m) else decide (a < b)
theorem ahead_cmp (a n b m : Int) : aheadB a n b m = decide (cmpP a n b m < 0) := by
  unfold aheadB cmpP
  by_cases h : a = b
  · subst h
    rw [if_pos rfl]
    simp only [sgn, firstNZ]
    split <;> (try split) <;> (try split) <;> simp_all <;> omega
  · rw [if_neg h]
    simp only [sgn, firstNZ]
    split <;> (try split) <;> (try split) <;> simp_all <;> omega
theorem less_ahead (a n b m : Int) (h1 : chk a n = 0) (h2 : chk b m = 0) : lessB a n b m = aheadB a n b m := by
  rw [ahead_cmp]
  unfold lessB
  simp [h1, h2]

set_option maxHeartbeats 1000000 in
theorem isAhead_any (a n b m : Int) (w : World) : Calls Tryz.prog 69 #[.agg #[.int .i64 a, .int .i64 n], .agg #[.int .i64 b, .int .i64 m]] w fun e w1 => e = .returned (.bool (aheadB a n b m)) ∧ New w w1 := by
  have u := ((Upd.refl (fun _ => False) w).alloc (.cells #[.int .i64 a, .int .i64 n] 23)).alloc (.cells #[.int .i64 b, .int .i64 m] 23)
  have Hu := hide u
  clear u
  by_cases h : a = b
  · have e : aheadB a n b m = decide (n < m) := if_pos h
    have He := hide e
    have h1 : (a != b) = false := by simp [h]
    clear e h
    go_enter Tryz.func69, Tryz.ntmps69
    go_wp2_with fail
    go_ret
    exact ⟨ret_bool He.out.symm, Hu.out⟩
  · have e : aheadB a n b m = decide (a < b) := if_neg h
    have He := hide e
    have h1 : (a != b) = true := by simp [h]
    clear e h
    go_enter Tryz.func69, Tryz.ntmps69
    go_wp2_with fail
    go_ret
    exact ⟨ret_bool He.out.symm, Hu.out⟩

set_option maxHeartbeats 1000000 in
theorem isLess_any (a n b m : Int) (w : World) : Calls Tryz.prog 22 #[.agg #[.int .i64 a, .int .i64 n], .agg #[.int .i64 b, .int .i64 m]] w fun e w1 => e = .returned (.bool (lessB a n b m)) ∧ New w w1 := by
  have u := ((Upd.refl (fun _ => False) w).alloc (.cells #[.int .i64 a, .int .i64 n] 23)).alloc (.cells #[.int .i64 b, .int .i64 m] 23)
  have b0 := (Blk.new w 23 #[.int .i64 a, .int .i64 n]).alloc (.cells #[.int .i64 b, .int .i64 m] 23)
  have b1 := Blk.at_ (w.alloc (.cells #[.int .i64 a, .int .i64 n] 23)) 23 #[.int .i64 b, .int .i64 m] (w.heap.size + 1) (by simp)
  have Hu := hide u
  have Hb0 := hide b0
  have Hb1 := hide b1
  clear u b0 b1
  go_enter Tryz.func22, Tryz.ntmps22
  go_upto_region 1 with (fail)
  generalize ((w.alloc (.cells #[.int .i64 a, .int .i64 n] 23)).alloc (.cells #[.int .i64 b, .int .i64 m] 23)) = W at *
  have c00 := Hb0.out.cell 0
  have c01 := Hb0.out.cell 1
  have c10 := Hb1.out.cell 0
  have c11 := Hb1.out.cell 1
  have z0 := Hb0.out.lt
  have z1 := Hb1.out.lt
  simp only [List.getElem?_toArray, List.getElem?_cons_zero, List.getElem?_cons_succ] at c00 c01 c10 c11
  have step : ∀ a n (w : World), Calls Tryz.prog 15 #[.agg #[.int .i64 a, .int .i64 n]] w fun e w1 => e = .returned (.int .i64 (chk a n : Nat)) ∧ New w w1 := fun a n w => prefixError_any a n w
  have Hp := hide step
  clear step
  by_cases k1 : chk a n = 0
  · by_cases k2 : chk b m = 0
    · have K1 := hide k1
      have K2 := hide k2
      refine wp_region_seq W (Upd.refl _ _) ?_
      repeat (go_big_quiet_step ((go_at_call 15; exact new_call (Hp.out _ _ _))))
      refine wpQuiet_nil ?_
      rintro _ ⟨nq, rfl⟩
      have n1 := nq.h
      have x00 := (n1.cell z0 (fun x => x)).trans c00
      have x01 := (n1.cell z0 (fun x => x)).trans c01
      have x10 := (n1.cell z1 (fun x => x)).trans c10
      have x11 := (n1.cell z1 (fun x => x)).trans c11
      have y0 := Nat.lt_of_lt_of_le z0 n1.size
      have y1 := Nat.lt_of_lt_of_le z1 n1.size
      have N1 := hide n1
      have Ha := hide (isAhead_any a n b m nq.w)
      clear n1 c00 c01 c10 c11 z0 z1 k1 k2
      go_wp2_with fail
      refine Ha.out.mono ?_
      rintro e w2 ⟨rfl, hu2⟩
      go_wp2_with fail
      go_ret
      exact ⟨ret_bool (less_ahead a n b m K1.out K2.out).symm, (Hu.out.trans_new N1.out).trans_new hu2⟩
    · have hf : lessB a n b m = false := by unfold lessB; exact decide_eq_false fun h => k2 h.2.1
      have Hf := hide hf
      have k3 : 0 < chk b m := by omega
      clear hf k2
      refine wp_region_seq W (Upd.refl _ _) ?_
      repeat (go_big_quiet_step ((go_at_call 15; exact new_call (Hp.out _ _ _))))
      refine wpQuiet_nil ?_
      rintro _ ⟨nq, rfl⟩
      go_wp2_with fail
      go_ret
      exact ⟨ret_bool Hf.out.symm, Hu.out.trans_new nq.h⟩
  · have hf : lessB a n b m = false := by unfold lessB; exact decide_eq_false fun h => k1 h.1
    have Hf := hide hf
    have k3 : 0 < chk a n := by omega
    clear hf k1
    refine wp_region_seq W (Upd.refl _ _) ?_
    repeat (go_big_quiet_step ((go_at_call 15; exact new_call (Hp.out _ _ _))))
    refine wpQuiet_nil ?_
    rintro _ ⟨nq, rfl⟩
    go_wp2_with fail
    go_ret
    exact ⟨ret_bool Hf.out.symm, Hu.out.trans_new nq.h⟩

abbrev TRF : TypeId := 51
def faultV (c : Nat × Int) : Value := .agg #[.int .i64 (c.1 : Nat), .int .i64 c.2]
def faultC (c : Nat × Int) : Array Value := #[.int .i64 (c.1 : Nat), .int .i64 c.2]
set_option maxHeartbeats 400000 in
theorem bareF_any (c : Nat) (w : World) : Calls Tryz.prog 85 #[.int .i64 c] w fun e w1 => e = .returned (faultV (c, -1)) ∧ New w w1 := by
  go_enter Tryz.func85, Tryz.ntmps85
  go_wp2
  refine bodyPost_ret (v := faultV (c, -1)) (by simp [results, faultV, Tryz.results85, go_sem]) rfl ⟨rfl, ?_⟩
  exact (Upd.refl _ _).alloc _
set_option maxHeartbeats 400000 in
theorem fineF_any (w : World) : Calls Tryz.prog 75 #[] w fun e w1 => e = .returned (faultV (0, -1)) ∧ New w w1 := by
  go_enter Tryz.func75, Tryz.ntmps75
  go_wp2
  refine bodyPost_ret (v := faultV (0, -1)) (by simp [results, faultV, Tryz.results75, go_sem]) rfl ⟨rfl, ?_⟩
  exact (Upd.refl _ _).alloc _
end Go.Proofs.YtignngpligicjaaGreatDoor
