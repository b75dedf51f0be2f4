/- Package ip: Text. No condition but those that stand in each theorem. -/
import Derived.Test.YtignngpligicjaaGreatDoorTx3
import Derived.Test.YtignngpligicjaaGreatDoorRg
import Derived.Test.YtignngpligicjaaGreatDoorPfo
namespace Go.Proofs.YtignngpligicjaaGreatDoor
open Go.RowKit

/-- A prefix in words; what is none is empty. -/
def prefT (a n : Int) : List UInt8 := if chk a n = 0 then addrT a ++ 47 :: Lib.itoa n else []
theorem addrT_len (a : Int) : (addrT a).length ≤ 16 := by
  unfold addrT
  split
  · have := textK_len a.toNat 4
    rw [List.length_drop]; omega
  · simp
set_option maxRecDepth 8000 in
set_option maxHeartbeats 2000000 in
theorem text_any (a n : Int) (E : Nat → Addr) (w : World) (h : TxtOk w) (h2 : Sen w gBound (E 2)) (h3 : Sen w gShape (E 3)) :
    Calls Tryz.prog 16 #[.agg #[.int .i64 a, .int .i64 n]] w fun e w1 => e = .returned (.string ⟨(prefT a n).toArray⟩) ∧ New w w1 := by
  have u := (Upd.refl (fun _ => False) w).alloc (.cells #[.int .i64 a, .int .i64 n] TPf)
  have U := hide u
  have B := hide (Blk.new w TPf #[.int .i64 a, .int .i64 n])
  have H := hide (h.new u)
  by_cases hc : chk a n = 0
  · have Hck := hide (check_yes a n E _ (h2.new u) (h3.new u) hc)
    have He := hide (show prefT a n = addrT a ++ 47 :: Lib.itoa n from if_pos hc)
    obtain ⟨⟨a1, a2⟩, ⟨n1, n2⟩, _⟩ := chk_zero hc
    have Hn := hide (show 0 ≤ n ∧ n ≤ 32 from ⟨n1, n2⟩)
    clear h h2 h3 u hc a1 a2 n1 n2
    go_enter Tryz.func16, Tryz.ntmps16
    go_upto_region 1 with (fail)
    generalize w.alloc (.cells #[.int .i64 a, .int .i64 n] TPf) = W at *
    have bq := B.out
    have c0 := bq.cell 0
    have c1 := bq.cell 1
    have zb := bq.lt
    simp only [List.getElem?_toArray, List.getElem?_cons_zero, List.getElem?_cons_succ] at c0 c1
    clear bq
    go_wp2_with fail
    refine Hck.out.mono ?_
    rintro e w1 ⟨rfl, hu⟩
    have bq := B.out.new_ hu
    have d0 := bq.cell 0
    have d1 := bq.cell 1
    have zd := bq.lt
    simp only [List.getElem?_toArray, List.getElem?_cons_zero, List.getElem?_cons_succ] at d0 d1
    have U1 := hide (U.out.trans_new hu)
    have H1 := hide (H.out.new hu)
    clear bq hu c0 c1 zb Hck
    have Hat := hide (fun w' (nw : New w1 w') => addrText_any a w' (H1.out.new nw))
    have Hit := hide (fun w' (nw : New w1 w') => itoa_any n w' (H1.out.new nw) (by have := Hn.out; omega) (by have := Hn.out; omega))
    have hL := addrT_len a
    have hM : (Lib.itoa n).length ≤ 3 := by
      obtain ⟨m, rfl⟩ := Int.eq_ofNat_of_zero_le Hn.out.1
      exact itoa_len m (by have := Hn.out; omega)
    have hL1 : ¬ 9223372036854775807 < (addrT a).length + 1 := by omega
    have hL2 : ¬ 9223372036854775807 < (addrT a).length + 1 + (Lib.itoa n).length := by omega
    clear hL hM
    go_upto_region 3 with (fail)
    refine wp_region_new w1 (Upd.refl _ _) (by kernel_rfl) (by kernel_rfl) ?_
    repeat (go_big_quiet_step ((first | (go_at_call 10; exact new_call (Hat.out _ (NewW.h _))) | (go_at_call 64; exact new_call (Hit.out _ (NewW.h _))))))
    refine wpQuiet_nil ?_
    rintro _ ⟨nq, rfl⟩
    go_wp2_with fail
    go_ret
    exact ⟨congrArg (fun z => Ending.returned (.string z)) (Go.WideShapes.bytes_inj (by rw [He.out]; simp)), U1.out.trans_new nq.h⟩
  · have hck := check_no a n E _ (h2.new u) (h3.new u) hc
    unfold errv at hck
    have Hck := hide hck
    have He := hide (show prefT a n = [] from if_neg hc)
    clear h h2 h3 u hc hck
    go_enter Tryz.func16, Tryz.ntmps16
    go_upto_region 1 with (fail)
    generalize w.alloc (.cells #[.int .i64 a, .int .i64 n] TPf) = W at *
    have bq := B.out
    have c0 := bq.cell 0
    have c1 := bq.cell 1
    have zb := bq.lt
    simp only [List.getElem?_toArray, List.getElem?_cons_zero, List.getElem?_cons_succ] at c0 c1
    clear bq
    go_wp2_with fail
    refine Hck.out.mono ?_
    rintro e w1 ⟨rfl, hu⟩
    have U1 := hide (U.out.trans_new hu)
    clear hu
    go_wp2_with fail
    go_ret
    exact ⟨by rw [He.out]; rfl, U1.out⟩
end Go.Proofs.YtignngpligicjaaGreatDoor
