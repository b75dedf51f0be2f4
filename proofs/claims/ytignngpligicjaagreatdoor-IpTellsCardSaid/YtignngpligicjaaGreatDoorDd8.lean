/- The document's texts: PrefixText. No condition but those that stand in each theorem. -/
import Derived.Test.YtignngpligicjaaGreatDoorDd7
import Derived.Test.YtignngpligicjaaGreatDoorTx4
namespace Go.Proofs.YtignngpligicjaaGreatDoor
open Go.RowKit

theorem pref_app (x y : List UInt8) : (((⟨x.toArray⟩ : ByteArray) ++ ⟨#[47]⟩) ++ ⟨y.toArray⟩) = ⟨(x ++ 47 :: y).toArray⟩ := by
  apply ByteArray.ext
  simp

set_option maxRecDepth 8000 in
set_option maxHeartbeats 1000000 in
theorem prefTextRef_any (a n : Int) (w : World) : Calls Tryz.prog 17 #[.agg #[.int .i64 a, .int .i64 n]] w fun e w1 => e = .returned (.string ⟨(prefT a n).toArray⟩) ∧ New w w1 := by
  have N := hide ((Upd.refl (fun _ => False) w).alloc (.cells #[.int .i64 a, .int .i64 n] TPf))
  have HB := hide (Blk.new w TPf #[.int .i64 a, .int .i64 n])
  go_enter Tryz.func17, Tryz.ntmps17
  go_upto_region 1 with (fail)
  generalize w.alloc (.cells #[.int .i64 a, .int .i64 n] TPf) = W at *
  generalize w.heap.size = X at *
  have bq := HB.out
  have x0 := bq.cell 0
  have x1 := bq.cell 1
  have xz := bq.lt
  simp only [List.getElem?_toArray, List.getElem?_cons_zero, List.getElem?_cons_succ] at x0 x1
  clear bq
  have hp := prefixError_any a n W
  by_cases hc : chk a n = 0
  · rw [hc] at hp
    have Hp := hide hp
    obtain ⟨ha, hn, _⟩ := chk_zero hc
    have he : prefT a n = addrT a ++ 47 :: Lib.decDigits n.toNat := by
      unfold prefT
      rw [if_pos hc]
      congr 2
      obtain ⟨m, rfl⟩ := Int.eq_ofNat_of_zero_le hn.1
      exact Lib.itoa_nonneg m
    have hd := fun w' => decimal_nat n.toNat w' (by omega)
    rw [Int.toNat_of_nonneg hn.1] at hd
    have l1 := addrT_len a
    have l2 := dec_long n.toNat
    have l3 : (Lib.decDigits n.toNat).length ≤ 100 := by omega
    have ht := fun w' => addrTextRef_any a w'
    generalize Lib.decDigits n.toNat = D at *
    generalize addrT a = T at *
    have He := hide he
    have Hd := hide hd
    have Ht := hide ht
    clear hp hc he hd ht ha hn l2
    go_wp2_with fail
    refine Hp.out.mono ?_
    rintro e w1 ⟨rfl, hu⟩
    have HB := hide (HB.out.new_ hu)
    have N := hide (N.out.trans_new hu)
    clear hu x0 x1 xz
    have bq := HB.out
    have x0 := bq.cell 0
    have x1 := bq.cell 1
    have xz := bq.lt
    simp only [List.getElem?_toArray, List.getElem?_cons_zero, List.getElem?_cons_succ] at x0 x1
    clear bq
    go_upto_region 3 with (fail)
    refine wp_region_new w1 (Upd.refl _ _) (by kernel_rfl) (by kernel_rfl) ?_
    repeat (go_big_quiet_step (first | (go_at_call 11; exact new_call (Ht.out _)) | (go_at_call 66; exact new_call (Hd.out _))))
    refine wpQuiet_nil ?_
    rintro _ ⟨nq, rfl⟩
    obtain ⟨wq, hu⟩ := nq
    dsimp only
    have N := hide (N.out.trans_new hu)
    clear hu x0 x1 xz
    go_wp2_with fail
    go_ret
    refine ⟨?_, N.out⟩
    rw [He.out, ← pref_app]
    rfl
  · have k3 : 0 < chk a n := by omega
    have He := hide (show prefT a n = [] from if_neg hc)
    have Hp := hide hp
    clear hp hc
    go_wp2_with fail
    refine Hp.out.mono ?_
    rintro e w1 ⟨rfl, hu⟩
    have N := hide (N.out.trans_new hu)
    clear hu x0 x1 xz
    go_wp2_with fail
    go_ret
    exact ⟨by rw [He.out]; rfl, N.out⟩
end Go.Proofs.YtignngpligicjaaGreatDoor
