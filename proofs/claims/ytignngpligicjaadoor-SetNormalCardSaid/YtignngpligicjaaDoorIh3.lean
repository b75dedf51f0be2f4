/- The one above a prefix. No condition but those that stand in each theorem. -/
import Derived.Test.YtignngpligicjaaDoorPfo
import Derived.Test.YtignngpligicjaaDoorIp4
namespace Go.Proofs.YtignngpligicjaaDoor
open Go.RowKit

set_option maxRecDepth 8000 in
set_option maxHeartbeats 2000000 in
theorem up_yes (a n : Int) (E : Nat → Addr) (w : World) (h2 : Sen w gBound (E 2)) (h3 : Sen w gShape (E 3)) (h : chk a n = 0) (hn : 0 < n) :
    Calls Tryd.prog 14 #[.agg #[.int .i64 a, .int .i64 n]] w fun e w1 => e = .returned (.tuple #[.agg #[.int .i64 (a - (low a.toNat (n - 1).toNat : Int)), .int .i64 (n - 1)], .nilIface]) ∧ New w w1 := by
  have u := ((Upd.refl (fun _ => False) w).alloc (.cells #[.int .i64 a, .int .i64 n] TPf)).alloc (.cells #[.int .i64 0, .int .i64 0] TPf)
  have N := hide u
  have HP := hide ((Blk.new w TPf #[.int .i64 a, .int .i64 n]).alloc (.cells #[.int .i64 0, .int .i64 0] TPf))
  have HR := hide (Blk.at_ (w.alloc (.cells #[.int .i64 a, .int .i64 n] TPf)) TPf #[.int .i64 0, .int .i64 0] (w.heap.size + 1) (by simp))
  obtain ⟨ha, hn0, _⟩ := chk_zero h
  have Hc := hide (check_yes a n E _ (h2.new u) (h3.new u) h)
  have Hcu := hide (fun w' => cut_yes a (n - 1) ha ⟨by omega, by omega⟩ w')
  have hw : wrap64 (n - 1) = n - 1 := IntWalk.wrap64_in _ ⟨by omega, by omega⟩
  have hz : ¬ n = 0 := by omega
  obtain ⟨L, hL⟩ : ∃ L : Int, L = (low a.toNat (n - 1).toNat : Int) := ⟨_, rfl⟩
  rw [← hL] at Hcu ⊢
  clear h2 h3 u h hn0 ha hn hL
  go_enter Tryd.func14, Tryd.ntmps14
  go_upto_region 1 with (fail)
  generalize (w.alloc (.cells #[.int .i64 a, .int .i64 n] TPf)).alloc (.cells #[.int .i64 0, .int .i64 0] TPf) = W at *
  have hR : w.heap.size ≤ w.heap.size + 1 := by omega
  generalize w.heap.size + 1 = R at *
  have bq := HP.out
  have p0 := bq.cell 0
  have p1 := bq.cell 1
  have pz := bq.lt
  simp only [List.getElem?_toArray, List.getElem?_cons_zero, List.getElem?_cons_succ] at p0 p1
  clear bq
  go_wp2_with fail
  refine Hc.out.mono ?_
  rintro e w1 ⟨rfl, hu⟩
  have N := hide (N.out.trans_new hu)
  have HP := hide (HP.out.new_ hu)
  have HR := hide (HR.out.new_ hu)
  clear p0 p1 pz hu Hc
  have bq := HP.out
  have p0 := bq.cell 0
  have p1 := bq.cell 1
  have pz := bq.lt
  simp only [List.getElem?_toArray, List.getElem?_cons_zero, List.getElem?_cons_succ] at p0 p1
  clear bq
  go_wp2_with fail
  rw [hw]
  refine (Hcu.out w1).mono ?_
  rintro e w2 ⟨rfl, hu⟩
  have N := hide (N.out.trans_new hu)
  have HR := hide (HR.out.new_ hu)
  clear p0 p1 pz hu Hcu
  have bq := HR.out
  have r0 := bq.cell 0
  have r1 := bq.cell 1
  have f0 := bq.frozen 0
  have f1 := bq.frozen 1
  have zR := bq.lt
  simp only [List.getElem?_toArray, List.getElem?_cons_zero, List.getElem?_cons_succ] at r0 r1
  clear bq
  go_wp2_with fail
  refine bodyPost_ret (pf_err_out Tryd.results14 rfl (pf_set HR.out)) rfl ?_
  exact ⟨rfl, pf_new N.out hR⟩

set_option maxRecDepth 8000 in
set_option maxHeartbeats 2000000 in
theorem up_zero (a n : Int) (E : Nat → Addr) (w : World) (h2 : Sen w gBound (E 2)) (h3 : Sen w gShape (E 3)) (h5 : Sen w gNone (E 5)) (h : chk a n = 0) (hn : n = 0) :
    Calls Tryd.prog 14 #[.agg #[.int .i64 a, .int .i64 n]] w fun e w1 => e = .returned (.tuple #[.agg #[.int .i64 0, .int .i64 0], errv (E 5)]) ∧ New w w1 := by
  subst hn
  have u := ((Upd.refl (fun _ => False) w).alloc (.cells #[.int .i64 a, .int .i64 0] TPf)).alloc (.cells #[.int .i64 0, .int .i64 0] TPf)
  have N := hide u
  have HP := hide ((Blk.new w TPf #[.int .i64 a, .int .i64 0]).alloc (.cells #[.int .i64 0, .int .i64 0] TPf))
  have HR := hide (Blk.at_ (w.alloc (.cells #[.int .i64 a, .int .i64 0] TPf)) TPf #[.int .i64 0, .int .i64 0] (w.heap.size + 1) (by simp))
  have Hc := hide (check_yes a 0 E _ (h2.new u) (h3.new u) h)
  have hz5 : 0 < w.heap.size := h5.lt
  have q5 : ¬ (w.heap.size + 1 = 0) := by omega
  have q51 : ¬ (0 = w.heap.size + 1) := by omega
  have H5 := hide (h5.new u)
  clear h2 h3 h5 u h
  unfold errv
  go_enter Tryd.func14, Tryd.ntmps14
  go_upto_region 1 with (fail)
  generalize (w.alloc (.cells #[.int .i64 a, .int .i64 0] TPf)).alloc (.cells #[.int .i64 0, .int .i64 0] TPf) = W at *
  have hR : w.heap.size ≤ w.heap.size + 1 := by omega
  generalize w.heap.size + 1 = R at *
  have bq := HP.out
  have p0 := bq.cell 0
  have p1 := bq.cell 1
  have pz := bq.lt
  simp only [List.getElem?_toArray, List.getElem?_cons_zero, List.getElem?_cons_succ] at p0 p1
  clear bq
  go_wp2_with fail
  refine Hc.out.mono ?_
  rintro e w1 ⟨rfl, hu⟩
  have N := hide (N.out.trans_new hu)
  have HP := hide (HP.out.new_ hu)
  have HR := hide (HR.out.new_ hu)
  have H5 := hide (H5.out.new hu)
  clear p0 p1 pz hu Hc
  have bq := HP.out
  have p0 := bq.cell 0
  have p1 := bq.cell 1
  have pz := bq.lt
  simp only [List.getElem?_toArray, List.getElem?_cons_zero, List.getElem?_cons_succ] at p0 p1
  clear bq
  have bq := HR.out
  have r0 := bq.cell 0
  have r1 := bq.cell 1
  have f0 := bq.frozen 0
  have f1 := bq.frozen 1
  have zR := bq.lt
  simp only [List.getElem?_toArray, List.getElem?_cons_zero, List.getElem?_cons_succ] at r0 r1
  clear bq
  have e1 : w1.cell? ⟨0, 0, none⟩ = some (errv (E 5)) := H5.out
  have z1 : 0 < w1.heap.size := H5.out.lt
  unfold errv at e1
  go_wp2_with fail
  go_region
  all_goals
    go_wp2_with fail
    refine bodyPost_ret (pf_err_out Tryd.results14 rfl (pf_set HR.out).drew) rfl ?_
    exact ⟨rfl, (pf_new N.out hR).drew⟩
end Go.Proofs.YtignngpligicjaaDoor
