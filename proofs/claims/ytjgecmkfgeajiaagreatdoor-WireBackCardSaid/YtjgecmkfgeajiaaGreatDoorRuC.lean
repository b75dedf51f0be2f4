/- Package attr: Same, Own. No condition but those that stand in each theorem. -/
import Derived.Test.YtjgecmkfgeajiaaGreatDoorRu1
import Derived.Test.YtjgecmkfgeajiaaGreatDoorOw1
import Derived.Test.YtjgecmkfgeajiaaGreatDoorRs1
namespace Go.Proofs.YtjgecmkfgeajiaaGreatDoor
open Go.RowKit

set_option maxRecDepth 8000 in
set_option maxHeartbeats 4000000 in
theorem attrSame_any (a b : AttrR) (w : World) (ha : AttrOk w a) (hb : AttrOk w b) (la : a.path.length ≤ 1000) (la2 : a.tags.length ≤ 1000) (lb : b.path.length ≤ 1000) (lb2 : b.tags.length ≤ 1000) :
    Calls Tryz.prog 14 #[.agg a.cells, .agg b.cells] w fun e w1 => e = .returned (.bool (decide (a.con = b.con))) ∧ New w w1 := by
  have u := ((Upd.refl (fun _ => False) w).alloc (.cells a.cells TA)).alloc (.cells b.cells TA)
  have b0 := (Blk.new w TA a.cells).alloc (.cells b.cells TA)
  have b1 := Blk.at_ (w.alloc (.cells a.cells TA)) TA b.cells (w.heap.size + 1) (by simp)
  have Ha := hide (ha.new_ u)
  have Hb := hide (hb.new_ u)
  have Hu := hide u
  have Hb0 := hide b0
  have Hb1 := hide b1
  clear ha hb u b0 b1
  unfold AttrR.cells at *
  by_cases h_path : a.path = b.path
  · by_cases h_tags : a.tags = b.tags
    · by_cases h_pref : a.pref = b.pref
      · by_cases h_med : a.med = b.med
        · by_cases h_origin : a.origin = b.origin
          · have k_pref : (a.pref == b.pref) = true := by simp [h_pref]
            have k_med : (a.med == b.med) = true := by simp [h_med]
            have k_origin : (a.origin == b.origin) = true := by simp [h_origin]
            have He := hide (show decide (a.con = b.con) = true from decide_eq_true (by unfold AttrR.con; rw [h_path, h_pref, h_med, h_origin, h_tags]))
            have q1 := fun w1 (n : New _ w1) => equalInt_any a.P b.P a.path.length b.path.length a.pc b.pc a.path b.path w1 (Ha.out.path.new_ n) (Hb.out.path.new_ n) rfl rfl (by omega) (by omega)
            have q2 := fun w1 (n : New _ w1) => equalInt_any a.T b.T a.tags.length b.tags.length a.tc b.tc a.tags b.tags w1 (Ha.out.tags.new_ n) (Hb.out.tags.new_ n) rfl rfl (by omega) (by omega)
            rw [decide_eq_true h_path] at q1
            rw [decide_eq_true h_tags] at q2
            have Q1 := hide q1
            have Q2 := hide q2
            clear q1 q2 h_path h_tags h_pref h_med h_origin
            go_enter Tryz.func14, Tryz.ntmps14
            go_upto_region 1 with (fail)
            generalize ((w.alloc (.cells #[.slice a.P a.path.length a.pc, .int .i64 a.pref, .int .i64 a.med, .int .i64 a.origin, .slice a.T a.tags.length a.tc] TA)).alloc (.cells #[.slice b.P b.path.length b.pc, .int .i64 b.pref, .int .i64 b.med, .int .i64 b.origin, .slice b.T b.tags.length b.tc] TA)) = W at *
            have bq := Hb0.out
            have m0 := bq.cell 0
            have m1 := bq.cell 1
            have m2 := bq.cell 2
            have m3 := bq.cell 3
            have m4 := bq.cell 4
            have zM := bq.lt
            simp only [List.getElem?_toArray, List.getElem?_cons_zero, List.getElem?_cons_succ] at m0 m1 m2 m3 m4
            clear bq
            have bq := Hb1.out
            have n0 := bq.cell 0
            have n1 := bq.cell 1
            have n2 := bq.cell 2
            have n3 := bq.cell 3
            have n4 := bq.cell 4
            have zN := bq.lt
            simp only [List.getElem?_toArray, List.getElem?_cons_zero, List.getElem?_cons_succ] at n0 n1 n2 n3 n4
            clear bq
            refine wp_region_seq W (Upd.refl _ _) ?_
            iterate 5 (go_big_quiet_step ((go_at_call 37; exact new_call (Q1.out _ (NewW.h _)))))
            repeat (go_big_quiet_step ((go_at_call 37; exact new_call (Q2.out _ (NewW.h _)))))
            refine wpQuiet_nil ?_
            rintro _ ⟨nq, rfl⟩
            go_wp2_with fail
            go_ret
            exact ⟨ret_bool He.out.symm, Hu.out.trans_new nq.h⟩
          · have k_pref : (a.pref == b.pref) = true := by simp [h_pref]
            have k_med : (a.med == b.med) = true := by simp [h_med]
            have k_origin : (a.origin == b.origin) = false := by simp [h_origin]
            have He := hide (show decide (a.con = b.con) = false from decide_eq_false (fun h => h_origin (congrArg AtC.origin h)))
            have q1 := fun w1 (n : New _ w1) => equalInt_any a.P b.P a.path.length b.path.length a.pc b.pc a.path b.path w1 (Ha.out.path.new_ n) (Hb.out.path.new_ n) rfl rfl (by omega) (by omega)
            have q2 := fun w1 (n : New _ w1) => equalInt_any a.T b.T a.tags.length b.tags.length a.tc b.tc a.tags b.tags w1 (Ha.out.tags.new_ n) (Hb.out.tags.new_ n) rfl rfl (by omega) (by omega)
            rw [decide_eq_true h_path] at q1
            rw [decide_eq_true h_tags] at q2
            have Q1 := hide q1
            have Q2 := hide q2
            clear q1 q2 h_path h_tags h_pref h_med h_origin
            go_enter Tryz.func14, Tryz.ntmps14
            go_upto_region 1 with (fail)
            generalize ((w.alloc (.cells #[.slice a.P a.path.length a.pc, .int .i64 a.pref, .int .i64 a.med, .int .i64 a.origin, .slice a.T a.tags.length a.tc] TA)).alloc (.cells #[.slice b.P b.path.length b.pc, .int .i64 b.pref, .int .i64 b.med, .int .i64 b.origin, .slice b.T b.tags.length b.tc] TA)) = W at *
            have bq := Hb0.out
            have m0 := bq.cell 0
            have m1 := bq.cell 1
            have m2 := bq.cell 2
            have m3 := bq.cell 3
            have m4 := bq.cell 4
            have zM := bq.lt
            simp only [List.getElem?_toArray, List.getElem?_cons_zero, List.getElem?_cons_succ] at m0 m1 m2 m3 m4
            clear bq
            have bq := Hb1.out
            have n0 := bq.cell 0
            have n1 := bq.cell 1
            have n2 := bq.cell 2
            have n3 := bq.cell 3
            have n4 := bq.cell 4
            have zN := bq.lt
            simp only [List.getElem?_toArray, List.getElem?_cons_zero, List.getElem?_cons_succ] at n0 n1 n2 n3 n4
            clear bq
            refine wp_region_seq W (Upd.refl _ _) ?_
            iterate 5 (go_big_quiet_step ((go_at_call 37; exact new_call (Q1.out _ (NewW.h _)))))
            repeat (go_big_quiet_step ((go_at_call 37; exact new_call (Q2.out _ (NewW.h _)))))
            refine wpQuiet_nil ?_
            rintro _ ⟨nq, rfl⟩
            go_wp2_with fail
            go_ret
            exact ⟨ret_bool He.out.symm, Hu.out.trans_new nq.h⟩
        · have k_pref : (a.pref == b.pref) = true := by simp [h_pref]
          have k_med : (a.med == b.med) = false := by simp [h_med]
          have He := hide (show decide (a.con = b.con) = false from decide_eq_false (fun h => h_med (congrArg AtC.med h)))
          have q1 := fun w1 (n : New _ w1) => equalInt_any a.P b.P a.path.length b.path.length a.pc b.pc a.path b.path w1 (Ha.out.path.new_ n) (Hb.out.path.new_ n) rfl rfl (by omega) (by omega)
          have q2 := fun w1 (n : New _ w1) => equalInt_any a.T b.T a.tags.length b.tags.length a.tc b.tc a.tags b.tags w1 (Ha.out.tags.new_ n) (Hb.out.tags.new_ n) rfl rfl (by omega) (by omega)
          rw [decide_eq_true h_path] at q1
          rw [decide_eq_true h_tags] at q2
          have Q1 := hide q1
          have Q2 := hide q2
          clear q1 q2 h_path h_tags h_pref h_med
          go_enter Tryz.func14, Tryz.ntmps14
          go_upto_region 1 with (fail)
          generalize ((w.alloc (.cells #[.slice a.P a.path.length a.pc, .int .i64 a.pref, .int .i64 a.med, .int .i64 a.origin, .slice a.T a.tags.length a.tc] TA)).alloc (.cells #[.slice b.P b.path.length b.pc, .int .i64 b.pref, .int .i64 b.med, .int .i64 b.origin, .slice b.T b.tags.length b.tc] TA)) = W at *
          have bq := Hb0.out
          have m0 := bq.cell 0
          have m1 := bq.cell 1
          have m2 := bq.cell 2
          have m3 := bq.cell 3
          have m4 := bq.cell 4
          have zM := bq.lt
          simp only [List.getElem?_toArray, List.getElem?_cons_zero, List.getElem?_cons_succ] at m0 m1 m2 m3 m4
          clear bq
          have bq := Hb1.out
          have n0 := bq.cell 0
          have n1 := bq.cell 1
          have n2 := bq.cell 2
          have n3 := bq.cell 3
          have n4 := bq.cell 4
          have zN := bq.lt
          simp only [List.getElem?_toArray, List.getElem?_cons_zero, List.getElem?_cons_succ] at n0 n1 n2 n3 n4
          clear bq
          refine wp_region_seq W (Upd.refl _ _) ?_
          iterate 5 (go_big_quiet_step ((go_at_call 37; exact new_call (Q1.out _ (NewW.h _)))))
          repeat (go_big_quiet_step ((go_at_call 37; exact new_call (Q2.out _ (NewW.h _)))))
          refine wpQuiet_nil ?_
          rintro _ ⟨nq, rfl⟩
          go_wp2_with fail
          go_ret
          exact ⟨ret_bool He.out.symm, Hu.out.trans_new nq.h⟩
      · have k_pref : (a.pref == b.pref) = false := by simp [h_pref]
        have He := hide (show decide (a.con = b.con) = false from decide_eq_false (fun h => h_pref (congrArg AtC.pref h)))
        have q1 := fun w1 (n : New _ w1) => equalInt_any a.P b.P a.path.length b.path.length a.pc b.pc a.path b.path w1 (Ha.out.path.new_ n) (Hb.out.path.new_ n) rfl rfl (by omega) (by omega)
        have q2 := fun w1 (n : New _ w1) => equalInt_any a.T b.T a.tags.length b.tags.length a.tc b.tc a.tags b.tags w1 (Ha.out.tags.new_ n) (Hb.out.tags.new_ n) rfl rfl (by omega) (by omega)
        rw [decide_eq_true h_path] at q1
        rw [decide_eq_true h_tags] at q2
        have Q1 := hide q1
        have Q2 := hide q2
        clear q1 q2 h_path h_tags h_pref
        go_enter Tryz.func14, Tryz.ntmps14
        go_upto_region 1 with (fail)
        generalize ((w.alloc (.cells #[.slice a.P a.path.length a.pc, .int .i64 a.pref, .int .i64 a.med, .int .i64 a.origin, .slice a.T a.tags.length a.tc] TA)).alloc (.cells #[.slice b.P b.path.length b.pc, .int .i64 b.pref, .int .i64 b.med, .int .i64 b.origin, .slice b.T b.tags.length b.tc] TA)) = W at *
        have bq := Hb0.out
        have m0 := bq.cell 0
        have m1 := bq.cell 1
        have m2 := bq.cell 2
        have m3 := bq.cell 3
        have m4 := bq.cell 4
        have zM := bq.lt
        simp only [List.getElem?_toArray, List.getElem?_cons_zero, List.getElem?_cons_succ] at m0 m1 m2 m3 m4
        clear bq
        have bq := Hb1.out
        have n0 := bq.cell 0
        have n1 := bq.cell 1
        have n2 := bq.cell 2
        have n3 := bq.cell 3
        have n4 := bq.cell 4
        have zN := bq.lt
        simp only [List.getElem?_toArray, List.getElem?_cons_zero, List.getElem?_cons_succ] at n0 n1 n2 n3 n4
        clear bq
        refine wp_region_seq W (Upd.refl _ _) ?_
        iterate 5 (go_big_quiet_step ((go_at_call 37; exact new_call (Q1.out _ (NewW.h _)))))
        repeat (go_big_quiet_step ((go_at_call 37; exact new_call (Q2.out _ (NewW.h _)))))
        refine wpQuiet_nil ?_
        rintro _ ⟨nq, rfl⟩
        go_wp2_with fail
        go_ret
        exact ⟨ret_bool He.out.symm, Hu.out.trans_new nq.h⟩
    · have He := hide (show decide (a.con = b.con) = false from decide_eq_false (fun h => h_tags (congrArg AtC.tags h)))
      have q1 := fun w1 (n : New _ w1) => equalInt_any a.P b.P a.path.length b.path.length a.pc b.pc a.path b.path w1 (Ha.out.path.new_ n) (Hb.out.path.new_ n) rfl rfl (by omega) (by omega)
      have q2 := fun w1 (n : New _ w1) => equalInt_any a.T b.T a.tags.length b.tags.length a.tc b.tc a.tags b.tags w1 (Ha.out.tags.new_ n) (Hb.out.tags.new_ n) rfl rfl (by omega) (by omega)
      rw [decide_eq_true h_path] at q1
      rw [decide_eq_false h_tags] at q2
      have Q1 := hide q1
      have Q2 := hide q2
      clear q1 q2 h_path h_tags
      go_enter Tryz.func14, Tryz.ntmps14
      go_upto_region 1 with (fail)
      generalize ((w.alloc (.cells #[.slice a.P a.path.length a.pc, .int .i64 a.pref, .int .i64 a.med, .int .i64 a.origin, .slice a.T a.tags.length a.tc] TA)).alloc (.cells #[.slice b.P b.path.length b.pc, .int .i64 b.pref, .int .i64 b.med, .int .i64 b.origin, .slice b.T b.tags.length b.tc] TA)) = W at *
      have bq := Hb0.out
      have m0 := bq.cell 0
      have m1 := bq.cell 1
      have m2 := bq.cell 2
      have m3 := bq.cell 3
      have m4 := bq.cell 4
      have zM := bq.lt
      simp only [List.getElem?_toArray, List.getElem?_cons_zero, List.getElem?_cons_succ] at m0 m1 m2 m3 m4
      clear bq
      have bq := Hb1.out
      have n0 := bq.cell 0
      have n1 := bq.cell 1
      have n2 := bq.cell 2
      have n3 := bq.cell 3
      have n4 := bq.cell 4
      have zN := bq.lt
      simp only [List.getElem?_toArray, List.getElem?_cons_zero, List.getElem?_cons_succ] at n0 n1 n2 n3 n4
      clear bq
      refine wp_region_seq W (Upd.refl _ _) ?_
      iterate 5 (go_big_quiet_step ((go_at_call 37; exact new_call (Q1.out _ (NewW.h _)))))
      repeat (go_big_quiet_step ((go_at_call 37; exact new_call (Q2.out _ (NewW.h _)))))
      refine wpQuiet_nil ?_
      rintro _ ⟨nq, rfl⟩
      go_wp2_with fail
      go_ret
      exact ⟨ret_bool He.out.symm, Hu.out.trans_new nq.h⟩
  · have He := hide (show decide (a.con = b.con) = false from decide_eq_false (fun h => h_path (congrArg AtC.path h)))
    have q1 := fun w1 (n : New _ w1) => equalInt_any a.P b.P a.path.length b.path.length a.pc b.pc a.path b.path w1 (Ha.out.path.new_ n) (Hb.out.path.new_ n) rfl rfl (by omega) (by omega)
    have q2 := fun w1 (n : New _ w1) => equalInt_any a.T b.T a.tags.length b.tags.length a.tc b.tc a.tags b.tags w1 (Ha.out.tags.new_ n) (Hb.out.tags.new_ n) rfl rfl (by omega) (by omega)
    rw [decide_eq_false h_path] at q1
    have Q1 := hide q1
    have Q2 := hide q2
    clear q1 q2 h_path
    go_enter Tryz.func14, Tryz.ntmps14
    go_upto_region 1 with (fail)
    generalize ((w.alloc (.cells #[.slice a.P a.path.length a.pc, .int .i64 a.pref, .int .i64 a.med, .int .i64 a.origin, .slice a.T a.tags.length a.tc] TA)).alloc (.cells #[.slice b.P b.path.length b.pc, .int .i64 b.pref, .int .i64 b.med, .int .i64 b.origin, .slice b.T b.tags.length b.tc] TA)) = W at *
    have bq := Hb0.out
    have m0 := bq.cell 0
    have m1 := bq.cell 1
    have m2 := bq.cell 2
    have m3 := bq.cell 3
    have m4 := bq.cell 4
    have zM := bq.lt
    simp only [List.getElem?_toArray, List.getElem?_cons_zero, List.getElem?_cons_succ] at m0 m1 m2 m3 m4
    clear bq
    have bq := Hb1.out
    have n0 := bq.cell 0
    have n1 := bq.cell 1
    have n2 := bq.cell 2
    have n3 := bq.cell 3
    have n4 := bq.cell 4
    have zN := bq.lt
    simp only [List.getElem?_toArray, List.getElem?_cons_zero, List.getElem?_cons_succ] at n0 n1 n2 n3 n4
    clear bq
    refine wp_region_seq W (Upd.refl _ _) ?_
    iterate 5 (go_big_quiet_step ((go_at_call 37; exact new_call (Q1.out _ (NewW.h _)))))
    repeat (go_big_quiet_step ((go_at_call 37; exact new_call (Q2.out _ (NewW.h _)))))
    refine wpQuiet_nil ?_
    rintro _ ⟨nq, rfl⟩
    go_wp2_with fail
    go_ret
    exact ⟨ret_bool He.out.symm, Hu.out.trans_new nq.h⟩

/-- The own attributes. -/
def ownR : AttrR := ⟨none, 0, [], 100, 0, 0, none, 0, []⟩
theorem ownR_ok (w : World) : AttrOk w ownR := ⟨Ints.nil, Ints.nil, Nat.le_refl _, Nat.le_refl _⟩
end Go.Proofs.YtjgecmkfgeajiaaGreatDoor
