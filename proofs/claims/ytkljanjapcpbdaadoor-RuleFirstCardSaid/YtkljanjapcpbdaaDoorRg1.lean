/- The law RuleFirst: the ends ahead of its work. No condition but those that stand in each theorem. -/
import Derived.Test.YtkljanjapcpbdaaDoorRuE
namespace Go.Proofs.YtkljanjapcpbdaaDoor
open Go.RowKit

set_option maxRecDepth 20000 in
set_option maxHeartbeats 4000000 in
theorem rf_early (A : Option Addr) (n c : Nat) (l : List RuR) (s x m : Int) (a : AttrR) (y : AtC) (E : Nat → Addr) (w : World) (h2 : Sen w gBound (E 2)) (h3 : Sen w gShape (E 3)) (h7 : Sen w gFull_ (E 7)) (h8 : Sen w gOrder (E 8))
    (hx : Rules w A l) (hn : l.length = n) (hnc : n ≤ c) (ha : AttrOk w a) (hy : y = a.con) (k : Int) (h : 9 < n ∨ 20 < a.path.length ∨ 15 < a.tags.length ∨ k < 0 ∨ (n : Int) ≤ k) :
    Calls Tryd.prog 5 #[.slice A n c, .int .i64 s, .agg #[.int .i64 x, .int .i64 m], .agg a.cells, .int .i64 k] w fun e w1 => e = .returned (.bool true) ∧ New w w1 := by
  have u := ((Upd.refl (fun _ => False) w).alloc (.cells #[.int .i64 x, .int .i64 m] TPx)).alloc (.cells a.cells TA)
  have b0 := (Blk.new w TPx #[.int .i64 x, .int .i64 m]).alloc (.cells a.cells TA)
  have b1 := Blk.at_ (w.alloc (.cells #[.int .i64 x, .int .i64 m] TPx)) TA a.cells (w.heap.size + 1) (by simp)
  have H2 := hide h2
  have H3 := hide h3
  have H7 := hide h7
  have H8 := hide h8
  have Ha := hide ha
  have Hx := hide hx
  have Hn := hide hn
  have HY := hide hy
  have N := hide u
  have HK := hide b0
  have HM := hide b1
  clear ha u b0 b1 h2 h3 h7 h8 hx hn hy
  unfold AttrR.cells at *
  by_cases q1 : 9 < n
  · have i1 : (9 : Int) < (n : Int) := by omega
    clear h
    go_enter Tryd.func5, Tryd.ntmps5
    go_upto_region 1 with (fail)
    generalize ((w.alloc (.cells #[.int .i64 x, .int .i64 m] TPx)).alloc (.cells #[.slice a.P a.path.length a.pc, .int .i64 a.pref, .int .i64 a.med, .int .i64 a.origin, .slice a.T a.tags.length a.tc] TA)) = W at *
    have Hrd := hide (ruled_any E W (H2.out.new N.out) (H3.out.new N.out) (H7.out.new N.out) (H8.out.new N.out))
    go_wp2_with fail
    refine Hrd.out.mono ?_
    rintro e w1 ⟨rfl, hu⟩
    have N := hide (N.out.trans_new hu)
    have HK := hide (HK.out.new_ hu)
    have HM := hide (HM.out.new_ hu)
    clear hu
    go_wp2_with fail
    go_ret
    exact ⟨rfl, N.out⟩
  · have i1 : ¬ (9 : Int) < (n : Int) := by omega
    by_cases q2 : 20 < a.path.length ∨ 15 < a.tags.length
    · clear h
      go_enter Tryd.func5, Tryd.ntmps5
      go_upto_region 1 with (fail)
      generalize ((w.alloc (.cells #[.int .i64 x, .int .i64 m] TPx)).alloc (.cells #[.slice a.P a.path.length a.pc, .int .i64 a.pref, .int .i64 a.med, .int .i64 a.origin, .slice a.T a.tags.length a.tc] TA)) = W at *
      have Hrd := hide (ruled_any E W (H2.out.new N.out) (H3.out.new N.out) (H7.out.new N.out) (H8.out.new N.out))
      go_wp2_with fail
      refine Hrd.out.mono ?_
      rintro e w1 ⟨rfl, hu⟩
      have N := hide (N.out.trans_new hu)
      have HK := hide (HK.out.new_ hu)
      have HM := hide (HM.out.new_ hu)
      clear hu
      have bq := HM.out
      have m0 := bq.cell 0
      have m1 := bq.cell 1
      have m2 := bq.cell 2
      have m3 := bq.cell 3
      have m4 := bq.cell 4
      have zM := bq.lt
      simp only [List.getElem?_toArray, List.getElem?_cons_zero, List.getElem?_cons_succ] at m0 m1 m2 m3 m4
      clear bq
      have Hlg := hide (longAttr_yes a w1 q2)
      unfold AttrR.cells at Hlg
      go_wp2_with fail
      refine Hlg.out.mono ?_
      rintro e w2 ⟨rfl, hu⟩
      have N := hide (N.out.trans_new hu)
      have HK := hide (HK.out.new_ hu)
      have HM := hide (HM.out.new_ hu)
      clear hu
      go_wp2_with fail
      go_ret
      exact ⟨rfl, N.out⟩
    · by_cases q3 : k < 0
      · have i3 : k < 0 := q3
        clear h
        go_enter Tryd.func5, Tryd.ntmps5
        go_upto_region 1 with (fail)
        generalize ((w.alloc (.cells #[.int .i64 x, .int .i64 m] TPx)).alloc (.cells #[.slice a.P a.path.length a.pc, .int .i64 a.pref, .int .i64 a.med, .int .i64 a.origin, .slice a.T a.tags.length a.tc] TA)) = W at *
        have Hrd := hide (ruled_any E W (H2.out.new N.out) (H3.out.new N.out) (H7.out.new N.out) (H8.out.new N.out))
        go_wp2_with fail
        refine Hrd.out.mono ?_
        rintro e w1 ⟨rfl, hu⟩
        have N := hide (N.out.trans_new hu)
        have HK := hide (HK.out.new_ hu)
        have HM := hide (HM.out.new_ hu)
        clear hu
        have bq := HM.out
        have m0 := bq.cell 0
        have m1 := bq.cell 1
        have m2 := bq.cell 2
        have m3 := bq.cell 3
        have m4 := bq.cell 4
        have zM := bq.lt
        simp only [List.getElem?_toArray, List.getElem?_cons_zero, List.getElem?_cons_succ] at m0 m1 m2 m3 m4
        clear bq
        have Hlg := hide (longAttr_no a w1 (by omega) (by omega))
        unfold AttrR.cells at Hlg
        go_wp2_with fail
        refine Hlg.out.mono ?_
        rintro e w2 ⟨rfl, hu⟩
        have N := hide (N.out.trans_new hu)
        have HK := hide (HK.out.new_ hu)
        have HM := hide (HM.out.new_ hu)
        clear hu
        go_wp2_with fail
        go_ret
        exact ⟨rfl, N.out⟩
      · have i3 : ¬ k < 0 := q3
        have i4 : (n : Int) ≤ k := by omega
        clear h
        go_enter Tryd.func5, Tryd.ntmps5
        go_upto_region 1 with (fail)
        generalize ((w.alloc (.cells #[.int .i64 x, .int .i64 m] TPx)).alloc (.cells #[.slice a.P a.path.length a.pc, .int .i64 a.pref, .int .i64 a.med, .int .i64 a.origin, .slice a.T a.tags.length a.tc] TA)) = W at *
        have Hrd := hide (ruled_any E W (H2.out.new N.out) (H3.out.new N.out) (H7.out.new N.out) (H8.out.new N.out))
        go_wp2_with fail
        refine Hrd.out.mono ?_
        rintro e w1 ⟨rfl, hu⟩
        have N := hide (N.out.trans_new hu)
        have HK := hide (HK.out.new_ hu)
        have HM := hide (HM.out.new_ hu)
        clear hu
        have bq := HM.out
        have m0 := bq.cell 0
        have m1 := bq.cell 1
        have m2 := bq.cell 2
        have m3 := bq.cell 3
        have m4 := bq.cell 4
        have zM := bq.lt
        simp only [List.getElem?_toArray, List.getElem?_cons_zero, List.getElem?_cons_succ] at m0 m1 m2 m3 m4
        clear bq
        have Hlg := hide (longAttr_no a w1 (by omega) (by omega))
        unfold AttrR.cells at Hlg
        go_wp2_with fail
        refine Hlg.out.mono ?_
        rintro e w2 ⟨rfl, hu⟩
        have N := hide (N.out.trans_new hu)
        have HK := hide (HK.out.new_ hu)
        have HM := hide (HM.out.new_ hu)
        clear hu
        go_wp2_with fail
        go_ret
        exact ⟨rfl, N.out⟩
end Go.Proofs.YtkljanjapcpbdaaDoor
