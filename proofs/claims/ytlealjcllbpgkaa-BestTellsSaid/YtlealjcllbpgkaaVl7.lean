/- Package best: Better; LongRoutes. No condition but those that stand in each theorem. -/
import Derived.Test.YtlealjcllbpgkaaVl4
import Derived.Test.YtlealjcllbpgkaaLgL
namespace Go.Proofs.Ytlealjcllbpgkaa
open Go.RowKit
set_option maxRecDepth 20000 in
set_option maxHeartbeats 2000000 in
theorem better_any (x y : RouteR) (w : World) (hx : AttrOk w x.at_) (hy : AttrOk w y.at_) (lx : x.at_.path.length ≤ 1000 ∧ x.at_.tags.length ≤ 1000) (ly : y.at_.path.length ≤ 1000 ∧ y.at_.tags.length ≤ 1000) :
    Calls Try.prog 10 #[.agg x.cells, .agg y.cells] w fun e w1 => e = .returned (.bool (ltC x.con y.con)) ∧ New w w1 := by
  have hu := ((Upd.refl (fun _ => False) w).alloc (.cells x.cells TRo)).alloc (.cells y.cells TRo)
  have Hc := hide (cmpRoutes_any x y ((w.alloc (.cells x.cells TRo)).alloc (.cells y.cells TRo)) (hx.new_ hu) (hy.new_ hu) lx.1 lx.2 ly.1 ly.2)
  have Hu := hide hu
  obtain ⟨k, hk⟩ : ∃ k, ordC x.con y.con = k := ⟨_, rfl⟩
  have Hk := hide (show ltC x.con y.con = decide (k < 0) by unfold ltC; rw [hk])
  rw [hk] at Hc
  clear hx hy lx ly hu hk
  obtain ⟨xa, xn, ⟨P, pc, p, xp, xm, xo, T, tc, t⟩, xf⟩ := x
  obtain ⟨ya, yn, ⟨P2, pc2, p2, yp, ym, yo, T2, tc2, t2⟩, yf⟩ := y
  unfold RouteR.cells at *
  go_enter Try.func10, Try.ntmps10
  go_wp2_with ((go_at_call 16; refine Hc.out.mono ?_; rintro e w' ⟨rfl, hg⟩))
  go_ret
  exact ⟨by rw [Hk.out]; rfl, Hu.out.trans_new (grow_new hg)⟩
set_option maxRecDepth 20000 in
set_option maxHeartbeats 2000000 in
/-- Not too many, and none too long: 0; else 1. -/
theorem longRoutes_any (ls : List RouteR) (A : Option Addr) (N cap : Nat) (w : World) (hN : ls.length = N) (hr : Rts w A ls) :
    Calls Try.prog 6 #[.slice A N cap] w fun e w1 => ((e = .returned (.int .i64 1)) ∨ (e = .returned (.int .i64 0) ∧ N ≤ 30 ∧ ∀ r ∈ ls, r.at_.path.length ≤ 20 ∧ r.at_.tags.length ≤ 15)) ∧ New w w1 := by
  have Hr := hide hr
  have HN := hide hN
  clear hr hN
  by_cases h30 : 30 < N
  · have i1 : (30 : Int) < (N : Int) := by omega
    go_enter Try.func6, Try.ntmps6
    go_wp2_with fail
    go_ret
    exact ⟨Or.inl rfl, Upd.refl _ _⟩
  · have i1 : ¬ (30 : Int) < (N : Int) := by omega
    have hle : N ≤ 30 := by omega
    clear h30
    go_enter Try.func6, Try.ntmps6
    go_upto_region 4 with (fail)
    go_loopw [3] (fun vi wr => ∃ j : Nat, j ≤ N ∧ vi = .int .i64 j ∧ New w wr ∧ ∀ (i : Nat) r, i < j → ls[i]? = some r → r.at_.path.length ≤ 20 ∧ r.at_.tags.length ≤ 15) (fun vi _ => N - (intOf vi).toNat)
    case atStart => exact ⟨0, by omega, rfl, Upd.refl _ _, fun i r h => absurd h (by omega)⟩
    case round =>
      obtain ⟨j, hj, rfl, hn, hz⟩ := hrel
      have Hn := hide hn
      have Hz := hide hz
      clear hn hz
      by_cases hlt : j < N
      · have i2 : (j : Int) < (N : Int) := by omega
        obtain ⟨b, o, x, hA, hb, hx, hok, d0, d1, d2, d3, d4, d5, d6, d7⟩ := (Hr.out.new_ Hn.out).at_ (k := j) (by have := HN.out; omega)
        subst hA
        obtain ⟨xa, xn, ⟨P, pc, p, xp, xm, xo, T, tc, t⟩, xf⟩ := x
        have Hx := hide hx
        clear d0 d1 d7 hx hok
        by_cases hl : p.length ≤ 20 ∧ t.length ≤ 15
        · have Hc := hide (longAttr_no ⟨P, pc, p, xp, xm, xo, T, tc, t⟩ wr hl.1 hl.2)
          unfold AttrR.cells at Hc
          have Hl := hide hl
          clear hl
          go_wp2_with ((go_at_call 11; refine Hc.out.mono ?_; rintro e w' ⟨rfl, hu⟩))
          exact ⟨⟨j + 1, by omega, by go_num, Hn.out.trans_new hu, fun i r hi hir => by
            by_cases hij : i < j
            · exact Hz.out i r hij hir
            · obtain rfl : i = j := by omega
              rw [Hx.out] at hir
              injection hir with hir
              subst hir
              exact Hl.out⟩, by simp [intOf]; omega⟩
        · have Hc := hide (longAttr_yes ⟨P, pc, p, xp, xm, xo, T, tc, t⟩ wr (by show 20 < p.length ∨ 15 < t.length; omega))
          unfold AttrR.cells at Hc
          clear hl
          go_wp2_with ((go_at_call 11; refine Hc.out.mono ?_; rintro e w' ⟨rfl, hu⟩))
          go_ret
          exact ⟨Or.inl rfl, Hn.out.trans_new hu⟩
      · have i2 : ¬ (j : Int) < (N : Int) := by omega
        have hjn : j = N := by omega
        have Hjn := hide hjn
        clear hlt hjn
        go_wp2_with fail
        go_ret
        have H : ∀ r ∈ ls, r.at_.path.length ≤ 20 ∧ r.at_.tags.length ≤ 15 := fun r hr => by
          obtain ⟨i, hi⟩ := List.getElem?_of_mem hr
          exact Hz.out i r (by have := (List.getElem?_eq_some_iff.1 hi).1; have := HN.out; have := Hjn.out; omega) hi
        first
          | exact ⟨Or.inr ⟨rfl, hle, H⟩, Hn.out⟩
          | exact ⟨Or.inr ⟨rfl, H⟩, Hn.out⟩
          | exact ⟨Or.inr H, Hn.out⟩
          | exact ⟨H, Hn.out⟩
end Go.Proofs.Ytlealjcllbpgkaa
