/- The reference's order of routes: orderInts. No condition but those that stand in each theorem. -/
import Derived.Test.YtlealjcllbpgkaaBt2
import Derived.Test.YtlealjcllbpgkaaBt3
import Derived.Test.YtlealjcllbpgkaaBa2
namespace Go.Proofs.Ytlealjcllbpgkaa
open Go.RowKit
set_option maxHeartbeats 4000000 in
theorem orderInts_any (A B : Option Addr) (n m c d : Nat) (xs ys : List Int) (w : World) (hx : Ints w A xs) (hy : Ints w B ys) (hn : xs.length = n) (hm : ys.length = m) (hl : n ≤ 1000) (hl2 : m ≤ 1000) :
    Calls Try.prog 22 #[.slice A n c, .slice B m d] w fun e w1 => e = .returned (.int .i64 (lexC xs ys)) ∧ New w w1 := by
  have Hx := hide hx
  have Hy := hide hy
  have Hn := hide hn
  have Hm := hide hm
  clear hx hy hn hm
  go_enter Try.func22, Try.ntmps22
  go_upto_region 2 with (fail)
  go_loopw [5] (fun i wr => ∃ k : Nat, k ≤ n ∧ k ≤ m ∧ i = .int .i64 k ∧ lexC xs ys = lexC (xs.drop k) (ys.drop k) ∧ New w wr) (fun i _ => n - (intOf i).toNat)
  case atStart => exact ⟨0, by omega, by omega, rfl, rfl, Upd.refl _ _⟩
  case round =>
    obtain ⟨k, hk, hk2, rfl, hz, hn⟩ := hrel
    have Hz := hide hz
    have N1 := hide hn
    clear hz hn
    by_cases hlt : k < n
    · obtain ⟨x, hxk⟩ : ∃ x, xs[k]? = some x := ⟨_, List.getElem?_eq_getElem (by have := Hn.out; omega)⟩
      obtain ⟨b, o, hA, hb, hcx⟩ := (Hx.out.new_ N1.out) (by have := Hn.out; omega)
      subst hA
      have d0 := hcx k x hxk
      have Hxk := hide hxk
      have i1 : (k : Int) < (n : Int) := by omega
      clear hcx hxk
      by_cases hlt2 : k < m
      · obtain ⟨y, hyk⟩ : ∃ y, ys[k]? = some y := ⟨_, List.getElem?_eq_getElem (by have := Hm.out; omega)⟩
        obtain ⟨b2, o2, hB, hb2, hcy⟩ := (Hy.out.new_ N1.out) (by have := Hm.out; omega)
        subst hB
        have d1 := hcy k y hyk
        have Hyk := hide hyk
        have i2 : (k : Int) < (m : Int) := by omega
        clear hcy hyk
        by_cases h1 : x < y
        · have e : sgn x y = -1 := by unfold sgn; rw [if_pos h1]
          have Hs := hide e
          clear e
          go_upto_region 4 with (fail)
          refine wp_region_new wr (Upd.refl _ _) (by kernel_rfl) (by kernel_rfl) ?_
          repeat (go_big_quiet_step (fail))
          refine wpQuiet_nil ?_
          rintro _ ⟨nq, rfl⟩
          obtain ⟨w4, hu⟩ := nq
          dsimp only
          have N1 := hide (N1.out.trans_new hu)
          clear hu d0 d1
          go_wp2_with fail
          go_ret
          exact ⟨by rw [Hz.out, drop_cons Hxk.out, drop_cons Hyk.out, lexC, if_neg (by rw [Hs.out]; omega), Hs.out]; rfl, N1.out⟩
        · by_cases h2 : y < x
          · have e : sgn x y = 1 := by unfold sgn; rw [if_neg h1, if_pos h2]
            have Hs := hide e
            clear e
            go_upto_region 4 with (fail)
            refine wp_region_new wr (Upd.refl _ _) (by kernel_rfl) (by kernel_rfl) ?_
            repeat (go_big_quiet_step (fail))
            refine wpQuiet_nil ?_
            rintro _ ⟨nq, rfl⟩
            obtain ⟨w4, hu⟩ := nq
            dsimp only
            have N1 := hide (N1.out.trans_new hu)
            clear hu d0 d1
            obtain ⟨b', o', hA, hb, hcx⟩ := (Hx.out.new_ N1.out) (by have := Hn.out; omega)
            obtain ⟨rfl, rfl⟩ : b = b' ∧ o = o' := by
              injection hA with hA
              injection hA with e1 e2
              exact ⟨e1, e2⟩
            obtain ⟨b2', o2', hB, hb2, hcy⟩ := (Hy.out.new_ N1.out) (by have := Hm.out; omega)
            obtain ⟨rfl, rfl⟩ : b2 = b2' ∧ o2 = o2' := by
              injection hB with hB
              injection hB with e1 e2
              exact ⟨e1, e2⟩
            have d0 := hcx k x Hxk.out
            have d1 := hcy k y Hyk.out
            clear hcx hcy hA hB
            go_upto_region 6 with (fail)
            refine wp_region_new w4 (Upd.refl _ _) (by kernel_rfl) (by kernel_rfl) ?_
            repeat (go_big_quiet_step (fail))
            refine wpQuiet_nil ?_
            rintro _ ⟨nq, rfl⟩
            obtain ⟨w6, hu⟩ := nq
            dsimp only
            have N1 := hide (N1.out.trans_new hu)
            clear hu d0 d1
            go_wp2_with fail
            go_ret
            exact ⟨by rw [Hz.out, drop_cons Hxk.out, drop_cons Hyk.out, lexC, if_neg (by rw [Hs.out]; omega), Hs.out]; rfl, N1.out⟩
          · have e : sgn x y = 0 := by unfold sgn; rw [if_neg h1, if_neg h2]
            have Hs := hide e
            clear e
            go_upto_region 4 with (fail)
            refine wp_region_new wr (Upd.refl _ _) (by kernel_rfl) (by kernel_rfl) ?_
            repeat (go_big_quiet_step (fail))
            refine wpQuiet_nil ?_
            rintro _ ⟨nq, rfl⟩
            obtain ⟨w4, hu⟩ := nq
            dsimp only
            have N1 := hide (N1.out.trans_new hu)
            clear hu d0 d1
            obtain ⟨b', o', hA, hb, hcx⟩ := (Hx.out.new_ N1.out) (by have := Hn.out; omega)
            obtain ⟨rfl, rfl⟩ : b = b' ∧ o = o' := by
              injection hA with hA
              injection hA with e1 e2
              exact ⟨e1, e2⟩
            obtain ⟨b2', o2', hB, hb2, hcy⟩ := (Hy.out.new_ N1.out) (by have := Hm.out; omega)
            obtain ⟨rfl, rfl⟩ : b2 = b2' ∧ o2 = o2' := by
              injection hB with hB
              injection hB with e1 e2
              exact ⟨e1, e2⟩
            have d0 := hcx k x Hxk.out
            have d1 := hcy k y Hyk.out
            clear hcx hcy hA hB
            go_upto_region 6 with (fail)
            refine wp_region_new w4 (Upd.refl _ _) (by kernel_rfl) (by kernel_rfl) ?_
            repeat (go_big_quiet_step (fail))
            refine wpQuiet_nil ?_
            rintro _ ⟨nq, rfl⟩
            obtain ⟨w6, hu⟩ := nq
            dsimp only
            have N1 := hide (N1.out.trans_new hu)
            clear hu d0 d1
            go_wp2_with fail
            exact ⟨⟨k + 1, by omega, by omega, by go_num, by rw [Hz.out, drop_cons Hxk.out, drop_cons Hyk.out, lexC, if_pos Hs.out], N1.out⟩, by simp [intOf]; omega⟩
      · have i2 : ¬ (k : Int) < (m : Int) := by omega
        have i3 : (m : Int) < (n : Int) := by omega
        have i4 : ¬ (n : Int) < (m : Int) := by omega
        have Hkm := hide (show m ≤ k by omega)
        clear hlt2
        go_wp2_with fail
        go_ret
        exact ⟨by rw [Hz.out, drop_cons Hxk.out, List.drop_eq_nil_of_le (show ys.length ≤ k by have := Hm.out; have := Hkm.out; omega)]; rfl, N1.out⟩
    · have Hkn := hide (show k = n by omega)
      have i1 : ¬ (k : Int) < (n : Int) := by omega
      clear hlt
      by_cases hnm : n < m
      · have i2 : (n : Int) < (m : Int) := by omega
        obtain ⟨y, hyk⟩ : ∃ y, ys[k]? = some y := ⟨_, List.getElem?_eq_getElem (by have := Hm.out; have := Hkn.out; omega)⟩
        have Hyk := hide hyk
        clear hyk
        go_wp2_with fail
        go_ret
        exact ⟨by rw [Hz.out, drop_cons Hyk.out, List.drop_eq_nil_of_le (by have := Hn.out; have := Hkn.out; omega)]; rfl, N1.out⟩
      · have i2 : ¬ (n : Int) < (m : Int) := by omega
        have i3 : ¬ (m : Int) < (n : Int) := by have := Hkn.out; omega
        have Hnm := hide (show m = n by have := Hkn.out; omega)
        go_wp2_with fail
        go_ret
        exact ⟨by rw [Hz.out, List.drop_eq_nil_of_le (by have := Hn.out; have := Hkn.out; omega), List.drop_eq_nil_of_le (by have := Hm.out; have := Hkn.out; have := Hnm.out; omega)]; rfl, N1.out⟩
end Go.Proofs.Ytlealjcllbpgkaa

namespace Go.Proofs.Ytlealjcllbpgkaa
open Go.RowKit
theorem ordC_pref {x y : RtC} (h : x.at_.pref ≠ y.at_.pref) : ordC x y = sgn y.at_.pref x.at_.pref := by
  have h1 : sgn y.at_.pref x.at_.pref ≠ 0 := fun e => h (sgn_zero e).symm
  unfold ordC
  rw [firstNZ, if_neg h1]
theorem ordC_chain {x y : RtC} (h : x.at_.pref = y.at_.pref) {l1 l2 l3 l4 : Int} (h1 : lexC [0, (x.at_.path.length : Int), x.at_.origin, x.at_.med, x.frm] [0, (y.at_.path.length : Int), y.at_.origin, y.at_.med, y.frm] = l1)
    (h2 : lexC x.at_.path y.at_.path = l2) (h3 : lexC [x.a, x.n] [y.a, y.n] = l3) (h4 : lexC x.at_.tags y.at_.tags = l4) :
    ordC x y = if l1 = 0 then if l2 = 0 then if l3 = 0 then l4 else l3 else l2 else l1 := by
  subst h1 h2 h3 h4
  have e0 : sgn y.at_.pref x.at_.pref = 0 := by rw [h]; exact sgn_self _
  have e1 : sgn 0 0 = 0 := sgn_self _
  unfold ordC
  simp only [firstNZ, lexC, cmpP, e0, e1, if_true]
  repeat' split
  all_goals simp_all
set_option maxRecDepth 20000 in
set_option maxHeartbeats 8000000 in
theorem orderRoutes_any (x y : RouteR) (w : World) (hx : AttrOk w x.at_) (hy : AttrOk w y.at_) (lx : x.at_.path.length ≤ 1000 ∧ x.at_.tags.length ≤ 1000) (ly : y.at_.path.length ≤ 1000 ∧ y.at_.tags.length ≤ 1000) :
    Calls Try.prog 14 #[.agg x.cells, .agg y.cells] w fun e w1 => e = .returned (.int .i64 (ordC x.con y.con)) ∧ New w w1 := by
  have u0 := ((Upd.refl (fun _ => False) w).alloc (.cells x.cells TRo)).alloc (.cells y.cells TRo)
  have BX := hide ((Blk.new w TRo x.cells).alloc (.cells y.cells TRo))
  have BY := hide (Blk.at_ (w.alloc (.cells x.cells TRo)) TRo y.cells (w.heap.size + 1) (by simp))
  have N0 := hide u0
  have OX := hide hx
  have OY := hide hy
  have LX := hide lx
  have LY := hide ly
  obtain ⟨R, hR⟩ : ∃ R, ordC x.con y.con = R := ⟨_, rfl⟩
  have HO := hide hR
  rw [hR]
  clear hx hy lx ly u0 hR
  obtain ⟨xa, xn, ⟨xP, xpc, xp, xf, xm, xo, xT, xtc, xt⟩, xg⟩ := x
  obtain ⟨ya, yn, ⟨yP, ypc, yp, yf, ym, yo, yT, ytc, yt⟩, yg⟩ := y
  unfold RouteR.cells at *
  dsimp only at *
  go_enter Try.func14, Try.ntmps14
  go_upto_region 1 with (fail)
  generalize ((w.alloc (.cells #[.int .i64 xa, .int .i64 xn, .slice xP xp.length xpc, .int .i64 xf, .int .i64 xm, .int .i64 xo, .slice xT xt.length xtc, .int .i64 xg] TRo)).alloc (.cells #[.int .i64 ya, .int .i64 yn, .slice yP yp.length ypc, .int .i64 yf, .int .i64 ym, .int .i64 yo, .slice yT yt.length ytc, .int .i64 yg] TRo)) = W0 at *
  have bx := BX.out
  have by_ := BY.out
  have x0 := bx.cell 0
  have x1 := bx.cell 1
  have x2 := bx.cell 2
  have x3 := bx.cell 3
  have x4 := bx.cell 4
  have x5 := bx.cell 5
  have x6 := bx.cell 6
  have x7 := bx.cell 7
  have y0 := by_.cell 0
  have y1 := by_.cell 1
  have y2 := by_.cell 2
  have y3 := by_.cell 3
  have y4 := by_.cell 4
  have y5 := by_.cell 5
  have y6 := by_.cell 6
  have y7 := by_.cell 7
  have zx := bx.lt
  have zy := by_.lt
  simp only [List.getElem?_toArray, List.getElem?_cons_zero, List.getElem?_cons_succ] at x0 x1 x2 x3 x4 x5 x6 x7 y0 y1 y2 y3 y4 y5 y6 y7
  clear bx by_
  go_upto_region 3 with (fail)
  have HB := hide BY.out.lt
  have u2 := ((Upd.refl (fun _ => False) W0).alloc (.cells #[.int .i64 (wrap64 (-xf)), .int .i64 xp.length, .int .i64 xo, .int .i64 xm, .int .i64 xg] 3)).alloc (.cells #[.int .i64 (wrap64 (-yf)), .int .i64 yp.length, .int .i64 yo, .int .i64 ym, .int .i64 yg] 3)
  have RX := hide ((Blk.new W0 3 #[.int .i64 (wrap64 (-xf)), .int .i64 xp.length, .int .i64 xo, .int .i64 xm, .int .i64 xg]).alloc (.cells #[.int .i64 (wrap64 (-yf)), .int .i64 yp.length, .int .i64 yo, .int .i64 ym, .int .i64 yg] 3))
  have RY := hide (Blk.at_ (W0.alloc (.cells #[.int .i64 (wrap64 (-xf)), .int .i64 xp.length, .int .i64 xo, .int .i64 xm, .int .i64 xg] 3)) 3 #[.int .i64 (wrap64 (-yf)), .int .i64 yp.length, .int .i64 yo, .int .i64 ym, .int .i64 yg] (W0.heap.size + 1) (by simp))
  have N2 := hide (N0.out.trans_new u2)
  have BX := hide (BX.out.new_ u2)
  have BY := hide (BY.out.new_ u2)
  have HF := hide N0.out.size
  have HK := hide (show ¬ W0.heap.size = W0.heap.size + 1 by omega)
  have HK2 := hide (show W0.heap.size ≤ W0.heap.size + 1 by omega)
  clear u2 N0 x0 x1 x2 x3 x4 x5 x6 x7 y0 y1 y2 y3 y4 y5 y6 y7 zx zy
  generalize ((W0.alloc (.cells #[.int .i64 (wrap64 (-xf)), .int .i64 xp.length, .int .i64 xo, .int .i64 xm, .int .i64 xg] 3)).alloc (.cells #[.int .i64 (wrap64 (-yf)), .int .i64 yp.length, .int .i64 yo, .int .i64 ym, .int .i64 yg] 3)) = W2 at *
  generalize W0.heap.size + 1 = H at *
  generalize W0.heap.size = F at *
  generalize wrap64 (-xf) = ax at *
  generalize wrap64 (-yf) = ay at *
  have bx := BX.out
  have by_ := BY.out
  have x0 := bx.cell 0
  have x1 := bx.cell 1
  have x2 := bx.cell 2
  have x3 := bx.cell 3
  have x4 := bx.cell 4
  have x5 := bx.cell 5
  have x6 := bx.cell 6
  have x7 := bx.cell 7
  have y0 := by_.cell 0
  have y1 := by_.cell 1
  have y2 := by_.cell 2
  have y3 := by_.cell 3
  have y4 := by_.cell 4
  have y5 := by_.cell 5
  have y6 := by_.cell 6
  have y7 := by_.cell 7
  have zx := bx.lt
  have zy := by_.lt
  simp only [List.getElem?_toArray, List.getElem?_cons_zero, List.getElem?_cons_succ] at x0 x1 x2 x3 x4 x5 x6 x7 y0 y1 y2 y3 y4 y5 y6 y7
  clear bx by_
  by_cases hp : xf = yf
  · have hb : (xf != yf) = false := by simp [hp]
    have HP := hide hp
    clear hp
    have bF := RX.out
    have bH := RY.out
    have g0 := bF.cell 0
    have g1 := bF.frozen 0
    have h0 := bH.cell 0
    have h1 := bH.frozen 0
    have zF := bF.lt
    have zH := bH.lt
    simp only [List.getElem?_toArray, List.getElem?_cons_zero, List.getElem?_cons_succ] at g0 h0
    clear bF bH
    have kFH := HK.out
    have kHF : ¬ H = F := fun h => HK.out h.symm
    go_upto_region 9 with (fail)
    have n3 := (N2.out.setCell (p := ⟨F, 0, none⟩) (.inr HF.out) (.int .i64 0)).setCell (p := ⟨H, 0, none⟩) (.inr (Nat.le_trans HF.out HK2.out)) (.int .i64 0)
    have bX := (BX.out.far (p := ⟨F, 0, none⟩) (by have := HB.out; show w.heap.size ≠ F; omega) (.int .i64 0)).far (p := ⟨H, 0, none⟩) (by have := HB.out; have := HK2.out; show w.heap.size ≠ H; omega) (.int .i64 0)
    have bY := (BY.out.far (p := ⟨F, 0, none⟩) (by have := HB.out; show w.heap.size + 1 ≠ F; omega) (.int .i64 0)).far (p := ⟨H, 0, none⟩) (by have := HB.out; have := HK2.out; show w.heap.size + 1 ≠ H; omega) (.int .i64 0)
    have rX := (RX.out.set_ 0 (.int .i64 0)).far (p := ⟨H, 0, none⟩) HK.out (.int .i64 0)
    have rY := (RY.out.far (p := ⟨F, 0, none⟩) (fun h => HK.out h.symm) (.int .i64 0)).set_ 0 (.int .i64 0)
    have N2 := hide n3
    have BX := hide bX
    have BY := hide bY
    have RX := hide (Ints.of_blk (xs := [0, (xp.length : Int), xo, xm, xg]) rX rfl)
    have RY := hide (Ints.of_blk (xs := [0, (yp.length : Int), yo, ym, yg]) rY rfl)
    clear n3 bX bY rX rY x0 x1 x2 x3 x4 x5 x6 x7 y0 y1 y2 y3 y4 y5 y6 y7 zx zy g0 g1 h0 h1 zF zH kFH kHF
    generalize ((W2.setCell ⟨F, 0, none⟩ (.int .i64 0)).setCell ⟨H, 0, none⟩ (.int .i64 0)) = W3 at *
    obtain ⟨l1, hl1⟩ : ∃ l1, lexC [0, (xp.length : Int), xo, xm, xg] [0, (yp.length : Int), yo, ym, yg] = l1 := ⟨_, rfl⟩
    obtain ⟨l2, hl2⟩ : ∃ l2, lexC xp yp = l2 := ⟨_, rfl⟩
    obtain ⟨l3, hl3⟩ : ∃ l3, lexC [xa, xn] [ya, yn] = l3 := ⟨_, rfl⟩
    obtain ⟨l4, hl4⟩ : ∃ l4, lexC xt yt = l4 := ⟨_, rfl⟩
    have HCH := hide (ordC_chain (x := RouteR.con ⟨xa, xn, ⟨xP, xpc, xp, xf, xm, xo, xT, xtc, xt⟩, xg⟩) (y := RouteR.con ⟨ya, yn, ⟨yP, ypc, yp, yf, ym, yo, yT, ytc, yt⟩, yg⟩) HP.out hl1 hl2 hl3 hl4)
    have Hc := hide (orderInts_any (some ⟨F, 0, none⟩) (some ⟨H, 0, none⟩) 5 5 5 5 _ _ W3 RX.out RY.out rfl rfl (by omega) (by omega))
    rw [hl1] at Hc
    have L2 := hide hl2
    have L3 := hide hl3
    have L4 := hide hl4
    clear hl1 hl2 hl3 hl4
    go_wp2_with fail
    refine Hc.out.mono ?_
    rintro e w9 ⟨rfl, hu⟩
    clear Hc
    have N2 := hide (N2.out.trans_new hu)
    have BX := hide (BX.out.new_ hu)
    have BY := hide (BY.out.new_ hu)
    clear hu
    by_cases z1 : l1 = 0
    · have hz1 : (l1 == 0) = true := by simp [z1]
      have Z1 := hide z1
      clear z1
      have bx := BX.out
      have by_ := BY.out
      have x0 := bx.cell 0
      have x1 := bx.cell 1
      have x2 := bx.cell 2
      have x3 := bx.cell 3
      have x4 := bx.cell 4
      have x5 := bx.cell 5
      have x6 := bx.cell 6
      have x7 := bx.cell 7
      have y0 := by_.cell 0
      have y1 := by_.cell 1
      have y2 := by_.cell 2
      have y3 := by_.cell 3
      have y4 := by_.cell 4
      have y5 := by_.cell 5
      have y6 := by_.cell 6
      have y7 := by_.cell 7
      have zx := bx.lt
      have zy := by_.lt
      simp only [List.getElem?_toArray, List.getElem?_cons_zero, List.getElem?_cons_succ] at x0 x1 x2 x3 x4 x5 x6 x7 y0 y1 y2 y3 y4 y5 y6 y7
      clear bx by_
      have Hc := hide (orderInts_any xP yP xp.length yp.length xpc ypc xp yp w9 (OX.out.new_ N2.out).path (OY.out.new_ N2.out).path rfl rfl LX.out.1 LY.out.1)
      rw [L2.out] at Hc
      go_wp2_with fail
      refine Hc.out.mono ?_
      rintro e w11 ⟨rfl, hu⟩
      have N2 := hide (N2.out.trans_new hu)
      have BX := hide (BX.out.new_ hu)
      have BY := hide (BY.out.new_ hu)
      clear hu
      clear Hc x0 x1 x2 x3 x4 x5 x6 x7 y0 y1 y2 y3 y4 y5 y6 y7 zx zy
      by_cases z2 : l2 = 0
      · have hz2 : (l2 == 0) = true := by simp [z2]
        have Z2 := hide z2
        clear z2
        have bx := BX.out
        have by_ := BY.out
        have x0 := bx.cell 0
        have x1 := bx.cell 1
        have x2 := bx.cell 2
        have x3 := bx.cell 3
        have x4 := bx.cell 4
        have x5 := bx.cell 5
        have x6 := bx.cell 6
        have x7 := bx.cell 7
        have y0 := by_.cell 0
        have y1 := by_.cell 1
        have y2 := by_.cell 2
        have y3 := by_.cell 3
        have y4 := by_.cell 4
        have y5 := by_.cell 5
        have y6 := by_.cell 6
        have y7 := by_.cell 7
        have zx := bx.lt
        have zy := by_.lt
        simp only [List.getElem?_toArray, List.getElem?_cons_zero, List.getElem?_cons_succ] at x0 x1 x2 x3 x4 x5 x6 x7 y0 y1 y2 y3 y4 y5 y6 y7
        clear bx by_
        have u4 := ((Upd.refl (fun _ => False) w11).alloc (.cells #[.int .i64 xa, .int .i64 xn] 3)).alloc (.cells #[.int .i64 ya, .int .i64 yn] 3)
        have r1 := (Blk.new w11 3 #[.int .i64 xa, .int .i64 xn]).alloc (.cells #[.int .i64 ya, .int .i64 yn] 3)
        have r2 := Blk.at_ (w11.alloc (.cells #[.int .i64 xa, .int .i64 xn] 3)) 3 #[.int .i64 ya, .int .i64 yn] (w11.heap.size + 1) (by simp)
        have Hc := hide (orderInts_any (some ⟨w11.heap.size, 0, none⟩) (some ⟨w11.heap.size + 1, 0, none⟩) 2 2 2 2 _ _ _ (Ints.of_blk (xs := [xa, xn]) r1 rfl) (Ints.of_blk (xs := [ya, yn]) r2 rfl) rfl rfl (by omega) (by omega))
        rw [L3.out] at Hc
        have U4 := hide u4
        clear u4 r1 r2
        go_wp2_with fail
        refine Hc.out.mono ?_
        rintro e w13 ⟨rfl, hu3⟩
        have hu := U4.out.trans_new hu3
        have N2 := hide (N2.out.trans_new hu)
        have BX := hide (BX.out.new_ hu)
        have BY := hide (BY.out.new_ hu)
        clear hu
        clear Hc hu3 x0 x1 x2 x3 x4 x5 x6 x7 y0 y1 y2 y3 y4 y5 y6 y7 zx zy
        by_cases z3 : l3 = 0
        · have hz3 : (l3 == 0) = true := by simp [z3]
          have Z3 := hide z3
          clear z3
          have bx := BX.out
          have by_ := BY.out
          have x0 := bx.cell 0
          have x1 := bx.cell 1
          have x2 := bx.cell 2
          have x3 := bx.cell 3
          have x4 := bx.cell 4
          have x5 := bx.cell 5
          have x6 := bx.cell 6
          have x7 := bx.cell 7
          have y0 := by_.cell 0
          have y1 := by_.cell 1
          have y2 := by_.cell 2
          have y3 := by_.cell 3
          have y4 := by_.cell 4
          have y5 := by_.cell 5
          have y6 := by_.cell 6
          have y7 := by_.cell 7
          have zx := bx.lt
          have zy := by_.lt
          simp only [List.getElem?_toArray, List.getElem?_cons_zero, List.getElem?_cons_succ] at x0 x1 x2 x3 x4 x5 x6 x7 y0 y1 y2 y3 y4 y5 y6 y7
          clear bx by_
          have Hc := hide (orderInts_any xT yT xt.length yt.length xtc ytc xt yt w13 (OX.out.new_ N2.out).tags (OY.out.new_ N2.out).tags rfl rfl LX.out.2 LY.out.2)
          rw [L4.out] at Hc
          go_wp2_with fail
          refine Hc.out.mono ?_
          rintro e w15 ⟨rfl, hu⟩
          have N2 := hide (N2.out.trans_new hu)
          have BX := hide (BX.out.new_ hu)
          have BY := hide (BY.out.new_ hu)
          clear hu
          clear Hc x0 x1 x2 x3 x4 x5 x6 x7 y0 y1 y2 y3 y4 y5 y6 y7 zx zy
          go_wp2_with fail
          go_ret
          exact ⟨by rw [← HO.out, HCH.out, if_pos Z1.out, if_pos Z2.out, if_pos Z3.out]; rfl, N2.out⟩
        · have hz3 : (l3 == 0) = false := by simp [z3]
          have Z3 := hide z3
          clear z3
          go_wp2_with fail
          go_ret
          exact ⟨by rw [← HO.out, HCH.out, if_pos Z1.out, if_pos Z2.out, if_neg Z3.out]; rfl, N2.out⟩
      · have hz2 : (l2 == 0) = false := by simp [z2]
        have Z2 := hide z2
        clear z2
        go_wp2_with fail
        go_ret
        exact ⟨by rw [← HO.out, HCH.out, if_pos Z1.out, if_neg Z2.out]; rfl, N2.out⟩
    · have hz1 : (l1 == 0) = false := by simp [z1]
      have Z1 := hide z1
      clear z1
      go_wp2_with fail
      go_ret
      exact ⟨by rw [← HO.out, HCH.out, if_neg Z1.out]; rfl, N2.out⟩
  · have HP := hide hp
    by_cases hq : yf < xf
    · have hb : (xf != yf) = true := by simp [hp]
      clear hp
      go_wp2_with fail
      go_ret
      exact ⟨by rw [show R = -1 from by rw [← HO.out, ordC_pref HP.out]; show sgn yf xf = -1; unfold sgn; rw [if_pos hq]]; rfl, N2.out⟩
    · have hb : (xf != yf) = true := by simp [hp]
      have HQ := hide (show xf < yf by omega)
      clear hp
      go_wp2_with fail
      go_ret
      exact ⟨by rw [show R = 1 from by rw [← HO.out, ordC_pref HP.out]; show sgn yf xf = 1; unfold sgn; rw [if_neg (by have := HQ.out; omega), if_pos HQ.out]]; rfl, N2.out⟩
end Go.Proofs.Ytlealjcllbpgkaa

namespace Go.Proofs.Ytlealjcllbpgkaa
open Go.RowKit
theorem ins_sorted {cs : List RtC} {x : RtC} {a : Nat} (hs : cs.Pairwise fun x y => leL ltC x y) (h1 : ∀ (j : Nat) y, a ≤ j → cs[j]? = some y → ltC x y = true) (h2 : 0 < a → ∃ y, cs[a - 1]? = some y ∧ ltC x y = false) :
    (cs.take a ++ x :: cs.drop a).Pairwise fun x y => leL ltC x y := by
  have hc := hs
  rw [← List.take_append_drop a cs] at hc
  obtain ⟨p1, p2, p3⟩ := List.pairwise_append.1 hc
  refine List.pairwise_append.2 ⟨p1, List.pairwise_cons.2 ⟨fun v hv => ?_, p2⟩, fun u hu v hv => ?_⟩
  · obtain ⟨i, hi⟩ := List.getElem?_of_mem hv
    rw [List.getElem?_drop] at hi
    exact ltC_swo.asym _ _ (h1 (a + i) v (by omega) hi)
  · rcases List.mem_cons.1 hv with rfl | hv
    · obtain ⟨i, hi⟩ := List.getElem?_of_mem hu
      rw [List.getElem?_take] at hi
      split at hi
      · rename_i hia
        obtain ⟨y, hy, hxy⟩ := h2 (by omega)
        show ltC v u = false
        by_cases hie : i = a - 1
        · subst hie
          rw [hi] at hy
          injection hy with hy
          subst hy
          exact hxy
        · obtain ⟨hl1, e1⟩ := List.getElem?_eq_some_iff.1 hi
          obtain ⟨hl2, e2⟩ := List.getElem?_eq_some_iff.1 hy
          have h3 := List.pairwise_iff_getElem.1 hs i (a - 1) hl1 hl2 (by omega)
          rw [e1, e2] at h3
          cases e : ltC v u with
          | false => rfl
          | true =>
            rcases ltC_swo.neg v y u e with h4 | h4
            · rw [hxy] at h4; cases h4
            · exact absurd (h4.symm.trans h3) (by decide)
      · cases hi
    · exact p3 u hu v hv
theorem rts_own2 {w w0 : World} {v : Value} {n : Nat} {l : List RouteR} (h : w.ownsRow w0.heap.size TRt 8 v n (flat (l.map RouteR.cells))) (hu : New w0 w) (ho : ∀ r ∈ l, AttrOk w0 r.at_) : ∃ A cap, v = .slice A n cap ∧ n ≤ cap ∧ l.length = n ∧ Rts w A l := by
  obtain ⟨A, cap, hv, hn, hc, hr, _⟩ := rws_of_own (by omega) h (rt_sizeV l)
  exact ⟨A, cap, hv, hc, by simpa using hn, hr, fun i r hi => (ho r (List.mem_of_getElem? hi)).new_ hu⟩
set_option maxRecDepth 20000 in
set_option maxHeartbeats 16000000 in
theorem sortRoutes_any (ls : List RouteR) (A : Option Addr) (N cap : Nat) (w : World) (hN : ls.length = N) (hN2 : N ≤ 1000) (hr : Rts w A ls) (hl : ∀ r ∈ ls, r.at_.path.length ≤ 1000 ∧ r.at_.tags.length ≤ 1000) :
    Calls Try.prog 12 #[.slice A N cap] w fun e w1 => ∃ A' cap' rs, e = .returned (.slice A' N cap') ∧ N ≤ cap' ∧ Rts w1 A' rs ∧ rs.Perm ls ∧ (rs.map RouteR.con).Pairwise (fun x y => leL ltC x y) ∧ New w w1 := by
  have HN := hide hN
  have HR := hide hr
  have HL := hide hl
  clear hN hr hl
  go_enter Try.func12, Try.ntmps12
  go_upto_region 3 with (fail)
  go_loopw [3, 4] (fun vo vi wr => ∃ (i : Nat) (B : Option Addr) (cb : Nat) (os : List RouteR), i ≤ N ∧ vi = .int .i64 i ∧ vo = .slice B i cb ∧ i ≤ cb ∧ os.length = i ∧ os.Perm (ls.take i) ∧ (os.map RouteR.con).Pairwise (fun x y => leL ltC x y) ∧ Rts wr B os ∧ New w wr) (fun _ vi _ => N - (intOf vi).toNat)
  case atStart => exact ⟨0, none, 0, [], by omega, rfl, rfl, by omega, rfl, by simp, by simp, ⟨fun h => absurd h (by simp), fun i r h => by simp at h⟩, Upd.refl _ _⟩
  case round =>
    obtain ⟨i, B, cb, os, hi, rfl, rfl, hcb, ho, hp, hs, hb, hn⟩ := hrel
    have HO := hide ho
    have Hcb := hide hcb
    have HP := hide hp
    have HS := hide hs
    have HB := hide hb
    have HM := hide hn
    clear hcb ho hp hs hb hn
    by_cases hlt : i < N
    · have i2 : (i : Int) < (N : Int) := by omega
      obtain ⟨b, o, ⟨xa, xn, ⟨xP, xpc, xp, xf, xm, xo, xT, xtc, xt⟩, xg⟩, hA, _, hx, hok, _⟩ := (HR.out.new_ HM.out).at_ (k := i) (by have := HN.out; omega)
      subst hA
      have HX := hide hx
      have GX := hide (Good.mk hok (HL.out _ (List.mem_of_getElem? hx)))
      clear hx hok
      go_upto_region 6 with (fail)
      go_loopw [5] (fun va wq => ∃ a : Nat, a ≤ i ∧ va = .int .i64 a ∧ (∀ (j : Nat) (y : RtC), a ≤ j → (os.map RouteR.con)[j]? = some y → ltC (RouteR.con ⟨xa, xn, ⟨xP, xpc, xp, xf, xm, xo, xT, xtc, xt⟩, xg⟩) y = true) ∧ New wr wq) (fun va _ => (intOf va).toNat)
      case atStart => exact ⟨i, by omega, rfl, fun j y hj hy => by
        have := (List.getElem?_eq_some_iff.1 hy).1
        rw [List.length_map, HO.out] at this
        omega, Upd.refl _ _⟩
      case round =>
        obtain ⟨a, ha, rfl, h1, hm⟩ := hrel
        have H1 := hide h1
        have HM := hide (HM.out.trans_new hm)
        have HB := hide (HB.out.new_ hm)
        have GX := hide (GX.out.new_ hm)
        have Hq := hide hm
        clear h1 hm
        go_upto_region 6 with (fail)
        go_cut [29] (fun v wx => ∃ c : Bool, v = .bool c ∧ (c = true → 0 < a ∧ ∃ y, (os.map RouteR.con)[a - 1]? = some y ∧ ltC (RouteR.con ⟨xa, xn, ⟨xP, xpc, xp, xf, xm, xo, xT, xtc, xt⟩, xg⟩) y = true) ∧ (c = false → 0 < a → ∃ y, (os.map RouteR.con)[a - 1]? = some y ∧ ltC (RouteR.con ⟨xa, xn, ⟨xP, xpc, xp, xf, xm, xo, xT, xtc, xt⟩, xg⟩) y = false) ∧ New wr wx)
        case first =>
          as_aux_lemma =>
            by_cases h0 : 0 < a
            · obtain ⟨m, hm⟩ : ∃ m : Nat, m + 1 = a := ⟨a - 1, by omega⟩
              have q1 : IntKind.i64.wrap ((a : Int) - 1) = (m : Int) := by rw [IntWalk.i64_in _ (by omega)]; omega
              have q2 : (m : Int) < (i : Int) := by omega
              have q3 : (0 : Int) ≤ (m : Int) := by omega
              have hma : a - 1 = m := by omega
              obtain ⟨b2, o2, ⟨ya, yn, ⟨yP, ypc, yp, yf, ym, yo, yT, ytc, yt⟩, yg⟩, hB, zb, hy, hoky, e0, e1, e2, e3, e4, e5, e6, e7⟩ := HB.out.at_ (k := m) (by have := HO.out; omega)
              subst hB
              obtain ⟨zd, d0, d1, d2, d3, d4, d5, d6, d7⟩ := Rts.at_r (HR.out.new_ HM.out) HX.out
              have hly : yp.length ≤ 1000 ∧ yt.length ≤ 1000 := HL.out _ (List.mem_of_mem_take (HP.out.mem_iff.1 (List.mem_of_getElem? hy)))
              obtain ⟨r, hr⟩ : ∃ r, ordC (RouteR.con ⟨xa, xn, ⟨xP, xpc, xp, xf, xm, xo, xT, xtc, xt⟩, xg⟩) (RouteR.con ⟨ya, yn, ⟨yP, ypc, yp, yf, ym, yo, yT, ytc, yt⟩, yg⟩) = r := ⟨_, rfl⟩
              have Ho := hide (fun w' (hw : New wr w') => orderRoutes_any ⟨xa, xn, ⟨xP, xpc, xp, xf, xm, xo, xT, xtc, xt⟩, xg⟩ ⟨ya, yn, ⟨yP, ypc, yp, yf, ym, yo, yT, ytc, yt⟩, yg⟩ w' (GX.out.new_ hw).ok (hoky.new_ hw) GX.out.len hly)
              rw [hr] at Ho
              have HY := hide (show (os.map RouteR.con)[a - 1]? = some (RouteR.con ⟨ya, yn, ⟨yP, ypc, yp, yf, ym, yo, yT, ytc, yt⟩, yg⟩) from by rw [hma, List.getElem?_map, hy]; rfl)
              have Hr := hide (show ltC (RouteR.con ⟨xa, xn, ⟨xP, xpc, xp, xf, xm, xo, xT, xtc, xt⟩, xg⟩) (RouteR.con ⟨ya, yn, ⟨yP, ypc, yp, yf, ym, yo, yT, ytc, yt⟩, yg⟩) = decide (r < 0) from by unfold ltC; rw [hr])
              have Ha := hide h0
              clear hy hoky hly hr hma hm
              unfold RouteR.cells at Ho
              dsimp only at Ho
              refine wp_region_new wr (Upd.refl _ _) (by kernel_rfl) (by kernel_rfl) ?_
              repeat (go_big_quiet_step ((go_at_call 14; exact new_call (Ho.out _ (NewW.h _)))))
              refine wpQuiet_nil ?_
              rintro _ ⟨nq, rfl⟩
              obtain ⟨wn, hu⟩ := nq
              dsimp only
              go_wp2_with fail
              go_meet
              exact ⟨decide (r < 0), by first | rfl | simp, fun h => ⟨Ha.out, _, HY.out, by rw [Hr.out]; exact h⟩, fun h _ => ⟨_, HY.out, by rw [Hr.out]; exact h⟩, hu⟩
            · have Ha := hide h0
              refine wp_region_new wr (Upd.refl _ _) (by kernel_rfl) (by kernel_rfl) ?_
              repeat (go_big_quiet_step (fail))
              refine wpQuiet_nil ?_
              rintro _ ⟨nq, rfl⟩
              obtain ⟨wn, hu⟩ := nq
              dsimp only
              go_wp2_with fail
              go_meet
              exact ⟨false, by first | rfl | simp, fun h => (by cases h), fun _ h => absurd h Ha.out, hu⟩
        case rest =>
          obtain ⟨c, rfl, hc1, hc2, hu⟩ := hcut
          cases c with
          | true =>
            obtain ⟨h0, y, hy, hxy⟩ := hc1 rfl
            have HH := hide (And.intro h0 (And.intro hy (And.intro hxy (Hq.out.trans_new hu))))
            obtain ⟨m, hm⟩ : ∃ m : Nat, m + 1 = a := ⟨a - 1, by omega⟩
            have Hma := hide hm
            have q1 : IntKind.i64.wrap ((a : Int) - 1) = (m : Int) := by rw [IntWalk.i64_in _ (by omega)]; omega
            clear hc1 hc2 h0 hy hxy hu hm
            go_wp2_with fail
            exact ⟨⟨m, by have := Hma.out; omega, rfl, fun j z hj hz => by
              by_cases hja : a ≤ j
              · exact H1.out j z hja hz
              · obtain rfl : j = a - 1 := by have := Hma.out; omega
                rw [HH.out.2.1] at hz
                injection hz with hz
                subst hz
                exact HH.out.2.2.1, HH.out.2.2.2⟩, by have := Hma.out; simp [intOf]; omega⟩
          | false =>
            have H2 := hide (hc2 rfl)
            have HM := hide (HM.out.trans_new hu)
            have HB := hide (HB.out.new_ hu)
            have GX := hide (GX.out.new_ hu)
            clear hc1 hc2 hu Hq
            generalize hwx : wc = wx at *
            clear hwx
            obtain ⟨i0, hi0, hz0, hz1, hz2⟩ := info_parts info_TRt
            have i3 : (a : Int) ≤ (cb : Int) := by have := Hcb.out; omega
            have i4 : (a : Int) ≤ (i : Int) := by omega
            have i5 : (0 : Int) ≤ (a : Int) := by omega
            go_upto_region 9 with (fail)
            go_cut [6] (fun v6 wy => wy.ownsRow wx.heap.size TRt 8 v6 a (flat ((os.take a).map RouteR.cells)) ∧ New wx wy)
            case first =>
              as_aux_lemma =>
                by_cases hck : cb = 0
                · have hi : i = 0 := by have := Hcb.out; omega
                  have ha0 : a = 0 := by omega
                  subst hck
                  subst hi
                  subst ha0
                  cases B with
                  | none =>
                    go_wp2_with (at_builtin; refine append_src rfl (.tmp 32) (.tmp 35) 22 rfl wx.heap.size TRt i0 _ 8 96 Try.underlying22 hi0 hz0 hz1 hz2 rfl (by omega) (.slice none 0 0) 0 [] rfl (World.ownsRow_nil _ _ _ _) _ _ _ (flat ((os.take 0).map RouteR.cells)) rfl (by rw [rt_lenV, List.length_take, HO.out]; first | (done) | (have := Hcb.out; omega)) (fun h => absurd h (by omega)) (rt_oneV _) (by unfold maxLen; omega) (by omega) (Nat.le_refl _) ?_)
                    intro v6 w6 ho6 hg6
                    have u6 : New wx w6 := grown_new hg6
                    have Ho6 := hide ho6
                    have U6 := hide u6
                    clear ho6 hg6 u6
                    go_wp2_with fail
                    go_meet
                    exact ⟨by first | (simpa using Ho6.out) | (simp only [Nat.zero_add, List.nil_append] at Ho6; exact Ho6.out), U6.out⟩
                  | some z =>
                    go_wp2_with (at_builtin; refine append_src rfl (.tmp 32) (.tmp 35) 22 rfl wx.heap.size TRt i0 _ 8 96 Try.underlying22 hi0 hz0 hz1 hz2 rfl (by omega) (.slice none 0 0) 0 [] rfl (World.ownsRow_nil _ _ _ _) _ _ _ (flat ((os.take 0).map RouteR.cells)) rfl (by rw [rt_lenV, List.length_take, HO.out]; first | (done) | (have := Hcb.out; omega)) (fun h => absurd h (by omega)) (rt_oneV _) (by unfold maxLen; omega) (by omega) (Nat.le_refl _) ?_)
                    intro v6 w6 ho6 hg6
                    have u6 : New wx w6 := grown_new hg6
                    have Ho6 := hide ho6
                    have U6 := hide u6
                    clear ho6 hg6 u6
                    go_wp2_with fail
                    go_meet
                    exact ⟨by first | (simpa using Ho6.out) | (simp only [Nat.zero_add, List.nil_append] at Ho6; exact Ho6.out), U6.out⟩
                · cases B with
                  | none =>
                    go_wp2_with (at_builtin; refine append_src rfl (.tmp 32) (.tmp 35) 22 rfl wx.heap.size TRt i0 _ 8 96 Try.underlying22 hi0 hz0 hz1 hz2 rfl (by omega) (.slice none 0 0) 0 [] rfl (World.ownsRow_nil _ _ _ _) _ _ _ (flat ((os.take a).map RouteR.cells)) rfl (by rw [rt_lenV, List.length_take, HO.out]; first | (done) | (have := Hcb.out; omega)) (fun h => rts_take_flat HB.out a (by rw [List.length_take, HO.out]; omega)) (rt_oneV _) (by unfold maxLen; omega) (by omega) (Nat.le_refl _) ?_)
                    intro v6 w6 ho6 hg6
                    have u6 : New wx w6 := grown_new hg6
                    have Ho6 := hide ho6
                    have U6 := hide u6
                    clear ho6 hg6 u6
                    go_wp2_with fail
                    go_meet
                    exact ⟨by first | (simpa using Ho6.out) | (simp only [Nat.zero_add, List.nil_append] at Ho6; exact Ho6.out), U6.out⟩
                  | some z =>
                    go_wp2_with (at_builtin; refine append_src rfl (.tmp 32) (.tmp 35) 22 rfl wx.heap.size TRt i0 _ 8 96 Try.underlying22 hi0 hz0 hz1 hz2 rfl (by omega) (.slice none 0 0) 0 [] rfl (World.ownsRow_nil _ _ _ _) _ _ _ (flat ((os.take a).map RouteR.cells)) rfl (by rw [rt_lenV, List.length_take, HO.out]; first | (done) | (have := Hcb.out; omega)) (fun h => rts_take_flat HB.out a (by rw [List.length_take, HO.out]; omega)) (rt_oneV _) (by unfold maxLen; omega) (by omega) (Nat.le_refl _) ?_)
                    intro v6 w6 ho6 hg6
                    have u6 : New wx w6 := grown_new hg6
                    have Ho6 := hide ho6
                    have U6 := hide u6
                    clear ho6 hg6 u6
                    go_wp2_with fail
                    go_meet
                    exact ⟨by first | (simpa using Ho6.out) | (simp only [Nat.zero_add, List.nil_append] at Ho6; exact Ho6.out), U6.out⟩
            case rest =>
              obtain ⟨ho6, hu6⟩ := hcut
              have Ho6 := hide ho6
              have U6 := hide hu6
              obtain ⟨zd, d0, d1, d2, d3, d4, d5, d6, d7⟩ := Rts.at_r (HR.out.new_ (HM.out.trans_new hu6)) HX.out
              clear ho6 hu6
              go_upto_region 10 with (fail)
              have z6 : wx.heap.size ≤ (wc.alloc (.cells #[.int .i64 xa, .int .i64 xn, .slice xP xp.length xpc, .int .i64 xf, .int .i64 xm, .int .i64 xo, .slice xT xt.length xtc, .int .i64 xg] TRt)).heap.size := (U6.out.alloc _).size
              have b6 := hide (Blk.new wc TRt #[.int .i64 xa, .int .i64 xn, .slice xP xp.length xpc, .int .i64 xf, .int .i64 xm, .int .i64 xo, .slice xT xt.length xtc, .int .i64 xg])
              go_wp2_with (at_builtin; refine append_src rfl (.tmp 37) (.tmp 42) 22 rfl wx.heap.size TRt i0 _ 8 96 Try.underlying22 hi0 hz0 hz1 hz2 rfl (by omega) u6 a _ rfl (own_new Ho6.out ((Upd.refl (fun _ => False) _).alloc _)) (some ⟨wc.heap.size, 0, none⟩) 1 1 (flat ([⟨xa, xn, ⟨xP, xpc, xp, xf, xm, xo, xT, xtc, xt⟩, xg⟩].map RouteR.cells)) rfl rfl (fun _ => ⟨_, _, rfl, fun j u hj => by rw [Nat.zero_add, b6.out.cell j]; simpa [flat, RouteR.cells] using hj⟩) (rt_oneV _) (by unfold maxLen; omega) (by omega) z6 ?_)
              intro v7 w7 ho7 hg7
              have n7 : New wx w7 := (U6.out.alloc _).trans (grown_upd (S := fun q => u6.ownBlock = some q) hg7 fun g h => h) fun q hq hx => by have := (Ho6.out.lt q hx).1; omega
              have Ho7 := hide ho7
              have N7 := hide n7
              clear ho7 hg7 n7 z6 b6 zd d0 d1 d2 d3 d4 d5 d6 d7
              go_upto_region 11 with (fail)
              have hfin : ∀ (v8 : Value) (w8 : World), w8.ownsRow wx.heap.size TRt 8 v8 (i + 1) (flat ((os.take a).map RouteR.cells) ++ flat ([⟨xa, xn, ⟨xP, xpc, xp, xf, xm, xo, xT, xtc, xt⟩, xg⟩].map RouteR.cells) ++ flat ((os.drop a).map RouteR.cells)) → New wx w8 →
                  ∃ (B' : Option Addr) (c' : Nat) (o' : List RouteR), v8 = .slice B' (i + 1) c' ∧ i + 1 ≤ c' ∧ o'.length = i + 1 ∧ o'.Perm (ls.take (i + 1)) ∧ (o'.map RouteR.con).Pairwise (fun x y => leL ltC x y) ∧ Rts w8 B' o' ∧ New w w8 := fun v8 w8 ho hu => by
                have e1 : flat ((os.take a).map RouteR.cells) ++ flat ([⟨xa, xn, ⟨xP, xpc, xp, xf, xm, xo, xT, xtc, xt⟩, xg⟩].map RouteR.cells) ++ flat ((os.drop a).map RouteR.cells) = flat ((os.take a ++ ⟨xa, xn, ⟨xP, xpc, xp, xf, xm, xo, xT, xtc, xt⟩, xg⟩ :: os.drop a).map RouteR.cells) := by
                  rw [List.map_append, flat_append, List.map_cons, List.append_assoc]
                  simp [flat]
                rw [e1] at ho
                have hmem : ∀ r ∈ os.take a ++ ⟨xa, xn, ⟨xP, xpc, xp, xf, xm, xo, xT, xtc, xt⟩, xg⟩ :: os.drop a, AttrOk wx r.at_ := fun r hm => by
                  rcases List.mem_append.1 hm with h | h
                  · obtain ⟨k, hk⟩ := List.getElem?_of_mem (List.mem_of_mem_take h)
                    exact HB.out.attr k r hk
                  · rcases List.mem_cons.1 h with rfl | h
                    · exact GX.out.ok
                    · obtain ⟨k, hk⟩ := List.getElem?_of_mem (List.mem_of_mem_drop h)
                      exact HB.out.attr k r hk
                obtain ⟨B', c', rfl, hc, hl, hr⟩ := rts_own2 ho hu hmem
                refine ⟨B', c', _, rfl, hc, hl, ?_, ?_, hr, HM.out.trans_new hu⟩
                · refine List.perm_middle.trans ?_
                  rw [List.take_append_drop]
                  refine (List.Perm.cons _ HP.out).trans ?_
                  rw [List.take_add_one, HX.out]
                  exact (List.perm_append_singleton _ _).symm
                · rw [List.map_append, List.map_cons, List.map_take, List.map_drop]
                  exact ins_sorted HS.out H1.out H2.out
              have FIN9 := hide hfin
              clear hfin
              by_cases hck : cb = a
              · have hck3 : a = cb := hck.symm
                clear hck
                subst hck3
                have i9 : i - a = 0 := by have := Hcb.out; omega
                cases B with
                | none =>
                  go_wp2_with (at_builtin; refine append_src rfl (.tmp 44) (.tmp 47) 22 rfl wx.heap.size TRt i0 _ 8 96 Try.underlying22 hi0 hz0 hz1 hz2 rfl (by omega) v7 _ _ rfl Ho7.out _ _ _ (flat ((os.drop a).map RouteR.cells)) rfl (by rw [rt_lenV, List.length_drop, HO.out]; first | (done) | (have := Hcb.out; omega)) (fun h => absurd h (by omega)) (rt_oneV _) (by unfold maxLen; omega) (by omega) N7.out.size ?_)
                  intro v8 w8 ho8 hg8
                  have hu8 := grown_own_new N7.out Ho7.out hg8
                  obtain ⟨B9, c9, o9, rfl, q9⟩ := FIN9.out v8 w8 (by first | (rw [show i + 1 = a + (1 + (i - a)) by omega]; simpa [Nat.add_assoc] using ho8) | (rw [show i + 1 = a + 1 by (have := Hcb.out; omega)]; simpa [Nat.add_assoc] using ho8)) hu8
                  have Q9 := hide q9
                  clear ho8 hg8 hu8 q9
                  go_wp2_with fail
                  exact ⟨⟨i + 1, B9, c9, o9, by omega, by go_num, by first | rfl | (congr 1; done), Q9.out⟩, by simp [intOf]; omega⟩
                | some z =>
                  go_wp2_with (at_builtin; refine append_src rfl (.tmp 44) (.tmp 47) 22 rfl wx.heap.size TRt i0 _ 8 96 Try.underlying22 hi0 hz0 hz1 hz2 rfl (by omega) v7 _ _ rfl Ho7.out _ _ _ (flat ((os.drop a).map RouteR.cells)) rfl (by rw [rt_lenV, List.length_drop, HO.out]; first | (done) | (have := Hcb.out; omega)) (fun h => absurd h (by omega)) (rt_oneV _) (by unfold maxLen; omega) (by omega) N7.out.size ?_)
                  intro v8 w8 ho8 hg8
                  have hu8 := grown_own_new N7.out Ho7.out hg8
                  obtain ⟨B9, c9, o9, rfl, q9⟩ := FIN9.out v8 w8 (by first | (rw [show i + 1 = a + (1 + (i - a)) by omega]; simpa [Nat.add_assoc] using ho8) | (rw [show i + 1 = a + 1 by (have := Hcb.out; omega)]; simpa [Nat.add_assoc] using ho8)) hu8
                  have Q9 := hide q9
                  clear ho8 hg8 hu8 q9
                  go_wp2_with fail
                  exact ⟨⟨i + 1, B9, c9, o9, by omega, by go_num, by first | rfl | (congr 1; done), Q9.out⟩, by simp [intOf]; omega⟩
              · have hck2 : ¬ a = cb := fun h => hck h.symm
                cases B with
                | none =>
                  go_wp2_with (at_builtin; refine append_src rfl (.tmp 44) (.tmp 47) 22 rfl wx.heap.size TRt i0 _ 8 96 Try.underlying22 hi0 hz0 hz1 hz2 rfl (by omega) v7 _ _ rfl Ho7.out _ _ _ (flat ((os.drop a).map RouteR.cells)) rfl (by rw [rt_lenV, List.length_drop, HO.out]; first | (done) | (have := Hcb.out; omega)) (fun h => rts_drop_flat (HB.out.new_ N7.out) a (by rw [List.length_drop, HO.out]; omega)) (rt_oneV _) (by unfold maxLen; omega) (by omega) N7.out.size ?_)
                  intro v8 w8 ho8 hg8
                  have hu8 := grown_own_new N7.out Ho7.out hg8
                  obtain ⟨B9, c9, o9, rfl, q9⟩ := FIN9.out v8 w8 (by first | (rw [show i + 1 = a + (1 + (i - a)) by omega]; simpa [Nat.add_assoc] using ho8) | (rw [show i + 1 = a + 1 by (have := Hcb.out; omega)]; simpa [Nat.add_assoc] using ho8)) hu8
                  have Q9 := hide q9
                  clear ho8 hg8 hu8 q9
                  go_wp2_with fail
                  exact ⟨⟨i + 1, B9, c9, o9, by omega, by go_num, by first | rfl | (congr 1; done), Q9.out⟩, by simp [intOf]; omega⟩
                | some z =>
                  go_wp2_with (at_builtin; refine append_src rfl (.tmp 44) (.tmp 47) 22 rfl wx.heap.size TRt i0 _ 8 96 Try.underlying22 hi0 hz0 hz1 hz2 rfl (by omega) v7 _ _ rfl Ho7.out _ _ _ (flat ((os.drop a).map RouteR.cells)) rfl (by rw [rt_lenV, List.length_drop, HO.out]; first | (done) | (have := Hcb.out; omega)) (fun h => rts_drop_flat (HB.out.new_ N7.out) a (by rw [List.length_drop, HO.out]; omega)) (rt_oneV _) (by unfold maxLen; omega) (by omega) N7.out.size ?_)
                  intro v8 w8 ho8 hg8
                  have hu8 := grown_own_new N7.out Ho7.out hg8
                  obtain ⟨B9, c9, o9, rfl, q9⟩ := FIN9.out v8 w8 (by first | (rw [show i + 1 = a + (1 + (i - a)) by omega]; simpa [Nat.add_assoc] using ho8) | (rw [show i + 1 = a + 1 by (have := Hcb.out; omega)]; simpa [Nat.add_assoc] using ho8)) hu8
                  have Q9 := hide q9
                  clear ho8 hg8 hu8 q9
                  go_wp2_with fail
                  exact ⟨⟨i + 1, B9, c9, o9, by omega, by go_num, by first | rfl | (congr 1; done), Q9.out⟩, by simp [intOf]; omega⟩
    · have HE := hide (show i = N by omega)
      have i2 : ¬ (i : Int) < (N : Int) := by omega
      clear hlt
      go_wp2_with fail
      go_ret
      exact ⟨B, cb, by rw [HE.out]; rfl, by have := Hcb.out; have := HE.out; omega, os, HB.out, by
        have h := HP.out
        rwa [List.take_of_length_le (by have := HN.out; have := HE.out; omega)] at h, HS.out, HM.out⟩
end Go.Proofs.Ytlealjcllbpgkaa
