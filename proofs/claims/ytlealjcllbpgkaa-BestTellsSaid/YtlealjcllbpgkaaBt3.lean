/- Package best: Compare. No condition but those that stand in each theorem. -/
import Derived.Test.YtlealjcllbpgkaaBt2
namespace Go.Proofs.Ytlealjcllbpgkaa
open Go.RowKit
abbrev TRo : TypeId := 31
theorem new_grow (w : World) (q : Nat) (os : Array Obj) : New w (Go.Sort.grow (w.drewN q) os) := by
  refine ⟨rfl, rfl, rfl, ?_, fun k hk _ => ?_⟩
  · rw [Go.Sort.size_grow]; exact Nat.le_add_right _ _
  · show (w.heap ++ os)[k]? = w.heap[k]?
    rw [Array.getElem?_append_left hk]
theorem grow_new {w w1 : World} (h : ∃ q os, w1 = Go.Sort.grow (w.drewN q) os) : New w w1 := by
  obtain ⟨q, os, rfl⟩ := h
  exact new_grow w q os
theorem drewN_add (w : World) (a b : Nat) : (w.drewN a).drewN b = w.drewN (a + b) := by unfold World.drewN; simp [Nat.add_assoc]
theorem grow_trans {w w1 w2 : World} (h1 : ∃ q os, w1 = Go.Sort.grow (w.drewN q) os) (h2 : ∃ q os, w2 = Go.Sort.grow (w1.drewN q) os) : ∃ q os, w2 = Go.Sort.grow (w.drewN q) os := by
  obtain ⟨q1, o1, rfl⟩ := h1
  obtain ⟨q2, o2, rfl⟩ := h2
  exact ⟨q1 + q2, o1 ++ o2, by show Go.Sort.grow (Go.Sort.grow ((w.drewN q1).drewN q2) o1) o2 = _; rw [Go.Sort.grow_grow, drewN_add]⟩
theorem first8_cells (W : World) (t : TypeId) (a0 a1 a2 a3 a4 a5 a6 a7 : Int) : ∀ (i : Nat) (z : Int), [a0, a1, a2, a3, a4, a5, a6, a7][i]? = some z → (W.alloc (.cells #[.int .i64 a0, .int .i64 a1, .int .i64 a2, .int .i64 a3, .int .i64 a4, .int .i64 a5, .int .i64 a6, .int .i64 a7] t)).cell? ⟨W.heap.size, 0 + i, none⟩ = some (.int .i64 z) := by
  intro i z hz
  have h := (Blk.new W t #[.int .i64 a0, .int .i64 a1, .int .i64 a2, .int .i64 a3, .int .i64 a4, .int .i64 a5, .int .i64 a6, .int .i64 a7]).cell i
  rw [Nat.zero_add, h]
  match i, hz with
  | 0, hz | 1, hz | 2, hz | 3, hz | 4, hz | 5, hz | 6, hz | 7, hz => simp at hz; simp [hz]
  | k + 8, hz => simp at hz
theorem grown_two (w : World) (o1 o2 : Obj) : ((w.alloc o1).alloc o2).drew = Go.Sort.grow (w.drewN 1) (#[o1] ++ #[o2]) := by
  rw [Go.Sort.alloc_eq_grow, Go.Sort.alloc_eq_grow, Go.Sort.grow_grow]
  rfl
theorem grown_one {w w1 : World} (h : ∃ q os, w1 = Go.Sort.grow (w.drewN q) os) (o : Obj) : ∃ q os, w1.alloc o = Go.Sort.grow (w.drewN q) os := by
  obtain ⟨q, os, rfl⟩ := h
  exact ⟨q, os ++ #[o], by rw [Go.Sort.alloc_eq_grow, Go.Sort.grow_grow]⟩
theorem grown_drewn {w w1 : World} (h : ∃ q os, w1 = Go.Sort.grow (w.drewN q) os) : ∃ q os, w1.drew = Go.Sort.grow (w.drewN q) os := by
  obtain ⟨q, os, rfl⟩ := h
  exact ⟨q + 1, os, rfl⟩
set_option maxHeartbeats 8000000 in
set_option maxRecDepth 20000 in
theorem cmpRoutes_any (x y : RouteR) (w : World) (hx : AttrOk w x.at_) (hy : AttrOk w y.at_) (lx : x.at_.path.length ≤ 1000) (lx2 : x.at_.tags.length ≤ 1000) (ly : y.at_.path.length ≤ 1000) (ly2 : y.at_.tags.length ≤ 1000) :
    Calls Try.prog 16 #[.agg x.cells, .agg y.cells] w fun e w1 => e = .returned (.int .i64 (ordC x.con y.con)) ∧ ∃ q os', w1 = Go.Sort.grow (w.drewN q) os' := by
  obtain ⟨xa, xn, ⟨P, pc, p, xp, xm, xo, T, tc, t⟩, xf⟩ := x
  obtain ⟨ya, yn, ⟨P2, pc2, p2, yp, ym, yo, T2, tc2, t2⟩, yf⟩ := y
  unfold RouteR.cells
  have Hb0 := hide ((Blk.new w TRo #[.int .i64 xa, .int .i64 xn, .slice P p.length pc, .int .i64 xp, .int .i64 xm, .int .i64 xo, .slice T t.length tc, .int .i64 xf]).alloc (.cells #[.int .i64 ya, .int .i64 yn, .slice P2 p2.length pc2, .int .i64 yp, .int .i64 ym, .int .i64 yo, .slice T2 t2.length tc2, .int .i64 yf] TRo))
  have Hb1 := hide (Blk.at_ (w.alloc (.cells #[.int .i64 xa, .int .i64 xn, .slice P p.length pc, .int .i64 xp, .int .i64 xm, .int .i64 xo, .slice T t.length tc, .int .i64 xf] TRo)) TRo #[.int .i64 ya, .int .i64 yn, .slice P2 p2.length pc2, .int .i64 yp, .int .i64 ym, .int .i64 yo, .slice T2 t2.length tc2, .int .i64 yf] (w.heap.size + 1) (by simp))
  have Hu := hide (show ∃ q os, (w.alloc (.cells #[.int .i64 xa, .int .i64 xn, .slice P p.length pc, .int .i64 xp, .int .i64 xm, .int .i64 xo, .slice T t.length tc, .int .i64 xf] TRo)).alloc (.cells #[.int .i64 ya, .int .i64 yn, .slice P2 p2.length pc2, .int .i64 yp, .int .i64 ym, .int .i64 yo, .slice T2 t2.length tc2, .int .i64 yf] TRo) = Go.Sort.grow (w.drewN q) os from ⟨0, _, by rw [Go.Sort.alloc_eq_grow, Go.Sort.alloc_eq_grow, Go.Sort.grow_grow]; rfl⟩)
  have Hx := hide hx
  have Hy := hide hy
  clear hx hy
  go_enter Try.func16, Try.ntmps16
  go_upto_region 1 with (fail)
  generalize ((w.alloc (.cells #[.int .i64 xa, .int .i64 xn, .slice P p.length pc, .int .i64 xp, .int .i64 xm, .int .i64 xo, .slice T t.length tc, .int .i64 xf] TRo)).alloc (.cells #[.int .i64 ya, .int .i64 yn, .slice P2 p2.length pc2, .int .i64 yp, .int .i64 ym, .int .i64 yo, .slice T2 t2.length tc2, .int .i64 yf] TRo)) = W at *
  have c2 := Hb0.out.cell 2
  have c3 := Hb0.out.cell 3
  have c4 := Hb0.out.cell 4
  have c5 := Hb0.out.cell 5
  have c6 := Hb0.out.cell 6
  have e2 := Hb1.out.cell 2
  have e3 := Hb1.out.cell 3
  have e4 := Hb1.out.cell 4
  have e5 := Hb1.out.cell 5
  have e6 := Hb1.out.cell 6
  have z0 := Hb0.out.lt
  have z1 := Hb1.out.lt
  simp only [List.getElem?_toArray, List.getElem?_cons_zero, List.getElem?_cons_succ] at c2 c3 c4 c5 c6 e2 e3 e4 e5 e6
  go_region
  · have N2 := hide (((Upd.refl (fun _ => False) W).alloc (.cells #[.slice P p.length pc, .int .i64 xp, .int .i64 xm, .int .i64 xo, .slice T t.length tc] TA)).alloc (.cells #[.slice P2 p2.length pc2, .int .i64 yp, .int .i64 ym, .int .i64 yo, .slice T2 t2.length tc2] TA)).drew
    have G2 := hide (grown_two W (.cells #[.slice P p.length pc, .int .i64 xp, .int .i64 xm, .int .i64 xo, .slice T t.length tc] TA) (.cells #[.slice P2 p2.length pc2, .int .i64 yp, .int .i64 ym, .int .i64 yo, .slice T2 t2.length tc2] TA))
    have Hb2 := hide ((Blk.new W TA #[.slice P p.length pc, .int .i64 xp, .int .i64 xm, .int .i64 xo, .slice T t.length tc]).alloc (.cells #[.slice P2 p2.length pc2, .int .i64 yp, .int .i64 ym, .int .i64 yo, .slice T2 t2.length tc2] TA)).drew
    have Hb3 := hide (Blk.at_ (W.alloc (.cells #[.slice P p.length pc, .int .i64 xp, .int .i64 xm, .int .i64 xo, .slice T t.length tc] TA)) TA #[.slice P2 p2.length pc2, .int .i64 yp, .int .i64 ym, .int .i64 yo, .slice T2 t2.length tc2] (W.heap.size + 1) (by simp)).drew
    clear c2 c3 c4 c5 c6 e2 e3 e4 e5 e6
    go_upto_region 2 with (fail)
    generalize ((W.alloc (.cells #[.slice P p.length pc, .int .i64 xp, .int .i64 xm, .int .i64 xo, .slice T t.length tc] TA)).alloc (.cells #[.slice P2 p2.length pc2, .int .i64 yp, .int .i64 ym, .int .i64 yo, .slice T2 t2.length tc2] TA)).drew = W2 at *
    have k2 := Hb2.out.lt
    have k3 := Hb3.out.lt
    generalize hq2 : W.heap.size = q2 at *
    have Kp := hide (And.intro (Hb0.out.new_ N2.out) (And.intro (Hb1.out.new_ N2.out) (And.intro Hb2.out Hb3.out)))
    have HK := hide (fun (w' : World) (h : New W2 w') => show w'.cell? ⟨q2, 0, none⟩ = some (.slice P p.length pc) ∧ w'.cell? ⟨q2, 1, none⟩ = some (.int .i64 xp) ∧ w'.cell? ⟨q2, 2, none⟩ = some (.int .i64 xm) ∧ w'.cell? ⟨q2, 3, none⟩ = some (.int .i64 xo) ∧ w'.cell? ⟨q2, 4, none⟩ = some (.slice T t.length tc) ∧ w'.cell? ⟨q2 + 1, 0, none⟩ = some (.slice P2 p2.length pc2) ∧ w'.cell? ⟨q2 + 1, 1, none⟩ = some (.int .i64 yp) ∧ w'.cell? ⟨q2 + 1, 2, none⟩ = some (.int .i64 ym) ∧ w'.cell? ⟨q2 + 1, 3, none⟩ = some (.int .i64 yo) ∧ w'.cell? ⟨q2 + 1, 4, none⟩ = some (.slice T2 t2.length tc2) ∧ w'.cell? ⟨w.heap.size, 0, none⟩ = some (.int .i64 xa) ∧ w'.cell? ⟨w.heap.size, 1, none⟩ = some (.int .i64 xn) ∧ w'.cell? ⟨w.heap.size, 7, none⟩ = some (.int .i64 xf) ∧ w'.cell? ⟨w.heap.size + 1, 0, none⟩ = some (.int .i64 ya) ∧ w'.cell? ⟨w.heap.size + 1, 1, none⟩ = some (.int .i64 yn) ∧ w'.cell? ⟨w.heap.size + 1, 7, none⟩ = some (.int .i64 yf) from
      have A := Kp.out.2.2.1.new_ h
      have B := Kp.out.2.2.2.new_ h
      have C := Kp.out.1.new_ h
      have D := Kp.out.2.1.new_ h
      ⟨A.cell 0, A.cell 1, A.cell 2, A.cell 3, A.cell 4, B.cell 0, B.cell 1, B.cell 2, B.cell 3, B.cell 4, C.cell 0, C.cell 1, C.cell 7, D.cell 0, D.cell 1, D.cell 7⟩)
    obtain ⟨f0, f1, f2, f3, f4, f5, f6, f7, f8, f9, g0, g1, g2, g3, g4, g5⟩ := HK.out W2 (Upd.refl _ _)
    have Hu2 := hide (grow_trans Hu.out ⟨1, _, G2.out⟩)
    have HX := hide (fun (X : World) (h : New W2 X) => (Hx.out.new_ (grow_new Hu2.out)).new_ h)
    have HY := hide (fun (X : World) (h : New W2 X) => (Hy.out.new_ (grow_new Hu2.out)).new_ h)
    have N0 := hide ((Upd.refl (fun _ => False) W2).drew)
    have HP := hide (fun (X : World) (h : New W2 X) => cmpInts_any P P2 _ _ pc pc2 p p2 X (HX.out X h).path (HY.out X h).path rfl rfl lx ly)
    have HT := hide (fun (X : World) (h : New W2 X) => cmpInts_any T T2 _ _ tc tc2 t t2 X (HX.out X h).tags (HY.out X h).tags rfl rfl lx2 ly2)
    have HC := hide (fun (X : World) => compareG_any ⟨xa, xn⟩ ⟨ya, yn⟩ X)
    clear lx lx2 ly ly2 Hb0 Hb1 Hb2 Hb3 Kp N2 G2 Hu Hx Hy HX HY
    go_region_held3 (fun w' => w'.cell? ⟨q2, 0, none⟩ = some (.slice P p.length pc) ∧ w'.cell? ⟨q2, 1, none⟩ = some (.int .i64 xp) ∧ w'.cell? ⟨q2, 2, none⟩ = some (.int .i64 xm) ∧ w'.cell? ⟨q2, 3, none⟩ = some (.int .i64 xo) ∧ w'.cell? ⟨q2, 4, none⟩ = some (.slice T t.length tc) ∧ w'.cell? ⟨q2 + 1, 0, none⟩ = some (.slice P2 p2.length pc2) ∧ w'.cell? ⟨q2 + 1, 1, none⟩ = some (.int .i64 yp) ∧ w'.cell? ⟨q2 + 1, 2, none⟩ = some (.int .i64 ym) ∧ w'.cell? ⟨q2 + 1, 3, none⟩ = some (.int .i64 yo) ∧ w'.cell? ⟨q2 + 1, 4, none⟩ = some (.slice T2 t2.length tc2) ∧ w'.cell? ⟨w.heap.size, 0, none⟩ = some (.int .i64 xa) ∧ w'.cell? ⟨w.heap.size, 1, none⟩ = some (.int .i64 xn) ∧ w'.cell? ⟨w.heap.size, 7, none⟩ = some (.int .i64 xf) ∧ w'.cell? ⟨w.heap.size + 1, 0, none⟩ = some (.int .i64 ya) ∧ w'.cell? ⟨w.heap.size + 1, 1, none⟩ = some (.int .i64 yn) ∧ w'.cell? ⟨w.heap.size + 1, 7, none⟩ = some (.int .i64 yf))
      (first | go_keep | exact HK.out _ N1.out | exact HK.out _ N0.out)
      (first
        | (go_at_call 24; refine (compare_any _ _ _).mono ?_; rintro e w' ⟨rfl, rfl⟩)
        | (go_at_call 26; refine (HC.out _).mono ?_; rintro e wc ⟨rfl, hg⟩; have N1 := hide (N0.out.trans_new (grow_new hg)); have G1 := hide hg; clear hg)
        | (go_at_call 25; refine (HT.out _ N1.out).mono ?_; rintro e w' ⟨rfl, rfl⟩)
        | (go_at_call 25; refine (HP.out _ N0.out).mono ?_; rintro e w' ⟨rfl, rfl⟩)
        | (go_at_call 23; refine (first_any _ 0 _ [sgn yp xp, sgn (p.length : Int) (p2.length : Int), sgn xo yo, sgn xm ym, sgn xf yf, lexC p p2, cmpP xa xn ya yn, lexC t t2] _ (by exact first8_cells _ _ _ _ _ _ _ _ _ _) (by simp)).mono ?_; rintro e w' ⟨rfl, rfl⟩))
    go_wp2_with fail
    go_ret
    exact ⟨rfl, grow_trans Hu2.out (grown_one (grow_trans ⟨1, #[], rfl⟩ G1.out) _)⟩
  · have N2 := hide (((Upd.refl (fun _ => False) W).alloc (.cells #[.slice P2 p2.length pc2, .int .i64 yp, .int .i64 ym, .int .i64 yo, .slice T2 t2.length tc2] TA)).alloc (.cells #[.slice P p.length pc, .int .i64 xp, .int .i64 xm, .int .i64 xo, .slice T t.length tc] TA)).drew
    have G2 := hide (grown_two W (.cells #[.slice P2 p2.length pc2, .int .i64 yp, .int .i64 ym, .int .i64 yo, .slice T2 t2.length tc2] TA) (.cells #[.slice P p.length pc, .int .i64 xp, .int .i64 xm, .int .i64 xo, .slice T t.length tc] TA))
    have Hb2 := hide ((Blk.new W TA #[.slice P2 p2.length pc2, .int .i64 yp, .int .i64 ym, .int .i64 yo, .slice T2 t2.length tc2]).alloc (.cells #[.slice P p.length pc, .int .i64 xp, .int .i64 xm, .int .i64 xo, .slice T t.length tc] TA)).drew
    have Hb3 := hide (Blk.at_ (W.alloc (.cells #[.slice P2 p2.length pc2, .int .i64 yp, .int .i64 ym, .int .i64 yo, .slice T2 t2.length tc2] TA)) TA #[.slice P p.length pc, .int .i64 xp, .int .i64 xm, .int .i64 xo, .slice T t.length tc] (W.heap.size + 1) (by simp)).drew
    clear c2 c3 c4 c5 c6 e2 e3 e4 e5 e6
    go_upto_region 2 with (fail)
    generalize ((W.alloc (.cells #[.slice P2 p2.length pc2, .int .i64 yp, .int .i64 ym, .int .i64 yo, .slice T2 t2.length tc2] TA)).alloc (.cells #[.slice P p.length pc, .int .i64 xp, .int .i64 xm, .int .i64 xo, .slice T t.length tc] TA)).drew = W2 at *
    have k2 := Hb2.out.lt
    have k3 := Hb3.out.lt
    generalize hq2 : W.heap.size = q2 at *
    have Kp := hide (And.intro (Hb0.out.new_ N2.out) (And.intro (Hb1.out.new_ N2.out) (And.intro Hb3.out Hb2.out)))
    have HK := hide (fun (w' : World) (h : New W2 w') => show w'.cell? ⟨q2 + 1, 0, none⟩ = some (.slice P p.length pc) ∧ w'.cell? ⟨q2 + 1, 1, none⟩ = some (.int .i64 xp) ∧ w'.cell? ⟨q2 + 1, 2, none⟩ = some (.int .i64 xm) ∧ w'.cell? ⟨q2 + 1, 3, none⟩ = some (.int .i64 xo) ∧ w'.cell? ⟨q2 + 1, 4, none⟩ = some (.slice T t.length tc) ∧ w'.cell? ⟨q2, 0, none⟩ = some (.slice P2 p2.length pc2) ∧ w'.cell? ⟨q2, 1, none⟩ = some (.int .i64 yp) ∧ w'.cell? ⟨q2, 2, none⟩ = some (.int .i64 ym) ∧ w'.cell? ⟨q2, 3, none⟩ = some (.int .i64 yo) ∧ w'.cell? ⟨q2, 4, none⟩ = some (.slice T2 t2.length tc2) ∧ w'.cell? ⟨w.heap.size, 0, none⟩ = some (.int .i64 xa) ∧ w'.cell? ⟨w.heap.size, 1, none⟩ = some (.int .i64 xn) ∧ w'.cell? ⟨w.heap.size, 7, none⟩ = some (.int .i64 xf) ∧ w'.cell? ⟨w.heap.size + 1, 0, none⟩ = some (.int .i64 ya) ∧ w'.cell? ⟨w.heap.size + 1, 1, none⟩ = some (.int .i64 yn) ∧ w'.cell? ⟨w.heap.size + 1, 7, none⟩ = some (.int .i64 yf) from
      have A := Kp.out.2.2.1.new_ h
      have B := Kp.out.2.2.2.new_ h
      have C := Kp.out.1.new_ h
      have D := Kp.out.2.1.new_ h
      ⟨A.cell 0, A.cell 1, A.cell 2, A.cell 3, A.cell 4, B.cell 0, B.cell 1, B.cell 2, B.cell 3, B.cell 4, C.cell 0, C.cell 1, C.cell 7, D.cell 0, D.cell 1, D.cell 7⟩)
    obtain ⟨f0, f1, f2, f3, f4, f5, f6, f7, f8, f9, g0, g1, g2, g3, g4, g5⟩ := HK.out W2 (Upd.refl _ _)
    have Hu2 := hide (grow_trans Hu.out ⟨1, _, G2.out⟩)
    have HX := hide (fun (X : World) (h : New W2 X) => (Hx.out.new_ (grow_new Hu2.out)).new_ h)
    have HY := hide (fun (X : World) (h : New W2 X) => (Hy.out.new_ (grow_new Hu2.out)).new_ h)
    have N0 := hide ((Upd.refl (fun _ => False) W2).drew)
    have HP := hide (fun (X : World) (h : New W2 X) => cmpInts_any P P2 _ _ pc pc2 p p2 X (HX.out X h).path (HY.out X h).path rfl rfl lx ly)
    have HT := hide (fun (X : World) (h : New W2 X) => cmpInts_any T T2 _ _ tc tc2 t t2 X (HX.out X h).tags (HY.out X h).tags rfl rfl lx2 ly2)
    have HC := hide (fun (X : World) => compareG_any ⟨xa, xn⟩ ⟨ya, yn⟩ X)
    clear lx lx2 ly ly2 Hb0 Hb1 Hb2 Hb3 Kp N2 G2 Hu Hx Hy HX HY
    go_region_held3 (fun w' => w'.cell? ⟨q2 + 1, 0, none⟩ = some (.slice P p.length pc) ∧ w'.cell? ⟨q2 + 1, 1, none⟩ = some (.int .i64 xp) ∧ w'.cell? ⟨q2 + 1, 2, none⟩ = some (.int .i64 xm) ∧ w'.cell? ⟨q2 + 1, 3, none⟩ = some (.int .i64 xo) ∧ w'.cell? ⟨q2 + 1, 4, none⟩ = some (.slice T t.length tc) ∧ w'.cell? ⟨q2, 0, none⟩ = some (.slice P2 p2.length pc2) ∧ w'.cell? ⟨q2, 1, none⟩ = some (.int .i64 yp) ∧ w'.cell? ⟨q2, 2, none⟩ = some (.int .i64 ym) ∧ w'.cell? ⟨q2, 3, none⟩ = some (.int .i64 yo) ∧ w'.cell? ⟨q2, 4, none⟩ = some (.slice T2 t2.length tc2) ∧ w'.cell? ⟨w.heap.size, 0, none⟩ = some (.int .i64 xa) ∧ w'.cell? ⟨w.heap.size, 1, none⟩ = some (.int .i64 xn) ∧ w'.cell? ⟨w.heap.size, 7, none⟩ = some (.int .i64 xf) ∧ w'.cell? ⟨w.heap.size + 1, 0, none⟩ = some (.int .i64 ya) ∧ w'.cell? ⟨w.heap.size + 1, 1, none⟩ = some (.int .i64 yn) ∧ w'.cell? ⟨w.heap.size + 1, 7, none⟩ = some (.int .i64 yf))
      (first | go_keep | exact HK.out _ N1.out | exact HK.out _ N0.out)
      (first
        | (go_at_call 24; refine (compare_any _ _ _).mono ?_; rintro e w' ⟨rfl, rfl⟩)
        | (go_at_call 26; refine (HC.out _).mono ?_; rintro e wc ⟨rfl, hg⟩; have N1 := hide (N0.out.trans_new (grow_new hg)); have G1 := hide hg; clear hg)
        | (go_at_call 25; refine (HT.out _ N1.out).mono ?_; rintro e w' ⟨rfl, rfl⟩)
        | (go_at_call 25; refine (HP.out _ N0.out).mono ?_; rintro e w' ⟨rfl, rfl⟩)
        | (go_at_call 23; refine (first_any _ 0 _ [sgn yp xp, sgn (p.length : Int) (p2.length : Int), sgn xo yo, sgn xm ym, sgn xf yf, lexC p p2, cmpP xa xn ya yn, lexC t t2] _ (by exact first8_cells _ _ _ _ _ _ _ _ _ _) (by simp)).mono ?_; rintro e w' ⟨rfl, rfl⟩))
    go_wp2_with fail
    go_ret
    exact ⟨rfl, grow_trans Hu2.out (grown_one (grow_trans ⟨1, #[], rfl⟩ G1.out) _)⟩
end Go.Proofs.Ytlealjcllbpgkaa
