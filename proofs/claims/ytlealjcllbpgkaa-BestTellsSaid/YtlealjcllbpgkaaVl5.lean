/- slices.MinFunc of routes. No condition but those that stand in each theorem. -/
import Derived.Test.YtlealjcllbpgkaaVl4
namespace Go.Proofs.Ytlealjcllbpgkaa
open Go.RowKit Go.Maps Go.Shelf
theorem set8 {w : World} {R : Nat} {x0 x1 x2 x3 x4 x5 x6 x7 y0 y1 y2 y3 y4 y5 y6 y7 : Value} {t : TypeId} (hb : Blk w R t #[x0, x1, x2, x3, x4, x5, x6, x7]) :
    Blk ((((((((w.setCell ⟨R, 0, none⟩ y0).setCell ⟨R, 1, none⟩ y1).setCell ⟨R, 2, none⟩ y2).setCell ⟨R, 3, none⟩ y3).setCell ⟨R, 4, none⟩ y4).setCell ⟨R, 5, none⟩ y5).setCell ⟨R, 6, none⟩ y6).setCell ⟨R, 7, none⟩ y7) R t #[y0, y1, y2, y3, y4, y5, y6, y7] := by
  have := (((((((hb.set_ 0 y0).set_ 1 y1).set_ 2 y2).set_ 3 y3).set_ 4 y4).set_ 5 y5).set_ 6 y6).set_ 7 y7
  simpa using this
theorem set8_upd {w : World} {S : Nat → Prop} {R : Nat} {y0 y1 y2 y3 y4 y5 y6 y7 : Value} (hR : S R) :
    Upd S w ((((((((w.setCell ⟨R, 0, none⟩ y0).setCell ⟨R, 1, none⟩ y1).setCell ⟨R, 2, none⟩ y2).setCell ⟨R, 3, none⟩ y3).setCell ⟨R, 4, none⟩ y4).setCell ⟨R, 5, none⟩ y5).setCell ⟨R, 6, none⟩ y6).setCell ⟨R, 7, none⟩ y7) :=
  ((((((((Upd.refl S w).setCell (p := ⟨R, 0, none⟩) (.inl hR) y0).setCell (p := ⟨R, 1, none⟩) (.inl hR) y1).setCell (p := ⟨R, 2, none⟩) (.inl hR) y2).setCell (p := ⟨R, 3, none⟩) (.inl hR) y3).setCell (p := ⟨R, 4, none⟩) (.inl hR) y4).setCell (p := ⟨R, 5, none⟩) (.inl hR) y5).setCell (p := ⟨R, 6, none⟩) (.inl hR) y6).setCell (p := ⟨R, 7, none⟩) (.inl hR) y7
theorem cmpNew_any (x y : RouteR) (w : World) (hx : AttrOk w x.at_) (hy : AttrOk w y.at_) (lx : x.at_.path.length ≤ 1000 ∧ x.at_.tags.length ≤ 1000) (ly : y.at_.path.length ≤ 1000 ∧ y.at_.tags.length ≤ 1000) :
    Calls Try.prog 16 #[.agg x.cells, .agg y.cells] w fun e w1 => e = .returned (.int .i64 (ordC x.con y.con)) ∧ New w w1 :=
  (cmpRoutes_any x y w hx hy lx.1 lx.2 ly.1 ly.2).mono fun e w1 h => ⟨h.1, grow_new h.2⟩
theorem TRt_info : (Try.prog.info? TRt).map (·.size) = some 8 := by kernel_rfl
theorem rt_out {fn : Func} {t : Tmp} {tmps : Array Value} {w : World} {R : Nat} {x0 x1 x2 x3 x4 x5 x6 x7 : Value} (h : fn.results = #[.cell t TRt]) (hp : tmps.getD t undef = .pointer (some ⟨R, 0, none⟩)) (hb : Blk w R TRt #[x0, x1, x2, x3, x4, x5, x6, x7]) :
    (results fn tmps).run Try.prog w = .ok (.agg #[x0, x1, x2, x3, x4, x5, x6, x7]) w := by
  exact results_cell_row h tmps w R TRt #[x0, x1, x2, x3, x4, x5, x6, x7] (0, 0) _ hp hb Try.underlying31 rfl (by rw [TRt_info]; rfl)
/-- What MinFunc keeps from round to round. -/
structure MinW (w W : World) (ls : List RouteR) (j : Nat) (r : RouteR) : Prop where
  new : New w W
  res : Blk W w.heap.size TRo #[.int .i64 0, .int .i64 0, .slice none 0 0, .int .i64 0, .int .i64 0, .int .i64 0, .slice none 0 0, .int .i64 0]
  box : Blk W (w.heap.size + 1) TRo r.cells
  mem : r ∈ ls
  least : ∀ (i : Nat) s, i < j → ls[i]? = some s → ltC s.con r.con = false
set_option maxRecDepth 20000 in
set_option maxHeartbeats 4000000 in
theorem minFunc_any (ls : List RouteR) (A : Option Addr) (N cap : Nat) (w : World) (hN : ls.length = N) (h1 : 0 < N) (hN2 : N ≤ 1000) (hr : Rts w A ls) (hl : ∀ r ∈ ls, r.at_.path.length ≤ 1000 ∧ r.at_.tags.length ≤ 1000) :
    Calls Try.prog 15 #[.slice A N cap, .func (.func 16) #[] #[]] w fun e w1 => ∃ r, r ∈ ls ∧ e = .returned (.agg r.cells) ∧ (∀ s ∈ ls, ltC s.con r.con = false) ∧ New w w1 := by
  obtain ⟨b0, o0, r0, hA, hb0, hr0, hok0, k0, k1, k2, k3, k4, k5, k6, k7⟩ := hr.at_ (k := 0) (by omega)
  obtain ⟨ra, rn, ⟨rP, rpc, rp, rf, rm, ro, rT, rtc, rt⟩, rg⟩ := r0
  have Hr := hide hr
  have HN := hide hN
  have Hl := hide hl
  have Hr0 := hide hr0
  subst hA
  simp only [Nat.zero_mul, Nat.add_zero] at k0 k1 k2 k3 k4 k5 k6 k7
  have f1 : ¬ (N : Int) < 1 := by omega
  clear hr hN hl hok0 hr0
  go_enter Try.func15, Try.ntmps15
  go_upto_region 5 with (fail)
  have Hst := hide (show MinW w ((w.alloc (.cells #[.int .i64 0, .int .i64 0, .slice none 0 0, .int .i64 0, .int .i64 0, .int .i64 0, .slice none 0 0, .int .i64 0] TRo)).alloc (.cells #[.int .i64 ra, .int .i64 rn, .slice rP rp.length rpc, .int .i64 rf, .int .i64 rm, .int .i64 ro, .slice rT rt.length rtc, .int .i64 rg] TRo)) ls 1 ⟨ra, rn, ⟨rP, rpc, rp, rf, rm, ro, rT, rtc, rt⟩, rg⟩ from
    ⟨((Upd.refl _ w).alloc _).alloc _, (Blk.new w _ _).alloc _, Blk.at_ _ _ _ _ (by simp), List.mem_of_getElem? Hr0.out, fun i s hi hs => by
      obtain rfl : i = 0 := by omega
      rw [Hr0.out] at hs
      injection hs with hs
      subst hs
      exact ltC_swo.irr _⟩)
  clear k0 k1 k2 k3 k4 k5 k6 k7 Hr0 f1
  generalize ((w.alloc (.cells #[.int .i64 0, .int .i64 0, .slice none 0 0, .int .i64 0, .int .i64 0, .int .i64 0, .slice none 0 0, .int .i64 0] TRo)).alloc (.cells #[.int .i64 ra, .int .i64 rn, .slice rP rp.length rpc, .int .i64 rf, .int .i64 rm, .int .i64 ro, .slice rT rt.length rtc, .int .i64 rg] TRo)) = W0 at *
  go_loopw [6] (fun i wr => ∃ (j : Nat) (r : RouteR), 1 ≤ j ∧ j ≤ N ∧ i = .int .i64 j ∧ MinW w wr ls j r) (fun i _ => N - (intOf i).toNat)
  case atStart => exact ⟨1, _, Nat.le_refl _, h1, rfl, Hst.out⟩
  case round =>
    clear Hst
    obtain ⟨j, r, hj1, hj, rfl, hm⟩ := hrel
    obtain ⟨ra, rn, ⟨rP, rpc, rp, rf, rm, ro, rT, rtc, rt⟩, rg⟩ := r
    have Hm := hide hm
    have q0 : wr.cell? ⟨w.heap.size + 1, 0, none⟩ = some (.int .i64 ra) := hm.box.cell 0
    have q1 : wr.cell? ⟨w.heap.size + 1, 1, none⟩ = some (.int .i64 rn) := hm.box.cell 1
    have q2 : wr.cell? ⟨w.heap.size + 1, 2, none⟩ = some (.slice rP rp.length rpc) := hm.box.cell 2
    have q3 : wr.cell? ⟨w.heap.size + 1, 3, none⟩ = some (.int .i64 rf) := hm.box.cell 3
    have q4 : wr.cell? ⟨w.heap.size + 1, 4, none⟩ = some (.int .i64 rm) := hm.box.cell 4
    have q5 : wr.cell? ⟨w.heap.size + 1, 5, none⟩ = some (.int .i64 ro) := hm.box.cell 5
    have q6 : wr.cell? ⟨w.heap.size + 1, 6, none⟩ = some (.slice rT rt.length rtc) := hm.box.cell 6
    have q7 : wr.cell? ⟨w.heap.size + 1, 7, none⟩ = some (.int .i64 rg) := hm.box.cell 7
    have zb := hm.box.lt
    clear hm
    by_cases hlt : j < N
    · have i1 : (j : Int) < (N : Int) := by omega
      have wj : IntKind.i64.wrap ((j : Int) + 1) = (j : Int) + 1 := w_add1 j (by omega)
      obtain ⟨b, o, x, hA, hb, hx, hok, d0, d1, d2, d3, d4, d5, d6, d7⟩ := (Hr.out.new_ Hm.out.new).at_ (k := j) (by have := HN.out; omega)
      obtain ⟨xa, xn, ⟨xP, xpc, xp, xf, xm, xo, xT, xtc, xt⟩, xg⟩ := x
      obtain ⟨rfl, rfl⟩ : b0 = b ∧ o0 = o := by simpa using hA
      have ir := List.getElem?_of_mem Hm.out.mem
      obtain ⟨ir, hir⟩ := ir
      obtain ⟨b9, o9, r2, hA9, hb9, hr2, hokr, h9⟩ := (Hr.out.new_ Hm.out.new).at_ (k := ir) (List.getElem?_eq_some_iff.1 hir).1
      clear hA9 hb9 h9
      rw [hir] at hr2
      injection hr2 with hr2
      subst hr2
      have Hc := hide (fun (W : World) (h : New wr W) => cmpNew_any ⟨xa, xn, ⟨xP, xpc, xp, xf, xm, xo, xT, xtc, xt⟩, xg⟩ ⟨ra, rn, ⟨rP, rpc, rp, rf, rm, ro, rT, rtc, rt⟩, rg⟩ W (hok.new_ h) (hokr.new_ h) (Hl.out _ (List.mem_of_getElem? hx)) (Hl.out _ Hm.out.mem))
      unfold RouteR.cells at Hc
      have Hx := hide hx
      clear hA hx hok hokr hir
      obtain ⟨cx, hcx⟩ : ∃ cx, ordC (RouteR.con ⟨xa, xn, ⟨xP, xpc, xp, xf, xm, xo, xT, xtc, xt⟩, xg⟩) (RouteR.con ⟨ra, rn, ⟨rP, rpc, rp, rf, rm, ro, rT, rtc, rt⟩, rg⟩) = cx := ⟨_, rfl⟩
      rw [hcx] at Hc
      have Hcx := hide hcx
      clear hcx
      have HK := hide (fun (w' : World) (h : New wr w') => show w'.cell? ⟨b0, o0 + j * 8, none⟩ = some (.int .i64 xa) ∧ w'.cell? ⟨b0, o0 + j * 8 + 1, none⟩ = some (.int .i64 xn) ∧ w'.cell? ⟨b0, o0 + j * 8 + 2, none⟩ = some (.slice xP xp.length xpc) ∧ w'.cell? ⟨b0, o0 + j * 8 + 3, none⟩ = some (.int .i64 xf) ∧ w'.cell? ⟨b0, o0 + j * 8 + 4, none⟩ = some (.int .i64 xm) ∧ w'.cell? ⟨b0, o0 + j * 8 + 5, none⟩ = some (.int .i64 xo) ∧ w'.cell? ⟨b0, o0 + j * 8 + 6, none⟩ = some (.slice xT xt.length xtc) ∧ w'.cell? ⟨b0, o0 + j * 8 + 7, none⟩ = some (.int .i64 xg) ∧ w'.cell? ⟨w.heap.size + 1, 0, none⟩ = some (.int .i64 ra) ∧ w'.cell? ⟨w.heap.size + 1, 1, none⟩ = some (.int .i64 rn) ∧ w'.cell? ⟨w.heap.size + 1, 2, none⟩ = some (.slice rP rp.length rpc) ∧ w'.cell? ⟨w.heap.size + 1, 3, none⟩ = some (.int .i64 rf) ∧ w'.cell? ⟨w.heap.size + 1, 4, none⟩ = some (.int .i64 rm) ∧ w'.cell? ⟨w.heap.size + 1, 5, none⟩ = some (.int .i64 ro) ∧ w'.cell? ⟨w.heap.size + 1, 6, none⟩ = some (.slice rT rt.length rtc) ∧ w'.cell? ⟨w.heap.size + 1, 7, none⟩ = some (.int .i64 rg) from
        ⟨(h.cell hb fun z => z).trans d0, (h.cell hb fun z => z).trans d1, (h.cell hb fun z => z).trans d2, (h.cell hb fun z => z).trans d3, (h.cell hb fun z => z).trans d4, (h.cell hb fun z => z).trans d5, (h.cell hb fun z => z).trans d6, (h.cell hb fun z => z).trans d7,
          (h.cell zb fun z => z).trans q0, (h.cell zb fun z => z).trans q1, (h.cell zb fun z => z).trans q2, (h.cell zb fun z => z).trans q3, (h.cell zb fun z => z).trans q4, (h.cell zb fun z => z).trans q5, (h.cell zb fun z => z).trans q6, (h.cell zb fun z => z).trans q7⟩)
      have N0 := hide ((Upd.refl (fun _ => False) wr).drew)
      have HD := hide (And.intro hb zb)
      by_cases hlv : cx < 0
      · go_upto_region 7 with (fail)
        clear d0 d1 d2 d3 d4 d5 d6 d7 q0 q1 q2 q3 q4 q5 q6 q7
        go_region_held3 (fun w' => w'.cell? ⟨b0, o0 + j * 8, none⟩ = some (.int .i64 xa) ∧ w'.cell? ⟨b0, o0 + j * 8 + 1, none⟩ = some (.int .i64 xn) ∧ w'.cell? ⟨b0, o0 + j * 8 + 2, none⟩ = some (.slice xP xp.length xpc) ∧ w'.cell? ⟨b0, o0 + j * 8 + 3, none⟩ = some (.int .i64 xf) ∧ w'.cell? ⟨b0, o0 + j * 8 + 4, none⟩ = some (.int .i64 xm) ∧ w'.cell? ⟨b0, o0 + j * 8 + 5, none⟩ = some (.int .i64 xo) ∧ w'.cell? ⟨b0, o0 + j * 8 + 6, none⟩ = some (.slice xT xt.length xtc) ∧ w'.cell? ⟨b0, o0 + j * 8 + 7, none⟩ = some (.int .i64 xg) ∧ w'.cell? ⟨w.heap.size + 1, 0, none⟩ = some (.int .i64 ra) ∧ w'.cell? ⟨w.heap.size + 1, 1, none⟩ = some (.int .i64 rn) ∧ w'.cell? ⟨w.heap.size + 1, 2, none⟩ = some (.slice rP rp.length rpc) ∧ w'.cell? ⟨w.heap.size + 1, 3, none⟩ = some (.int .i64 rf) ∧ w'.cell? ⟨w.heap.size + 1, 4, none⟩ = some (.int .i64 rm) ∧ w'.cell? ⟨w.heap.size + 1, 5, none⟩ = some (.int .i64 ro) ∧ w'.cell? ⟨w.heap.size + 1, 6, none⟩ = some (.slice rT rt.length rtc) ∧ w'.cell? ⟨w.heap.size + 1, 7, none⟩ = some (.int .i64 rg))
          (first | exact HK.out _ N1.out | exact HK.out _ N0.out | go_keep)
          ((go_at_call 16; refine (Hc.out _ N0.out).mono ?_; rintro e wc ⟨rfl, hu⟩; have N1 := hide (N0.out.trans_new hu); clear hu))
        have e0 := HK.out _ N1.out
        have zc := N1.out.size
        have Hm2 := hide (Hm.out.box.new_ N1.out)
        have Hr2 := hide (Hm.out.res.new_ N1.out)
        have g0 := Hm2.out.frozen 0
        have g1 := Hm2.out.frozen 1
        have g2 := Hm2.out.frozen 2
        have g3 := Hm2.out.frozen 3
        have g4 := Hm2.out.frozen 4
        have g5 := Hm2.out.frozen 5
        have g6 := Hm2.out.frozen 6
        have g7 := Hm2.out.frozen 7
        obtain ⟨d0, d1, d2, d3, d4, d5, d6, d7, q0, q1, q2, q3, q4, q5, q6, q7⟩ := e0
        go_wp2_with fail
        have hlt2 : ltC (RouteR.con ⟨xa, xn, ⟨xP, xpc, xp, xf, xm, xo, xT, xtc, xt⟩, xg⟩) (RouteR.con ⟨ra, rn, ⟨rP, rpc, rp, rf, rm, ro, rT, rtc, rt⟩, rg⟩) = true := by unfold ltC; rw [Hcx.out]; exact decide_eq_true (by omega)
        exact ⟨⟨j + 1, ⟨xa, xn, ⟨xP, xpc, xp, xf, xm, xo, xT, xtc, xt⟩, xg⟩, by omega, by omega, by go_num, ⟨(Hm.out.new.trans_new N1.out).trans (set8_upd (S := fun k => k = w.heap.size + 1) rfl) fun k hk hx => by omega, Hr2.out.upd (set8_upd (S := fun k => k = w.heap.size + 1) rfl) (by omega), set8 Hm2.out, List.mem_of_getElem? Hx.out, fun i s hi hs => by
          by_cases hij : i < j
          · exact ltC_swo.trans (ltC_swo.le_of_lt hlt2) (Hm.out.least i s hij hs)
          · obtain rfl : i = j := by omega
            rw [Hx.out] at hs
            injection hs with hs
            subst hs
            exact ltC_swo.irr _⟩⟩, by simp [intOf]; omega⟩
      · go_upto_region 7 with (fail)
        go_region_held3 (fun w' => w'.cell? ⟨b0, o0 + j * 8, none⟩ = some (.int .i64 xa) ∧ w'.cell? ⟨b0, o0 + j * 8 + 1, none⟩ = some (.int .i64 xn) ∧ w'.cell? ⟨b0, o0 + j * 8 + 2, none⟩ = some (.slice xP xp.length xpc) ∧ w'.cell? ⟨b0, o0 + j * 8 + 3, none⟩ = some (.int .i64 xf) ∧ w'.cell? ⟨b0, o0 + j * 8 + 4, none⟩ = some (.int .i64 xm) ∧ w'.cell? ⟨b0, o0 + j * 8 + 5, none⟩ = some (.int .i64 xo) ∧ w'.cell? ⟨b0, o0 + j * 8 + 6, none⟩ = some (.slice xT xt.length xtc) ∧ w'.cell? ⟨b0, o0 + j * 8 + 7, none⟩ = some (.int .i64 xg) ∧ w'.cell? ⟨w.heap.size + 1, 0, none⟩ = some (.int .i64 ra) ∧ w'.cell? ⟨w.heap.size + 1, 1, none⟩ = some (.int .i64 rn) ∧ w'.cell? ⟨w.heap.size + 1, 2, none⟩ = some (.slice rP rp.length rpc) ∧ w'.cell? ⟨w.heap.size + 1, 3, none⟩ = some (.int .i64 rf) ∧ w'.cell? ⟨w.heap.size + 1, 4, none⟩ = some (.int .i64 rm) ∧ w'.cell? ⟨w.heap.size + 1, 5, none⟩ = some (.int .i64 ro) ∧ w'.cell? ⟨w.heap.size + 1, 6, none⟩ = some (.slice rT rt.length rtc) ∧ w'.cell? ⟨w.heap.size + 1, 7, none⟩ = some (.int .i64 rg))
          (first | exact HK.out _ N1.out | exact HK.out _ N0.out | go_keep)
          ((go_at_call 16; refine (Hc.out _ N0.out).mono ?_; rintro e wc ⟨rfl, hu⟩; have N1 := hide (N0.out.trans_new hu); clear hu))
        go_wp2_with fail
        exact ⟨⟨j + 1, _, by omega, by omega, by go_num, ⟨Hm.out.new.trans_new N1.out, Hm.out.res.new_ N1.out, Hm.out.box.new_ N1.out, Hm.out.mem, fun i s hi hs => by
          by_cases hij : i < j
          · exact Hm.out.least i s hij hs
          · obtain rfl : i = j := by omega
            rw [Hx.out] at hs
            injection hs with hs
            subst hs
            unfold ltC
            rw [Hcx.out]
            exact decide_eq_false (by omega)⟩⟩, by simp [intOf]; omega⟩
    · have i1 : ¬ (j : Int) < (N : Int) := by omega
      have hjn := hide (show j = N by omega)
      have zr := Hm.out.res.lt
      have HF := hide Hm.out.res.frozen
      have r0 := Hm.out.res.cell 0
      have r1 := Hm.out.res.cell 1
      have r2 := Hm.out.res.cell 2
      have r3 := Hm.out.res.cell 3
      have r4 := Hm.out.res.cell 4
      have r5 := Hm.out.res.cell 5
      have r6 := Hm.out.res.cell 6
      have r7 := Hm.out.res.cell 7
      simp only [List.getElem?_toArray, List.getElem?_cons_zero, List.getElem?_cons_succ] at r0 r1 r2 r3 r4 r5 r6 r7
      have g0 := HF.out 0
      have g1 := HF.out 1
      have g2 := HF.out 2
      have g3 := HF.out 3
      have g4 := HF.out 4
      have g5 := HF.out 5
      have g6 := HF.out 6
      have g7 := HF.out 7
      go_wp2_with fail
      refine bodyPost_ret (rt_out Try.results15 rfl (set8 Hm.out.res)) rfl ?_
      exact ⟨⟨ra, rn, ⟨rP, rpc, rp, rf, rm, ro, rT, rtc, rt⟩, rg⟩, Hm.out.mem, rfl, fun s hs => by
        obtain ⟨i, hi⟩ := List.getElem?_of_mem hs
        exact Hm.out.least i s (by have := (List.getElem?_eq_some_iff.1 hi).1; have := HN.out; have := hjn.out; omega) hi, Hm.out.new.trans (set8_upd (S := fun k => k = w.heap.size) rfl) fun k hk hx => by omega⟩
end Go.Proofs.Ytlealjcllbpgkaa
