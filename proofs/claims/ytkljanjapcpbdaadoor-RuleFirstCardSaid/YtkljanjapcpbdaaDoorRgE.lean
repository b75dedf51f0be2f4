/- The law RuleFirst: its walk where Apply first gives an error. No condition but those that stand in each theorem. -/
import Derived.Test.YtkljanjapcpbdaaDoorRg0
import Derived.Deep.DeepCutAuto
namespace Go.Proofs.YtkljanjapcpbdaaDoor
open Go.RowKit

set_option maxRecDepth 20000 in
set_option maxHeartbeats 16000000 in
theorem rf_E (A : Option Addr) (n c : Nat) (l : List RuR) (s x m : Int) (a : AttrR) (y : AtC) (E : Nat → Addr) (w : World) (h2 : Sen w gBound (E 2)) (h3 : Sen w gShape (E 3)) (h7 : Sen w gFull_ (E 7)) (h8 : Sen w gOrder (E 8))
    (hx : Rules w A l) (hn : l.length = n) (hnc : n ≤ c) (ha : AttrOk w a) (hy : y = a.con) (hp : a.path.length ≤ 20) (ht : a.tags.length ≤ 15) (hn9 : n ≤ 9) (k : Nat) (hk : k < n) (hF : (apF l s x m y).1 ≠ 0) :
    Calls Tryd.prog 5 #[.slice A n c, .int .i64 s, .agg #[.int .i64 x, .int .i64 m], .agg a.cells, .int .i64 (k : Int)] w fun e w1 => e = .returned (.bool true) ∧ New w w1 := by
  have hB := apB_err hF
  have HF := hide hF
  have HB := hide hB
  clear hF hB
  have u := ((Upd.refl (fun _ => False) w).alloc (.cells #[.int .i64 x, .int .i64 m] TPx)).alloc (.cells a.cells TA)
  have b0 := (Blk.new w TPx #[.int .i64 x, .int .i64 m]).alloc (.cells a.cells TA)
  have b1 := Blk.at_ (w.alloc (.cells #[.int .i64 x, .int .i64 m] TPx)) TA a.cells (w.heap.size + 1) (by simp)
  have H2 := hide h2
  have H3 := hide h3
  have H7 := hide h7
  have H8 := hide h8
  have Ha := hide ha
  have Hx := hide hx
  have Hn := hide hn
  have HY := hide hy
  have N := hide u
  have HK := hide b0
  have HM := hide b1
  clear ha u b0 b1 h2 h3 h7 h8 hx hn hy
  unfold AttrR.cells at *
  have i1 : ¬ (9 : Int) < (n : Int) := by omega
  have i3 : ¬ (k : Int) < 0 := by omega
  have i4 : ¬ (n : Int) ≤ (k : Int) := by omega
  have i5 : (k : Int) < (n : Int) := by omega
  have i6 : (k : Int) + 1 ≤ (c : Int) := by omega
  have i7 : (k : Int) ≤ (c : Int) := by omega
  have i8 : (k : Int) + 1 ≤ (n : Int) := by omega
  have i9 : ¬ c = 0 := by omega
  have iw : IntKind.i64.wrap ((k : Int) + 1) = (k : Int) + 1 := IntWalk.i64_in _ (by omega)
  have it : ((k : Int) + 1).toNat = k + 1 := by omega
  have i11 : (0 : Int) ≤ (k : Int) + 1 := by omega
  have i10 : ¬ (c : Int) = 0 := by omega
  obtain ⟨b, q, r, rfl, zb, hr, _⟩ := Hx.out.at_ (k := k) (by rw [Hn.out]; exact hk)
  have Hr := hide hr
  clear hr
  go_enter Tryd.func5, Tryd.ntmps5
  go_upto_region 1 with (fail)
  generalize ((w.alloc (.cells #[.int .i64 x, .int .i64 m] TPx)).alloc (.cells #[.slice a.P a.path.length a.pc, .int .i64 a.pref, .int .i64 a.med, .int .i64 a.origin, .slice a.T a.tags.length a.tc] TA)) = W at *
  have Hrd := hide (ruled_any E W (H2.out.new N.out) (H3.out.new N.out) (H7.out.new N.out) (H8.out.new N.out))
  go_wp2_with fail
  refine Hrd.out.mono ?_
  rintro e w1 ⟨rfl, hu⟩
  have N := hide (N.out.trans_new hu)
  have HK := hide (HK.out.new_ hu)
  have HM := hide (HM.out.new_ hu)
  clear hu
  have bq := HM.out
  have m0 := bq.cell 0
  have m1 := bq.cell 1
  have m2 := bq.cell 2
  have m3 := bq.cell 3
  have m4 := bq.cell 4
  have zM := bq.lt
  simp only [List.getElem?_toArray, List.getElem?_cons_zero, List.getElem?_cons_succ] at m0 m1 m2 m3 m4
  clear bq
  have Hlg := hide (longAttr_no a w1 hp ht)
  unfold AttrR.cells at Hlg
  go_wp2_with fail
  refine Hlg.out.mono ?_
  rintro e w2 ⟨rfl, hu⟩
  clear m0 m1 m2 m3 m4 zM
  have N := hide (N.out.trans_new hu)
  have HK := hide (HK.out.new_ hu)
  have HM := hide (HM.out.new_ hu)
  clear hu
  go_upto_region 4 with (fail)
  have bq := HK.out
  have k0 := bq.cell 0
  have k1 := bq.cell 1
  have zK := bq.lt
  simp only [List.getElem?_toArray, List.getElem?_cons_zero, List.getElem?_cons_succ] at k0 k1
  clear bq
  have bq := HM.out
  have m0 := bq.cell 0
  have m1 := bq.cell 1
  have m2 := bq.cell 2
  have m3 := bq.cell 3
  have m4 := bq.cell 4
  have zM := bq.lt
  simp only [List.getElem?_toArray, List.getElem?_cons_zero, List.getElem?_cons_succ] at m0 m1 m2 m3 m4
  clear bq
  have Hap := hide (apply_any (some ⟨b, q, none⟩) n c l s x m a E w2 (H2.out.new N.out) (H3.out.new N.out) (H7.out.new N.out) (H8.out.new N.out) (Hx.out.new_ N.out) Hn.out (by omega) (Ha.out.new_ N.out) (by omega) (by omega))
  rw [← HY.out] at Hap
  unfold AttrR.cells at Hap
  go_wp2_with fail
  refine Hap.out.mono ?_
  rintro e wa1 ⟨⟨P1, pc1, p1, f1, g1, o1, T1, tc1, t1⟩, v, rfl, hcon, hok, hfr, hv, hu⟩
  clear Hap k0 k1 zK m0 m1 m2 m3 m4 zM
  rw [HB.out]
  obtain ⟨tv1, pv1, rfl⟩ := hv.some_ HF.out
  dsimp only at hok ⊢
  have nA := (Upd.refl (fun _ => False) wa1).alloc (.cells #[.slice P1 p1.length pc1, .int .i64 f1, .int .i64 g1, .int .i64 o1, .slice T1 t1.length tc1] TA)
  have hu9 := hu.trans_new nA
  have N := hide (N.out.trans_new hu9)
  have HK := hide (HK.out.new_ hu9)
  have HM := hide (HM.out.new_ hu9)
  have Ok1 := hide (hok.new_ nA)
  have HX1 := hide (Blk.new wa1 TA #[.slice P1 p1.length pc1, .int .i64 f1, .int .i64 g1, .int .i64 o1, .slice T1 t1.length tc1])
  have Hc1 := hide hcon
  clear nA hu hu9 hok hcon hfr hv
  go_upto_region 5 with (fail)
  generalize wa1.alloc (.cells #[.slice P1 p1.length pc1, .int .i64 f1, .int .i64 g1, .int .i64 o1, .slice T1 t1.length tc1] TA) = W1 at *
  generalize wa1.heap.size = X1 at *
  have HL1 := hide (show p1.length ≤ 1000 ∧ t1.length ≤ 1000 from by
    have h := apX_len (l := l) (s := s) (x := x) (m := m) (y := y) (by rw [HY.out]; exact hp) (by rw [HY.out]; exact ht)
    rw [← Hc1.out] at h
    exact ⟨Nat.le_trans h.1 (by omega), Nat.le_trans h.2 (by omega)⟩)
  have Hck := hide (ruleCheck_any (some ⟨b, q, none⟩) n c l E W1 (H2.out.new N.out) (H3.out.new N.out) (H7.out.new N.out) (Hx.out.new_ N.out) Hn.out (by omega))
  go_wp2_with fail
  refine Hck.out.mono ?_
  rintro e w4 ⟨v, rfl, hv, hu⟩
  clear Hck
  have N := hide (N.out.trans_new hu)
  have HK := hide (HK.out.new_ hu)
  have HM := hide (HM.out.new_ hu)
  have HX1 := hide (HX1.out.new_ hu)
  have Ok1 := hide (Ok1.out.new_ hu)
  clear hu
  rcases hv.form with ⟨hk0, _, rfl⟩ | ⟨_, tv, p, rfl⟩
  rotate_left
  · clear hv
    go_wp2_with fail
    go_ret
    exact ⟨rfl, N.out⟩
  have HR := hide hk0
  clear hv hk0
  obtain ⟨b', q', r', e1, zb4, hr', c0, c1, c2, c3, c4, c5, c6, c7, c8, c9, c10⟩ := (Hx.out.new_ N.out).at_ (k := k) (by rw [Hn.out]; exact hk)
  obtain ⟨rfl, rfl⟩ : b = b' ∧ q = q' := by
    injection e1 with e1
    injection e1 with e1 e2
    exact ⟨e1, e2⟩
  obtain rfl : r' = r := Option.some.inj (hr'.symm.trans Hr.out)
  clear e1 hr'
  have bq := HK.out
  have k0 := bq.cell 0
  have k1 := bq.cell 1
  have zK := bq.lt
  simp only [List.getElem?_toArray, List.getElem?_cons_zero, List.getElem?_cons_succ] at k0 k1
  clear bq
  have bq := HM.out
  have m0 := bq.cell 0
  have m1 := bq.cell 1
  have m2 := bq.cell 2
  have m3 := bq.cell 3
  have m4 := bq.cell 4
  have zM := bq.lt
  simp only [List.getElem?_toArray, List.getElem?_cons_zero, List.getElem?_cons_succ] at m0 m1 m2 m3 m4
  clear bq
  go_upto_region 7 with (fail)
  have hft := fun w' (nw : New w4 w') => fits_any r' x m a E w' (H2.out.new (N.out.trans_new nw)) (H3.out.new (N.out.trans_new nw)) (Ha.out.new_ (N.out.trans_new nw)) (by omega) (by omega)
  rw [show fitB r' x m a.path a.tags = fitX x m y r' by rw [HY.out]; rfl] at hft
  unfold AttrR.cells RuR.cells at hft
  cases hf : fitX x m y r' with
  | true =>
    rw [hf] at hft
    have Hft := hide hft
    have Hf := hide hf
    clear hft hf
    refine wp_region_new w4 (Upd.refl _ _) (by kernel_rfl) (by kernel_rfl) ?_
    repeat (go_big_quiet_step ((go_at_call 41; exact new_call (Hft.out _ (NewW.h _)))))
    refine wpQuiet_nil ?_
    rintro _ ⟨nq, rfl⟩
    obtain ⟨w5, hu⟩ := nq
    dsimp only
    clear Hft c0 c1 c2 c3 c4 c5 c6 c7 c8 c9 c10 zb4 k0 k1 zK m0 m1 m2 m3 m4 zM
    have N := hide (N.out.trans_new hu)
    have HK := hide (HK.out.new_ hu)
    have HM := hide (HM.out.new_ hu)
    have HX1 := hide (HX1.out.new_ hu)
    have Ok1 := hide (Ok1.out.new_ hu)
    clear hu
    have Hfr := hide (rule_front (s := s) HR.out Hr.out Hf.out)
    go_upto_region 8 with (fail)
    have bq := HK.out
    have k0 := bq.cell 0
    have k1 := bq.cell 1
    have zK := bq.lt
    simp only [List.getElem?_toArray, List.getElem?_cons_zero, List.getElem?_cons_succ] at k0 k1
    clear bq
    have bq := HM.out
    have m0 := bq.cell 0
    have m1 := bq.cell 1
    have m2 := bq.cell 2
    have m3 := bq.cell 3
    have m4 := bq.cell 4
    have zM := bq.lt
    simp only [List.getElem?_toArray, List.getElem?_cons_zero, List.getElem?_cons_succ] at m0 m1 m2 m3 m4
    clear bq
    have Hap := hide (fun w' (nw : New w5 w') => apply_any (some ⟨b, q, none⟩) (k + 1) c (l.take (k + 1)) s x m a E w' (H2.out.new (N.out.trans_new nw)) (H3.out.new (N.out.trans_new nw)) (H7.out.new (N.out.trans_new nw)) (H8.out.new (N.out.trans_new nw)) ((Hx.out.new_ (N.out.trans_new nw)).take (k + 1)) (by rw [List.length_take, Hn.out]; omega) (by omega) (Ha.out.new_ (N.out.trans_new nw)) (by omega) (by omega))
    rw [← HY.out] at Hap
    unfold AttrR.cells at Hap
    have Wd := hide (show New w5 w5.drew from (Upd.refl _ w5).drew)
    have Wa := hide (show New w5 (w5.alloc (.cells #[.slice none 0 0, .int .i64 0, .int .i64 0, .int .i64 0, .slice none 0 0] TA)).drew from ((Upd.refl _ w5).alloc _).drew)
    have Ba := hide (show Blk (w5.alloc (.cells #[.slice none 0 0, .int .i64 0, .int .i64 0, .int .i64 0, .slice none 0 0] TA)).drew w5.heap.size TA #[.slice none 0 0, .int .i64 0, .int .i64 0, .int .i64 0, .slice none 0 0] from (Blk.new _ _ _).drew)
    go_cut [15, 16, 17] (fun x15 x16 x17 wx => ∃ (X : Nat) (a5 : AttrR), x15 = .pointer (some ⟨X, 0, none⟩) ∧ x16 = .bool false ∧ (∃ t p, x17 = .iface t (.pointer (some p))) ∧ Blk wx X TA a5.cells ∧ AttrOk wx a5 ∧ a5.con = apX (l.take (k + 1)) s x m y ∧ New w5 wx)
    case first =>
      go_region_with (first
        | (go_at_call 39; refine (Hap.out _ (by exact Wd.out)).mono ?_; rintro e w6 ⟨⟨P5, pc5, p5, f5, g5, o5, T5, tc5, t5⟩, v, rfl, hcon5, hok5, hfr5, hv, hu5⟩; rw [← Hfr.out.2.1, HB.out]; obtain ⟨tv5, pv5, rfl⟩ := hv.some_ (by rw [← Hfr.out.1]; exact HF.out);  have Hs5 := hide (Nat.le_refl w6.heap.size); have U5 := hide (Wd.out.trans_new hu5); have Ok5 := hide hok5; have Hc5 := hide hcon5; clear hcon5 hok5 hfr5 hu5 hv)
        | (go_at_call 39; refine (Hap.out _ (by exact Wa.out)).mono ?_; rintro e w6 ⟨⟨P5, pc5, p5, f5, g5, o5, T5, tc5, t5⟩, v, rfl, hcon5, hok5, hfr5, hv, hu5⟩; rw [← Hfr.out.2.1, HB.out]; obtain ⟨tv5, pv5, rfl⟩ := hv.some_ (by rw [← Hfr.out.1]; exact HF.out);  have Fx5 := hide hfr5; have U5 := hide (Wa.out.trans_new hu5); have Ok5 := hide hok5; have Hc5 := hide hcon5; have bX := Ba.out.new_ hu5; have HX5 := hide bX; have q0 := bX.cell 0; have q1 := bX.cell 1; have q2 := bX.cell 2; have q3 := bX.cell 3; have q4 := bX.cell 4; have t0 := bX.frozen 0; have t1 := bX.frozen 1; have t2 := bX.frozen 2; have t3 := bX.frozen 3; have t4 := bX.frozen 4; have zX := bX.lt; simp only [List.getElem?_toArray, List.getElem?_cons_zero, List.getElem?_cons_succ] at q0 q1 q2 q3 q4; clear bX hcon5 hok5 hfr5 hu5 hv))
      all_goals
        go_wp2_with fail
        go_meet
        first
          | (have := Hs5.out
             have nA := (Upd.refl (fun _ => False) w6).alloc (.cells #[.slice P5 p5.length pc5, .int .i64 f5, .int .i64 g5, .int .i64 o5, .slice T5 t5.length tc5] TA)
             exact ⟨w6.heap.size, ⟨P5, pc5, p5, f5, g5, o5, T5, tc5, t5⟩, rfl, rfl, ⟨_, _, rfl⟩, Blk.new w6 TA #[.slice P5 p5.length pc5, .int .i64 f5, .int .i64 g5, .int .i64 o5, .slice T5 t5.length tc5], Ok5.out.new_ nA, Hc5.out, U5.out.trans_new nA⟩)
          | (have := Fx5.out
             have uX := set5_one w6 w5.heap.size (.slice P5 p5.length pc5) (.int .i64 f5) (.int .i64 g5) (.int .i64 o5) (.slice T5 t5.length tc5)
             exact ⟨w5.heap.size, ⟨P5, pc5, p5, f5, g5, o5, T5, tc5, t5⟩, rfl, rfl, ⟨_, _, rfl⟩, set5 (y0 := .slice P5 p5.length pc5) (y1 := .int .i64 f5) (y2 := .int .i64 g5) (y3 := .int .i64 o5) (y4 := .slice T5 t5.length tc5) HX5.out, Ok5.out.store Fx5.out uX (fun k e => by subst e; rw [drew_alloc_size]; omega), Hc5.out, U5.out.trans uX (fun q hq hx => absurd hx (by show ¬ q = w5.heap.size; omega))⟩)
    case rest =>
      obtain ⟨X, ⟨P5, pc5, p5, f5, g5, o5, T5, tc5, t5⟩, rfl, rfl, h17, hX6, hOk6, hc5, hu6⟩ := hcut
      unfold AttrR.cells at hX6
      dsimp only at hX6
      have HX6 := hide hX6
      have Ok6 := hide hOk6
      have Hc5 := hide hc5
      have U6 := hide hu6
      clear hX6 hOk6 hc5 hu6 Wd Wa Ba Hap k0 k1 zK m0 m1 m2 m3 m4 zM
      obtain ⟨tv5, pv5, rfl⟩ := h17
      have N := hide (N.out.trans_new U6.out)
      have HK := hide (HK.out.new_ U6.out)
      have HM := hide (HM.out.new_ U6.out)
      have HX1 := hide (HX1.out.new_ U6.out)
      have Ok1 := hide (Ok1.out.new_ U6.out)
      have HL5 := hide (show p5.length ≤ 1000 ∧ t5.length ≤ 1000 from by
        have h := apX_len (l := l.take (k + 1)) (s := s) (x := x) (m := m) (y := y) (by rw [HY.out]; exact hp) (by rw [HY.out]; exact ht)
        rw [← Hc5.out] at h
        exact ⟨Nat.le_trans h.1 (by omega), Nat.le_trans h.2 (by omega)⟩)
      have hsm := fun w' (nw : New wc w') => attrSame_any ⟨P1, pc1, p1, f1, g1, o1, T1, tc1, t1⟩ ⟨P5, pc5, p5, f5, g5, o5, T5, tc5, t5⟩ w' (Ok1.out.new_ nw) (Ok6.out.new_ nw) (by exact HL1.out.1) (by exact HL1.out.2) (by exact HL5.out.1) (by exact HL5.out.2)
      rw [decide_eq_true (show AttrR.con ⟨P1, pc1, p1, f1, g1, o1, T1, tc1, t1⟩ = AttrR.con ⟨P5, pc5, p5, f5, g5, o5, T5, tc5, t5⟩ by rw [Hc1.out, Hc5.out]; exact Hfr.out.2.2)] at hsm
      unfold AttrR.cells at hsm
      dsimp only at hsm
      have Hsm := hide hsm
      clear hsm
      have bq := HX1.out
      have x10 := bq.cell 0
      have x11 := bq.cell 1
      have x12 := bq.cell 2
      have x13 := bq.cell 3
      have x14 := bq.cell 4
      have zX1 := bq.lt
      simp only [List.getElem?_toArray, List.getElem?_cons_zero, List.getElem?_cons_succ] at x10 x11 x12 x13 x14
      clear bq
      have bq := HX6.out
      have x60 := bq.cell 0
      have x61 := bq.cell 1
      have x62 := bq.cell 2
      have x63 := bq.cell 3
      have x64 := bq.cell 4
      have zX6 := bq.lt
      simp only [List.getElem?_toArray, List.getElem?_cons_zero, List.getElem?_cons_succ] at x60 x61 x62 x63 x64
      clear bq
      go_upto_region 9 with (fail)
      refine wp_region_new wc (Upd.refl _ _) (by kernel_rfl) (by kernel_rfl) ?_
      repeat (go_big_quiet_step ((go_at_call 42; exact new_call (Hsm.out _ (NewW.h _)))))
      refine wpQuiet_nil ?_
      rintro _ ⟨nq, rfl⟩
      obtain ⟨w7, hu⟩ := nq
      dsimp only
      go_wp2_with fail
      go_ret
      exact ⟨rfl, N.out.trans_new hu⟩
  | false =>
    rw [hf] at hft
    have Hft := hide hft
    have Hf := hide hf
    clear hft hf
    refine wp_region_new w4 (Upd.refl _ _) (by kernel_rfl) (by kernel_rfl) ?_
    repeat (go_big_quiet_step ((go_at_call 41; exact new_call (Hft.out _ (NewW.h _)))))
    refine wpQuiet_nil ?_
    rintro _ ⟨nq, rfl⟩
    obtain ⟨w5, hu⟩ := nq
    dsimp only
    clear Hft c0 c1 c2 c3 c4 c5 c6 c7 c8 c9 c10 zb4 k0 k1 zK m0 m1 m2 m3 m4 zM
    have N := hide (N.out.trans_new hu)
    have HK := hide (HK.out.new_ hu)
    have HM := hide (HM.out.new_ hu)
    have HX1 := hide (HX1.out.new_ hu)
    have Ok1 := hide (Ok1.out.new_ hu)
    clear hu
    obtain ⟨i0, hi0, hz0, hz1, hz2⟩ := info_parts info_TRu
    go_wp2_with (at_builtin; refine append_src rfl (.tmp 102) (.tmp 105) 77 rfl w5.heap.size TRu i0 _ 11 88 Tryd.underlying77 hi0 hz0 hz1 hz2 rfl (by omega) (.slice none 0 0) 0 [] rfl (World.ownsRow_nil _ _ _ _) (some ⟨b, q, none⟩) k c (flat ((l.take k).map RuR.cells)) rfl (by rw [ru_len, List.length_take, Hn.out]; omega) (fun h => Rws.flat (by omega) ((Hx.out.new_ N.out).take k) (ru_size _) (by rw [List.length_map, List.length_take, Hn.out]; omega)) (ru_one _) (by unfold maxLen; omega) (by omega) (Nat.le_refl _) ?_)
    intro v6 w6 ho6 hg6
    have u6 : New w5 w6 := grown_new hg6
    have ho7 : w6.ownsRow w5.heap.size TRu 11 v6 k (flat ((l.take k).map RuR.cells)) := by simpa using ho6
    have Ho6 := hide ho7
    have U6 := hide u6
    clear ho6 ho7 hg6 u6
    go_upto_region 12 with (fail)
    go_cut [18] (fun v18 wx => wx.ownsRow w5.heap.size TRu 11 v18 (k + (n - (k + 1))) (flat ((l.take k).map RuR.cells) ++ flat ((l.drop (k + 1)).map RuR.cells)) ∧ New w5 wx)
    case first =>
      by_cases hck : k + 1 = c
      · have Hck := hide hck
        have hcn : n ≤ c := by omega
        go_wp2_with (at_builtin; refine append_src rfl (.tmp 107) (.tmp 111) 77 rfl w5.heap.size TRu i0 _ 11 88 Tryd.underlying77 hi0 hz0 hz1 hz2 rfl (by omega) v6 k (flat ((l.take k).map RuR.cells)) rfl Ho6.out (some ⟨b, q, none⟩) 0 _ [] rfl rfl (fun h => absurd h (by omega)) (fun u h => by simp at h) (by unfold maxLen; omega) (by omega) U6.out.size ?_)
        intro v7 w7 ho7 hg7
        have Hu7 := hide (grown_own_new U6.out Ho6.out hg7)
        have Ho7 := hide ho7
        clear ho7 hg7
        go_wp2_with fail
        go_meet
        have e1 : n - (k + 1) = 0 := by have := Hck.out; omega
        have e2 : l.drop (k + 1) = [] := List.drop_eq_nil_of_le (by rw [Hn.out]; have := Hck.out; omega)
        exact ⟨by rw [e1, e2]; simpa [flat] using Ho7.out, Hu7.out⟩
      · have hck2 : ¬ c = k + 1 := fun h => hck h.symm
        go_wp2_with (at_builtin; refine append_src rfl (.tmp 107) (.tmp 111) 77 rfl w5.heap.size TRu i0 _ 11 88 Tryd.underlying77 hi0 hz0 hz1 hz2 rfl (by omega) v6 k (flat ((l.take k).map RuR.cells)) rfl Ho6.out (some ⟨b, q + (k + 1) * 11, none⟩) (n - (k + 1)) _ (flat ((l.drop (k + 1)).map RuR.cells)) rfl (by rw [ru_len, List.length_drop, Hn.out]) (fun h => Rws.flat (by omega) (((Hx.out.new_ N.out).new_ U6.out).drop (k + 1)) (ru_size _) (by rw [List.length_map, List.length_drop, Hn.out]; exact h)) (ru_one _) (by unfold maxLen; omega) (by omega) U6.out.size ?_)
        intro v7 w7 ho7 hg7
        have Hu7 := hide (grown_own_new U6.out Ho6.out hg7)
        have Ho7 := hide ho7
        clear ho7 hg7
        go_wp2_with fail
        go_meet
        exact ⟨by simpa only [List.map_take, List.map_drop] using Ho7.out, Hu7.out⟩
    case rest =>
      obtain ⟨ho7, hu⟩ := hcut
      rw [flat_rules] at ho7
      generalize hn2 : k + (n - (k + 1)) = n2 at *
      obtain ⟨A7, c7, rfl, hl7, hr7⟩ := rules_of_own ho7
      have Hn2 := hide (show n2 + 1 = n by omega)
      have Hl7 := hide hl7
      have Hr7 := hide hr7
      clear ho7 hl7 hr7 hn2 Ho6 U6
      have N := hide (N.out.trans_new hu)
      have HK := hide (HK.out.new_ hu)
      have HM := hide (HM.out.new_ hu)
      have HX1 := hide (HX1.out.new_ hu)
      have Ok1 := hide (Ok1.out.new_ hu)
      clear hu
      by_cases h20 : n2 = 0
      · have hnb : ((n2 : Int) == 0) = true := by rw [h20]; rfl
        have Hb1 := hide (rule_none (s := s) HR.out Hr.out Hf.out (by rw [Hn.out, ← Hn2.out, h20]))
        clear h20
        go_wp2_with fail
        go_ret
        exact ⟨rfl, N.out⟩
      · have hnb : ((n2 : Int) == 0) = false := by simp [h20]
        have Hsk := hide (rule_skip (s := s) HR.out Hr.out Hf.out (by rw [Hn.out, ← Hn2.out]; omega))
        have hn22 : n2 ≤ 9 := by have := Hn2.out; omega
        clear h20
        have bq := HK.out
        have k0 := bq.cell 0
        have k1 := bq.cell 1
        have zK := bq.lt
        simp only [List.getElem?_toArray, List.getElem?_cons_zero, List.getElem?_cons_succ] at k0 k1
        clear bq
        have bq := HM.out
        have m0 := bq.cell 0
        have m1 := bq.cell 1
        have m2 := bq.cell 2
        have m3 := bq.cell 3
        have m4 := bq.cell 4
        have zM := bq.lt
        simp only [List.getElem?_toArray, List.getElem?_cons_zero, List.getElem?_cons_succ] at m0 m1 m2 m3 m4
        clear bq
        have Hap := hide (apply_any A7 n2 c7 (l.take k ++ l.drop (k + 1)) s x m a E wc (H2.out.new N.out) (H3.out.new N.out) (H7.out.new N.out) (H8.out.new N.out) Hr7.out Hl7.out (by omega) (Ha.out.new_ N.out) (by omega) (by omega))
        rw [← HY.out] at Hap
        unfold AttrR.cells at Hap
        go_wp2_with fail
        refine Hap.out.mono ?_
        rintro e wa2 ⟨⟨P2, pc2, p2, f2, g2, o2, T2, tc2, t2⟩, v, rfl, hcon, hok, hfr, hv, hu⟩
        clear Hap k0 k1 zK m0 m1 m2 m3 m4 zM
        rw [← Hsk.out.2.1, HB.out]
        obtain ⟨tv2, pv2, rfl⟩ := hv.some_ (by rw [← Hsk.out.1]; exact HF.out)
        dsimp only at hok ⊢
        have nA := (Upd.refl (fun _ => False) wa2).alloc (.cells #[.slice P2 p2.length pc2, .int .i64 f2, .int .i64 g2, .int .i64 o2, .slice T2 t2.length tc2] TA)
        have hu9 := hu.trans_new nA
        have N := hide (N.out.trans_new hu9)
        have HK := hide (HK.out.new_ hu9)
        have HM := hide (HM.out.new_ hu9)
        have HX1 := hide (HX1.out.new_ hu9)
        have Ok1 := hide (Ok1.out.new_ hu9)
        have Ok2 := hide (hok.new_ nA)
        have HX2 := hide (Blk.new wa2 TA #[.slice P2 p2.length pc2, .int .i64 f2, .int .i64 g2, .int .i64 o2, .slice T2 t2.length tc2])
        have Hc2 := hide hcon
        clear nA hu hu9 hok hcon hfr hv
        go_upto_region 16 with (fail)
        generalize wa2.alloc (.cells #[.slice P2 p2.length pc2, .int .i64 f2, .int .i64 g2, .int .i64 o2, .slice T2 t2.length tc2] TA) = W2 at *
        generalize wa2.heap.size = X2 at *
        have HL2 := hide (show p2.length ≤ 1000 ∧ t2.length ≤ 1000 from by
          have h := apX_len (l := (l.take k ++ l.drop (k + 1))) (s := s) (x := x) (m := m) (y := y) (by rw [HY.out]; exact hp) (by rw [HY.out]; exact ht)
          rw [← Hc2.out] at h
          exact ⟨Nat.le_trans h.1 (by omega), Nat.le_trans h.2 (by omega)⟩)
        have hsm := fun w' (nw : New W2 w') => attrSame_any ⟨P1, pc1, p1, f1, g1, o1, T1, tc1, t1⟩ ⟨P2, pc2, p2, f2, g2, o2, T2, tc2, t2⟩ w' (Ok1.out.new_ nw) (Ok2.out.new_ nw) (by exact HL1.out.1) (by exact HL1.out.2) (by exact HL2.out.1) (by exact HL2.out.2)
        rw [decide_eq_true (show AttrR.con ⟨P1, pc1, p1, f1, g1, o1, T1, tc1, t1⟩ = AttrR.con ⟨P2, pc2, p2, f2, g2, o2, T2, tc2, t2⟩ by rw [Hc1.out, Hc2.out]; exact Hsk.out.2.2)] at hsm
        unfold AttrR.cells at hsm
        dsimp only at hsm
        have Hsm := hide hsm
        clear hsm
        have bq := HX1.out
        have x10 := bq.cell 0
        have x11 := bq.cell 1
        have x12 := bq.cell 2
        have x13 := bq.cell 3
        have x14 := bq.cell 4
        have zX1 := bq.lt
        simp only [List.getElem?_toArray, List.getElem?_cons_zero, List.getElem?_cons_succ] at x10 x11 x12 x13 x14
        clear bq
        have bq := HX2.out
        have x20 := bq.cell 0
        have x21 := bq.cell 1
        have x22 := bq.cell 2
        have x23 := bq.cell 3
        have x24 := bq.cell 4
        have zX2 := bq.lt
        simp only [List.getElem?_toArray, List.getElem?_cons_zero, List.getElem?_cons_succ] at x20 x21 x22 x23 x24
        clear bq
        refine wp_region_new W2 (Upd.refl _ _) (by kernel_rfl) (by kernel_rfl) ?_
        repeat (go_big_quiet_step ((go_at_call 42; exact new_call (Hsm.out _ (NewW.h _)))))
        refine wpQuiet_nil ?_
        rintro _ ⟨nq, rfl⟩
        obtain ⟨w8, hu⟩ := nq
        dsimp only
        clear x10 x11 x12 x13 x14 zX1 x20 x21 x22 x23 x24 zX2 Hsm
        have N := hide (N.out.trans_new hu)
        have HK := hide (HK.out.new_ hu)
        have HM := hide (HM.out.new_ hu)
        have HX1 := hide (HX1.out.new_ hu)
        have Ok1 := hide (Ok1.out.new_ hu)
        clear hu
        have Hor := hide (ownRules_any (some ⟨b, q, none⟩) n c l w8 (Hx.out.new_ N.out) Hn.out (by omega))
        go_wp2_with fail
        refine Hor.out.mono ?_
        rintro e w9 ⟨v9, rfl, ho9, hu9⟩
        have Ho9 := hide (ho9.alloc (.cells #[.int .i64 0, .int .i64 0, .int .i64 0, .int .i64 32, .int .i64 0, .int .i64 0, .bool false, .int .i64 (-1), .int .i64 (-1), .int .i64 0, .int .i64 0] TRu))
        have U9 := hide (hu9.trans_new ((Upd.refl (fun _ => False) w9).alloc (.cells #[.int .i64 0, .int .i64 0, .int .i64 0, .int .i64 32, .int .i64 0, .int .i64 0, .bool false, .int .i64 (-1), .int .i64 (-1), .int .i64 0, .int .i64 0] TRu)))
        have B9 := hide (Blk.new w9 TRu #[.int .i64 0, .int .i64 0, .int .i64 0, .int .i64 32, .int .i64 0, .int .i64 0, .bool false, .int .i64 (-1), .int .i64 (-1), .int .i64 0, .int .i64 0])
        clear ho9 hu9 Hor
        go_wp2_with (at_builtin; refine append_src rfl (.tmp 145) (.tmp 147) 77 rfl w8.heap.size TRu i0 _ 11 88 Tryd.underlying77 hi0 hz0 hz1 hz2 rfl (by omega) v9 n (flat (l.map RuR.cells)) rfl Ho9.out (some ⟨w9.heap.size, 0, none⟩) 1 _ (flat ([lastR].map RuR.cells)) rfl rfl (fun _ => ⟨w9.heap.size, 0, rfl, fun j u hj => by rw [Nat.zero_add, B9.out.cell j]; simpa [flat, lastR, RuR.cells] using hj⟩) (ru_one _) (by unfold maxLen; omega) (by omega) U9.out.size ?_)
        intro v10 w10 ho10 hg10
        have hu := grown_own_new U9.out Ho9.out hg10
        have ho11 : w10.ownsRow w8.heap.size TRu 11 v10 (n + 1) (flat ((l ++ [lastR]).map RuR.cells)) := by rw [← flat_rules]; exact ho10
        obtain ⟨A10, c10, rfl, hl10, hr10⟩ := rules_of_own ho11
        have Hl10 := hide hl10
        have Hr10 := hide hr10
        clear ho10 ho11 hl10 hr10 hg10 Ho9 U9 B9
        have N := hide (N.out.trans_new hu)
        have HK := hide (HK.out.new_ hu)
        have HM := hide (HM.out.new_ hu)
        have HX1 := hide (HX1.out.new_ hu)
        have Ok1 := hide (Ok1.out.new_ hu)
        clear hu
        have Hrr := hide (rule_rest HR.out (by rw [Hn.out]; exact hn9) (by intro h; have := Hn.out; rw [h] at this; simp at this; omega) HB.out)
        by_cases hz : (apF (l ++ [lastR]) s x m y).1 = 0
        · have Hz := hide hz
          clear hz
          cases hb : apB (l ++ [lastR]) s x m y with
          | false =>
            have Hb3 := hide hb
            clear hb
            have bq := HK.out
            have k0 := bq.cell 0
            have k1 := bq.cell 1
            have zK := bq.lt
            simp only [List.getElem?_toArray, List.getElem?_cons_zero, List.getElem?_cons_succ] at k0 k1
            clear bq
            have bq := HM.out
            have m0 := bq.cell 0
            have m1 := bq.cell 1
            have m2 := bq.cell 2
            have m3 := bq.cell 3
            have m4 := bq.cell 4
            have zM := bq.lt
            simp only [List.getElem?_toArray, List.getElem?_cons_zero, List.getElem?_cons_succ] at m0 m1 m2 m3 m4
            clear bq
            have Hap := hide (apply_any A10 (n + 1) c10 (l ++ [lastR]) s x m a E w10 (H2.out.new N.out) (H3.out.new N.out) (H7.out.new N.out) (H8.out.new N.out) Hr10.out Hl10.out (by omega) (Ha.out.new_ N.out) (by omega) (by omega))
            rw [← HY.out] at Hap
            unfold AttrR.cells at Hap
            go_wp2_with fail
            refine Hap.out.mono ?_
            rintro e wa3 ⟨⟨P3, pc3, p3, f3, g3, o3, T3, tc3, t3⟩, v, rfl, hcon, hok, hfr, hv, hu⟩
            clear Hap k0 k1 zK m0 m1 m2 m3 m4 zM
            rw [Hb3.out]
            obtain rfl := hv.zero Hz.out
            dsimp only at hok ⊢
            have nA := (Upd.refl (fun _ => False) wa3).alloc (.cells #[.slice P3 p3.length pc3, .int .i64 f3, .int .i64 g3, .int .i64 o3, .slice T3 t3.length tc3] TA)
            have hu9 := hu.trans_new nA
            have N := hide (N.out.trans_new hu9)
            have HK := hide (HK.out.new_ hu9)
            have HM := hide (HM.out.new_ hu9)
            have HX1 := hide (HX1.out.new_ hu9)
            have Ok1 := hide (Ok1.out.new_ hu9)
            have Ok3 := hide (hok.new_ nA)
            have HX3 := hide (Blk.new wa3 TA #[.slice P3 p3.length pc3, .int .i64 f3, .int .i64 g3, .int .i64 o3, .slice T3 t3.length tc3])
            have Hc3 := hide hcon
            clear nA hu hu9 hok hcon hfr hv
            go_upto_region 21 with (fail)
            generalize wa3.alloc (.cells #[.slice P3 p3.length pc3, .int .i64 f3, .int .i64 g3, .int .i64 o3, .slice T3 t3.length tc3] TA) = W3 at *
            generalize wa3.heap.size = X3 at *
            go_wp2_with fail
            go_ret
            exact ⟨rfl, N.out⟩
          | true =>
            have Hb3 := hide hb
            have Hxy := hide (show apX (l ++ [lastR]) s x m y = y from by
              rcases Hrr.out with h | h | h
              · exact absurd Hz.out h
              · rw [hb] at h; cases h
              · exact h)
            clear hb
            have bq := HK.out
            have k0 := bq.cell 0
            have k1 := bq.cell 1
            have zK := bq.lt
            simp only [List.getElem?_toArray, List.getElem?_cons_zero, List.getElem?_cons_succ] at k0 k1
            clear bq
            have bq := HM.out
            have m0 := bq.cell 0
            have m1 := bq.cell 1
            have m2 := bq.cell 2
            have m3 := bq.cell 3
            have m4 := bq.cell 4
            have zM := bq.lt
            simp only [List.getElem?_toArray, List.getElem?_cons_zero, List.getElem?_cons_succ] at m0 m1 m2 m3 m4
            clear bq
            have Hap := hide (apply_any A10 (n + 1) c10 (l ++ [lastR]) s x m a E w10 (H2.out.new N.out) (H3.out.new N.out) (H7.out.new N.out) (H8.out.new N.out) Hr10.out Hl10.out (by omega) (Ha.out.new_ N.out) (by omega) (by omega))
            rw [← HY.out] at Hap
            unfold AttrR.cells at Hap
            go_wp2_with fail
            refine Hap.out.mono ?_
            rintro e wa3 ⟨⟨P3, pc3, p3, f3, g3, o3, T3, tc3, t3⟩, v, rfl, hcon, hok, hfr, hv, hu⟩
            clear Hap k0 k1 zK m0 m1 m2 m3 m4 zM
            rw [Hb3.out]
            obtain rfl := hv.zero Hz.out
            dsimp only at hok ⊢
            have nA := (Upd.refl (fun _ => False) wa3).alloc (.cells #[.slice P3 p3.length pc3, .int .i64 f3, .int .i64 g3, .int .i64 o3, .slice T3 t3.length tc3] TA)
            have hu9 := hu.trans_new nA
            have N := hide (N.out.trans_new hu9)
            have HK := hide (HK.out.new_ hu9)
            have HM := hide (HM.out.new_ hu9)
            have HX1 := hide (HX1.out.new_ hu9)
            have Ok1 := hide (Ok1.out.new_ hu9)
            have Ok3 := hide (hok.new_ nA)
            have HX3 := hide (Blk.new wa3 TA #[.slice P3 p3.length pc3, .int .i64 f3, .int .i64 g3, .int .i64 o3, .slice T3 t3.length tc3])
            have Hc3 := hide hcon
            clear nA hu hu9 hok hcon hfr hv
            go_upto_region 21 with (fail)
            generalize wa3.alloc (.cells #[.slice P3 p3.length pc3, .int .i64 f3, .int .i64 g3, .int .i64 o3, .slice T3 t3.length tc3] TA) = W3 at *
            generalize wa3.heap.size = X3 at *
            have HL3 := hide (show p3.length ≤ 1000 ∧ t3.length ≤ 1000 from by
              have h := apX_len (l := (l ++ [lastR])) (s := s) (x := x) (m := m) (y := y) (by rw [HY.out]; exact hp) (by rw [HY.out]; exact ht)
              rw [← Hc3.out] at h
              exact ⟨Nat.le_trans h.1 (by omega), Nat.le_trans h.2 (by omega)⟩)
            have Oka := hide (Ha.out.new_ N.out)
            have hsm := fun w' (nw : New W3 w') => attrSame_any ⟨P3, pc3, p3, f3, g3, o3, T3, tc3, t3⟩ a w' (Ok3.out.new_ nw) (Oka.out.new_ nw) (by exact HL3.out.1) (by exact HL3.out.2) (by omega) (by omega)
            rw [decide_eq_true (show AttrR.con ⟨P3, pc3, p3, f3, g3, o3, T3, tc3, t3⟩ = a.con by rw [Hc3.out, Hxy.out, HY.out])] at hsm
            unfold AttrR.cells at hsm
            dsimp only at hsm
            have Hsm := hide hsm
            clear hsm
            have bq := HM.out
            have m0 := bq.cell 0
            have m1 := bq.cell 1
            have m2 := bq.cell 2
            have m3 := bq.cell 3
            have m4 := bq.cell 4
            have zM := bq.lt
            simp only [List.getElem?_toArray, List.getElem?_cons_zero, List.getElem?_cons_succ] at m0 m1 m2 m3 m4
            clear bq
            have bq := HX3.out
            have x30 := bq.cell 0
            have x31 := bq.cell 1
            have x32 := bq.cell 2
            have x33 := bq.cell 3
            have x34 := bq.cell 4
            have zX3 := bq.lt
            simp only [List.getElem?_toArray, List.getElem?_cons_zero, List.getElem?_cons_succ] at x30 x31 x32 x33 x34
            clear bq
            go_wp2_with fail
            refine (Hsm.out _ (Upd.refl _ _)).mono ?_
            rintro e w11 ⟨rfl, hu⟩
            have N11 := hide (N.out.trans_new hu)
            clear hu
            go_wp2_with fail
            go_ret
            exact ⟨rfl, N11.out⟩
        · have Hz := hide hz
          have Hb3 := hide (apB_err hz)
          clear hz
          have bq := HK.out
          have k0 := bq.cell 0
          have k1 := bq.cell 1
          have zK := bq.lt
          simp only [List.getElem?_toArray, List.getElem?_cons_zero, List.getElem?_cons_succ] at k0 k1
          clear bq
          have bq := HM.out
          have m0 := bq.cell 0
          have m1 := bq.cell 1
          have m2 := bq.cell 2
          have m3 := bq.cell 3
          have m4 := bq.cell 4
          have zM := bq.lt
          simp only [List.getElem?_toArray, List.getElem?_cons_zero, List.getElem?_cons_succ] at m0 m1 m2 m3 m4
          clear bq
          have Hap := hide (apply_any A10 (n + 1) c10 (l ++ [lastR]) s x m a E w10 (H2.out.new N.out) (H3.out.new N.out) (H7.out.new N.out) (H8.out.new N.out) Hr10.out Hl10.out (by omega) (Ha.out.new_ N.out) (by omega) (by omega))
          rw [← HY.out] at Hap
          unfold AttrR.cells at Hap
          go_wp2_with fail
          refine Hap.out.mono ?_
          rintro e wa3 ⟨⟨P3, pc3, p3, f3, g3, o3, T3, tc3, t3⟩, v, rfl, hcon, hok, hfr, hv, hu⟩
          clear Hap k0 k1 zK m0 m1 m2 m3 m4 zM
          rw [Hb3.out]
          obtain ⟨tv3, pv3, rfl⟩ := hv.some_ Hz.out
          dsimp only at hok ⊢
          have nA := (Upd.refl (fun _ => False) wa3).alloc (.cells #[.slice P3 p3.length pc3, .int .i64 f3, .int .i64 g3, .int .i64 o3, .slice T3 t3.length tc3] TA)
          have hu9 := hu.trans_new nA
          have N := hide (N.out.trans_new hu9)
          have HK := hide (HK.out.new_ hu9)
          have HM := hide (HM.out.new_ hu9)
          have HX1 := hide (HX1.out.new_ hu9)
          have Ok1 := hide (Ok1.out.new_ hu9)
          have Ok3 := hide (hok.new_ nA)
          have HX3 := hide (Blk.new wa3 TA #[.slice P3 p3.length pc3, .int .i64 f3, .int .i64 g3, .int .i64 o3, .slice T3 t3.length tc3])
          have Hc3 := hide hcon
          clear nA hu hu9 hok hcon hfr hv
          go_upto_region 21 with (fail)
          generalize wa3.alloc (.cells #[.slice P3 p3.length pc3, .int .i64 f3, .int .i64 g3, .int .i64 o3, .slice T3 t3.length tc3] TA) = W3 at *
          generalize wa3.heap.size = X3 at *
          go_wp2_with fail
          go_ret
          exact ⟨rfl, N.out⟩
end Go.Proofs.YtkljanjapcpbdaaDoor
