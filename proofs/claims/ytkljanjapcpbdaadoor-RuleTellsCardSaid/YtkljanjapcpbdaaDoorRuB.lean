/- Package rule: Apply. No condition but those that stand in each theorem. -/
import Derived.Test.YtkljanjapcpbdaaDoorRuA
namespace Go.Proofs.YtkljanjapcpbdaaDoor
open Go.RowKit

theorem ErrV.upd {S : Nat → Prop} {w w1 : World} {E : Nat → Addr} {v : Value} {k : Nat} {i : Int} (h : ErrV w E v k i) (hu : Upd S w w1) (hn : ∀ p cs, Blk w p TF cs → ¬ S p) : ErrV w1 E v k i := by
  rcases h with h | h | ⟨h1, h9, p, hv, hb⟩
  · exact .inl h
  · exact .inr (.inl h)
  · exact .inr (.inr ⟨h1, h9, p, hv, hb.upd hu (hn p _ hb)⟩)
theorem ErrV.setR {w : World} {R : Nat} {cs : Array Value} {E : Nat → Addr} {v : Value} {k : Nat} {i : Int} {y0 y1 y2 y3 y4 : Value} (hb : Blk w R TA cs) (hv : ErrV w E v k i) :
    ErrV (((((w.setCell ⟨R, 0, none⟩ y0).setCell ⟨R, 1, none⟩ y1).setCell ⟨R, 2, none⟩ y2).setCell ⟨R, 3, none⟩ y3).setCell ⟨R, 4, none⟩ y4) E v k i :=
  hv.upd (set5_one w R y0 y1 y2 y3 y4) fun p cs hp e => Blk.ne_ hp hb (by decide) e
theorem ap_end {w W : World} {E : Nat → Addr} {v : Value} {F : Nat × Int} {B : Bool} {X : AtC} (hn : New w W) (hv : ErrV W E v F.1 F.2) (hB : B = false) (hX : X = zeroC) :
    ∃ (a' : AttrR) (v' : Value), Ending.returned (.tuple #[.agg #[.slice none 0 0, .int .i64 0, .int .i64 0, .int .i64 0, .slice none 0 0], .bool false, v]) = .returned (.tuple #[.agg a'.cells, .bool B, v']) ∧ a'.con = X ∧ AttrOk W a' ∧ Fresh w a' ∧ ErrV W E v' F.1 F.2 ∧ New w W := by
  subst hB; subst hX
  exact ⟨zeroR, v, rfl, rfl, zeroR_ok _, zeroR_fresh _, hv, hn⟩
theorem tagK_le (x : AtC) (t : Int) : tagK x t ≤ 8 := by
  have := conC_le x
  unfold tagK; split; · exact this
  · split; · omega
    · split <;> omega
theorem leadK_le (x : AtC) (s n : Int) : leadK x s n ≤ 8 := by
  have := conC_le x
  unfold leadK; split; · exact this
  · split; · omega
    · split <;> omega
theorem mkK_le (r : RuR) (s : Int) (c : AtC) : mkK r s c ≤ 8 := by
  unfold mkK; split
  · unfold mkT; split; · exact tagK_le _ _
    · omega
  · exact leadK_le _ _ _

set_option maxRecDepth 20000 in
set_option maxHeartbeats 8000000 in
theorem apply_any (A : Option Addr) (n c : Nat) (l : List RuR) (s x m : Int) (a : AttrR) (E : Nat → Addr) (w : World) (h2 : Sen w gBound (E 2)) (h3 : Sen w gShape (E 3)) (h7 : Sen w gFull_ (E 7)) (h8 : Sen w gOrder (E 8))
    (hx : Rules w A l) (hn : l.length = n) (hl0 : n ≤ 1000) (ha : AttrOk w a) (hl : a.path.length ≤ 1000) (hl2 : a.tags.length ≤ 999) :
    Calls Tryd.prog 39 #[.slice A n c, .int .i64 s, .agg #[.int .i64 x, .int .i64 m], .agg a.cells] w fun e w1 => ∃ (a' : AttrR) (v : Value), e = .returned (.tuple #[.agg a'.cells, .bool (apB l s x m a.con), v]) ∧
      a'.con = apX l s x m a.con ∧ AttrOk w1 a' ∧ Fresh w a' ∧ ErrV w1 E v (apF l s x m a.con).1 (apF l s x m a.con).2 ∧ New w w1 := by
  have u := (((Upd.refl (fun _ => False) w).alloc (.cells #[.int .i64 x, .int .i64 m] TPx)).alloc (.cells a.cells TA)).alloc (.cells #[.slice none 0 0, .int .i64 0, .int .i64 0, .int .i64 0, .slice none 0 0] TA)
  have b0 := ((Blk.new w TPx #[.int .i64 x, .int .i64 m]).alloc (.cells a.cells TA)).alloc (.cells #[.slice none 0 0, .int .i64 0, .int .i64 0, .int .i64 0, .slice none 0 0] TA)
  have b1 := (Blk.at_ (w.alloc (.cells #[.int .i64 x, .int .i64 m] TPx)) TA a.cells (w.heap.size + 1) (by simp)).alloc (.cells #[.slice none 0 0, .int .i64 0, .int .i64 0, .int .i64 0, .slice none 0 0] TA)
  have b2 := Blk.at_ ((w.alloc (.cells #[.int .i64 x, .int .i64 m] TPx)).alloc (.cells a.cells TA)) TA #[.slice none 0 0, .int .i64 0, .int .i64 0, .int .i64 0, .slice none 0 0] (w.heap.size + 1 + 1) (by simp)
  have Hck := hide (ruleCheck_any A n c l E _ (h2.new u) (h3.new u) (h7.new u) (hx.new_ u) hn hl0)
  have H2 := hide h2
  have H3 := hide h3
  have H7 := hide h7
  have H8 := hide h8
  have Ha := hide ha
  have Hx := hide hx
  have Hn := hide hn
  have N0 := hide u
  have HK0 := hide b0
  have HM0 := hide b1
  have HR0 := hide b2
  clear ha u b0 b1 b2 h2 h3 h7 h8 hx hn
  obtain ⟨y, hy⟩ : ∃ y, y = a.con := ⟨_, rfl⟩
  rw [← hy]
  have HY := hide hy
  clear hy
  have d1 : w.heap.size ≠ w.heap.size + 1 := by omega
  have d2 : w.heap.size ≠ w.heap.size + 1 + 1 := by omega
  have d3 : w.heap.size + 1 ≠ w.heap.size := by omega
  have d4 : w.heap.size + 1 + 1 ≠ w.heap.size := by omega
  have d5 : w.heap.size + 1 ≠ w.heap.size + 1 + 1 := by omega
  have d6 : w.heap.size + 1 + 1 ≠ w.heap.size + 1 := by omega
  unfold AttrR.cells at *
  go_enter Tryd.func39, Tryd.ntmps39
  go_upto_region 1 with (fail)
  generalize (((w.alloc (.cells #[.int .i64 x, .int .i64 m] TPx)).alloc (.cells #[.slice a.P a.path.length a.pc, .int .i64 a.pref, .int .i64 a.med, .int .i64 a.origin, .slice a.T a.tags.length a.tc] TA)).alloc (.cells #[.slice none 0 0, .int .i64 0, .int .i64 0, .int .i64 0, .slice none 0 0] TA)) = W at *
  go_wp2_with fail
  refine Hck.out.mono ?_
  rintro e w1 ⟨v, rfl, hv, hu1⟩
  clear Hck
  have N1 := hide (N0.out.trans_new hu1)
  have HK1 := hide (HK0.out.new_ hu1)
  have HM1 := hide (HM0.out.new_ hu1)
  have HR1 := hide (HR0.out.new_ hu1)
  clear hu1
  rcases hv.form with ⟨hk, _, rfl⟩ | ⟨hk, tv, p, rfl⟩
  · have Hr0 := hide hk
    clear hk hv
    have Hpc := hide (check_any x m E w1 (H2.out.new N1.out) (H3.out.new N1.out))
    have bq := HK1.out
    have k0 := bq.cell 0
    have k1 := bq.cell 1
    have zK := bq.lt
    simp only [List.getElem?_toArray, List.getElem?_cons_zero, List.getElem?_cons_succ] at k0 k1
    clear bq
    go_wp2_with fail
    refine Hpc.out.mono ?_
    rintro e w2 ⟨rfl, hu2⟩
    clear k0 k1 zK
    have N2 := hide (N1.out.trans_new hu2)
    have HK2 := hide (HK1.out.new_ hu2)
    have HM2 := hide (HM1.out.new_ hu2)
    have HR2 := hide (HR1.out.new_ hu2)
    clear hu2 Hpc
    by_cases hk : chk x m = 0
    · have Hr1 := hide hk
      rw [hk, errc_nil]
      clear hk
      have Hat := hide (attrCheck_any a E w2 (H2.out.new N2.out) (H7.out.new N2.out) (H8.out.new N2.out) (Ha.out.new_ N2.out) hl (by omega))
      rw [attrC_con, ← HY.out] at Hat
      unfold AttrR.cells at Hat
      have bq := HM2.out
      have m0 := bq.cell 0
      have m1 := bq.cell 1
      have m2 := bq.cell 2
      have m3 := bq.cell 3
      have m4 := bq.cell 4
      have zM := bq.lt
      simp only [List.getElem?_toArray, List.getElem?_cons_zero, List.getElem?_cons_succ] at m0 m1 m2 m3 m4
      clear bq
      go_wp2_with fail
      refine Hat.out.mono ?_
      rintro e w3 ⟨v, rfl, hv, hu3⟩
      clear Hat m0 m1 m2 m3 m4 zM
      have N3 := hide (N2.out.trans_new hu3)
      have HK3 := hide (HK2.out.new_ hu3)
      have HM3 := hide (HM2.out.new_ hu3)
      have HR3 := hide (HR2.out.new_ hu3)
      clear hu3
      rcases hv.form with ⟨hk, _, rfl⟩ | ⟨hk, tv, p, rfl⟩
      · have Hr2 := hide (show (preC l x m y).1 = 0 by rw [preC_con Hr0.out Hr1.out]; exact hk)
        clear hk hv
        by_cases h0 : l = []
        · have Hap := hide (show apF l s x m y = (0, -1) ∧ apB l s x m y = true ∧ apX l s x m y = y by subst h0; exact ap_nil Hr2.out)
          have hnz : n = 0 := by rw [← Hn.out, h0]; rfl
          have hnb : ((n : Int) == 0) = true := by rw [hnz]; rfl
          have hnd : decide ((n : Int) = 0) = true := by rw [hnz]; rfl
          have Hcp := hide (copy2_any a w3 (Ha.out.new_ N3.out) hl (by omega))
          unfold AttrR.cells at Hcp
          clear h0 hnz
          have bq := HM3.out
          have m0 := bq.cell 0
          have m1 := bq.cell 1
          have m2 := bq.cell 2
          have m3 := bq.cell 3
          have m4 := bq.cell 4
          have zM := bq.lt
          simp only [List.getElem?_toArray, List.getElem?_cons_zero, List.getElem?_cons_succ] at m0 m1 m2 m3 m4
          clear bq
          go_wp2_with fail
          refine Hcp.out.mono ?_
          rintro e w4 ⟨⟨P5, pc5, p5, f5, g5, o5, T5, tc5, t5⟩, rfl, hcon5, hok5, hfr5, hu5⟩
          dsimp only at hok5 hfr5 ⊢
          have zRx := HR3.out.lt
          have Hc5 := hide hcon5
          have Ok5 := hide hok5
          have Fr5 := hide hfr5
          clear hcon5 hok5 hfr5
          have N4 := hide (N3.out.trans_new hu5)
          have HK4 := hide (HK3.out.new_ hu5)
          have HM4 := hide (HM3.out.new_ hu5)
          have HR4 := hide (HR3.out.new_ hu5)
          have bq := HR4.out
          have r0 := bq.cell 0
          have r1 := bq.cell 1
          have r2 := bq.cell 2
          have r3 := bq.cell 3
          have r4 := bq.cell 4
          have s0 := bq.frozen 0
          have s1 := bq.frozen 1
          have s2 := bq.frozen 2
          have s3 := bq.frozen 3
          have s4 := bq.frozen 4
          have zR := bq.lt
          simp only [List.getElem?_toArray, List.getElem?_cons_zero, List.getElem?_cons_succ] at r0 r1 r2 r3 r4
          clear bq
          go_wp2_with fail
          refine bodyPost_ret (attr_out3 Tryd.results39 rfl (set5 HR4.out)) rfl ?_
          have uF := set5_one w4 (w.heap.size + 1 + 1) (.slice P5 p5.length pc5) (.int .i64 f5) (.int .i64 g5) (.int .i64 o5) (.slice T5 t5.length tc5)
          refine ⟨⟨P5, pc5, p5, f5, g5, o5, T5, tc5, t5⟩, .nilIface, ?_, ?_, Ok5.out.store Fr5.out uF (fun k e => by subst e; exact zRx), Fr5.out.low N3.out.size, ?_, N4.out.trans uF (fun q hq hx => absurd hx (by show ¬ q = w.heap.size + 1 + 1; omega))⟩
          · rw [Hap.out.2.1]; rfl
          · rw [Hap.out.2.2, HY.out]; exact Hc5.out
          · rw [Hap.out.1]; exact ErrV.nil
        · have hnz : ¬ n = 0 := fun h => h0 (List.eq_nil_of_length_eq_zero (Hn.out.trans h))
          have hni : ¬ (n : Int) = 0 := by omega
          have hnb : ((n : Int) == 0) = false := by simp [hnz]
          have H0 := hide h0
          have Hix := hide (idxRules_any A n c l x m a w.heap.size (w.heap.size + 1) E w3 (H2.out.new N3.out) (H3.out.new N3.out) (Hx.out.new_ N3.out) Hn.out hl0 HK3.out HM3.out (Ha.out.new_ N3.out) hl (by omega))
          rw [show (fun r => fitB r x m a.path a.tags) = fitX x m y by rw [HY.out]; rfl] at Hix
          have hfd := idxB_find (fitX x m y) l
          clear h0 hnz
          generalize idxB (fitX x m y) l = J at Hix hfd
          go_wp2_with fail
          refine Hix.out.mono ?_
          rintro e w4 ⟨rfl, hu4⟩
          have N4 := hide (N3.out.trans_new hu4)
          have HK4 := hide (HK3.out.new_ hu4)
          have HM4 := hide (HM3.out.new_ hu4)
          have HR4 := hide (HR3.out.new_ hu4)
          clear hu4 Hix
          rcases hfd with ⟨h1, h2⟩ | ⟨h1, r, h2, h3⟩
          · have Hap := hide (ap_none (s := s) Hr2.out H0.out h2)
            clear h2
            have bq := HR4.out
            have r0 := bq.cell 0
            have r1 := bq.cell 1
            have r2 := bq.cell 2
            have r3 := bq.cell 3
            have r4 := bq.cell 4
            have s0 := bq.frozen 0
            have s1 := bq.frozen 1
            have s2 := bq.frozen 2
            have s3 := bq.frozen 3
            have s4 := bq.frozen 4
            have zR := bq.lt
            simp only [List.getElem?_toArray, List.getElem?_cons_zero, List.getElem?_cons_succ] at r0 r1 r2 r3 r4
            clear bq
            go_wp2_with fail
            refine bodyPost_ret (attr_out3 Tryd.results39 rfl (set5 HR4.out)) rfl ?_
            exact ap_end (set5_new N4.out (by omega)) (by rw [Hap.out.1]; exact ErrV.nil) Hap.out.2.1 Hap.out.2.2
          · obtain ⟨k, rfl⟩ : ∃ k : Nat, J = k := ⟨J.toNat, by omega⟩
            have h4 : l[k]? = some r := by simpa using h2
            have hkl : k < l.length := by
              rcases Nat.lt_or_ge k l.length with h | h
              · exact h
              · rw [List.getElem?_eq_none h] at h4; cases h4
            have hkn : k < n := by rw [← Hn.out]; exact hkl
            have i1 : ¬ (k : Int) < 0 := by omega
            have i2 : (k : Int) < (n : Int) := by omega
            obtain ⟨b, q, r', rfl, zb, h4', cc⟩ := (Hx.out.new_ N4.out).at_ hkl
            obtain rfl : r' = r := Option.some.inj (h4'.symm.trans h4)
            obtain ⟨c0, c1, c2, c3, c4, c5, c6, c7, c8, c9, c10⟩ := cc
            have Hf3 := hide h3
            clear h2 h3 h4 h4' h1 hkl
            cases hd : r'.deny with
            | true =>
              have Hap := hide (ap_deny (s := s) Hr2.out H0.out Hf3.out hd)
              rw [hd] at c6
              clear hd
              have bq := HR4.out
              have r0 := bq.cell 0
              have r1 := bq.cell 1
              have r2 := bq.cell 2
              have r3 := bq.cell 3
              have r4 := bq.cell 4
              have s0 := bq.frozen 0
              have s1 := bq.frozen 1
              have s2 := bq.frozen 2
              have s3 := bq.frozen 3
              have s4 := bq.frozen 4
              have zR := bq.lt
              simp only [List.getElem?_toArray, List.getElem?_cons_zero, List.getElem?_cons_succ] at r0 r1 r2 r3 r4
              clear bq
              go_wp2_with fail
              refine bodyPost_ret (attr_out3 Tryd.results39 rfl (set5 HR4.out)) rfl ?_
              exact ap_end (set5_new N4.out (by omega)) (by rw [Hap.out.1]; exact ErrV.nil) Hap.out.2.1 Hap.out.2.2
            | false =>
              have Hap := hide (ap_some (s := s) Hr2.out H0.out Hf3.out hd)
              have Hmk := hide (fun w' (nw : New w4 w') => make_any r' s a E w' (H2.out.new (N4.out.trans_new nw)) (H7.out.new (N4.out.trans_new nw)) (H8.out.new (N4.out.trans_new nw)) (Ha.out.new_ (N4.out.trans_new nw)) hl hl2)
              unfold AttrR.cells RuR.cells at Hmk
              rw [hd] at c6 Hmk
              rw [← HY.out] at Hmk
              clear hd
              have bq := HM4.out
              have m0 := bq.cell 0
              have m1 := bq.cell 1
              have m2 := bq.cell 2
              have m3 := bq.cell 3
              have m4 := bq.cell 4
              have zM := bq.lt
              simp only [List.getElem?_toArray, List.getElem?_cons_zero, List.getElem?_cons_succ] at m0 m1 m2 m3 m4
              clear bq
              go_upto_region 15 with (fail)
              have Wd := hide (show New w4 w4.drew from (Upd.refl _ w4).drew)
              have Wa := hide (show New w4 (w4.alloc (.cells #[.slice none 0 0, .int .i64 0, .int .i64 0, .int .i64 0, .slice none 0 0] TA)).drew from ((Upd.refl _ w4).alloc _).drew)
              have Ba := hide (show Blk (w4.alloc (.cells #[.slice none 0 0, .int .i64 0, .int .i64 0, .int .i64 0, .slice none 0 0] TA)).drew w4.heap.size TA #[.slice none 0 0, .int .i64 0, .int .i64 0, .int .i64 0, .slice none 0 0] from (Blk.new _ _ _).drew)
              have zz0 := N4.out.size
              have zM4 := HM4.out.lt
              have zR4 := HR4.out.lt
              have zK4 := HK4.out.lt
              go_region_with (first
                | (go_at_call 90; refine (Hmk.out _ (by exact Wd.out)).mono ?_; rintro e w5 ⟨⟨P5, pc5, p5, f5, g5, o5, T5, tc5, t5⟩, rfl, hcon5, hok5, hfr5, hu5⟩; have Fr5 := hide (show Fresh w4 _ from hfr5); have Hs5 := hide (Nat.le_refl w5.heap.size); have U5 := hide (Wd.out.trans_new hu5); have Ok5 := hide hok5; have Hc5 := hide hcon5; clear hcon5 hok5 hfr5 hu5)
                | (go_at_call 90; refine (Hmk.out _ (by exact Wa.out)).mono ?_; rintro e w5 ⟨⟨P5, pc5, p5, f5, g5, o5, T5, tc5, t5⟩, rfl, hcon5, hok5, hfr5, hu5⟩; have Fx5 := hide hfr5; have Fr5 := hide (hfr5.low Wa.out.size); have U5 := hide (Wa.out.trans_new hu5); have Ok5 := hide hok5; have Hc5 := hide hcon5; have bX := Ba.out.new_ hu5; have HX5 := hide bX; have q0 := bX.cell 0; have q1 := bX.cell 1; have q2 := bX.cell 2; have q3 := bX.cell 3; have q4 := bX.cell 4; have t0 := bX.frozen 0; have t1 := bX.frozen 1; have t2 := bX.frozen 2; have t3 := bX.frozen 3; have t4 := bX.frozen 4; have zX := bX.lt; simp only [List.getElem?_toArray, List.getElem?_cons_zero, List.getElem?_cons_succ] at q0 q1 q2 q3 q4; clear bX hcon5 hok5 hfr5 hu5))
              all_goals
                first
                  | (have := Hs5.out
                     have U6 := hide (U5.out.trans_new ((Upd.refl (fun _ => False) w5).alloc (.cells #[.slice P5 p5.length pc5, .int .i64 f5, .int .i64 g5, .int .i64 o5, .slice T5 t5.length tc5] TA)))
                     have HX6 := hide (Blk.new w5 TA #[.slice P5 p5.length pc5, .int .i64 f5, .int .i64 g5, .int .i64 o5, .slice T5 t5.length tc5])
                     have Ok6 := hide (Ok5.out.new_ ((Upd.refl (fun _ => False) w5).alloc (.cells #[.slice P5 p5.length pc5, .int .i64 f5, .int .i64 g5, .int .i64 o5, .slice T5 t5.length tc5] TA)))
                     have zX5 := U5.out.size
                     generalize w5.alloc (.cells #[.slice P5 p5.length pc5, .int .i64 f5, .int .i64 g5, .int .i64 o5, .slice T5 t5.length tc5] TA) = W6 at *
                     generalize w5.heap.size = X at *)
                  | (have := Fx5.out
                     have uX := set5_one w5 w4.heap.size (.slice P5 p5.length pc5) (.int .i64 f5) (.int .i64 g5) (.int .i64 o5) (.slice T5 t5.length tc5)
                     have HX6 := hide (set5 (y0 := .slice P5 p5.length pc5) (y1 := .int .i64 f5) (y2 := .int .i64 g5) (y3 := .int .i64 o5) (y4 := .slice T5 t5.length tc5) HX5.out)
                     have U6 := hide (U5.out.trans uX (fun q hq hx => absurd hx (by show ¬ q = w4.heap.size; omega)))
                     have Ok6 := hide (Ok5.out.store Fx5.out uX (fun k e => by subst e; rw [drew_alloc_size]; omega))
                     have zX5 := Nat.le_refl w4.heap.size
                     clear uX q0 q1 q2 q3 q4 t0 t1 t2 t3 t4 zX
                     generalize ((((w5.setCell ⟨w4.heap.size, 0, none⟩ (.slice P5 p5.length pc5)).setCell ⟨w4.heap.size, 1, none⟩ (.int .i64 f5)).setCell ⟨w4.heap.size, 2, none⟩ (.int .i64 g5)).setCell ⟨w4.heap.size, 3, none⟩ (.int .i64 o5)).setCell ⟨w4.heap.size, 4, none⟩ (.slice T5 t5.length tc5) = W6 at *
                     generalize w4.heap.size = X at *)
                have HR6 := hide (HR4.out.new_ U6.out)
                have N6 := hide (N4.out.trans_new U6.out)
                have x1 : ¬ X = w.heap.size + 1 + 1 := by omega
                have x2 : ¬ w.heap.size + 1 + 1 = X := by omega
                have bq := HX6.out
                have x10 := bq.cell 0
                have x11 := bq.cell 1
                have x12 := bq.cell 2
                have x13 := bq.cell 3
                have x14 := bq.cell 4
                have zX6 := bq.lt
                simp only [List.getElem?_toArray, List.getElem?_cons_zero, List.getElem?_cons_succ] at x10 x11 x12 x13 x14
                clear bq
                have bq := HR6.out
                have r0 := bq.cell 0
                have r1 := bq.cell 1
                have r2 := bq.cell 2
                have r3 := bq.cell 3
                have r4 := bq.cell 4
                have s0 := bq.frozen 0
                have s1 := bq.frozen 1
                have s2 := bq.frozen 2
                have s3 := bq.frozen 3
                have s4 := bq.frozen 4
                have zR6 := bq.lt
                simp only [List.getElem?_toArray, List.getElem?_cons_zero, List.getElem?_cons_succ] at r0 r1 r2 r3 r4
                clear bq
                by_cases hk : mkK r' s y = 0
                · have Hk0 := hide hk
                  rw [hk, errc_nil]
                  clear hk
                  go_wp2_with fail
                  go_region
                  all_goals
                    go_wp2_with fail
                    refine bodyPost_ret (attr_out3 Tryd.results39 rfl (set5 HR6.out).drew) rfl ?_
                    have uF := (set5_one W6 (w.heap.size + 1 + 1) (.slice P5 p5.length pc5) (.int .i64 f5) (.int .i64 g5) (.int .i64 o5) (.slice T5 t5.length tc5)).drew
                    refine ⟨⟨P5, pc5, p5, f5, g5, o5, T5, tc5, t5⟩, errc E (mkK r' s y), ?_, ?_, Ok6.out.store Fr5.out uF (fun k e => by subst e; exact HR4.out.lt), Fr5.out.low N4.out.size, ?_, N6.out.trans uF (fun q hq hx => absurd hx (by show ¬ q = w.heap.size + 1 + 1; omega))⟩
                    rotate_left
                    · rw [Hap.out.2.2]; exact Hc5.out
                    · rw [Hap.out.1]; exact ErrV.errc (k := mkK r' s y) (by have := mkK_le r' s y; omega)
                    · rw [Hap.out.2.1, decide_eq_true Hk0.out, Hk0.out]
                      rfl
                · have Hk0 := hide hk
                  rw [errc_err E hk]
                  clear hk
                  go_wp2_with fail
                  go_region
                  all_goals
                    go_wp2_with fail
                    refine bodyPost_ret (attr_out3 Tryd.results39 rfl (set5 HR6.out).drew) rfl ?_
                    have uF := (set5_one W6 (w.heap.size + 1 + 1) (.slice P5 p5.length pc5) (.int .i64 f5) (.int .i64 g5) (.int .i64 o5) (.slice T5 t5.length tc5)).drew
                    refine ⟨⟨P5, pc5, p5, f5, g5, o5, T5, tc5, t5⟩, errc E (mkK r' s y), ?_, ?_, Ok6.out.store Fr5.out uF (fun k e => by subst e; exact HR4.out.lt), Fr5.out.low N4.out.size, ?_, N6.out.trans uF (fun q hq hx => absurd hx (by show ¬ q = w.heap.size + 1 + 1; omega))⟩
                    rotate_left
                    · rw [Hap.out.2.2]; exact Hc5.out
                    · rw [Hap.out.1]; exact ErrV.errc (k := mkK r' s y) (by have := mkK_le r' s y; omega)
                    · rw [Hap.out.2.1, decide_eq_false Hk0.out, errc_err E Hk0.out]
                      rfl
      · have Hb := hide (bare_any _ _ _ w3 E hv)
        have Hk := hide hk
        have Hpre := hide (ap_pre (s := s) (show (preC l x m y).1 ≠ 0 by rw [preC_con Hr0.out Hr1.out]; exact hk))
        clear hv hk
        go_wp2_with fail
        refine Hb.out.mono ?_
        rintro e w4 ⟨rfl, rfl⟩
        have bq := HR3.out
        have r0 := bq.cell 0
        have r1 := bq.cell 1
        have r2 := bq.cell 2
        have r3 := bq.cell 3
        have r4 := bq.cell 4
        have s0 := bq.frozen 0
        have s1 := bq.frozen 1
        have s2 := bq.frozen 2
        have s3 := bq.frozen 3
        have s4 := bq.frozen 4
        have zR := bq.lt
        simp only [List.getElem?_toArray, List.getElem?_cons_zero, List.getElem?_cons_succ] at r0 r1 r2 r3 r4
        clear bq
        go_wp2_with fail
        refine bodyPost_ret (attr_out3 Tryd.results39 rfl (set5 HR3.out)) rfl ?_
        exact ap_end (set5_new N3.out (by omega)) (ErrV.setR HR3.out (by rw [Hpre.out.1, preC_con Hr0.out Hr1.out]; exact ErrV.errc (by have := conC_le y; omega))) Hpre.out.2.1 Hpre.out.2.2
    · have Hpre := hide (ap_pre (s := s) (show (preC l x m y).1 ≠ 0 by rw [preC_chk Hr0.out hk]; exact hk))
      have Hev := hide (show ErrV w2 E (errc E (chk x m)) (chk x m) (-1) from ErrV.errc (by have := chk_le x m; omega))
      have Hk := hide hk
      rw [errc_err E hk] at Hev ⊢
      clear hk
      have bq := HR2.out
      have r0 := bq.cell 0
      have r1 := bq.cell 1
      have r2 := bq.cell 2
      have r3 := bq.cell 3
      have r4 := bq.cell 4
      have s0 := bq.frozen 0
      have s1 := bq.frozen 1
      have s2 := bq.frozen 2
      have s3 := bq.frozen 3
      have s4 := bq.frozen 4
      have zR := bq.lt
      simp only [List.getElem?_toArray, List.getElem?_cons_zero, List.getElem?_cons_succ] at r0 r1 r2 r3 r4
      clear bq
      go_wp2_with fail
      refine bodyPost_ret (attr_out3 Tryd.results39 rfl (set5 HR2.out)) rfl ?_
      exact ap_end (set5_new N2.out (by omega)) (ErrV.setR HR2.out (by rw [Hpre.out.1, preC_chk Hr0.out Hk.out]; exact Hev.out)) Hpre.out.2.1 Hpre.out.2.2
  · have Hpre := hide (ap_pre (s := s) (show (preC l x m y).1 ≠ 0 by rw [preC_rules hk]; exact hk))
    have Hev := hide hv
    have Hk := hide hk
    clear hk hv
    have bq := HR1.out
    have r0 := bq.cell 0
    have r1 := bq.cell 1
    have r2 := bq.cell 2
    have r3 := bq.cell 3
    have r4 := bq.cell 4
    have s0 := bq.frozen 0
    have s1 := bq.frozen 1
    have s2 := bq.frozen 2
    have s3 := bq.frozen 3
    have s4 := bq.frozen 4
    have zR := bq.lt
    simp only [List.getElem?_toArray, List.getElem?_cons_zero, List.getElem?_cons_succ] at r0 r1 r2 r3 r4
    clear bq
    go_wp2_with fail
    refine bodyPost_ret (attr_out3 Tryd.results39 rfl (set5 HR1.out)) rfl ?_
    exact ap_end (set5_new N1.out (by omega)) (ErrV.setR HR1.out (by rw [Hpre.out.1, preC_rules Hk.out]; exact Hev.out)) Hpre.out.2.1 Hpre.out.2.2
end Go.Proofs.YtkljanjapcpbdaaDoor
