/- The law RuleTells: its walk. No condition but those that stand in each theorem. -/
import Derived.Test.YtkljanjapcpbdaaDoorRuE
import Derived.Test.YtkljanjapcpbdaaDoorRq5
import Derived.Test.YtkljanjapcpbdaaDoorRq6
import Derived.Test.YtkljanjapcpbdaaDoorOw1
import Derived.Deep.DeepCutAuto
import Derived.Deep.RegionHeld3
namespace Go.Proofs.YtkljanjapcpbdaaDoor
open Go.RowKit

/-- What a round reads of the call's own: a row, the prefix, what is told. -/
theorem keepT {w : World} {b q M K k : Nat} {r : RuR} {x m : Int} {v0 v1 v2 v3 v4 : Value} {l : List RuR} (h : Rules w (some ⟨b, q, none⟩) l) (hr : l[k]? = some r) (hK : Blk w K TPx #[.int .i64 x, .int .i64 m]) (hM : Blk w M TA #[v0, v1, v2, v3, v4]) :
    w.cell? ⟨b, q + k * 11, none⟩ = some (.int .i64 r.a) ∧ w.cell? ⟨b, q + k * 11 + 1, none⟩ = some (.int .i64 r.n) ∧ w.cell? ⟨b, q + k * 11 + 2, none⟩ = some (.int .i64 r.lo) ∧ w.cell? ⟨b, q + k * 11 + 3, none⟩ = some (.int .i64 r.hi) ∧ w.cell? ⟨b, q + k * 11 + 4, none⟩ = some (.int .i64 r.tag) ∧ w.cell? ⟨b, q + k * 11 + 5, none⟩ = some (.int .i64 r.as_) ∧ w.cell? ⟨b, q + k * 11 + 6, none⟩ = some (.bool r.deny) ∧ w.cell? ⟨b, q + k * 11 + 7, none⟩ = some (.int .i64 r.pref) ∧ w.cell? ⟨b, q + k * 11 + 8, none⟩ = some (.int .i64 r.med) ∧ w.cell? ⟨b, q + k * 11 + 9, none⟩ = some (.int .i64 r.add) ∧ w.cell? ⟨b, q + k * 11 + 10, none⟩ = some (.int .i64 r.lead) ∧
    w.cell? ⟨K, 0, none⟩ = some (.int .i64 x) ∧ w.cell? ⟨K, 1, none⟩ = some (.int .i64 m) ∧ w.cell? ⟨M, 0, none⟩ = some v0 ∧ w.cell? ⟨M, 1, none⟩ = some v1 ∧ w.cell? ⟨M, 2, none⟩ = some v2 ∧ w.cell? ⟨M, 3, none⟩ = some v3 ∧ w.cell? ⟨M, 4, none⟩ = some v4 := by
  have hk : k < l.length := by
    rcases Nat.lt_or_ge k l.length with h1 | h1
    · exact h1
    · rw [List.getElem?_eq_none h1] at hr; cases hr
  obtain ⟨b', q', r', e1, _, hr', c0, c1, c2, c3, c4, c5, c6, c7, c8, c9, c10⟩ := h.at_ hk
  injection e1 with e1
  injection e1 with e1 e2
  subst e1; subst e2
  obtain rfl : r' = r := Option.some.inj (hr'.symm.trans hr)
  exact ⟨c0, c1, c2, c3, c4, c5, c6, c7, c8, c9, c10, hK.cell 0, hK.cell 1, hM.cell 0, hM.cell 1, hM.cell 2, hM.cell 3, hM.cell 4⟩

set_option maxRecDepth 20000 in
set_option maxHeartbeats 16000000 in
theorem rt_main (A : Option Addr) (n c : Nat) (l : List RuR) (s x m : Int) (a : AttrR) (E : Nat → Addr) (w : World) (h : Errs w E)
    (hx : Rules w A l) (hn : l.length = n) (ha : AttrOk w a) (hn15 : n ≤ 15) (hp : a.path.length ≤ 20) (ht : a.tags.length ≤ 15) :
    Calls Tryd.prog 7 #[.slice A n c, .int .i64 s, .agg #[.int .i64 x, .int .i64 m], .agg a.cells] w fun e w1 => e = .returned (.bool true) ∧ New w w1 := by
  have u := ((Upd.refl (fun _ => False) w).alloc (.cells #[.int .i64 x, .int .i64 m] TPx)).alloc (.cells a.cells TA)
  have b0 := (Blk.new w TPx #[.int .i64 x, .int .i64 m]).alloc (.cells a.cells TA)
  have b1 := Blk.at_ (w.alloc (.cells #[.int .i64 x, .int .i64 m] TPx)) TA a.cells (w.heap.size + 1) (by simp)
  have H := hide h
  have Ha := hide ha
  have Hx := hide hx
  have Hn := hide hn
  have N := hide u
  have HK := hide b0
  have HM := hide b1
  clear ha u b0 b1 h hx hn
  unfold AttrR.cells at *
  have i1 : ¬ (15 : Int) < (n : Int) := by omega
  go_enter Tryd.func7, Tryd.ntmps7
  go_upto_region 1 with (fail)
  generalize ((w.alloc (.cells #[.int .i64 x, .int .i64 m] TPx)).alloc (.cells #[.slice a.P a.path.length a.pc, .int .i64 a.pref, .int .i64 a.med, .int .i64 a.origin, .slice a.T a.tags.length a.tc] TA)) = W at *
  have Hrd := hide (ruled_any E W (H.out.new N.out).s2 (H.out.new N.out).s3 (H.out.new N.out).s7 (H.out.new N.out).s8)
  go_wp2_with fail
  refine Hrd.out.mono ?_
  rintro e w1 ⟨rfl, hu⟩
  have N := hide (N.out.trans_new hu)
  have HK := hide (HK.out.new_ hu)
  have HM := hide (HM.out.new_ hu)
  clear hu
  have bq := HM.out
  have m0 := bq.cell 0
  have m1 := bq.cell 1
  have m2 := bq.cell 2
  have m3 := bq.cell 3
  have m4 := bq.cell 4
  have zM := bq.lt
  simp only [List.getElem?_toArray, List.getElem?_cons_zero, List.getElem?_cons_succ] at m0 m1 m2 m3 m4
  clear bq
  have Hlg := hide (longAttr_no a w1 hp ht)
  unfold AttrR.cells at Hlg
  go_wp2_with fail
  refine Hlg.out.mono ?_
  rintro e w2 ⟨rfl, hu⟩
  clear m0 m1 m2 m3 m4 zM Hlg Hrd
  have N := hide (N.out.trans_new hu)
  have HK := hide (HK.out.new_ hu)
  have HM := hide (HM.out.new_ hu)
  clear hu
  have Hor := hide (ownRules_any A n c l w2 (Hx.out.new_ N.out) Hn.out (by omega))
  go_wp2_with fail
  refine Hor.out.mono ?_
  rintro e w3 ⟨v9, rfl, ho9, hu⟩
  obtain ⟨A9, c9, rfl, hl9, hr9⟩ := rules_of_own ho9
  have Hr9 := hide hr9
  clear ho9 hl9 hr9 Hor
  have N := hide (N.out.trans_new hu)
  have HK := hide (HK.out.new_ hu)
  have HM := hide (HM.out.new_ hu)
  clear hu
  have Hck := hide (ruleCheck_any A9 n c9 l E w3 (H.out.new N.out).s2 (H.out.new N.out).s3 (H.out.new N.out).s7 Hr9.out Hn.out (by omega))
  go_wp2_with fail
  refine Hck.out.mono ?_
  rintro e w4 ⟨v, rfl, hv, hu⟩
  clear Hck
  have N := hide (N.out.trans_new hu)
  have HK := hide (HK.out.new_ hu)
  have HM := hide (HM.out.new_ hu)
  have Hr9 := hide (Hr9.out.new_ hu)
  clear hu
  have Hv := hide hv
  clear hv
  have Hrf := hide (rulesFault_any A n c l w4 (Hx.out.new_ N.out) Hn.out (by omega))
  go_wp2_with fail
  refine Hrf.out.mono ?_
  rintro e w5 ⟨rfl, hu⟩
  clear Hrf
  have Hv := hide (Hv.out.new hu)
  have N := hide (N.out.trans_new hu)
  have HK := hide (HK.out.new_ hu)
  have HM := hide (HM.out.new_ hu)
  have Hr9 := hide (Hr9.out.new_ hu)
  clear hu
  have Hfl := hide (faulted2_same v (rulesC l) w5 E (H.out.new N.out) Hv.out)
  go_wp2_with fail
  refine Hfl.out.mono ?_
  rintro e w6 ⟨rfl, hu⟩
  clear Hfl Hv
  have N := hide (N.out.trans_new hu)
  have HK := hide (HK.out.new_ hu)
  have HM := hide (HM.out.new_ hu)
  have Hr9 := hide (Hr9.out.new_ hu)
  clear hu
  go_wp2_with fail
  go_loopw [11] (fun i wr => ∃ k : Nat, k ≤ n ∧ i = .int .i64 k ∧ New w6 wr) (fun i _ => n - (intOf i).toNat)
  case atStart => exact ⟨0, by omega, rfl, Upd.refl _ _⟩
  case round =>
    obtain ⟨k, hk, rfl, hnr⟩ := hrel
    have Nr := hide hnr
    have N := hide (N.out.trans_new hnr)
    have HK := hide (HK.out.new_ hnr)
    have HM := hide (HM.out.new_ hnr)
    have Hr9 := hide (Hr9.out.new_ hnr)
    clear hnr
    by_cases hlt : k < n
    · obtain ⟨b, q, r, rfl, zb, hrk, c0, c1, c2, c3, c4, c5, c6, c7, c8, c9', c10⟩ := (Hx.out.new_ N.out).at_ (k := k) (by rw [Hn.out]; exact hlt)
      have Hrk := hide hrk
      have i2 : (k : Int) < (n : Int) := by omega
      clear hrk
      obtain ⟨Z, hZ⟩ : ∃ Z, fitB r x m a.path a.tags = Z := ⟨_, rfl⟩
      have hdf := fun w' (nw : New wr w') => doesFit_any r x m a w' (Ha.out.new_ (N.out.trans_new nw)) (by omega) (by omega)
      rw [hZ] at hdf
      unfold AttrR.cells RuR.cells at hdf
      have Hdf := hide hdf
      have HZ := hide hZ
      clear hdf hZ
      have bq := HK.out
      have k0 := bq.cell 0
      have k1 := bq.cell 1
      have zK := bq.lt
      simp only [List.getElem?_toArray, List.getElem?_cons_zero, List.getElem?_cons_succ] at k0 k1
      clear bq
      have bq := HM.out
      have m0 := bq.cell 0
      have m1 := bq.cell 1
      have m2 := bq.cell 2
      have m3 := bq.cell 3
      have m4 := bq.cell 4
      have zM := bq.lt
      simp only [List.getElem?_toArray, List.getElem?_cons_zero, List.getElem?_cons_succ] at m0 m1 m2 m3 m4
      clear bq
      go_upto_region 10 with (fail)
      refine wp_region_new wr (Upd.refl _ _) (by kernel_rfl) (by kernel_rfl) ?_
      repeat (go_big_quiet_step ((go_at_call 55; exact new_call (Hdf.out _ (NewW.h _)))))
      refine wpQuiet_nil ?_
      rintro _ ⟨nq, rfl⟩
      obtain ⟨w7, hu⟩ := nq
      dsimp only
      clear c0 c1 c2 c3 c4 c5 c6 c7 c8 c9' c10 zb Hdf k0 k1 zK m0 m1 m2 m3 m4 zM
      have Nr := hide (Nr.out.trans_new hu)
      have N := hide (N.out.trans_new hu)
      have HK := hide (HK.out.new_ hu)
      have HM := hide (HM.out.new_ hu)
      have Hr9 := hide (Hr9.out.new_ hu)
      clear hu
      obtain ⟨b9, q9, r9, rfl, zb9, hr9, _⟩ := Hr9.out.at_ (k := k) (by rw [Hn.out]; exact hlt)
      obtain rfl : r9 = r := Option.some.inj (hr9.symm.trans Hrk.out)
      clear hr9
      have Hkt := hide (fun w' (nw : New w7 w') => keepT (Hr9.out.new_ nw) Hrk.out (HK.out.new_ nw) (HM.out.new_ nw))
      have hc0 := Hkt.out w7 (Upd.refl _ _)
      obtain ⟨d0, d1, d2, d3, d4, d5, d6, d7, d8, d9, d10, dk0, dk1, dm0, dm1, dm2, dm3, dm4⟩ := hc0
      have zK := HK.out.lt
      have zM := HM.out.lt
      have Hoa := hide (fun w' (nw : New w7 w') => ownAttr_any a w' (Ha.out.new_ (N.out.trans_new nw)) (by omega) (by omega))
      have Hfi := hide (fun w' (nw : New w7 w') (a' : AttrR) (hok : AttrOk w' a') (hc : a'.con = a.con) => (show Calls Tryd.prog 41 #[.agg r9.cells, .agg #[.int .i64 x, .int .i64 m], .agg a'.cells] w' (fun e w1 => e = .returned (.bool Z) ∧ New w' w1) from by
        have h1 : a'.path = a.path := congrArg AtC.path hc
        have h2 : a'.tags = a.tags := congrArg AtC.tags hc
        have := fits_any r9 x m a' E w' (H.out.new (N.out.trans_new nw)).s2 (H.out.new (N.out.trans_new nw)).s3 hok (by rw [h1]; omega) (by rw [h2]; omega)
        rw [h1, h2, HZ.out] at this
        exact this))
      unfold AttrR.cells at Hoa
      have Wd := hide (show New w7 w7.drew from (Upd.refl _ w7).drew)
      go_upto_region 11 with (fail)
      go_cut [64] (fun v wx => v = .bool false ∧ New w7 wx)
      case first =>
        go_region_held3 (fun w' => w'.cell? ⟨b9, q9 + k * 11, none⟩ = some (.int .i64 r9.a) ∧ w'.cell? ⟨b9, q9 + k * 11 + 1, none⟩ = some (.int .i64 r9.n) ∧ w'.cell? ⟨b9, q9 + k * 11 + 2, none⟩ = some (.int .i64 r9.lo) ∧ w'.cell? ⟨b9, q9 + k * 11 + 3, none⟩ = some (.int .i64 r9.hi) ∧ w'.cell? ⟨b9, q9 + k * 11 + 4, none⟩ = some (.int .i64 r9.tag) ∧ w'.cell? ⟨b9, q9 + k * 11 + 5, none⟩ = some (.int .i64 r9.as_) ∧ w'.cell? ⟨b9, q9 + k * 11 + 6, none⟩ = some (.bool r9.deny) ∧ w'.cell? ⟨b9, q9 + k * 11 + 7, none⟩ = some (.int .i64 r9.pref) ∧ w'.cell? ⟨b9, q9 + k * 11 + 8, none⟩ = some (.int .i64 r9.med) ∧ w'.cell? ⟨b9, q9 + k * 11 + 9, none⟩ = some (.int .i64 r9.add) ∧ w'.cell? ⟨b9, q9 + k * 11 + 10, none⟩ = some (.int .i64 r9.lead) ∧ w'.cell? ⟨w.heap.size, 0, none⟩ = some (.int .i64 x) ∧ w'.cell? ⟨w.heap.size, 1, none⟩ = some (.int .i64 m) ∧ w'.cell? ⟨w.heap.size + 1, 0, none⟩ = some (.slice a.P a.path.length a.pc) ∧ w'.cell? ⟨w.heap.size + 1, 1, none⟩ = some (.int .i64 a.pref) ∧ w'.cell? ⟨w.heap.size + 1, 2, none⟩ = some (.int .i64 a.med) ∧ w'.cell? ⟨w.heap.size + 1, 3, none⟩ = some (.int .i64 a.origin) ∧ w'.cell? ⟨w.heap.size + 1, 4, none⟩ = some (.slice a.T a.tags.length a.tc))
          (first | go_keep | exact K1.out | exact K2.out)
          (first
            | (go_at_call 56; refine (Hoa.out _ (by exact Wd.out)).mono ?_; rintro e w8 ⟨a8, rfl, hc8, hok8, _, hu8⟩; have U8 := hide (Wd.out.trans_new hu8); have K1 := hide (Hkt.out _ U8.out); have Ok8 := hide hok8; have C8 := hide hc8; clear hc8 hok8 hu8)
            | (go_at_call 41; refine (Hfi.out _ (by exact U8.out) a8 Ok8.out C8.out).mono ?_; rintro e w9 ⟨rfl, hu9⟩; have U9 := hide (U8.out.trans_new hu9); have K2 := hide (Hkt.out _ U9.out); clear hu9))
        go_wp2_with fail
        go_meet
        exact ⟨by first | rfl | simp, U9.out⟩
      case rest =>
        obtain ⟨rfl, hu⟩ := hcut
        have Nr := hide (Nr.out.trans_new hu)
        clear hu
        go_wp2_with fail
        exact ⟨⟨k + 1, by omega, by go_num, Nr.out⟩, by simp [intOf]; omega⟩
    · have i2 : ¬ (k : Int) < (n : Int) := by omega
      clear hlt
      obtain ⟨B, hB⟩ : ∃ B, apB l s x m a.con = B := ⟨_, rfl⟩
      have HB := hide hB
      clear hB
      have Hoa := hide (fun w' (nw : New wr w') => ownAttr_any a w' (Ha.out.new_ (N.out.trans_new nw)) (by omega) (by omega))
      unfold AttrR.cells at Hoa
      have Hap := hide (fun w' (nw : New wr w') (a' : AttrR) (hok : AttrOk w' a') (hc : a'.con = a.con) => (show Calls Tryd.prog 39 #[.slice A9 n c9, .int .i64 s, .agg #[.int .i64 x, .int .i64 m], .agg a'.cells] w' (fun e w1 => ∃ (a5 : AttrR) (v : Value), e = .returned (.tuple #[.agg a5.cells, .bool B, v]) ∧ a5.con = apX l s x m a.con ∧ AttrOk w1 a5 ∧ Fresh w' a5 ∧ ErrV w1 E v (apF l s x m a.con).1 (apF l s x m a.con).2 ∧ New w' w1) from by
        have h1 : a'.path = a.path := congrArg AtC.path hc
        have h2 : a'.tags = a.tags := congrArg AtC.tags hc
        have hN := H.out.new (N.out.trans_new nw)
        have := apply_any A9 n c9 l s x m a' E w' hN.s2 hN.s3 hN.s7 hN.s8 (Hr9.out.new_ nw) Hn.out (by omega) hok (by rw [h1]; omega) (by rw [h2]; omega)
        rw [hc, HB.out] at this
        exact this))
      unfold AttrR.cells at Hap
      have Wd := hide (show New wr wr.drew from (Upd.refl _ wr).drew)
      have Wa := hide (show New wr (wr.alloc (.cells #[.slice none 0 0, .int .i64 0, .int .i64 0, .int .i64 0, .slice none 0 0] TA)).drew from ((Upd.refl _ wr).alloc _).drew)
      have Ba := hide (show Blk (wr.alloc (.cells #[.slice none 0 0, .int .i64 0, .int .i64 0, .int .i64 0, .slice none 0 0] TA)).drew wr.heap.size TA #[.slice none 0 0, .int .i64 0, .int .i64 0, .int .i64 0, .slice none 0 0] from (Blk.new _ _ _).drew)
      have bq := HK.out
      have k0 := bq.cell 0
      have k1 := bq.cell 1
      have zK := bq.lt
      simp only [List.getElem?_toArray, List.getElem?_cons_zero, List.getElem?_cons_succ] at k0 k1
      clear bq
      have bq := HM.out
      have m0 := bq.cell 0
      have m1 := bq.cell 1
      have m2 := bq.cell 2
      have m3 := bq.cell 3
      have m4 := bq.cell 4
      have zM := bq.lt
      simp only [List.getElem?_toArray, List.getElem?_cons_zero, List.getElem?_cons_succ] at m0 m1 m2 m3 m4
      clear bq
      go_upto_region 13 with (fail)
      go_cut [13, 14, 15] (fun x13 x14 x15 wx => ∃ (X : Nat) (a5 : AttrR), x13 = .pointer (some ⟨X, 0, none⟩) ∧ x14 = .bool B ∧ Blk wx X TA a5.cells ∧ AttrOk wx a5 ∧ a5.con = apX l s x m a.con ∧ ErrV wx E x15 (apF l s x m a.con).1 (apF l s x m a.con).2 ∧ New wr wx)
      case first =>
        go_region_with (first
          | (go_at_call 56; refine (Hoa.out _ (by exact Wd.out)).mono ?_; rintro e w8 ⟨a8, rfl, hc8, hok8, _, hu8⟩; have U8 := hide (Wd.out.trans_new hu8); have Ok8 := hide hok8; have C8 := hide hc8; have F1 := hide (Nat.le_refl w8.heap.size); clear hc8 hok8 hu8; have g0 := HK.out.new_ U8.out; have kk0 := g0.cell 0; have kk1 := g0.cell 1; have zk8 := g0.lt; simp only [List.getElem?_toArray, List.getElem?_cons_zero, List.getElem?_cons_succ] at kk0 kk1; clear g0)
          | (go_at_call 56; refine (Hoa.out _ (by exact Wa.out)).mono ?_; rintro e w8 ⟨a8, rfl, hc8, hok8, _, hu8⟩; have U8 := hide (Wa.out.trans_new hu8); have Ok8 := hide hok8; have C8 := hide hc8; have B8 := hide (Ba.out.new_ hu8); clear hc8 hok8 hu8; have g0 := HK.out.new_ U8.out; have kk0 := g0.cell 0; have kk1 := g0.cell 1; have zk8 := g0.lt; simp only [List.getElem?_toArray, List.getElem?_cons_zero, List.getElem?_cons_succ] at kk0 kk1; clear g0)
          | (go_at_call 39; refine (Hap.out _ (by exact U8.out) a8 (by exact Ok8.out) (by exact C8.out)).mono ?_; rintro e w9 ⟨⟨P5, pc5, p5, f5, g5, o5, T5, tc5, t5⟩, v, rfl, hcon5, hok5, hfr5, hv, hu9⟩; have Ok5 := hide hok5; have Hc5 := hide hcon5; have Fr5 := hide hfr5; have Hv5 := hide hv; have U9 := hide (U8.out.trans_new hu9); have S9 := hide hu9; first | (have bX := B8.out.new_ hu9; have X9 := hide bX; have q0 := bX.cell 0; have q1 := bX.cell 1; have q2 := bX.cell 2; have q3 := bX.cell 3; have q4 := bX.cell 4; have t0 := bX.frozen 0; have t1 := bX.frozen 1; have t2 := bX.frozen 2; have t3 := bX.frozen 3; have t4 := bX.frozen 4; have zX := bX.lt; simp only [List.getElem?_toArray, List.getElem?_cons_zero, List.getElem?_cons_succ] at q0 q1 q2 q3 q4; clear bX hcon5 hok5 hfr5 hv hu9) | (have F2 := hide F1.out; clear hcon5 hok5 hfr5 hv hu9))
          | (go_at_call 39; refine (Hap.out _ (by exact (U8.out.alloc _)) a8 (by exact (Ok8.out.new_ ((Upd.refl _ w8).alloc _))) (by exact C8.out)).mono ?_; rintro e w9 ⟨⟨P5, pc5, p5, f5, g5, o5, T5, tc5, t5⟩, v, rfl, hcon5, hok5, hfr5, hv, hu9⟩; have Ok5 := hide hok5; have Hc5 := hide hcon5; have Fr5 := hide hfr5; have Hv5 := hide hv; have U9 := hide ((U8.out.alloc _).trans_new hu9); have bX := (Blk.new w8 TA #[.slice none 0 0, .int .i64 0, .int .i64 0, .int .i64 0, .slice none 0 0]).new_ hu9; have X8 := hide bX; have q0 := bX.cell 0; have q1 := bX.cell 1; have q2 := bX.cell 2; have q3 := bX.cell 3; have q4 := bX.cell 4; have t0 := bX.frozen 0; have t1 := bX.frozen 1; have t2 := bX.frozen 2; have t3 := bX.frozen 3; have t4 := bX.frozen 4; have zX := bX.lt; simp only [List.getElem?_toArray, List.getElem?_cons_zero, List.getElem?_cons_succ] at q0 q1 q2 q3 q4; clear bX hcon5 hok5 hfr5 hv hu9))
        all_goals
          go_wp2_with fail
          go_meet
          first
            | (have := X8.out
               have uX := set5_one w9 w8.heap.size (.slice P5 p5.length pc5) (.int .i64 f5) (.int .i64 g5) (.int .i64 o5) (.slice T5 t5.length tc5)
               exact ⟨w8.heap.size, ⟨P5, pc5, p5, f5, g5, o5, T5, tc5, t5⟩, rfl, rfl, set5 (y0 := .slice P5 p5.length pc5) (y1 := .int .i64 f5) (y2 := .int .i64 g5) (y3 := .int .i64 o5) (y4 := .slice T5 t5.length tc5) X8.out, Ok5.out.store Fr5.out uX (fun k e => by subst e; simp), Hc5.out, ErrV.setR X8.out Hv5.out, U9.out.trans uX (fun q hq hx => absurd hx (by show ¬ q = w8.heap.size; have := U8.out.size; omega))⟩)
            | (have := X9.out
               have uX := set5_one w9 wr.heap.size (.slice P5 p5.length pc5) (.int .i64 f5) (.int .i64 g5) (.int .i64 o5) (.slice T5 t5.length tc5)
               exact ⟨wr.heap.size, ⟨P5, pc5, p5, f5, g5, o5, T5, tc5, t5⟩, rfl, rfl, set5 (y0 := .slice P5 p5.length pc5) (y1 := .int .i64 f5) (y2 := .int .i64 g5) (y3 := .int .i64 o5) (y4 := .slice T5 t5.length tc5) X9.out, Ok5.out.store Fr5.out uX (fun k e => by subst e; exact B8.out.lt), Hc5.out, ErrV.setR X9.out Hv5.out, U9.out.trans uX (fun q hq hx => absurd hx (by show ¬ q = wr.heap.size; omega))⟩)
            | (have := F2.out
               have nA := (Upd.refl (fun _ => False) w9).alloc (.cells #[.slice P5 p5.length pc5, .int .i64 f5, .int .i64 g5, .int .i64 o5, .slice T5 t5.length tc5] TA)
               exact ⟨w9.heap.size, ⟨P5, pc5, p5, f5, g5, o5, T5, tc5, t5⟩, rfl, rfl, Blk.new w9 TA #[.slice P5 p5.length pc5, .int .i64 f5, .int .i64 g5, .int .i64 o5, .slice T5 t5.length tc5], Ok5.out.new_ nA, Hc5.out, Hv5.out.new nA, U9.out.trans_new nA⟩)
      case rest =>
        obtain ⟨X, ⟨P5, pc5, p5, f5, g5, o5, T5, tc5, t5⟩, rfl, rfl, hX6, hOk5, hc5, hv5, hu⟩ := hcut
        have HX := hide (show Blk wc X TA #[.slice P5 p5.length pc5, .int .i64 f5, .int .i64 g5, .int .i64 o5, .slice T5 t5.length tc5] from hX6)
        have Ok5 := hide hOk5
        have Hc5 := hide hc5
        have Hv5 := hide hv5
        clear hX6 hOk5 hc5 hv5 Wd Wa Ba Hap Hoa k0 k1 zK m0 m1 m2 m3 m4 zM
        have N := hide (N.out.trans_new hu)
        have HK := hide (HK.out.new_ hu)
        have HM := hide (HM.out.new_ hu)
        clear hu
        have Hao := applyOf_any A n c l s x m a wc (Hx.out.new_ N.out) Hn.out (by omega) (Ha.out.new_ N.out) (by omega) (by omega)
        rw [HB.out] at Hao
        unfold AttrR.cells at Hao
        have Hao := hide Hao
        have bq := HK.out
        have k0 := bq.cell 0
        have k1 := bq.cell 1
        have zK := bq.lt
        simp only [List.getElem?_toArray, List.getElem?_cons_zero, List.getElem?_cons_succ] at k0 k1
        clear bq
        have bq := HM.out
        have m0 := bq.cell 0
        have m1 := bq.cell 1
        have m2 := bq.cell 2
        have m3 := bq.cell 3
        have m4 := bq.cell 4
        have zM := bq.lt
        simp only [List.getElem?_toArray, List.getElem?_cons_zero, List.getElem?_cons_succ] at m0 m1 m2 m3 m4
        clear bq
        go_wp2_with fail
        refine Hao.out.mono ?_
        rintro e w9 ⟨⟨P6, pc6, p6, f6, g6, o6, T6, tc6, t6⟩, rfl, hc6, hok6, hu⟩
        clear k0 k1 zK m0 m1 m2 m3 m4 zM
        have Hc6 := hide hc6
        have Ok6 := hide hok6
        clear hc6 hok6
        unfold faultV
        dsimp only
        go_upto_region 15 with (fail)
        have nB := ((Upd.refl (fun _ => False) w9).alloc (.cells #[.slice P6 p6.length pc6, .int .i64 f6, .int .i64 g6, .int .i64 o6, .slice T6 t6.length tc6] TA)).alloc (.cells #[.int .i64 ((apF l s x m a.con).1 : Nat), .int .i64 (apF l s x m a.con).2] TRF)
        have HX6 := hide ((Blk.new w9 TA #[.slice P6 p6.length pc6, .int .i64 f6, .int .i64 g6, .int .i64 o6, .slice T6 t6.length tc6]).alloc (.cells #[.int .i64 ((apF l s x m a.con).1 : Nat), .int .i64 (apF l s x m a.con).2] TRF))
        have HF6 := hide (Blk.at_ (w9.alloc (.cells #[.slice P6 p6.length pc6, .int .i64 f6, .int .i64 g6, .int .i64 o6, .slice T6 t6.length tc6] TA)) TRF #[.int .i64 ((apF l s x m a.con).1 : Nat), .int .i64 (apF l s x m a.con).2] (w9.heap.size + 1) (by simp))
        have hu9 := hu.trans_new nB
        have Ok6 := hide (Ok6.out.new_ nB)
        generalize (w9.alloc (.cells #[.slice P6 p6.length pc6, .int .i64 f6, .int .i64 g6, .int .i64 o6, .slice T6 t6.length tc6] TA)).alloc (.cells #[.int .i64 ((apF l s x m a.con).1 : Nat), .int .i64 (apF l s x m a.con).2] TRF) = W9 at *
        generalize w9.heap.size = X6 at *
        have N := hide (N.out.trans_new hu9)
        have HX := hide (HX.out.new_ hu9)
        have Ok5 := hide (Ok5.out.new_ hu9)
        have Hv5 := hide (Hv5.out.new hu9)
        clear hu hu9 nB
        have HL := hide (apX_len (l := l) (s := s) (x := x) (m := m) (y := a.con) hp ht)
        have hl5 : p5.length ≤ 1000 ∧ t5.length ≤ 1000 := by
          have h := HL.out
          rw [← Hc5.out] at h
          exact ⟨Nat.le_trans h.1 (by omega), Nat.le_trans h.2 (by omega)⟩
        have hl6 : p6.length ≤ 1000 ∧ t6.length ≤ 1000 := by
          have h := HL.out
          rw [← Hc6.out] at h
          exact ⟨Nat.le_trans h.1 (by omega), Nat.le_trans h.2 (by omega)⟩
        have hsm := sameAttr_any ⟨P5, pc5, p5, f5, g5, o5, T5, tc5, t5⟩ ⟨P6, pc6, p6, f6, g6, o6, T6, tc6, t6⟩ W9 Ok5.out Ok6.out hl5.1 hl5.2 hl6.1 hl6.2
        rw [decide_eq_true (show AttrR.con ⟨P5, pc5, p5, f5, g5, o5, T5, tc5, t5⟩ = AttrR.con ⟨P6, pc6, p6, f6, g6, o6, T6, tc6, t6⟩ by rw [Hc5.out, Hc6.out])] at hsm
        unfold AttrR.cells at hsm
        dsimp only at hsm
        have Hsm := hide hsm
        clear hsm hl5 hl6
        have bq := HX.out
        have x10 := bq.cell 0
        have x11 := bq.cell 1
        have x12 := bq.cell 2
        have x13 := bq.cell 3
        have x14 := bq.cell 4
        have zX1 := bq.lt
        simp only [List.getElem?_toArray, List.getElem?_cons_zero, List.getElem?_cons_succ] at x10 x11 x12 x13 x14
        clear bq
        have bq := HX6.out
        have x20 := bq.cell 0
        have x21 := bq.cell 1
        have x22 := bq.cell 2
        have x23 := bq.cell 3
        have x24 := bq.cell 4
        have zX2 := bq.lt
        simp only [List.getElem?_toArray, List.getElem?_cons_zero, List.getElem?_cons_succ] at x20 x21 x22 x23 x24
        clear bq
        go_wp2_with fail
        refine Hsm.out.mono ?_
        rintro e w11 ⟨rfl, hu⟩
        have N := hide (N.out.trans_new hu)
        have HF6 := hide (HF6.out.new_ hu)
        have hfl := faulted2_same _ (apF l s x m a.con) w11 E (H.out.new N.out) (Hv5.out.new hu)
        unfold faultV at hfl
        have Hfl := hide hfl
        clear hfl hu x10 x11 x12 x13 x14 zX1 x20 x21 x22 x23 x24 zX2
        have bq := HF6.out
        have f0 := bq.cell 0
        have f1 := bq.cell 1
        have zf := bq.lt
        simp only [List.getElem?_toArray, List.getElem?_cons_zero, List.getElem?_cons_succ] at f0 f1
        clear bq
        go_wp2_with fail
        refine Hfl.out.mono ?_
        rintro e w12 ⟨rfl, hu⟩
        have N := hide (N.out.trans_new hu)
        clear hu
        go_wp2_with fail
        go_ret
        exact ⟨by first | rfl | exact ret_bool (by simp), N.out⟩
end Go.Proofs.YtkljanjapcpbdaaDoor
