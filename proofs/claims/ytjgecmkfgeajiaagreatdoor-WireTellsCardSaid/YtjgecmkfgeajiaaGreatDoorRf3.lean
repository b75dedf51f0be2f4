/- The reference's fault of what is told of a route. No condition but those that stand in each theorem. -/
import Derived.Test.YtjgecmkfgeajiaaGreatDoorRf0
import Derived.Test.YtjgecmkfgeajiaaGreatDoorAt2
import Derived.Deep.DeepCutAuto
import Derived.Test.YtjgecmkfgeajiaaGreatDoorWi3
import Derived.Test.YtjgecmkfgeajiaaGreatDoorEq
namespace Go.Proofs.YtjgecmkfgeajiaaGreatDoor
open Go.RowKit

theorem badAS_lo {x : Int} (h : x < 1) : badAS x = true := by unfold badAS inR; rw [decide_eq_false (by omega)]; rfl
theorem badAS_hi {x : Int} (h : 1000 < x) : badAS x = true := by unfold badAS inR; rw [decide_eq_false (by omega)]; rfl
theorem badAS_no {x : Int} (h : ¬ x < 1) (h2 : ¬ 1000 < x) : badAS x = false := by unfold badAS inR; rw [decide_eq_true (by omega)]; rfl
theorem inR_no {x a b : Int} (h : x < a ∨ b < x) : inR x a b = false := decide_eq_false (by omega)
theorem inR_yes {x a b : Int} (h : ¬ x < a) (h2 : ¬ b < x) : inR x a b = true := decide_eq_true (by omega)

set_option maxRecDepth 8000 in
set_option maxHeartbeats 4000000 in
theorem attrFault_long (a : AttrR) (w : World) (ha : AttrOk w a) (hl : a.path.length ≤ 100000) (hl2 : a.tags.length ≤ 100000) (hbig : 12 < a.path.length ∨ 8 < a.tags.length) :
    Calls Tryz.prog 43 #[.agg a.cells] w fun e w1 => e = .returned (faultV (attrC a)) ∧ New w w1 := by
  have He := hide (attrC_len hbig)
  have Ha := hide ha
  generalize hn : a.path.length = n at *
  generalize hm : a.tags.length = m at *
  have hcs : a.cells = #[.slice a.P n a.pc, .int .i64 a.pref, .int .i64 a.med, .int .i64 a.origin, .slice a.T m a.tc] := by unfold AttrR.cells; rw [hn, hm]
  rw [hcs]
  have Hn := hide hn
  have Hm := hide hm
  clear hcs ha hn hm
  have u := ((Upd.refl (fun _ => False) w).alloc (.cells #[.slice a.P n a.pc, .int .i64 a.pref, .int .i64 a.med, .int .i64 a.origin, .slice a.T m a.tc] TA)).alloc (.cells #[.int .i64 0, .int .i64 0] TRF)
  have b0 := (Blk.new w TA #[.slice a.P n a.pc, .int .i64 a.pref, .int .i64 a.med, .int .i64 a.origin, .slice a.T m a.tc]).alloc (.cells #[.int .i64 0, .int .i64 0] TRF)
  have b1 := Blk.at_ (w.alloc (.cells #[.slice a.P n a.pc, .int .i64 a.pref, .int .i64 a.med, .int .i64 a.origin, .slice a.T m a.tc] TA)) TRF #[.int .i64 0, .int .i64 0] (w.heap.size + 1) (by simp)
  have Hu := hide u
  have Hb0 := hide b0
  have Hb1 := hide b1
  have HA := hide (Ha.out.new_ u)
  clear u b0 b1
  by_cases h12 : 12 < n
  · have i1 : (12 : Int) < (n : Int) := by omega
    go_enter Tryz.func43, Tryz.ntmps43
    go_upto_region 1 with (fail)
    generalize ((w.alloc (.cells #[.slice a.P n a.pc, .int .i64 a.pref, .int .i64 a.med, .int .i64 a.origin, .slice a.T m a.tc] TA)).alloc (.cells #[.int .i64 0, .int .i64 0] TRF)) = W at *
    have c0 := Hb0.out.cell 0
    have c1 := Hb0.out.cell 1
    have c2 := Hb0.out.cell 2
    have c3 := Hb0.out.cell 3
    have c4 := Hb0.out.cell 4
    have z0 := Hb0.out.lt
    simp only [List.getElem?_toArray, List.getElem?_cons_zero, List.getElem?_cons_succ] at c0 c1 c2 c3 c4
    have Hf := hide (bareF_any 7 W)
    go_wp2_with fail
    refine Hf.out.mono ?_
    rintro e w2 ⟨rfl, hu2⟩
    unfold faultV
    have b2 := Hb1.out.new_ hu2
    have z2 := b2.lt
    have f0 := b2.frozen 0
    have f1 := b2.frozen 1
    have d0 := b2.cell 0
    have d1 := b2.cell 1
    simp only [List.getElem?_toArray, List.getElem?_cons_zero, List.getElem?_cons_succ] at d0 d1
    have H2 := hide b2
    clear b2
    go_wp2_with fail
    refine bodyPost_ret (fault_out Tryz.results43 rfl (fault_set H2.out)) rfl ⟨by rw [He.out]; rfl, new_set2 (Hu.out.trans_new hu2) (by omega)⟩

  · have i1 : ¬ (12 : Int) < (n : Int) := by omega
    have i2 : (8 : Int) < (m : Int) := by omega
    go_enter Tryz.func43, Tryz.ntmps43
    go_upto_region 1 with (fail)
    generalize ((w.alloc (.cells #[.slice a.P n a.pc, .int .i64 a.pref, .int .i64 a.med, .int .i64 a.origin, .slice a.T m a.tc] TA)).alloc (.cells #[.int .i64 0, .int .i64 0] TRF)) = W at *
    have c0 := Hb0.out.cell 0
    have c1 := Hb0.out.cell 1
    have c2 := Hb0.out.cell 2
    have c3 := Hb0.out.cell 3
    have c4 := Hb0.out.cell 4
    have z0 := Hb0.out.lt
    simp only [List.getElem?_toArray, List.getElem?_cons_zero, List.getElem?_cons_succ] at c0 c1 c2 c3 c4
    have Hf := hide (bareF_any 7 W)
    go_wp2_with fail
    refine Hf.out.mono ?_
    rintro e w2 ⟨rfl, hu2⟩
    unfold faultV
    have b2 := Hb1.out.new_ hu2
    have z2 := b2.lt
    have f0 := b2.frozen 0
    have f1 := b2.frozen 1
    have d0 := b2.cell 0
    have d1 := b2.cell 1
    simp only [List.getElem?_toArray, List.getElem?_cons_zero, List.getElem?_cons_succ] at d0 d1
    have H2 := hide b2
    clear b2
    go_wp2_with fail
    refine bodyPost_ret (fault_out Tryz.results43 rfl (fault_set H2.out)) rfl ⟨by rw [He.out]; rfl, new_set2 (Hu.out.trans_new hu2) (by omega)⟩


set_option maxRecDepth 8000 in
set_option maxHeartbeats 4000000 in
theorem attrFault_short (a : AttrR) (w : World) (ha : AttrOk w a) (hl : a.path.length ≤ 100000) (hl2 : a.tags.length ≤ 100000) (hbig : ¬ (12 < a.path.length ∨ 8 < a.tags.length)) :
    Calls Tryz.prog 43 #[.agg a.cells] w fun e w1 => e = .returned (faultV (attrC a)) ∧ New w w1 := by
  have Hlen0 := hide hbig
  have Ha := hide ha
  generalize hn : a.path.length = n at *
  generalize hm : a.tags.length = m at *
  have hcs : a.cells = #[.slice a.P n a.pc, .int .i64 a.pref, .int .i64 a.med, .int .i64 a.origin, .slice a.T m a.tc] := by unfold AttrR.cells; rw [hn, hm]
  rw [hcs]
  have Hn := hide hn
  have Hm := hide hm
  clear hcs ha hn hm
  have u := ((Upd.refl (fun _ => False) w).alloc (.cells #[.slice a.P n a.pc, .int .i64 a.pref, .int .i64 a.med, .int .i64 a.origin, .slice a.T m a.tc] TA)).alloc (.cells #[.int .i64 0, .int .i64 0] TRF)
  have b0 := (Blk.new w TA #[.slice a.P n a.pc, .int .i64 a.pref, .int .i64 a.med, .int .i64 a.origin, .slice a.T m a.tc]).alloc (.cells #[.int .i64 0, .int .i64 0] TRF)
  have b1 := Blk.at_ (w.alloc (.cells #[.slice a.P n a.pc, .int .i64 a.pref, .int .i64 a.med, .int .i64 a.origin, .slice a.T m a.tc] TA)) TRF #[.int .i64 0, .int .i64 0] (w.heap.size + 1) (by simp)
  have Hu := hide u
  have Hb0 := hide b0
  have Hb1 := hide b1
  have HA := hide (Ha.out.new_ u)
  clear u b0 b1
  have i1 : ¬ (12 : Int) < (n : Int) := by omega
  have i2 : ¬ (8 : Int) < (m : Int) := by omega
  have Hlen : Hid (¬ (12 < a.path.length ∨ 8 < a.tags.length)) := hide (by rw [Hn.out, Hm.out]; exact Hlen0.out)
  clear hbig
  go_enter Tryz.func43, Tryz.ntmps43
  go_upto_region 1 with (fail)
  generalize ((w.alloc (.cells #[.slice a.P n a.pc, .int .i64 a.pref, .int .i64 a.med, .int .i64 a.origin, .slice a.T m a.tc] TA)).alloc (.cells #[.int .i64 0, .int .i64 0] TRF)) = W at *
  have c0 := Hb0.out.cell 0
  have c1 := Hb0.out.cell 1
  have c2 := Hb0.out.cell 2
  have c3 := Hb0.out.cell 3
  have c4 := Hb0.out.cell 4
  have z0 := Hb0.out.lt
  simp only [List.getElem?_toArray, List.getElem?_cons_zero, List.getElem?_cons_succ] at c0 c1 c2 c3 c4

  go_wp2_with fail
  go_loopw [3] (fun i wr => ∃ j : Nat, j ≤ n ∧ i = .int .i64 j ∧ wr = W ∧ ∀ (i : Nat) x, i < j → a.path[i]? = some x → badAS x = false) (fun i _ => n - (intOf i).toNat)
  case atStart => exact ⟨0, by omega, rfl, rfl, fun i x h => absurd h (by omega)⟩
  case round =>
    obtain ⟨j, hj, rfl, rfl, hz⟩ := hrel
    have Hz := hide hz
    clear hz
    by_cases hlt : j < n
    · obtain ⟨b, o, x, hA, hb, hx, cx⟩ := HA.out.path.at_ (k := j) (by have := Hn.out; omega)
      rw [hA] at c0
      have Hx := hide hx
      have i3 : (j : Int) < (n : Int) := by omega
      clear hA hx
      by_cases x1 : x < 1
      · have He : Hid (attrC a = (2, (j : Int))) := hide (by
          have e := idxB_at badAS a.path j x Hx.out (badAS_lo x1) Hz.out
          rw [attrC_path Hlen.out (by rw [e]; omega), e])
        have b2 := Hb1.out
        have z2 := b2.lt
        have f0 := b2.frozen 0
        have f1 := b2.frozen 1
        have d0 := b2.cell 0
        have d1 := b2.cell 1
        simp only [List.getElem?_toArray, List.getElem?_cons_zero, List.getElem?_cons_succ] at d0 d1
        have H2 := hide b2
        clear b2
        go_wp2_with fail
        refine bodyPost_ret (fault_out Tryz.results43 rfl (fault_set H2.out)) rfl ⟨by rw [He.out]; rfl, new_set2 (Hu.out) (by omega)⟩

      · by_cases x2 : 1000 < x
        · have He : Hid (attrC a = (2, (j : Int))) := hide (by
            have e := idxB_at badAS a.path j x Hx.out (badAS_hi x2) Hz.out
            rw [attrC_path Hlen.out (by rw [e]; omega), e])
          have b2 := Hb1.out
          have z2 := b2.lt
          have f0 := b2.frozen 0
          have f1 := b2.frozen 1
          have d0 := b2.cell 0
          have d1 := b2.cell 1
          simp only [List.getElem?_toArray, List.getElem?_cons_zero, List.getElem?_cons_succ] at d0 d1
          have H2 := hide b2
          clear b2
          go_wp2_with fail
          refine bodyPost_ret (fault_out Tryz.results43 rfl (fault_set H2.out)) rfl ⟨by rw [He.out]; rfl, new_set2 (Hu.out) (by omega)⟩

        · have Hg := hide (badAS_no x1 x2)
          go_wp2_with fail
          refine ⟨⟨j + 1, by omega, by go_num, trivial, fun i y hi hy => ?_⟩, by simp [intOf]; omega⟩
          by_cases hij : i < j
          · exact Hz.out i y hij hy
          · obtain rfl : i = j := by omega
            rw [Hx.out] at hy; injection hy with hy; subst hy; exact Hg.out
    · have Hp : Hid (¬ 0 ≤ idxB badAS a.path) := hide (by rw [idxB_no badAS a.path fun i y hy => Hz.out i y (by have := (List.getElem?_eq_some_iff.1 hy).1; have := Hn.out; omega) hy]; omega)
      have i3 : ¬ (j : Int) < (n : Int) := by omega
      by_cases h : a.pref < 0
      · have He := hide (attrC_num Hlen.out Hp.out (.inl (inR_no (.inl h))))
        have Hf := hide (bareF_any 2 wr)
        go_wp2_with fail
        refine Hf.out.mono ?_
        rintro e w2 ⟨rfl, hu2⟩
        unfold faultV
        have b2 := Hb1.out.new_ hu2
        have z2 := b2.lt
        have f0 := b2.frozen 0
        have f1 := b2.frozen 1
        have d0 := b2.cell 0
        have d1 := b2.cell 1
        simp only [List.getElem?_toArray, List.getElem?_cons_zero, List.getElem?_cons_succ] at d0 d1
        have H2 := hide b2
        clear b2
        go_wp2_with fail
        refine bodyPost_ret (fault_out Tryz.results43 rfl (fault_set H2.out)) rfl ⟨by rw [He.out]; rfl, new_set2 (Hu.out.trans_new hu2) (by omega)⟩

      · have h0 : ¬ a.pref < 0 := h
        clear h
        by_cases h : 1000 < a.pref
        · have He := hide (attrC_num Hlen.out Hp.out (.inl (inR_no (.inr h))))
          have Hf := hide (bareF_any 2 wr)
          go_wp2_with fail
          refine Hf.out.mono ?_
          rintro e w2 ⟨rfl, hu2⟩
          unfold faultV
          have b2 := Hb1.out.new_ hu2
          have z2 := b2.lt
          have f0 := b2.frozen 0
          have f1 := b2.frozen 1
          have d0 := b2.cell 0
          have d1 := b2.cell 1
          simp only [List.getElem?_toArray, List.getElem?_cons_zero, List.getElem?_cons_succ] at d0 d1
          have H2 := hide b2
          clear b2
          go_wp2_with fail
          refine bodyPost_ret (fault_out Tryz.results43 rfl (fault_set H2.out)) rfl ⟨by rw [He.out]; rfl, new_set2 (Hu.out.trans_new hu2) (by omega)⟩

        · have h1 : ¬ 1000 < a.pref := h
          clear h
          by_cases h : a.med < 0
          · have He := hide (attrC_num Hlen.out Hp.out (.inr (.inl (inR_no (.inl h)))))
            have Hf := hide (bareF_any 2 wr)
            go_wp2_with fail
            refine Hf.out.mono ?_
            rintro e w2 ⟨rfl, hu2⟩
            unfold faultV
            have b2 := Hb1.out.new_ hu2
            have z2 := b2.lt
            have f0 := b2.frozen 0
            have f1 := b2.frozen 1
            have d0 := b2.cell 0
            have d1 := b2.cell 1
            simp only [List.getElem?_toArray, List.getElem?_cons_zero, List.getElem?_cons_succ] at d0 d1
            have H2 := hide b2
            clear b2
            go_wp2_with fail
            refine bodyPost_ret (fault_out Tryz.results43 rfl (fault_set H2.out)) rfl ⟨by rw [He.out]; rfl, new_set2 (Hu.out.trans_new hu2) (by omega)⟩

          · have h2 : ¬ a.med < 0 := h
            clear h
            by_cases h : 1000 < a.med
            · have He := hide (attrC_num Hlen.out Hp.out (.inr (.inl (inR_no (.inr h)))))
              have Hf := hide (bareF_any 2 wr)
              go_wp2_with fail
              refine Hf.out.mono ?_
              rintro e w2 ⟨rfl, hu2⟩
              unfold faultV
              have b2 := Hb1.out.new_ hu2
              have z2 := b2.lt
              have f0 := b2.frozen 0
              have f1 := b2.frozen 1
              have d0 := b2.cell 0
              have d1 := b2.cell 1
              simp only [List.getElem?_toArray, List.getElem?_cons_zero, List.getElem?_cons_succ] at d0 d1
              have H2 := hide b2
              clear b2
              go_wp2_with fail
              refine bodyPost_ret (fault_out Tryz.results43 rfl (fault_set H2.out)) rfl ⟨by rw [He.out]; rfl, new_set2 (Hu.out.trans_new hu2) (by omega)⟩

            · have h3 : ¬ 1000 < a.med := h
              clear h
              by_cases h : a.origin < 0
              · have He := hide (attrC_num Hlen.out Hp.out (.inr (.inr (inR_no (.inl h)))))
                have Hf := hide (bareF_any 2 wr)
                go_wp2_with fail
                refine Hf.out.mono ?_
                rintro e w2 ⟨rfl, hu2⟩
                unfold faultV
                have b2 := Hb1.out.new_ hu2
                have z2 := b2.lt
                have f0 := b2.frozen 0
                have f1 := b2.frozen 1
                have d0 := b2.cell 0
                have d1 := b2.cell 1
                simp only [List.getElem?_toArray, List.getElem?_cons_zero, List.getElem?_cons_succ] at d0 d1
                have H2 := hide b2
                clear b2
                go_wp2_with fail
                refine bodyPost_ret (fault_out Tryz.results43 rfl (fault_set H2.out)) rfl ⟨by rw [He.out]; rfl, new_set2 (Hu.out.trans_new hu2) (by omega)⟩

              · have h4 : ¬ a.origin < 0 := h
                clear h
                by_cases h : 2 < a.origin
                · have He := hide (attrC_num Hlen.out Hp.out (.inr (.inr (inR_no (.inr h)))))
                  have Hf := hide (bareF_any 2 wr)
                  go_wp2_with fail
                  refine Hf.out.mono ?_
                  rintro e w2 ⟨rfl, hu2⟩
                  unfold faultV
                  have b2 := Hb1.out.new_ hu2
                  have z2 := b2.lt
                  have f0 := b2.frozen 0
                  have f1 := b2.frozen 1
                  have d0 := b2.cell 0
                  have d1 := b2.cell 1
                  simp only [List.getElem?_toArray, List.getElem?_cons_zero, List.getElem?_cons_succ] at d0 d1
                  have H2 := hide b2
                  clear b2
                  go_wp2_with fail
                  refine bodyPost_ret (fault_out Tryz.results43 rfl (fault_set H2.out)) rfl ⟨by rw [He.out]; rfl, new_set2 (Hu.out.trans_new hu2) (by omega)⟩

                · have h5 : ¬ 2 < a.origin := h
                  clear h
                  have He := hide (attrC_tag Hlen.out Hp.out (inR_yes h0 h1) (inR_yes h2 h3) (inR_yes h4 h5))
                  go_wp2_with fail
                  obtain ⟨W, rfl⟩ : ∃ W : World, W = wr := ⟨_, rfl⟩
                  clear c0 c1 c2 c3 c4 z0 h0 h1 h2 h3 h4 h5
                  go_loopw [4] (fun i wr => ∃ j : Nat, j ≤ m ∧ i = .int .i64 j ∧ New W wr ∧ TagRel a.tags j) (fun i _ => m - (intOf i).toNat)
                  case atStart => exact ⟨0, by omega, rfl, Upd.refl _ _, TagRel.zero _⟩
                  case round =>
                    obtain ⟨j, hj, rfl, hnew, hz⟩ := hrel
                    have Hz := hide hz
                    clear hz
                    have c4 := (Hb0.out.new_ hnew).cell 4
                    have z0 := (Hb0.out.new_ hnew).lt
                    simp only [List.getElem?_toArray, List.getElem?_cons_zero, List.getElem?_cons_succ] at c4
                    by_cases hlt : j < m
                    · obtain ⟨b, o, t, hA, hb, hx, cx⟩ := (HA.out.tags.new_ hnew).at_ (k := j) (by have := Hm.out; omega)
                      have Hx := hide hx
                      have i4 : (j : Int) < (m : Int) := by omega
                      by_cases x1 : t < 1
                      · rw [hA] at c4
                        have He2 := hide (Hz.out.bad Hx.out (inR_no (.inl x1)))
                        have b2 := Hb1.out.new_ hnew
                        have z2 := b2.lt
                        have f0 := b2.frozen 0
                        have f1 := b2.frozen 1
                        have d0 := b2.cell 0
                        have d1 := b2.cell 1
                        simp only [List.getElem?_toArray, List.getElem?_cons_zero, List.getElem?_cons_succ] at d0 d1
                        have H2 := hide b2
                        clear b2
                        go_wp2_with fail
                        refine bodyPost_ret (fault_out Tryz.results43 rfl (fault_set H2.out)) rfl ⟨by rw [He.out, He2.out]; rfl, new_set2 (Hu.out.trans_new hnew) (by omega)⟩

                      · by_cases x2 : 9999 < t
                        · rw [hA] at c4
                          have He2 := hide (Hz.out.bad Hx.out (inR_no (.inr x2)))
                          have b2 := Hb1.out.new_ hnew
                          have z2 := b2.lt
                          have f0 := b2.frozen 0
                          have f1 := b2.frozen 1
                          have d0 := b2.cell 0
                          have d1 := b2.cell 1
                          simp only [List.getElem?_toArray, List.getElem?_cons_zero, List.getElem?_cons_succ] at d0 d1
                          have H2 := hide b2
                          clear b2
                          go_wp2_with fail
                          refine bodyPost_ret (fault_out Tryz.results43 rfl (fault_set H2.out)) rfl ⟨by rw [He.out, He2.out]; rfl, new_set2 (Hu.out.trans_new hnew) (by omega)⟩

                        · have Hg := hide (inR_yes x1 x2)
                          by_cases hj0 : 0 < j
                          · obtain ⟨b', o', q, hA', hb', hq, cq⟩ := (HA.out.tags.new_ hnew).at_ (k := j - 1) (by have := Hm.out; omega)
                            have e2 : (some (⟨b', o', none⟩ : Addr)) = some ⟨b, o, none⟩ := hA'.symm.trans hA
                            injection e2 with e2; injection e2 with e2 e3; subst e2; subst e3
                            rw [hA] at c4
                            have Hq := hide hq
                            obtain ⟨j', rfl⟩ : ∃ j', j = j' + 1 := ⟨j - 1, by omega⟩
                            have i5 : (0 : Int) < ((j' + 1 : Nat) : Int) := by omega
                            have cq' : wr.cell? ⟨b', o' + j', none⟩ = some (.int .i64 q) := cq
                            clear hA hA' hx hq cq
                            by_cases hle : t ≤ q
                            · have He2 := hide (Hz.out.low Hx.out Hg.out (by omega) Hq.out hle)
                              go_wp2_with fail
                              go_quiet (fail)
                              have b2 := Hb1.out.new_ hnew
                              have z2 := b2.lt
                              have f0 := b2.frozen 0
                              have f1 := b2.frozen 1
                              have d0 := b2.cell 0
                              have d1 := b2.cell 1
                              simp only [List.getElem?_toArray, List.getElem?_cons_zero, List.getElem?_cons_succ] at d0 d1
                              have H2 := hide b2
                              clear b2
                              go_wp2_with fail
                              refine bodyPost_ret (fault_out Tryz.results43 rfl ((fault_set H2.out).drewN _)) rfl ⟨by rw [He.out, He2.out]; rfl, (new_set2 (Hu.out.trans_new hnew) (by omega)).drewN _⟩

                            · have Hs := hide (Hz.out.step Hx.out Hg.out fun q' _ h' => by rw [Hq.out] at h'; injection h' with h'; omega)
                              go_wp2_with fail
                              go_quiet (fail)
                              go_wp2_with fail
                              exact ⟨⟨j' + 1 + 1, by omega, by go_num, hnew.drewN _, Hs.out⟩, by simp [intOf]; omega⟩
                          · rw [hA] at c4
                            have i5 : ¬ (0 : Int) < (j : Int) := by omega
                            have Hs := hide (Hz.out.step Hx.out Hg.out fun q' h' => absurd h' hj0)
                            go_wp2_with fail
                            exact ⟨⟨j + 1, by omega, by go_num, hnew, Hs.out⟩, by simp [intOf]; omega⟩
                    · have i4 : ¬ (j : Int) < (m : Int) := by omega
                      have He2 := hide (Hz.out.done (by have := Hm.out; omega))
                      have Hf := hide (fineF_any wr)
                      go_wp2_with fail
                      refine Hf.out.mono ?_
                      rintro e w2 ⟨rfl, hu2⟩
                      unfold faultV
                      have b2 := (Hb1.out.new_ hnew).new_ hu2
                      have z2 := b2.lt
                      have f0 := b2.frozen 0
                      have f1 := b2.frozen 1
                      have d0 := b2.cell 0
                      have d1 := b2.cell 1
                      simp only [List.getElem?_toArray, List.getElem?_cons_zero, List.getElem?_cons_succ] at d0 d1
                      have H2 := hide b2
                      clear b2
                      go_wp2_with fail
                      refine bodyPost_ret (fault_out Tryz.results43 rfl (fault_set H2.out)) rfl ⟨by rw [He.out, He2.out]; rfl, new_set2 ((Hu.out.trans_new hnew).trans_new hu2) (by omega)⟩

theorem attrFault_big (a : AttrR) (w : World) (ha : AttrOk w a) (hl : a.path.length ≤ 100000) (hl2 : a.tags.length ≤ 100000) :
    Calls Tryz.prog 43 #[.agg a.cells] w fun e w1 => e = .returned (faultV (attrC a)) ∧ New w w1 := by
  by_cases h : 12 < a.path.length ∨ 8 < a.tags.length
  · exact attrFault_long a w ha hl hl2 h
  · exact attrFault_short a w ha hl hl2 h
theorem attrFault_any (a : AttrR) (w : World) (ha : AttrOk w a) (hl : a.path.length ≤ 1000) (hl2 : a.tags.length ≤ 1000) :
    Calls Tryz.prog 43 #[.agg a.cells] w fun e w1 => e = .returned (faultV (attrC a)) ∧ New w w1 := attrFault_big a w ha (by omega) (by omega)
end Go.Proofs.YtjgecmkfgeajiaaGreatDoor

namespace Go.Proofs.YtjgecmkfgeajiaaGreatDoor
open Go.RowKit

def riseP (ps : List Pf) : Nat × Int := firstC (riseC (pfAt ps) (fun _ => 0)) ps.length 0
def riseAt (ps : List Pf) (i : Nat) : Nat := riseC (pfAt ps) (fun _ => 0) i
theorem riseP_at {ps : List Pf} {j c : Nat} (h1 : j < ps.length) (h2 : riseAt ps j = c) (h3 : c ≠ 0) (h4 : ∀ i, i < j → riseAt ps i = 0) : riseP ps = (c, (j : Int)) := by
  subst h2
  exact firstC_at _ ps.length 0 j (by omega) (by omega) h3 fun i _ hi => h4 i hi
theorem riseP_no {ps : List Pf} (h : ∀ i, i < ps.length → riseAt ps i = 0) : riseP ps = (0, -1) := firstC_no _ ps.length 0 fun i _ hi => h i (by omega)

set_option maxRecDepth 8000 in
set_option maxHeartbeats 4000000 in
theorem risingFault_any (A : Option Addr) (n c : Nat) (ps : List Pf) (w : World) (hx : Pfs w A ps) (hn : ps.length = n) (hl : n ≤ 100000) :
    Calls Tryz.prog 40 #[.slice A n c] w fun e w1 => e = .returned (faultV (riseP ps)) ∧ New w w1 := by
  have u := (Upd.refl (fun _ => False) w).alloc (.cells #[.int .i64 0, .int .i64 0] TRF)
  have Hx := hide (hx.new_ u)
  have Hb := hide (Blk.new w TRF #[.int .i64 0, .int .i64 0])
  have Hu := hide u
  have Hn := hide hn
  clear hx hn u
  go_enter Tryz.func40, Tryz.ntmps40
  go_wp2_with fail
  obtain ⟨W, hW⟩ : ∃ W, W = w.alloc (.cells #[.int .i64 0, .int .i64 0] TRF) := ⟨_, rfl⟩
  rw [← hW] at Hx Hb Hu ⊢
  clear hW
  go_loopw [3] (fun i wr => ∃ j : Nat, j ≤ n ∧ i = .int .i64 j ∧ New W wr ∧ ∀ i, i < j → riseAt ps i = 0) (fun i _ => n - (intOf i).toNat)
  case atStart => exact ⟨0, by omega, rfl, Upd.refl _ _, fun i h => absurd h (by omega)⟩
  case round =>
    obtain ⟨j, hj, rfl, hnew, hz⟩ := hrel
    have Hz := hide hz
    have Hnew := hide hnew
    clear hz
    by_cases hlt : j < n
    · obtain ⟨b, o, p, hA, hb, hp, c0, c1⟩ := (Hx.out.new_ hnew).at_ (k := j) (by have := Hn.out; omega)
      have hA' := hide hA
      subst hA
      have Hp := hide (pfAt_some hp)
      have i3 : (j : Int) < (n : Int) := by omega
      have Hc := hide (prefixError_any p.a p.n wr)
      have Hb2 := hide hb
      have C0 := hide c0
      have C1 := hide c1
      clear hp hnew
      go_wp2_with fail
      refine Hc.out.mono ?_
      rintro e w1 ⟨rfl, hu1⟩
      have N1 := hide (Hnew.out.trans_new hu1)
      have U1 := hide hu1
      clear hu1
      by_cases k1 : chk p.a p.n = 0
      · by_cases hj0 : 0 < j
        · obtain ⟨b', o', q, hA2, _, hq, d0, d1⟩ := (Hx.out.new_ N1.out).at_ (k := j - 1) (by have := Hn.out; omega)
          injection hA2 with hA2; injection hA2 with e2 e3; subst e2; subst e3
          have Hq := hide (pfAt_some hq)
          obtain ⟨j', rfl⟩ : ∃ j', j = j' + 1 := ⟨j - 1, by omega⟩
          have i5 : (0 : Int) < ((j' + 1 : Nat) : Int) := by omega
          have d0' : w1.cell? ⟨b, o + j' * 2, none⟩ = some (.int .i64 q.a) := d0
          have d1' : w1.cell? ⟨b, o + j' * 2 + 1, none⟩ = some (.int .i64 q.n) := d1
          have x0 := (U1.out.cell Hb2.out (fun x => x)).trans C0.out
          have x1 := (U1.out.cell Hb2.out (fun x => x)).trans C1.out
          have zb := Nat.lt_of_lt_of_le Hb2.out U1.out.size
          have Hchk := hide k1
          clear d0 d1 hq c0 c1 hb
          rw [k1]
          have hle := isLess_any q.a q.n p.a p.n
          have hr : riseAt ps (j' + 1) = if lessB q.a q.n p.a p.n = true then 0 else 8 := by
            unfold riseAt riseC
            rw [Hp.out, show j' + 1 - 1 = j' by omega, show pfAt ps j' = q from Hq.out, if_neg (by simpa using Hchk.out)]
            cases h : lessB q.a q.n p.a p.n
            · rw [if_pos ⟨by omega, rfl⟩]; rfl
            · rw [if_neg (by simp)]; rfl
          have Hr := hide hr
          clear hr k1
          cases hb : lessB q.a q.n p.a p.n with
          | true =>
            rw [hb] at hle
            have Hle := hide hle
            have Hr2 : Hid (riseAt ps (j' + 1) = 0) := hide (by rw [Hr.out, hb]; rfl)
            clear hle hb
            go_upto_region 6 with (fail)
            refine wp_region_new w1 (Upd.refl _ _) (by kernel_rfl) (by kernel_rfl) ?_
            repeat (go_big_quiet_step ((go_at_call 42; exact new_call (Hle.out _))))
            refine wpQuiet_nil ?_
            rintro _ ⟨nq, rfl⟩
            have n2 := N1.out.trans_new nq.h
            go_wp2_with fail
            refine ⟨⟨j' + 1 + 1, by omega, by go_num, n2, fun i hi => ?_⟩, by simp [intOf]; omega⟩
            by_cases hij : i < j' + 1
            · exact Hz.out i hij
            · obtain rfl : i = j' + 1 := by omega
              exact Hr2.out
          | false =>
            rw [hb] at hle
            have Hle := hide hle
            have He : Hid (riseP ps = (8, ((j' + 1 : Nat) : Int))) := hide (riseP_at (by have := Hn.out; omega) (by rw [Hr.out, hb]; rfl) (by omega) Hz.out)
            clear hle hb
            go_upto_region 6 with (fail)
            refine wp_region_new w1 (Upd.refl _ _) (by kernel_rfl) (by kernel_rfl) ?_
            repeat (go_big_quiet_step ((go_at_call 42; exact new_call (Hle.out _))))
            refine wpQuiet_nil ?_
            rintro _ ⟨nq, rfl⟩
            have n2 := N1.out.trans_new nq.h
            have b2 := Hb.out.new_ n2
            have z2 := b2.lt
            have f0 := b2.frozen 0
            have f1 := b2.frozen 1
            have d0 := b2.cell 0
            have d1 := b2.cell 1
            simp only [List.getElem?_toArray, List.getElem?_cons_zero, List.getElem?_cons_succ] at d0 d1
            have H2 := hide b2
            clear b2
            go_wp2_with fail
            refine bodyPost_ret (fault_out Tryz.results40 rfl (fault_set H2.out)) rfl ⟨by rw [He.out]; rfl, new_set2 (Hu.out.trans_new n2) (by omega)⟩

        · have Hr2 : Hid (riseAt ps j = 0) := hide (by
            unfold riseAt riseC
            rw [Hp.out, if_neg (by simpa using k1), if_neg (by omega)])
          have i5 : ¬ (0 : Int) < (j : Int) := by omega
          rw [k1]
          clear k1
          go_wp2_with fail
          refine ⟨⟨j + 1, by omega, by go_num, N1.out, fun i hi => ?_⟩, by simp [intOf]; omega⟩
          by_cases hij : i < j
          · exact Hz.out i hij
          · obtain rfl : i = j := by omega
            exact Hr2.out
      · have Hr2 : Hid (riseAt ps j = chk p.a p.n) := hide (by
          unfold riseAt riseC
          rw [Hp.out, if_pos (by simpa using k1)])
        have He : Hid (riseP ps = (chk p.a p.n, (j : Int))) := hide (riseP_at (by have := Hn.out; omega) Hr2.out k1 Hz.out)
        generalize chk p.a p.n = k at *
        have k2 : 0 < k := by omega
        have k3 : ((k : Int) == 0) = false := by simp; omega
        have k4 : (0 : Int) < (k : Int) := by omega
        clear k1
        have b2 := Hb.out.new_ N1.out
        have z2 := b2.lt
        have f0 := b2.frozen 0
        have f1 := b2.frozen 1
        have d0 := b2.cell 0
        have d1 := b2.cell 1
        simp only [List.getElem?_toArray, List.getElem?_cons_zero, List.getElem?_cons_succ] at d0 d1
        have H2 := hide b2
        clear b2
        go_wp2_with fail
        refine bodyPost_ret (fault_out Tryz.results40 rfl (fault_set H2.out)) rfl ⟨by rw [He.out]; rfl, new_set2 (Hu.out.trans_new N1.out) (by omega)⟩

    · have i3 : ¬ (j : Int) < (n : Int) := by omega
      have He := hide (riseP_no fun i hi => Hz.out i (by have := Hn.out; omega))
      have Hf := hide (fineF_any wr)
      go_wp2_with fail
      refine Hf.out.mono ?_
      rintro e w2 ⟨rfl, hu2⟩
      unfold faultV
      have b2 := (Hb.out.new_ Hnew.out).new_ hu2
      have z2 := b2.lt
      have f0 := b2.frozen 0
      have f1 := b2.frozen 1
      have d0 := b2.cell 0
      have d1 := b2.cell 1
      simp only [List.getElem?_toArray, List.getElem?_cons_zero, List.getElem?_cons_succ] at d0 d1
      have H2 := hide b2
      clear b2
      go_wp2_with fail
      refine bodyPost_ret (fault_out Tryz.results40 rfl (fault_set H2.out)) rfl ⟨by rw [He.out]; rfl, new_set2 ((Hu.out.trans_new Hnew.out).trans_new hu2) (by omega)⟩

end Go.Proofs.YtjgecmkfgeajiaaGreatDoor

namespace Go.Proofs.YtjgecmkfgeajiaaGreatDoor
open Go.RowKit

theorem no_kind {s : ByteArray} (h : kindN s = 0) : (s.toList == [111, 112, 101, 110]) = false ∧ (s.toList == [107, 101, 101, 112]) = false ∧ (s.toList == [110, 101, 119, 115]) = false ∧ (s.toList == [110, 111, 116, 101]) = false := by
  obtain ⟨h1, h2, h3, h4⟩ := kind_facts s
  unfold strEq at h1 h2 h3 h4
  rw [tO] at h1; rw [tK] at h2; rw [tW] at h3; rw [tN] at h4
  rw [h] at h1 h2 h3 h4
  exact ⟨h1, h2, h3, h4⟩
theorem checkC_0 {m : MsgR} (h : kindN m.kind = 0) : checkC m = (4, -1) := by unfold checkC; rw [if_pos h]
theorem checkC_bound {m : MsgR} (h : (kindN m.kind = 1 ∧ (m.n < 1 ∨ 1000 < m.n)) ∨ (kindN m.kind = 4 ∧ (m.n < 0 ∨ 1000 < m.n))) : checkC m = (2, -1) := by
  unfold checkC; rw [if_neg (by omega), if_pos h]
theorem checkC_num {m : MsgR} (h : kindN m.kind = 2 ∨ kindN m.kind = 3) (h2 : m.n ≠ 0) : checkC m = (3, -1) := by
  unfold checkC; rw [if_neg (by omega), if_neg (by omega), if_pos ⟨h, h2⟩]
theorem checkC_rows {m : MsgR} (h0 : kindN m.kind ≠ 0) (h : ¬ ((kindN m.kind = 1 ∧ (m.n < 1 ∨ 1000 < m.n)) ∨ (kindN m.kind = 4 ∧ (m.n < 0 ∨ 1000 < m.n)))) (h2 : ¬ ((kindN m.kind = 2 ∨ kindN m.kind = 3) ∧ m.n ≠ 0)) (h3 : kindN m.kind ≠ 3) (h4 : 0 < m.drops.length + m.adds.length) : checkC m = (3, -1) := by
  unfold checkC; rw [if_neg h0, if_neg h, if_neg h2, if_pos ⟨h3, h4⟩]
theorem checkC_fine {m : MsgR} (h0 : kindN m.kind ≠ 0) (h : ¬ ((kindN m.kind = 1 ∧ (m.n < 1 ∨ 1000 < m.n)) ∨ (kindN m.kind = 4 ∧ (m.n < 0 ∨ 1000 < m.n)))) (h2 : ¬ ((kindN m.kind = 2 ∨ kindN m.kind = 3) ∧ m.n ≠ 0)) (h3 : kindN m.kind ≠ 3) (h4 : ¬ 0 < m.drops.length + m.adds.length) : checkC m = (0, -1) := by
  unfold checkC; rw [if_neg h0, if_neg h, if_neg h2, if_neg (fun h => h4 h.2), if_neg h3]
theorem checkC_news {m : MsgR} (h : kindN m.kind = 3) (h2 : m.n = 0) : checkC m = newsC m := by
  unfold checkC; rw [if_neg (by omega), if_neg (by omega), if_neg (by omega), if_neg (by omega), if_pos h]

set_option maxRecDepth 8000 in
set_option maxHeartbeats 4000000 in
theorem msgFault_0 (m : MsgR) (w : World) (hm : MsgOk w m) (hs : Short m) (hl : m.drops.length ≤ 100000) (hl2 : m.adds.length ≤ 100000) (hK : kindN m.kind = 0) :
    Calls Tryz.prog 15 #[.agg m.cells] w fun e w1 => e = .returned (faultV (checkC m)) ∧ New w w1 := by
  have u := ((Upd.refl (fun _ => False) w).alloc (.cells m.cells TM)).alloc (.cells #[.int .i64 0, .int .i64 0] TRF)
  have b0 := (Blk.new w TM m.cells).alloc (.cells #[.int .i64 0, .int .i64 0] TRF)
  have b1 := Blk.at_ (w.alloc (.cells m.cells TM)) TRF #[.int .i64 0, .int .i64 0] (w.heap.size + 1) (by simp)
  have hm' := hm.new_ u
  generalize hn : m.drops.length = n at *
  generalize hk : m.adds.length = k at *
  have hcs : m.cells = #[.string m.kind, .int .i64 m.n, .slice m.D n m.dc, .slice m.A k m.ac] := by unfold MsgR.cells; rw [hn, hk]
  rw [hcs] at b0 b1 u hm' ⊢
  have Hb0 := hide b0
  have Hb1 := hide b1
  have Hu := hide u
  have Hm := hide hm'
  have Hs := hide hs
  have Hn := hide hn
  have Hk := hide hk
  clear hm' u b0 b1 hm hs hn hk hcs
  have He := hide (checkC_0 hK)
  obtain ⟨k1, k2, k3, k4⟩ := no_kind hK
  clear hK
  go_enter Tryz.func15, Tryz.ntmps15
  go_upto_region 1 with (fail)
  generalize ((w.alloc (.cells #[.string m.kind, .int .i64 m.n, .slice m.D n m.dc, .slice m.A k m.ac] TM)).alloc (.cells #[.int .i64 0, .int .i64 0] TRF)) = W at *
  have c0 := Hb0.out.cell 0
  have c1 := Hb0.out.cell 1
  have c2 := Hb0.out.cell 2
  have c3 := Hb0.out.cell 3
  have z0 := Hb0.out.lt
  simp only [List.getElem?_toArray, List.getElem?_cons_zero, List.getElem?_cons_succ] at c0 c1 c2 c3
  have Hf := hide (bareF_any 4 W)
  go_wp2_with fail
  refine Hf.out.mono ?_
  rintro e w2 ⟨rfl, hu2⟩
  unfold faultV
  have b2 := Hb1.out.new_ hu2
  have z2 := b2.lt
  have f0 := b2.frozen 0
  have f1 := b2.frozen 1
  have d0 := b2.cell 0
  have d1 := b2.cell 1
  simp only [List.getElem?_toArray, List.getElem?_cons_zero, List.getElem?_cons_succ] at d0 d1
  have H2 := hide b2
  clear b2
  go_wp2_with fail
  refine bodyPost_ret (fault_out Tryz.results15 rfl (fault_set H2.out)) rfl ⟨by rw [He.out]; rfl, new_set2 (Hu.out.trans_new hu2) (by omega)⟩

set_option maxRecDepth 8000 in
set_option maxHeartbeats 4000000 in
theorem msgFault_1 (m : MsgR) (w : World) (hm : MsgOk w m) (hs : Short m) (hl : m.drops.length ≤ 100000) (hl2 : m.adds.length ≤ 100000) (hK : kindN m.kind = 1) :
    Calls Tryz.prog 15 #[.agg m.cells] w fun e w1 => e = .returned (faultV (checkC m)) ∧ New w w1 := by
  have u := ((Upd.refl (fun _ => False) w).alloc (.cells m.cells TM)).alloc (.cells #[.int .i64 0, .int .i64 0] TRF)
  have b0 := (Blk.new w TM m.cells).alloc (.cells #[.int .i64 0, .int .i64 0] TRF)
  have b1 := Blk.at_ (w.alloc (.cells m.cells TM)) TRF #[.int .i64 0, .int .i64 0] (w.heap.size + 1) (by simp)
  have hm' := hm.new_ u
  generalize hn : m.drops.length = n at *
  generalize hk : m.adds.length = k at *
  have hcs : m.cells = #[.string m.kind, .int .i64 m.n, .slice m.D n m.dc, .slice m.A k m.ac] := by unfold MsgR.cells; rw [hn, hk]
  rw [hcs] at b0 b1 u hm' ⊢
  have Hb0 := hide b0
  have Hb1 := hide b1
  have Hu := hide u
  have Hm := hide hm'
  have Hs := hide hs
  have Hn := hide hn
  have Hk := hide hk
  clear hm' u b0 b1 hm hs hn hk hcs
  have HK := hide hK
  have hk := kind_text (s := m.kind).1 hK
  have H0 : Hid (kindN m.kind ≠ 0) := hide (by omega)
  have H3 : Hid (kindN m.kind ≠ 3) := hide (by omega)
  clear hK
  by_cases b1 : m.n < 1
  · have He := hide (checkC_bound (m := m) (.inl ⟨HK.out, .inl b1⟩))
    go_enter Tryz.func15, Tryz.ntmps15
    go_upto_region 1 with (fail)
    generalize ((w.alloc (.cells #[.string m.kind, .int .i64 m.n, .slice m.D n m.dc, .slice m.A k m.ac] TM)).alloc (.cells #[.int .i64 0, .int .i64 0] TRF)) = W at *
    have c0 := Hb0.out.cell 0
    have c1 := Hb0.out.cell 1
    have c2 := Hb0.out.cell 2
    have c3 := Hb0.out.cell 3
    have z0 := Hb0.out.lt
    simp only [List.getElem?_toArray, List.getElem?_cons_zero, List.getElem?_cons_succ] at c0 c1 c2 c3
    have Hf := hide (bareF_any 2 W)
    go_wp2_with fail
    refine Hf.out.mono ?_
    rintro e w2 ⟨rfl, hu2⟩
    unfold faultV
    have b2 := Hb1.out.new_ hu2
    have z2 := b2.lt
    have f0 := b2.frozen 0
    have f1 := b2.frozen 1
    have d0 := b2.cell 0
    have d1 := b2.cell 1
    simp only [List.getElem?_toArray, List.getElem?_cons_zero, List.getElem?_cons_succ] at d0 d1
    have H2 := hide b2
    clear b2
    go_wp2_with fail
    refine bodyPost_ret (fault_out Tryz.results15 rfl (fault_set H2.out)) rfl ⟨by rw [He.out]; rfl, new_set2 (Hu.out.trans_new hu2) (by omega)⟩

  · by_cases b2 : 1000 < m.n
    · have He := hide (checkC_bound (m := m) (.inl ⟨HK.out, .inr b2⟩))
      go_enter Tryz.func15, Tryz.ntmps15
      go_upto_region 1 with (fail)
      generalize ((w.alloc (.cells #[.string m.kind, .int .i64 m.n, .slice m.D n m.dc, .slice m.A k m.ac] TM)).alloc (.cells #[.int .i64 0, .int .i64 0] TRF)) = W at *
      have c0 := Hb0.out.cell 0
      have c1 := Hb0.out.cell 1
      have c2 := Hb0.out.cell 2
      have c3 := Hb0.out.cell 3
      have z0 := Hb0.out.lt
      simp only [List.getElem?_toArray, List.getElem?_cons_zero, List.getElem?_cons_succ] at c0 c1 c2 c3
      have Hf := hide (bareF_any 2 W)
      go_wp2_with fail
      refine Hf.out.mono ?_
      rintro e w2 ⟨rfl, hu2⟩
      unfold faultV
      have b2 := Hb1.out.new_ hu2
      have z2 := b2.lt
      have f0 := b2.frozen 0
      have f1 := b2.frozen 1
      have d0 := b2.cell 0
      have d1 := b2.cell 1
      simp only [List.getElem?_toArray, List.getElem?_cons_zero, List.getElem?_cons_succ] at d0 d1
      have H2 := hide b2
      clear b2
      go_wp2_with fail
      refine bodyPost_ret (fault_out Tryz.results15 rfl (fault_set H2.out)) rfl ⟨by rw [He.out]; rfl, new_set2 (Hu.out.trans_new hu2) (by omega)⟩

    · have Hbd : Hid (¬ ((kindN m.kind = 1 ∧ (m.n < 1 ∨ 1000 < m.n)) ∨ (kindN m.kind = 4 ∧ (m.n < 0 ∨ 1000 < m.n)))) := hide (by have := HK.out; omega)
      have Hnm : Hid (¬ ((kindN m.kind = 2 ∨ kindN m.kind = 3) ∧ m.n ≠ 0)) := hide (by have := HK.out; omega)
      go_enter Tryz.func15, Tryz.ntmps15
      go_upto_region 1 with (fail)
      generalize ((w.alloc (.cells #[.string m.kind, .int .i64 m.n, .slice m.D n m.dc, .slice m.A k m.ac] TM)).alloc (.cells #[.int .i64 0, .int .i64 0] TRF)) = W at *
      have c0 := Hb0.out.cell 0
      have c1 := Hb0.out.cell 1
      have c2 := Hb0.out.cell 2
      have c3 := Hb0.out.cell 3
      have z0 := Hb0.out.lt
      simp only [List.getElem?_toArray, List.getElem?_cons_zero, List.getElem?_cons_succ] at c0 c1 c2 c3
      by_cases r1 : 0 < n
      · have He := hide (checkC_rows (m := m) H0.out Hbd.out Hnm.out H3.out (by have := Hn.out; omega))
        have r2 : (0 : Int) < (n : Int) := by omega
        have Hf := hide (bareF_any 3 W)
        go_wp2_with fail
        refine Hf.out.mono ?_
        rintro e w2 ⟨rfl, hu2⟩
        unfold faultV
        have b2 := Hb1.out.new_ hu2
        have z2 := b2.lt
        have f0 := b2.frozen 0
        have f1 := b2.frozen 1
        have d0 := b2.cell 0
        have d1 := b2.cell 1
        simp only [List.getElem?_toArray, List.getElem?_cons_zero, List.getElem?_cons_succ] at d0 d1
        have H2 := hide b2
        clear b2
        go_wp2_with fail
        refine bodyPost_ret (fault_out Tryz.results15 rfl (fault_set H2.out)) rfl ⟨by rw [He.out]; rfl, new_set2 (Hu.out.trans_new hu2) (by omega)⟩

      · by_cases r2 : 0 < k
        · have He := hide (checkC_rows (m := m) H0.out Hbd.out Hnm.out H3.out (by have := Hk.out; omega))
          have r3 : (0 : Int) < (k : Int) := by omega
          have Hf := hide (bareF_any 3 W)
          go_wp2_with fail
          refine Hf.out.mono ?_
          rintro e w2 ⟨rfl, hu2⟩
          unfold faultV
          have b2 := Hb1.out.new_ hu2
          have z2 := b2.lt
          have f0 := b2.frozen 0
          have f1 := b2.frozen 1
          have d0 := b2.cell 0
          have d1 := b2.cell 1
          simp only [List.getElem?_toArray, List.getElem?_cons_zero, List.getElem?_cons_succ] at d0 d1
          have H2 := hide b2
          clear b2
          go_wp2_with fail
          refine bodyPost_ret (fault_out Tryz.results15 rfl (fault_set H2.out)) rfl ⟨by rw [He.out]; rfl, new_set2 (Hu.out.trans_new hu2) (by omega)⟩

        · have He := hide (checkC_fine (m := m) H0.out Hbd.out Hnm.out H3.out (by have := Hk.out; have := Hn.out; omega))
          have r4 : n = 0 := by omega
          have r5 : k = 0 := by omega
          subst r4; subst r5
          have Hf := hide (fineF_any W)
          go_wp2_with fail
          refine Hf.out.mono ?_
          rintro e w2 ⟨rfl, hu2⟩
          unfold faultV
          have b2 := Hb1.out.new_ hu2
          have z2 := b2.lt
          have f0 := b2.frozen 0
          have f1 := b2.frozen 1
          have d0 := b2.cell 0
          have d1 := b2.cell 1
          simp only [List.getElem?_toArray, List.getElem?_cons_zero, List.getElem?_cons_succ] at d0 d1
          have H2 := hide b2
          clear b2
          go_wp2_with fail
          refine bodyPost_ret (fault_out Tryz.results15 rfl (fault_set H2.out)) rfl ⟨by rw [He.out]; rfl, new_set2 (Hu.out.trans_new hu2) (by omega)⟩

set_option maxRecDepth 8000 in
set_option maxHeartbeats 4000000 in
theorem msgFault_4 (m : MsgR) (w : World) (hm : MsgOk w m) (hs : Short m) (hl : m.drops.length ≤ 100000) (hl2 : m.adds.length ≤ 100000) (hK : kindN m.kind = 4) :
    Calls Tryz.prog 15 #[.agg m.cells] w fun e w1 => e = .returned (faultV (checkC m)) ∧ New w w1 := by
  have u := ((Upd.refl (fun _ => False) w).alloc (.cells m.cells TM)).alloc (.cells #[.int .i64 0, .int .i64 0] TRF)
  have b0 := (Blk.new w TM m.cells).alloc (.cells #[.int .i64 0, .int .i64 0] TRF)
  have b1 := Blk.at_ (w.alloc (.cells m.cells TM)) TRF #[.int .i64 0, .int .i64 0] (w.heap.size + 1) (by simp)
  have hm' := hm.new_ u
  generalize hn : m.drops.length = n at *
  generalize hk : m.adds.length = k at *
  have hcs : m.cells = #[.string m.kind, .int .i64 m.n, .slice m.D n m.dc, .slice m.A k m.ac] := by unfold MsgR.cells; rw [hn, hk]
  rw [hcs] at b0 b1 u hm' ⊢
  have Hb0 := hide b0
  have Hb1 := hide b1
  have Hu := hide u
  have Hm := hide hm'
  have Hs := hide hs
  have Hn := hide hn
  have Hk := hide hk
  clear hm' u b0 b1 hm hs hn hk hcs
  have HK := hide hK
  have hk := kind_text (s := m.kind).2.2.2 hK
  have H0 : Hid (kindN m.kind ≠ 0) := hide (by omega)
  have H3 : Hid (kindN m.kind ≠ 3) := hide (by omega)
  clear hK
  by_cases b1 : m.n < 0
  · have He := hide (checkC_bound (m := m) (.inr ⟨HK.out, .inl b1⟩))
    go_enter Tryz.func15, Tryz.ntmps15
    go_upto_region 1 with (fail)
    generalize ((w.alloc (.cells #[.string m.kind, .int .i64 m.n, .slice m.D n m.dc, .slice m.A k m.ac] TM)).alloc (.cells #[.int .i64 0, .int .i64 0] TRF)) = W at *
    have c0 := Hb0.out.cell 0
    have c1 := Hb0.out.cell 1
    have c2 := Hb0.out.cell 2
    have c3 := Hb0.out.cell 3
    have z0 := Hb0.out.lt
    simp only [List.getElem?_toArray, List.getElem?_cons_zero, List.getElem?_cons_succ] at c0 c1 c2 c3
    have Hf := hide (bareF_any 2 W)
    go_wp2_with fail
    refine Hf.out.mono ?_
    rintro e w2 ⟨rfl, hu2⟩
    unfold faultV
    have b2 := Hb1.out.new_ hu2
    have z2 := b2.lt
    have f0 := b2.frozen 0
    have f1 := b2.frozen 1
    have d0 := b2.cell 0
    have d1 := b2.cell 1
    simp only [List.getElem?_toArray, List.getElem?_cons_zero, List.getElem?_cons_succ] at d0 d1
    have H2 := hide b2
    clear b2
    go_wp2_with fail
    refine bodyPost_ret (fault_out Tryz.results15 rfl (fault_set H2.out)) rfl ⟨by rw [He.out]; rfl, new_set2 (Hu.out.trans_new hu2) (by omega)⟩

  · by_cases b2 : 1000 < m.n
    · have He := hide (checkC_bound (m := m) (.inr ⟨HK.out, .inr b2⟩))
      go_enter Tryz.func15, Tryz.ntmps15
      go_upto_region 1 with (fail)
      generalize ((w.alloc (.cells #[.string m.kind, .int .i64 m.n, .slice m.D n m.dc, .slice m.A k m.ac] TM)).alloc (.cells #[.int .i64 0, .int .i64 0] TRF)) = W at *
      have c0 := Hb0.out.cell 0
      have c1 := Hb0.out.cell 1
      have c2 := Hb0.out.cell 2
      have c3 := Hb0.out.cell 3
      have z0 := Hb0.out.lt
      simp only [List.getElem?_toArray, List.getElem?_cons_zero, List.getElem?_cons_succ] at c0 c1 c2 c3
      have Hf := hide (bareF_any 2 W)
      go_wp2_with fail
      refine Hf.out.mono ?_
      rintro e w2 ⟨rfl, hu2⟩
      unfold faultV
      have b2 := Hb1.out.new_ hu2
      have z2 := b2.lt
      have f0 := b2.frozen 0
      have f1 := b2.frozen 1
      have d0 := b2.cell 0
      have d1 := b2.cell 1
      simp only [List.getElem?_toArray, List.getElem?_cons_zero, List.getElem?_cons_succ] at d0 d1
      have H2 := hide b2
      clear b2
      go_wp2_with fail
      refine bodyPost_ret (fault_out Tryz.results15 rfl (fault_set H2.out)) rfl ⟨by rw [He.out]; rfl, new_set2 (Hu.out.trans_new hu2) (by omega)⟩

    · have Hbd : Hid (¬ ((kindN m.kind = 1 ∧ (m.n < 1 ∨ 1000 < m.n)) ∨ (kindN m.kind = 4 ∧ (m.n < 0 ∨ 1000 < m.n)))) := hide (by have := HK.out; omega)
      have Hnm : Hid (¬ ((kindN m.kind = 2 ∨ kindN m.kind = 3) ∧ m.n ≠ 0)) := hide (by have := HK.out; omega)
      go_enter Tryz.func15, Tryz.ntmps15
      go_upto_region 1 with (fail)
      generalize ((w.alloc (.cells #[.string m.kind, .int .i64 m.n, .slice m.D n m.dc, .slice m.A k m.ac] TM)).alloc (.cells #[.int .i64 0, .int .i64 0] TRF)) = W at *
      have c0 := Hb0.out.cell 0
      have c1 := Hb0.out.cell 1
      have c2 := Hb0.out.cell 2
      have c3 := Hb0.out.cell 3
      have z0 := Hb0.out.lt
      simp only [List.getElem?_toArray, List.getElem?_cons_zero, List.getElem?_cons_succ] at c0 c1 c2 c3
      by_cases r1 : 0 < n
      · have He := hide (checkC_rows (m := m) H0.out Hbd.out Hnm.out H3.out (by have := Hn.out; omega))
        have r2 : (0 : Int) < (n : Int) := by omega
        have Hf := hide (bareF_any 3 W)
        go_wp2_with fail
        refine Hf.out.mono ?_
        rintro e w2 ⟨rfl, hu2⟩
        unfold faultV
        have b2 := Hb1.out.new_ hu2
        have z2 := b2.lt
        have f0 := b2.frozen 0
        have f1 := b2.frozen 1
        have d0 := b2.cell 0
        have d1 := b2.cell 1
        simp only [List.getElem?_toArray, List.getElem?_cons_zero, List.getElem?_cons_succ] at d0 d1
        have H2 := hide b2
        clear b2
        go_wp2_with fail
        refine bodyPost_ret (fault_out Tryz.results15 rfl (fault_set H2.out)) rfl ⟨by rw [He.out]; rfl, new_set2 (Hu.out.trans_new hu2) (by omega)⟩

      · by_cases r2 : 0 < k
        · have He := hide (checkC_rows (m := m) H0.out Hbd.out Hnm.out H3.out (by have := Hk.out; omega))
          have r3 : (0 : Int) < (k : Int) := by omega
          have Hf := hide (bareF_any 3 W)
          go_wp2_with fail
          refine Hf.out.mono ?_
          rintro e w2 ⟨rfl, hu2⟩
          unfold faultV
          have b2 := Hb1.out.new_ hu2
          have z2 := b2.lt
          have f0 := b2.frozen 0
          have f1 := b2.frozen 1
          have d0 := b2.cell 0
          have d1 := b2.cell 1
          simp only [List.getElem?_toArray, List.getElem?_cons_zero, List.getElem?_cons_succ] at d0 d1
          have H2 := hide b2
          clear b2
          go_wp2_with fail
          refine bodyPost_ret (fault_out Tryz.results15 rfl (fault_set H2.out)) rfl ⟨by rw [He.out]; rfl, new_set2 (Hu.out.trans_new hu2) (by omega)⟩

        · have He := hide (checkC_fine (m := m) H0.out Hbd.out Hnm.out H3.out (by have := Hk.out; have := Hn.out; omega))
          have r4 : n = 0 := by omega
          have r5 : k = 0 := by omega
          subst r4; subst r5
          have Hf := hide (fineF_any W)
          go_wp2_with fail
          refine Hf.out.mono ?_
          rintro e w2 ⟨rfl, hu2⟩
          unfold faultV
          have b2 := Hb1.out.new_ hu2
          have z2 := b2.lt
          have f0 := b2.frozen 0
          have f1 := b2.frozen 1
          have d0 := b2.cell 0
          have d1 := b2.cell 1
          simp only [List.getElem?_toArray, List.getElem?_cons_zero, List.getElem?_cons_succ] at d0 d1
          have H2 := hide b2
          clear b2
          go_wp2_with fail
          refine bodyPost_ret (fault_out Tryz.results15 rfl (fault_set H2.out)) rfl ⟨by rw [He.out]; rfl, new_set2 (Hu.out.trans_new hu2) (by omega)⟩

set_option maxRecDepth 8000 in
set_option maxHeartbeats 4000000 in
theorem msgFault_2 (m : MsgR) (w : World) (hm : MsgOk w m) (hs : Short m) (hl : m.drops.length ≤ 100000) (hl2 : m.adds.length ≤ 100000) (hK : kindN m.kind = 2) :
    Calls Tryz.prog 15 #[.agg m.cells] w fun e w1 => e = .returned (faultV (checkC m)) ∧ New w w1 := by
  have u := ((Upd.refl (fun _ => False) w).alloc (.cells m.cells TM)).alloc (.cells #[.int .i64 0, .int .i64 0] TRF)
  have b0 := (Blk.new w TM m.cells).alloc (.cells #[.int .i64 0, .int .i64 0] TRF)
  have b1 := Blk.at_ (w.alloc (.cells m.cells TM)) TRF #[.int .i64 0, .int .i64 0] (w.heap.size + 1) (by simp)
  have hm' := hm.new_ u
  generalize hn : m.drops.length = n at *
  generalize hk : m.adds.length = k at *
  have hcs : m.cells = #[.string m.kind, .int .i64 m.n, .slice m.D n m.dc, .slice m.A k m.ac] := by unfold MsgR.cells; rw [hn, hk]
  rw [hcs] at b0 b1 u hm' ⊢
  have Hb0 := hide b0
  have Hb1 := hide b1
  have Hu := hide u
  have Hm := hide hm'
  have Hs := hide hs
  have Hn := hide hn
  have Hk := hide hk
  clear hm' u b0 b1 hm hs hn hk hcs
  have HK := hide hK
  have hk := kind_text (s := m.kind).2.1 hK
  have H0 : Hid (kindN m.kind ≠ 0) := hide (by omega)
  have H3 : Hid (kindN m.kind ≠ 3) := hide (by omega)
  clear hK
  by_cases b1 : m.n = 0
  · have Hbd : Hid (¬ ((kindN m.kind = 1 ∧ (m.n < 1 ∨ 1000 < m.n)) ∨ (kindN m.kind = 4 ∧ (m.n < 0 ∨ 1000 < m.n)))) := hide (by have := HK.out; omega)
    have Hnm : Hid (¬ ((kindN m.kind = 2 ∨ kindN m.kind = 3) ∧ m.n ≠ 0)) := hide (by have := HK.out; omega)
    have b2 : (m.n != 0) = false := by simp [b1]
    clear b1
    go_enter Tryz.func15, Tryz.ntmps15
    go_upto_region 1 with (fail)
    generalize ((w.alloc (.cells #[.string m.kind, .int .i64 m.n, .slice m.D n m.dc, .slice m.A k m.ac] TM)).alloc (.cells #[.int .i64 0, .int .i64 0] TRF)) = W at *
    have c0 := Hb0.out.cell 0
    have c1 := Hb0.out.cell 1
    have c2 := Hb0.out.cell 2
    have c3 := Hb0.out.cell 3
    have z0 := Hb0.out.lt
    simp only [List.getElem?_toArray, List.getElem?_cons_zero, List.getElem?_cons_succ] at c0 c1 c2 c3
    by_cases r1 : 0 < n
    · have He := hide (checkC_rows (m := m) H0.out Hbd.out Hnm.out H3.out (by have := Hn.out; omega))
      have r2 : (0 : Int) < (n : Int) := by omega
      have Hf := hide (bareF_any 3 W)
      go_wp2_with fail
      refine Hf.out.mono ?_
      rintro e w2 ⟨rfl, hu2⟩
      unfold faultV
      have b2 := Hb1.out.new_ hu2
      have z2 := b2.lt
      have f0 := b2.frozen 0
      have f1 := b2.frozen 1
      have d0 := b2.cell 0
      have d1 := b2.cell 1
      simp only [List.getElem?_toArray, List.getElem?_cons_zero, List.getElem?_cons_succ] at d0 d1
      have H2 := hide b2
      clear b2
      go_wp2_with fail
      refine bodyPost_ret (fault_out Tryz.results15 rfl (fault_set H2.out)) rfl ⟨by rw [He.out]; rfl, new_set2 (Hu.out.trans_new hu2) (by omega)⟩

    · by_cases r2 : 0 < k
      · have He := hide (checkC_rows (m := m) H0.out Hbd.out Hnm.out H3.out (by have := Hk.out; omega))
        have r3 : (0 : Int) < (k : Int) := by omega
        have Hf := hide (bareF_any 3 W)
        go_wp2_with fail
        refine Hf.out.mono ?_
        rintro e w2 ⟨rfl, hu2⟩
        unfold faultV
        have b2 := Hb1.out.new_ hu2
        have z2 := b2.lt
        have f0 := b2.frozen 0
        have f1 := b2.frozen 1
        have d0 := b2.cell 0
        have d1 := b2.cell 1
        simp only [List.getElem?_toArray, List.getElem?_cons_zero, List.getElem?_cons_succ] at d0 d1
        have H2 := hide b2
        clear b2
        go_wp2_with fail
        refine bodyPost_ret (fault_out Tryz.results15 rfl (fault_set H2.out)) rfl ⟨by rw [He.out]; rfl, new_set2 (Hu.out.trans_new hu2) (by omega)⟩

      · have He := hide (checkC_fine (m := m) H0.out Hbd.out Hnm.out H3.out (by have := Hk.out; have := Hn.out; omega))
        have r4 : n = 0 := by omega
        have r5 : k = 0 := by omega
        subst r4; subst r5
        have Hf := hide (fineF_any W)
        go_wp2_with fail
        refine Hf.out.mono ?_
        rintro e w2 ⟨rfl, hu2⟩
        unfold faultV
        have b2 := Hb1.out.new_ hu2
        have z2 := b2.lt
        have f0 := b2.frozen 0
        have f1 := b2.frozen 1
        have d0 := b2.cell 0
        have d1 := b2.cell 1
        simp only [List.getElem?_toArray, List.getElem?_cons_zero, List.getElem?_cons_succ] at d0 d1
        have H2 := hide b2
        clear b2
        go_wp2_with fail
        refine bodyPost_ret (fault_out Tryz.results15 rfl (fault_set H2.out)) rfl ⟨by rw [He.out]; rfl, new_set2 (Hu.out.trans_new hu2) (by omega)⟩

  · have He := hide (checkC_num (m := m) (.inl HK.out) b1)
    have b2 : (m.n != 0) = true := by simp [b1]
    go_enter Tryz.func15, Tryz.ntmps15
    go_upto_region 1 with (fail)
    generalize ((w.alloc (.cells #[.string m.kind, .int .i64 m.n, .slice m.D n m.dc, .slice m.A k m.ac] TM)).alloc (.cells #[.int .i64 0, .int .i64 0] TRF)) = W at *
    have c0 := Hb0.out.cell 0
    have c1 := Hb0.out.cell 1
    have c2 := Hb0.out.cell 2
    have c3 := Hb0.out.cell 3
    have z0 := Hb0.out.lt
    simp only [List.getElem?_toArray, List.getElem?_cons_zero, List.getElem?_cons_succ] at c0 c1 c2 c3
    have Hf := hide (bareF_any 3 W)
    go_wp2_with fail
    refine Hf.out.mono ?_
    rintro e w2 ⟨rfl, hu2⟩
    unfold faultV
    have b2 := Hb1.out.new_ hu2
    have z2 := b2.lt
    have f0 := b2.frozen 0
    have f1 := b2.frozen 1
    have d0 := b2.cell 0
    have d1 := b2.cell 1
    simp only [List.getElem?_toArray, List.getElem?_cons_zero, List.getElem?_cons_succ] at d0 d1
    have H2 := hide b2
    clear b2
    go_wp2_with fail
    refine bodyPost_ret (fault_out Tryz.results15 rfl (fault_set H2.out)) rfl ⟨by rw [He.out]; rfl, new_set2 (Hu.out.trans_new hu2) (by omega)⟩

set_option maxRecDepth 8000 in
set_option maxHeartbeats 4000000 in
theorem msgFault_3n (m : MsgR) (w : World) (hm : MsgOk w m) (hs : Short m) (hl : m.drops.length ≤ 100000) (hl2 : m.adds.length ≤ 100000) (hK : kindN m.kind = 3) (b1 : ¬ m.n = 0) :
    Calls Tryz.prog 15 #[.agg m.cells] w fun e w1 => e = .returned (faultV (checkC m)) ∧ New w w1 := by
  have u := ((Upd.refl (fun _ => False) w).alloc (.cells m.cells TM)).alloc (.cells #[.int .i64 0, .int .i64 0] TRF)
  have b0 := (Blk.new w TM m.cells).alloc (.cells #[.int .i64 0, .int .i64 0] TRF)
  have b1 := Blk.at_ (w.alloc (.cells m.cells TM)) TRF #[.int .i64 0, .int .i64 0] (w.heap.size + 1) (by simp)
  have hm' := hm.new_ u
  generalize hn : m.drops.length = n at *
  generalize hk : m.adds.length = k at *
  have hcs : m.cells = #[.string m.kind, .int .i64 m.n, .slice m.D n m.dc, .slice m.A k m.ac] := by unfold MsgR.cells; rw [hn, hk]
  rw [hcs] at b0 b1 u hm' ⊢
  have Hb0 := hide b0
  have Hb1 := hide b1
  have Hu := hide u
  have Hm := hide hm'
  have Hs := hide hs
  have Hn := hide hn
  have Hk := hide hk
  clear hm' u b0 b1 hm hs hn hk hcs
  have He := hide (checkC_num (m := m) (.inr hK) b1)
  have hk := kind_text (s := m.kind).2.2.1 hK
  have b2 : (m.n != 0) = true := by simp [b1]
  clear hK
  go_enter Tryz.func15, Tryz.ntmps15
  go_upto_region 1 with (fail)
  generalize ((w.alloc (.cells #[.string m.kind, .int .i64 m.n, .slice m.D n m.dc, .slice m.A k m.ac] TM)).alloc (.cells #[.int .i64 0, .int .i64 0] TRF)) = W at *
  have c0 := Hb0.out.cell 0
  have c1 := Hb0.out.cell 1
  have c2 := Hb0.out.cell 2
  have c3 := Hb0.out.cell 3
  have z0 := Hb0.out.lt
  simp only [List.getElem?_toArray, List.getElem?_cons_zero, List.getElem?_cons_succ] at c0 c1 c2 c3
  have Hf := hide (bareF_any 3 W)
  go_wp2_with fail
  refine Hf.out.mono ?_
  rintro e w2 ⟨rfl, hu2⟩
  unfold faultV
  have b2 := Hb1.out.new_ hu2
  have z2 := b2.lt
  have f0 := b2.frozen 0
  have f1 := b2.frozen 1
  have d0 := b2.cell 0
  have d1 := b2.cell 1
  simp only [List.getElem?_toArray, List.getElem?_cons_zero, List.getElem?_cons_succ] at d0 d1
  have H2 := hide b2
  clear b2
  go_wp2_with fail
  refine bodyPost_ret (fault_out Tryz.results15 rfl (fault_set H2.out)) rfl ⟨by rw [He.out]; rfl, new_set2 (Hu.out.trans_new hu2) (by omega)⟩

end Go.Proofs.YtjgecmkfgeajiaaGreatDoor

namespace Go.Proofs.YtjgecmkfgeajiaaGreatDoor
open Go.RowKit

abbrev TRt : TypeId := 46
theorem newsC_full {m : MsgR} (h : 60 < m.drops.length ∨ 60 < m.adds.length) : newsC m = (7, -1) := by unfold newsC; rw [if_pos h]
theorem newsC_drops {m : MsgR} (h : ¬ (60 < m.drops.length ∨ 60 < m.adds.length)) (h2 : (dropsC m).1 ≠ 0) : newsC m = dropsC m := by unfold newsC; rw [if_neg h, if_pos h2]
theorem newsC_adds {m : MsgR} {c : Nat × Int} (h : ¬ (60 < m.drops.length ∨ 60 < m.adds.length)) (h2 : (dropsC m).1 = 0) (h3 : addsC m = c) (h4 : c.1 ≠ 0) : newsC m = c := by
  unfold newsC; rw [if_neg h, if_neg (by simpa using h2), h3, if_pos h4]
theorem newsC_dup {m : MsgR} {j : Nat} (h : ¬ (60 < m.drops.length ∨ 60 < m.adds.length)) (h2 : (dropsC m).1 = 0) (h3 : (addsC m).1 = 0) (h4 : idxB (dropped m) m.adds = (j : Int)) : newsC m = (6, (j : Int)) := by
  unfold newsC; rw [if_neg h, if_neg (by simpa using h2), if_neg (by simpa using h3), h4, if_pos (by omega)]
theorem newsC_fine {m : MsgR} (h : ¬ (60 < m.drops.length ∨ 60 < m.adds.length)) (h2 : (dropsC m).1 = 0) (h3 : (addsC m).1 = 0) (h4 : idxB (dropped m) m.adds = -1) : newsC m = (0, -1) := by
  unfold newsC; rw [if_neg h, if_neg (by simpa using h2), if_neg (by simpa using h3), h4, if_neg (by omega)]
theorem drops_rise (m : MsgR) : riseP m.drops = dropsC m := rfl
def addAt (m : MsgR) (i : Nat) : Nat := riseC (addF m) (addM m) i
theorem addsC_at {m : MsgR} {j c : Nat} (h1 : j < m.adds.length) (h2 : addAt m j = c) (h3 : c ≠ 0) (h4 : ∀ i, i < j → addAt m i = 0) : addsC m = (c, (j : Int)) := by
  subst h2
  exact firstC_at _ m.adds.length 0 j (by omega) (by omega) h3 fun i _ hi => h4 i hi
theorem addsC_no {m : MsgR} (h : ∀ i, i < m.adds.length → addAt m i = 0) : addsC m = (0, -1) := firstC_no _ m.adds.length 0 fun i _ hi => h i (by omega)
theorem addAt_chk {m : MsgR} {j : Nat} {r : RouteR} (hr : rtAt m.adds j = r) (h : chk r.a r.n ≠ 0) : addAt m j = chk r.a r.n := by
  subst hr
  unfold addAt riseC
  rw [if_pos]
  · rfl
  · exact h
theorem addAt_low {m : MsgR} {j : Nat} {q r : RouteR} (hr : rtAt m.adds (j + 1) = r) (hq : rtAt m.adds j = q) (h : chk r.a r.n = 0) (h2 : lessB q.a q.n r.a r.n = false) : addAt m (j + 1) = 8 := by
  subst hr; subst hq
  unfold addAt riseC
  rw [if_neg, if_pos]
  · exact ⟨by omega, h2⟩
  · exact fun hh => hh h
theorem addAt_more {m : MsgR} {j : Nat} {r : RouteR} (hr : rtAt m.adds j = r) (h : chk r.a r.n = 0) (h2 : 0 < j → lessB (rtAt m.adds (j - 1)).a (rtAt m.adds (j - 1)).n r.a r.n = true) : addAt m j = addC r := by
  subst hr
  unfold addAt riseC
  rw [if_neg, if_neg]
  · rfl
  · rintro ⟨h0, h1⟩
    have := h2 h0
    have h3 : lessB (rtAt m.adds (j - 1)).a (rtAt m.adds (j - 1)).n (rtAt m.adds j).a (rtAt m.adds j).n = false := h1
    rw [this] at h3
    cases h3
  · exact fun hh => hh h

theorem field_code (x y : Int) (w : World) : (Instr.field TRF (.agg #[.int .i64 x, .int .i64 y]) 0).run Tryz.prog w = .ok (.int .i64 x) w := by kernel_rfl
/-- The calls of a round want these. -/
theorem Rts.attr_at {w : World} {A : Option Addr} {rs : List RouteR} (h : Rts w A rs) {j : Nat} {r : RouteR} (hr : rs[j]? = some r) : AttrOk w r.at_ := h.attr j r hr

set_option maxRecDepth 8000 in
set_option maxHeartbeats 4000000 in
theorem msgFault_3 (m : MsgR) (w : World) (hm : MsgOk w m) (hs : Short m) (hl : m.drops.length ≤ 100000) (hl2 : m.adds.length ≤ 100000) (hK : kindN m.kind = 3) (h0 : m.n = 0) :
    Calls Tryz.prog 15 #[.agg m.cells] w fun e w1 => e = .returned (faultV (checkC m)) ∧ New w w1 := by
  have u := ((Upd.refl (fun _ => False) w).alloc (.cells m.cells TM)).alloc (.cells #[.int .i64 0, .int .i64 0] TRF)
  have b0 := (Blk.new w TM m.cells).alloc (.cells #[.int .i64 0, .int .i64 0] TRF)
  have b1 := Blk.at_ (w.alloc (.cells m.cells TM)) TRF #[.int .i64 0, .int .i64 0] (w.heap.size + 1) (by simp)
  have hm' := hm.new_ u
  generalize hn : m.drops.length = n at *
  generalize hk : m.adds.length = k at *
  have hcs : m.cells = #[.string m.kind, .int .i64 m.n, .slice m.D n m.dc, .slice m.A k m.ac] := by unfold MsgR.cells; rw [hn, hk]
  rw [hcs] at b0 b1 u hm' ⊢
  have Hb0 := hide b0
  have Hb1 := hide b1
  have Hu := hide u
  have Hm := hide hm'
  have Hs := hide hs
  have Hn := hide hn
  have Hk := hide hk
  clear hm' u b0 b1 hm hs hn hk hcs
  have He := hide (checkC_news hK h0)
  have hk := kind_text (s := m.kind).2.2.1 hK
  have b2 : (m.n != 0) = false := by simp [h0]
  clear hK h0
  by_cases h60 : 60 < n
  · have He2 := hide (newsC_full (m := m) (.inl (by have := Hn.out; omega)))
    have i1 : (60 : Int) < (n : Int) := by omega
    go_enter Tryz.func15, Tryz.ntmps15
    go_upto_region 1 with (fail)
    generalize ((w.alloc (.cells #[.string m.kind, .int .i64 m.n, .slice m.D n m.dc, .slice m.A k m.ac] TM)).alloc (.cells #[.int .i64 0, .int .i64 0] TRF)) = W at *
    have c0 := Hb0.out.cell 0
    have c1 := Hb0.out.cell 1
    have c2 := Hb0.out.cell 2
    have c3 := Hb0.out.cell 3
    have z0 := Hb0.out.lt
    simp only [List.getElem?_toArray, List.getElem?_cons_zero, List.getElem?_cons_succ] at c0 c1 c2 c3
    have Hf := hide (bareF_any 7 W)
    go_wp2_with fail
    refine Hf.out.mono ?_
    rintro e w2 ⟨rfl, hu2⟩
    unfold faultV
    have b2 := Hb1.out.new_ hu2
    have z2 := b2.lt
    have f0 := b2.frozen 0
    have f1 := b2.frozen 1
    have d0 := b2.cell 0
    have d1 := b2.cell 1
    simp only [List.getElem?_toArray, List.getElem?_cons_zero, List.getElem?_cons_succ] at d0 d1
    have H2 := hide b2
    clear b2
    go_wp2_with fail
    refine bodyPost_ret (fault_out Tryz.results15 rfl (fault_set H2.out)) rfl ⟨by rw [He.out, He2.out]; rfl, new_set2 (Hu.out.trans_new hu2) (by omega)⟩

  · by_cases k60 : 60 < k
    · have He2 := hide (newsC_full (m := m) (.inr (by have := Hk.out; omega)))
      have i1 : ¬ (60 : Int) < (n : Int) := by omega
      have i2 : (60 : Int) < (k : Int) := by omega
      go_enter Tryz.func15, Tryz.ntmps15
      go_upto_region 1 with (fail)
      generalize ((w.alloc (.cells #[.string m.kind, .int .i64 m.n, .slice m.D n m.dc, .slice m.A k m.ac] TM)).alloc (.cells #[.int .i64 0, .int .i64 0] TRF)) = W at *
      have c0 := Hb0.out.cell 0
      have c1 := Hb0.out.cell 1
      have c2 := Hb0.out.cell 2
      have c3 := Hb0.out.cell 3
      have z0 := Hb0.out.lt
      simp only [List.getElem?_toArray, List.getElem?_cons_zero, List.getElem?_cons_succ] at c0 c1 c2 c3
      have Hf := hide (bareF_any 7 W)
      go_wp2_with fail
      refine Hf.out.mono ?_
      rintro e w2 ⟨rfl, hu2⟩
      unfold faultV
      have b2 := Hb1.out.new_ hu2
      have z2 := b2.lt
      have f0 := b2.frozen 0
      have f1 := b2.frozen 1
      have d0 := b2.cell 0
      have d1 := b2.cell 1
      simp only [List.getElem?_toArray, List.getElem?_cons_zero, List.getElem?_cons_succ] at d0 d1
      have H2 := hide b2
      clear b2
      go_wp2_with fail
      refine bodyPost_ret (fault_out Tryz.results15 rfl (fault_set H2.out)) rfl ⟨by rw [He.out, He2.out]; rfl, new_set2 (Hu.out.trans_new hu2) (by omega)⟩

    · have Hbig : Hid (¬ (60 < m.drops.length ∨ 60 < m.adds.length)) := hide (by have := Hn.out; have := Hk.out; omega)
      have i1 : ¬ (60 : Int) < (n : Int) := by omega
      have i2 : ¬ (60 : Int) < (k : Int) := by omega
      go_enter Tryz.func15, Tryz.ntmps15
      go_upto_region 1 with (fail)
      generalize ((w.alloc (.cells #[.string m.kind, .int .i64 m.n, .slice m.D n m.dc, .slice m.A k m.ac] TM)).alloc (.cells #[.int .i64 0, .int .i64 0] TRF)) = W at *
      have c0 := Hb0.out.cell 0
      have c1 := Hb0.out.cell 1
      have c2 := Hb0.out.cell 2
      have c3 := Hb0.out.cell 3
      have z0 := Hb0.out.lt
      simp only [List.getElem?_toArray, List.getElem?_cons_zero, List.getElem?_cons_succ] at c0 c1 c2 c3
      have hrf := risingFault_any m.D n m.dc m.drops W Hm.out.drops Hn.out (by omega)
      rw [drops_rise] at hrf
      unfold faultV at hrf
      have Hrf := hide hrf
      clear hrf
      go_wp2_with fail
      refine Hrf.out.mono ?_
      rintro e w1 ⟨rfl, hu1⟩
      have N1 := hide hu1
      clear hu1 c0 c1 c2 c3 z0
      by_cases d0 : (dropsC m).1 = 0
      · have Hd0 := hide d0
        rw [d0]
        have Hb0' := hide (Hb0.out.new_ N1.out)
        have c3 := Hb0'.out.cell 3
        have z0 := Hb0'.out.lt
        simp only [List.getElem?_toArray, List.getElem?_cons_zero, List.getElem?_cons_succ] at c3
        clear d0
        go_wp2_with fail
        have HW2 := hide (N1.out.alloc (.cells #[.int .i64 0, .int .i64 (dropsC m).2] TRF))
        obtain ⟨W2, hW2⟩ : ∃ W2, W2 = w1.alloc (.cells #[.int .i64 0, .int .i64 (dropsC m).2] TRF) := ⟨_, rfl⟩
        rw [← hW2] at HW2 ⊢
        clear hW2 c3 z0
        clear Hb0' N1
        go_loopw [4] (fun i wr => ∃ j : Nat, j ≤ k ∧ i = .int .i64 j ∧ New W2 wr ∧ ∀ i, i < j → addAt m i = 0) (fun i _ => k - (intOf i).toNat)
        case atStart => exact ⟨0, by omega, rfl, Upd.refl _ _, fun i h => absurd h (by omega)⟩
        case round =>
          obtain ⟨j, hj, rfl, hnew, hz⟩ := hrel
          have Hz := hide hz
          have HNr := hide hnew
          have HN := hide (HW2.out.trans_new hnew)
          clear hz hnew
          have c3 := (Hb0.out.new_ HN.out).cell 3
          have z0 := (Hb0.out.new_ HN.out).lt
          simp only [List.getElem?_toArray, List.getElem?_cons_zero, List.getElem?_cons_succ] at c3
          by_cases hlt : j < k
          · obtain ⟨b, o, r, hA, hb, hr, hok, q0, q1, q2, q3, q4, q5, q6, q7⟩ := (Hm.out.adds.new_ HN.out).at_ (k := j) (by have := Hk.out; omega)
            rw [hA] at c3
            have HA := hide hA
            have Hr := hide (rtAt_some hr)
            have Hok := hide (Hm.out.adds.attr _ _ hr)
            have Hsh := hide (Hs.out j r hr)
            have i3 : (j : Int) < (k : Int) := by omega
            have Hc := hide (fun w => prefixError_any r.a r.n w)
            have Hr8 := hide (Blk.new wr TRt #[.int .i64 r.a, .int .i64 r.n, .slice r.at_.P r.at_.path.length r.at_.pc, .int .i64 r.at_.pref, .int .i64 r.at_.med, .int .i64 r.at_.origin, .slice r.at_.T r.at_.tags.length r.at_.tc, .int .i64 r.frm])
            have Hal := hide ((Upd.refl (fun _ => False) wr).alloc (.cells #[.int .i64 r.a, .int .i64 r.n, .slice r.at_.P r.at_.path.length r.at_.pc, .int .i64 r.at_.pref, .int .i64 r.at_.med, .int .i64 r.at_.origin, .slice r.at_.T r.at_.tags.length r.at_.tc, .int .i64 r.frm] TRt))
            clear hA hr hok
            go_wp2_with fail
            clear q0 q1 q2 q3 q4 q5 q6 q7 c3 z0
            generalize (wr.alloc (.cells #[.int .i64 r.a, .int .i64 r.n, .slice r.at_.P r.at_.path.length r.at_.pc, .int .i64 r.at_.pref, .int .i64 r.at_.med, .int .i64 r.at_.origin, .slice r.at_.T r.at_.tags.length r.at_.tc, .int .i64 r.frm] TRt)) = wa at *
            refine (Hc.out wa).mono ?_
            rintro e w2 ⟨rfl, hu2⟩
            have U2 := hide hu2
            have Na := hide (HN.out.trans_new Hal.out)
            have N2 := hide (Na.out.trans_new hu2)
            have Nr2 := hide ((HNr.out.trans_new Hal.out).trans_new hu2)
            clear hu2
            by_cases k1 : chk r.a r.n = 0
            · have Hchk := hide k1
              rw [k1]
              clear k1
              by_cases hj0 : 0 < j
              · obtain ⟨b', o', q, hA2, hb', hq, _, d0, d1, _, _, _, _, _, _⟩ := (Hm.out.adds.new_ N2.out).at_ (k := j - 1) (by have := Hk.out; omega)
                have e1 := hA2.symm.trans HA.out
                injection e1 with e1; injection e1 with e2 e3; subst e2; subst e3
                have Hq := hide (rtAt_some hq)
                obtain ⟨j', rfl⟩ : ∃ j', j = j' + 1 := ⟨j - 1, by omega⟩
                have i5 : (0 : Int) < ((j' + 1 : Nat) : Int) := by omega
                have d0' : w2.cell? ⟨b', o' + j' * 8, none⟩ = some (.int .i64 q.a) := d0
                have d1' : w2.cell? ⟨b', o' + j' * 8 + 1, none⟩ = some (.int .i64 q.n) := d1
                have c3 := (Hb0.out.new_ N2.out).cell 3
                have z0 := (Hb0.out.new_ N2.out).lt
                have x0 := (Hr8.out.new_ U2.out).cell 0
                have x1 := (Hr8.out.new_ U2.out).cell 1
                have zr := (Hr8.out.new_ U2.out).lt
                simp only [List.getElem?_toArray, List.getElem?_cons_zero, List.getElem?_cons_succ] at c3 x0 x1
                rw [hA2] at c3
                have hle := isLess_any q.a q.n r.a r.n
                clear d0 d1 hq hA2
                cases hb : lessB q.a q.n r.a r.n with
                | true =>
                  rw [hb] at hle
                  have Hle := hide hle
                  have Hb := hide hb
                  clear hle hb
                  go_upto_region 28 with (fail)
                  refine wp_region_new w2 (Upd.refl _ _) (by kernel_rfl) (by kernel_rfl) ?_
                  repeat (go_big_quiet_step ((go_at_call 42; exact new_call (Hle.out _))))
                  refine wpQuiet_nil ?_
                  rintro _ ⟨nq, rfl⟩
                  have N3 := hide (N2.out.trans_new nq.h)
                  have Nr3 := hide (Nr2.out.trans_new nq.h)
                  have U3 := hide (U2.out.trans_new nq.h)
                  clear c3 z0 x0 x1 zr d0' d1'
                  have Hrb := hide (Hr8.out.new_ U3.out)
                  have zr := Hrb.out.lt
                  have r0 := Hrb.out.cell 0
                  have r2 := Hrb.out.cell 2
                  have r3 := Hrb.out.cell 3
                  have r4 := Hrb.out.cell 4
                  have r5 := Hrb.out.cell 5
                  have r6 := Hrb.out.cell 6
                  have r7 := Hrb.out.cell 7
                  simp only [List.getElem?_toArray, List.getElem?_cons_zero, List.getElem?_cons_succ] at r0 r2 r3 r4 r5 r6 r7
                  have haf := attrFault_any r.at_ nq.w (Hok.out.new_ N3.out) Hsh.out.1 Hsh.out.2
                  unfold AttrR.cells faultV at haf
                  have Haf := hide haf
                  have Hmore : Hid (addAt m (j' + 1) = addC r) := hide (addAt_more Hr.out Hchk.out (fun _ => by rw [Hq.out]; exact Hb.out))
                  clear haf
                  by_cases a0 : (attrC r.at_).1 = 0
                  · by_cases f0 : r.frm = 0
                    · have Hr2 : Hid (addAt m (j' + 1) = 0) := hide (by rw [Hmore.out]; unfold addC; rw [if_neg (by simpa using a0), if_neg (by simpa using f0)])
                      have f1 : (r.frm != 0) = false := by simp [f0]
                      clear f0
                      rw [a0] at Haf
                      clear a0
                      go_wp2_with fail
                      refine Haf.out.mono ?_
                      rintro e w5 ⟨rfl, hu5⟩
                      have hfd := field_code
                      have N5 := hide (N3.out.trans_new hu5)
                      have Hrb5 := hide (Hrb.out.new_ hu5)
                      have zr := Hrb5.out.lt
                      have r7 := Hrb5.out.cell 7
                      simp only [List.getElem?_toArray, List.getElem?_cons_zero, List.getElem?_cons_succ] at r7
                      have Nr5 := hide (Nr3.out.trans_new hu5)
                      clear hu5
                      go_wp2_with fail
                      refine ⟨⟨j' + 1 + 1, by omega, by go_num, Nr5.out, fun i hi => ?_⟩, by simp [intOf]; omega⟩
                      by_cases hij : i < j' + 1
                      · exact Hz.out i hij
                      · obtain rfl : i = j' + 1 := by omega
                        exact Hr2.out

                    · have Hr2 : Hid (addAt m (j' + 1) = 3) := hide (by rw [Hmore.out]; unfold addC; rw [if_neg (by simpa using a0), if_pos f0])
                      have He2 := hide (newsC_adds Hbig.out Hd0.out (addsC_at (by have := Hk.out; omega) Hr2.out (by omega) Hz.out) (by simp))
                      have f1 : (r.frm != 0) = true := by simp [f0]
                      clear f0
                      rw [a0] at Haf
                      clear a0
                      go_wp2_with fail
                      refine Haf.out.mono ?_
                      rintro e w5 ⟨rfl, hu5⟩
                      have hfd := field_code
                      have N5 := hide (N3.out.trans_new hu5)
                      have Hrb5 := hide (Hrb.out.new_ hu5)
                      have zr := Hrb5.out.lt
                      have r7 := Hrb5.out.cell 7
                      simp only [List.getElem?_toArray, List.getElem?_cons_zero, List.getElem?_cons_succ] at r7
                      have Nr5 := hide (Nr3.out.trans_new hu5)
                      clear hu5
                      have b2 := Hb1.out.new_ N5.out
                      have z2 := b2.lt
                      have f0 := b2.frozen 0
                      have f1 := b2.frozen 1
                      have d0 := b2.cell 0
                      have d1 := b2.cell 1
                      simp only [List.getElem?_toArray, List.getElem?_cons_zero, List.getElem?_cons_succ] at d0 d1
                      have H2 := hide b2
                      clear b2
                      go_wp2_with fail
                      refine bodyPost_ret (fault_out Tryz.results15 rfl (fault_set H2.out)) rfl ⟨by rw [He.out, He2.out]; rfl, new_set2 (Hu.out.trans_new N5.out) (by omega)⟩

                  · have Hr2 : Hid (addAt m (j' + 1) = (attrC r.at_).1) := hide (by rw [Hmore.out]; unfold addC; rw [if_pos a0])
                    have He2 := hide (newsC_adds Hbig.out Hd0.out (addsC_at (by have := Hk.out; omega) Hr2.out a0 Hz.out) (by simpa using a0))
                    generalize (attrC r.at_).1 = k at *
                    have k2 : 0 < k := by omega
                    have k3 : ((k : Int) == 0) = false := by simp; omega
                    have k4 : (0 : Int) < (k : Int) := by omega
                    clear a0
                    go_wp2_with fail
                    refine Haf.out.mono ?_
                    rintro e w5 ⟨rfl, hu5⟩
                    have hfd := field_code
                    have N5 := hide (N3.out.trans_new hu5)
                    have Hrb5 := hide (Hrb.out.new_ hu5)
                    have zr := Hrb5.out.lt
                    have r7 := Hrb5.out.cell 7
                    simp only [List.getElem?_toArray, List.getElem?_cons_zero, List.getElem?_cons_succ] at r7
                    clear hu5
                    have b2 := Hb1.out.new_ N5.out
                    have z2 := b2.lt
                    have f0 := b2.frozen 0
                    have f1 := b2.frozen 1
                    have d0 := b2.cell 0
                    have d1 := b2.cell 1
                    simp only [List.getElem?_toArray, List.getElem?_cons_zero, List.getElem?_cons_succ] at d0 d1
                    have H2 := hide b2
                    clear b2
                    go_wp2_with fail
                    refine bodyPost_ret (fault_out Tryz.results15 rfl (fault_set H2.out)) rfl ⟨by rw [He.out, He2.out]; rfl, new_set2 (Hu.out.trans_new N5.out) (by omega)⟩

                | false =>
                  rw [hb] at hle
                  have Hle := hide hle
                  have He2 := hide (newsC_adds Hbig.out Hd0.out (addsC_at (by have := Hk.out; omega) (addAt_low Hr.out (by simpa using Hq.out) Hchk.out hb) (by omega) Hz.out) (by simp))
                  clear hle hb
                  go_upto_region 28 with (fail)
                  refine wp_region_new w2 (Upd.refl _ _) (by kernel_rfl) (by kernel_rfl) ?_
                  repeat (go_big_quiet_step ((go_at_call 42; exact new_call (Hle.out _))))
                  refine wpQuiet_nil ?_
                  rintro _ ⟨nq, rfl⟩
                  have N3 := hide (N2.out.trans_new nq.h)
                  clear c3 z0 x0 x1 zr d0' d1'
                  have b2 := Hb1.out.new_ N3.out
                  have z2 := b2.lt
                  have f0 := b2.frozen 0
                  have f1 := b2.frozen 1
                  have d0 := b2.cell 0
                  have d1 := b2.cell 1
                  simp only [List.getElem?_toArray, List.getElem?_cons_zero, List.getElem?_cons_succ] at d0 d1
                  have H2 := hide b2
                  clear b2
                  go_wp2_with fail
                  refine bodyPost_ret (fault_out Tryz.results15 rfl (fault_set H2.out)) rfl ⟨by rw [He.out, He2.out]; rfl, new_set2 (Hu.out.trans_new N3.out) (by omega)⟩

              · have i5 : ¬ (0 : Int) < (j : Int) := by omega
                have Hj0 := hide hj0
                have Hrb := hide (Hr8.out.new_ U2.out)
                have zr := Hrb.out.lt
                have r0 := Hrb.out.cell 0
                have r2 := Hrb.out.cell 2
                have r3 := Hrb.out.cell 3
                have r4 := Hrb.out.cell 4
                have r5 := Hrb.out.cell 5
                have r6 := Hrb.out.cell 6
                have r7 := Hrb.out.cell 7
                simp only [List.getElem?_toArray, List.getElem?_cons_zero, List.getElem?_cons_succ] at r0 r2 r3 r4 r5 r6 r7
                have haf := attrFault_any r.at_ w2 (Hok.out.new_ N2.out) Hsh.out.1 Hsh.out.2
                unfold AttrR.cells faultV at haf
                have Haf := hide haf
                have Hmore : Hid (addAt m (j) = addC r) := hide (addAt_more Hr.out Hchk.out (fun h => absurd h Hj0.out))
                clear haf
                by_cases a0 : (attrC r.at_).1 = 0
                · by_cases f0 : r.frm = 0
                  · have Hr2 : Hid (addAt m (j) = 0) := hide (by rw [Hmore.out]; unfold addC; rw [if_neg (by simpa using a0), if_neg (by simpa using f0)])
                    have f1 : (r.frm != 0) = false := by simp [f0]
                    clear f0
                    rw [a0] at Haf
                    clear a0
                    go_wp2_with fail
                    refine Haf.out.mono ?_
                    rintro e w5 ⟨rfl, hu5⟩
                    have hfd := field_code
                    have N5 := hide (N2.out.trans_new hu5)
                    have Hrb5 := hide (Hrb.out.new_ hu5)
                    have zr := Hrb5.out.lt
                    have r7 := Hrb5.out.cell 7
                    simp only [List.getElem?_toArray, List.getElem?_cons_zero, List.getElem?_cons_succ] at r7
                    have Nr5 := hide (Nr2.out.trans_new hu5)
                    clear hu5
                    go_wp2_with fail
                    refine ⟨⟨j + 1, by omega, by go_num, Nr5.out, fun i hi => ?_⟩, by simp [intOf]; omega⟩
                    by_cases hij : i < j
                    · exact Hz.out i hij
                    · obtain rfl : i = j := by omega
                      exact Hr2.out

                  · have Hr2 : Hid (addAt m (j) = 3) := hide (by rw [Hmore.out]; unfold addC; rw [if_neg (by simpa using a0), if_pos f0])
                    have He2 := hide (newsC_adds Hbig.out Hd0.out (addsC_at (by have := Hk.out; omega) Hr2.out (by omega) Hz.out) (by simp))
                    have f1 : (r.frm != 0) = true := by simp [f0]
                    clear f0
                    rw [a0] at Haf
                    clear a0
                    go_wp2_with fail
                    refine Haf.out.mono ?_
                    rintro e w5 ⟨rfl, hu5⟩
                    have hfd := field_code
                    have N5 := hide (N2.out.trans_new hu5)
                    have Hrb5 := hide (Hrb.out.new_ hu5)
                    have zr := Hrb5.out.lt
                    have r7 := Hrb5.out.cell 7
                    simp only [List.getElem?_toArray, List.getElem?_cons_zero, List.getElem?_cons_succ] at r7
                    have Nr5 := hide (Nr2.out.trans_new hu5)
                    clear hu5
                    have b2 := Hb1.out.new_ N5.out
                    have z2 := b2.lt
                    have f0 := b2.frozen 0
                    have f1 := b2.frozen 1
                    have d0 := b2.cell 0
                    have d1 := b2.cell 1
                    simp only [List.getElem?_toArray, List.getElem?_cons_zero, List.getElem?_cons_succ] at d0 d1
                    have H2 := hide b2
                    clear b2
                    go_wp2_with fail
                    refine bodyPost_ret (fault_out Tryz.results15 rfl (fault_set H2.out)) rfl ⟨by rw [He.out, He2.out]; rfl, new_set2 (Hu.out.trans_new N5.out) (by omega)⟩

                · have Hr2 : Hid (addAt m (j) = (attrC r.at_).1) := hide (by rw [Hmore.out]; unfold addC; rw [if_pos a0])
                  have He2 := hide (newsC_adds Hbig.out Hd0.out (addsC_at (by have := Hk.out; omega) Hr2.out a0 Hz.out) (by simpa using a0))
                  generalize (attrC r.at_).1 = k at *
                  have k2 : 0 < k := by omega
                  have k3 : ((k : Int) == 0) = false := by simp; omega
                  have k4 : (0 : Int) < (k : Int) := by omega
                  clear a0
                  go_wp2_with fail
                  refine Haf.out.mono ?_
                  rintro e w5 ⟨rfl, hu5⟩
                  have hfd := field_code
                  have N5 := hide (N2.out.trans_new hu5)
                  have Hrb5 := hide (Hrb.out.new_ hu5)
                  have zr := Hrb5.out.lt
                  have r7 := Hrb5.out.cell 7
                  simp only [List.getElem?_toArray, List.getElem?_cons_zero, List.getElem?_cons_succ] at r7
                  clear hu5
                  have b2 := Hb1.out.new_ N5.out
                  have z2 := b2.lt
                  have f0 := b2.frozen 0
                  have f1 := b2.frozen 1
                  have d0 := b2.cell 0
                  have d1 := b2.cell 1
                  simp only [List.getElem?_toArray, List.getElem?_cons_zero, List.getElem?_cons_succ] at d0 d1
                  have H2 := hide b2
                  clear b2
                  go_wp2_with fail
                  refine bodyPost_ret (fault_out Tryz.results15 rfl (fault_set H2.out)) rfl ⟨by rw [He.out, He2.out]; rfl, new_set2 (Hu.out.trans_new N5.out) (by omega)⟩

            · have Hr2 := hide (addAt_chk Hr.out k1)
              have He2 := hide (newsC_adds Hbig.out Hd0.out (addsC_at (by have := Hk.out; omega) Hr2.out k1 Hz.out) (by simpa using k1))
              generalize chk r.a r.n = kc at *
              have k2 : 0 < kc := by omega
              have k3 : ((kc : Int) == 0) = false := by simp; omega
              have k4 : (0 : Int) < (kc : Int) := by omega
              clear k1
              have b2 := Hb1.out.new_ N2.out
              have z2 := b2.lt
              have f0 := b2.frozen 0
              have f1 := b2.frozen 1
              have d0 := b2.cell 0
              have d1 := b2.cell 1
              simp only [List.getElem?_toArray, List.getElem?_cons_zero, List.getElem?_cons_succ] at d0 d1
              have H2 := hide b2
              clear b2
              go_wp2_with fail
              refine bodyPost_ret (fault_out Tryz.results15 rfl (fault_set H2.out)) rfl ⟨by rw [He.out, He2.out]; rfl, new_set2 (Hu.out.trans_new N2.out) (by omega)⟩

          · have i3 : ¬ (j : Int) < (k : Int) := by omega
            have Ha0 : Hid ((addsC m).1 = 0) := hide (by rw [addsC_no fun i hi => Hz.out i (by have := Hk.out; omega)])
            obtain ⟨W3, rfl⟩ : ∃ W3 : World, W3 = wr := ⟨_, rfl⟩
            clear c3 z0
            have c3 := (Hb0.out.new_ HN.out).cell 3
            have z0 := (Hb0.out.new_ HN.out).lt
            simp only [List.getElem?_toArray, List.getElem?_cons_zero, List.getElem?_cons_succ] at c3
            go_wp2_with fail
            clear c3 z0
            have g1 := guard_pfx
            have g2 := eql_pfx
            go_loopw [8] (fun i wr => ∃ j : Nat, j ≤ k ∧ i = .int .i64 j ∧ New W3 wr ∧ ∀ (i : Nat) r, i < j → m.adds[i]? = some r → dropped m r = false) (fun i _ => k - (intOf i).toNat)
            case atStart => exact ⟨0, by omega, rfl, Upd.refl _ _, fun i r h => absurd h (by omega)⟩
            case round =>
              obtain ⟨j, hj, rfl, hnew, hz⟩ := hrel
              have Hz2 := hide hz
              have HNr4 := hide hnew
              have HN4 := hide (HN.out.trans_new hnew)
              clear hz hnew i3
              have c3 := (Hb0.out.new_ HN4.out).cell 3
              have z0 := (Hb0.out.new_ HN4.out).lt
              simp only [List.getElem?_toArray, List.getElem?_cons_zero, List.getElem?_cons_succ] at c3
              by_cases hlt2 : j < k
              · obtain ⟨W4, rfl⟩ : ∃ W4 : World, W4 = wr := ⟨_, rfl⟩
                have i3 : (j : Int) < (k : Int) := by omega
                obtain ⟨r, hr⟩ : ∃ r, m.adds[j]? = some r := ⟨_, List.getElem?_eq_getElem (by have := Hk.out; omega)⟩
                have Hr := hide hr
                clear hr
                go_wp2_with fail
                clear c3 z0
                go_loopw [9] (fun i wr => ∃ q : Nat, q ≤ n ∧ i = .int .i64 q ∧ New W4 wr ∧ ∀ (i : Nat) p, i < q → m.drops[i]? = some p → samePf (rtPf r) p = false) (fun i _ => n - (intOf i).toNat)
                case atStart => exact ⟨0, by omega, rfl, Upd.refl _ _, fun i r h => absurd h (by omega)⟩
                case round =>
                  obtain ⟨q, hq, rfl, hnew, hz⟩ := hrel
                  have Hz3 := hide hz
                  have HNr5 := hide hnew
                  have HN5 := hide (HN4.out.trans_new hnew)
                  clear hz hnew i3
                  have c2 := (Hb0.out.new_ HN5.out).cell 2
                  have c3 := (Hb0.out.new_ HN5.out).cell 3
                  have z0 := (Hb0.out.new_ HN5.out).lt
                  simp only [List.getElem?_toArray, List.getElem?_cons_zero, List.getElem?_cons_succ] at c2 c3
                  by_cases hlt3 : q < n
                  · have i3 : (q : Int) < (n : Int) := by omega
                    have i4 : (j : Int) < (k : Int) := by omega
                    obtain ⟨b, o, r', hA, hb, hr', _, q0, q1, _, _, _, _, _, _⟩ := (Hm.out.adds.new_ HN5.out).at_ (k := j) (by have := Hk.out; omega)
                    have hrr := hr'.symm.trans Hr.out
                    injection hrr with hrr
                    subst hrr
                    obtain ⟨b2, o2, p, hA2, hb2, hp, p0, p1⟩ := (Hm.out.drops.new_ HN5.out).at_ (k := q) (by have := Hn.out; omega)
                    rw [hA] at c3
                    rw [hA2] at c2
                    have Hp := hide hp
                    clear hA hA2 hr' hp
                    cases he : samePf (rtPf r') p with
                    | true =>
                      have he2 : (p.a == r'.a && p.n == r'.n) = true := by
                        have h : (r'.a == p.a && r'.n == p.n) = true := he
                        simp only [Bool.and_eq_true, beq_iff_eq] at h ⊢
                        exact ⟨h.1.symm, h.2.symm⟩
                      have He2 : Hid (newsC m = (6, (j : Int))) := hide (newsC_dup Hbig.out Hd0.out Ha0.out (idxB_at (dropped m) m.adds j r' Hr.out (by unfold dropped; exact List.any_eq_true.2 ⟨p, List.mem_of_getElem? Hp.out, he⟩) Hz2.out))
                      clear he
                      go_wp2_with fail
                      go_quiet (fail)
                      have b2 := Hb1.out.new_ HN5.out
                      have z2 := b2.lt
                      have f0 := b2.frozen 0
                      have f1 := b2.frozen 1
                      have d0 := b2.cell 0
                      have d1 := b2.cell 1
                      simp only [List.getElem?_toArray, List.getElem?_cons_zero, List.getElem?_cons_succ] at d0 d1
                      have H2 := hide b2
                      clear b2
                      go_wp2_with fail
                      refine bodyPost_ret (fault_out Tryz.results15 rfl ((fault_set H2.out).drewN _)) rfl ⟨by rw [He.out, He2.out]; rfl, (new_set2 (Hu.out.trans_new HN5.out) (by omega)).drewN _⟩

                    | false =>
                      have he2 : (p.a == r'.a && p.n == r'.n) = false := by
                        have h : (r'.a == p.a && r'.n == p.n) = false := he
                        rw [Bool.eq_false_iff] at h ⊢
                        intro h2
                        apply h
                        simp only [Bool.and_eq_true, beq_iff_eq] at h2 ⊢
                        exact ⟨h2.1.symm, h2.2.symm⟩
                      have Hee := hide he
                      clear he
                      go_wp2_with fail
                      go_quiet (fail)
                      go_wp2_with fail
                      refine ⟨⟨q + 1, by omega, by go_num, HNr5.out.drewN _, fun i y hi hy => ?_⟩, by simp [intOf]; omega⟩
                      by_cases hij : i < q
                      · exact Hz3.out i y hij hy
                      · obtain rfl : i = q := by omega
                        rw [Hp.out] at hy; injection hy with hy; subst hy; exact Hee.out
                  · have i3 : ¬ (q : Int) < (n : Int) := by omega
                    have Hdr : Hid (dropped m r = false) := hide (by
                      unfold dropped
                      rw [List.any_eq_false]
                      intro y hy
                      obtain ⟨i, hi⟩ := List.getElem?_of_mem hy
                      have := Hz3.out i y (by have := (List.getElem?_eq_some_iff.1 hi).1; have := Hn.out; omega) hi
                      simp [this])
                    go_wp2_with fail
                    refine ⟨⟨j + 1, by omega, by go_num, HNr4.out.trans_new HNr5.out, fun i y hi hy => ?_⟩, by simp [intOf]; omega⟩
                    by_cases hij : i < j
                    · exact Hz2.out i y hij hy
                    · obtain rfl : i = j := by omega
                      rw [Hr.out] at hy; injection hy with hy; subst hy; exact Hdr.out
              · have i3 : ¬ (j : Int) < (k : Int) := by omega
                have He2 : Hid (newsC m = (0, -1)) := hide (newsC_fine Hbig.out Hd0.out Ha0.out (idxB_no (dropped m) m.adds fun i y hy => Hz2.out i y (by have := (List.getElem?_eq_some_iff.1 hy).1; have := Hk.out; omega) hy))
                obtain ⟨W5, rfl⟩ : ∃ W5 : World, W5 = wr := ⟨_, rfl⟩
                have Hf := hide (fineF_any W5)
                go_wp2_with fail
                refine Hf.out.mono ?_
                rintro e w2 ⟨rfl, hu2⟩
                unfold faultV
                have b2 := (Hb1.out.new_ HN4.out).new_ hu2
                have z2 := b2.lt
                have f0 := b2.frozen 0
                have f1 := b2.frozen 1
                have d0 := b2.cell 0
                have d1 := b2.cell 1
                simp only [List.getElem?_toArray, List.getElem?_cons_zero, List.getElem?_cons_succ] at d0 d1
                have H2 := hide b2
                clear b2
                go_wp2_with fail
                refine bodyPost_ret (fault_out Tryz.results15 rfl (fault_set H2.out)) rfl ⟨by rw [He.out, He2.out]; rfl, new_set2 ((Hu.out.trans_new HN4.out).trans_new hu2) (by omega)⟩

      · have He2 := hide (newsC_drops Hbig.out d0)
        generalize dropsC m = dc at *
        obtain ⟨x, y⟩ := dc
        simp only at d0 ⊢
        have k2 : 0 < x := by omega
        have k4 : (0 : Int) < (x : Int) := by omega
        clear d0
        have b2 := Hb1.out.new_ N1.out
        have z2 := b2.lt
        have f0 := b2.frozen 0
        have f1 := b2.frozen 1
        have d0 := b2.cell 0
        have d1 := b2.cell 1
        simp only [List.getElem?_toArray, List.getElem?_cons_zero, List.getElem?_cons_succ] at d0 d1
        have H2 := hide b2
        clear b2
        go_wp2_with fail
        refine bodyPost_ret (fault_out Tryz.results15 rfl ((fault_set H2.out).alloc _)) rfl ⟨by rw [He.out, He2.out]; rfl, (new_set2 (Hu.out.trans_new N1.out) (by omega)).alloc _⟩


theorem msgFault_big (m : MsgR) (w : World) (hm : MsgOk w m) (hs : Short m) (hl : m.drops.length ≤ 100000) (hl2 : m.adds.length ≤ 100000) :
    Calls Tryz.prog 15 #[.agg m.cells] w fun e w1 => e = .returned (faultV (checkC m)) ∧ New w w1 := by
  have h4 := kindN_le m.kind
  by_cases k0 : kindN m.kind = 0
  · exact msgFault_0 m w hm hs hl hl2 k0
  · by_cases k1 : kindN m.kind = 1
    · exact msgFault_1 m w hm hs hl hl2 k1
    · by_cases k2 : kindN m.kind = 2
      · exact msgFault_2 m w hm hs hl hl2 k2
      · by_cases k3 : kindN m.kind = 3
        · by_cases n0 : m.n = 0
          · exact msgFault_3 m w hm hs hl hl2 k3 n0
          · exact msgFault_3n m w hm hs hl hl2 k3 n0
        · exact msgFault_4 m w hm hs hl hl2 (by omega)
theorem msgFault_any (m : MsgR) (w : World) (hm : MsgOk w m) (hs : Short m) (hl : m.drops.length ≤ 1000) (hl2 : m.adds.length ≤ 1000) :
    Calls Tryz.prog 15 #[.agg m.cells] w fun e w1 => e = .returned (faultV (checkC m)) ∧ New w w1 := msgFault_big m w hm hs (by omega) (by omega)
end Go.Proofs.YtjgecmkfgeajiaaGreatDoor
