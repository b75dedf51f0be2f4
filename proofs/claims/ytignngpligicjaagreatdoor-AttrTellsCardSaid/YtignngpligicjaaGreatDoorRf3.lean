/- The reference's fault of what is told of a route. No condition but those that stand in each theorem. -/
import Derived.Test.YtignngpligicjaaGreatDoorRf0
import Derived.Test.YtignngpligicjaaGreatDoorAt2
import Derived.Deep.DeepCutAuto
namespace Go.Proofs.YtignngpligicjaaGreatDoor
open Go.RowKit

theorem badAS_lo {x : Int} (h : x < 1) : badAS x = true := by unfold badAS inR; rw [decide_eq_false (by omega)]; rfl
theorem badAS_hi {x : Int} (h : 1000 < x) : badAS x = true := by unfold badAS inR; rw [decide_eq_false (by omega)]; rfl
theorem badAS_no {x : Int} (h : ¬ x < 1) (h2 : ¬ 1000 < x) : badAS x = false := by unfold badAS inR; rw [decide_eq_true (by omega)]; rfl
theorem inR_no {x a b : Int} (h : x < a ∨ b < x) : inR x a b = false := decide_eq_false (by omega)
theorem inR_yes {x a b : Int} (h : ¬ x < a) (h2 : ¬ b < x) : inR x a b = true := decide_eq_true (by omega)

set_option maxRecDepth 8000 in
set_option maxHeartbeats 4000000 in
theorem attrFault_long (a : AttrR) (w : World) (ha : AttrOk w a) (hl : a.path.length ≤ 100000) (hl2 : a.tags.length ≤ 100000) (hbig : 12 < a.path.length ∨ 8 < a.tags.length) :
    Calls Tryz.prog 44 #[.agg a.cells] w fun e w1 => e = .returned (faultV (attrC a)) ∧ New w w1 := by
  have He := hide (attrC_len hbig)
  have Ha := hide ha
  generalize hn : a.path.length = n at *
  generalize hm : a.tags.length = m at *
  have hcs : a.cells = #[.slice a.P n a.pc, .int .i64 a.pref, .int .i64 a.med, .int .i64 a.origin, .slice a.T m a.tc] := by unfold AttrR.cells; rw [hn, hm]
  rw [hcs]
  have Hn := hide hn
  have Hm := hide hm
  clear hcs ha hn hm
  have u := ((Upd.refl (fun _ => False) w).alloc (.cells #[.slice a.P n a.pc, .int .i64 a.pref, .int .i64 a.med, .int .i64 a.origin, .slice a.T m a.tc] TA)).alloc (.cells #[.int .i64 0, .int .i64 0] TRF)
  have b0 := (Blk.new w TA #[.slice a.P n a.pc, .int .i64 a.pref, .int .i64 a.med, .int .i64 a.origin, .slice a.T m a.tc]).alloc (.cells #[.int .i64 0, .int .i64 0] TRF)
  have b1 := Blk.at_ (w.alloc (.cells #[.slice a.P n a.pc, .int .i64 a.pref, .int .i64 a.med, .int .i64 a.origin, .slice a.T m a.tc] TA)) TRF #[.int .i64 0, .int .i64 0] (w.heap.size + 1) (by simp)
  have Hu := hide u
  have Hb0 := hide b0
  have Hb1 := hide b1
  have HA := hide (Ha.out.new_ u)
  clear u b0 b1
  by_cases h12 : 12 < n
  · have i1 : (12 : Int) < (n : Int) := by omega
    go_enter Tryz.func44, Tryz.ntmps44
    go_upto_region 1 with (fail)
    generalize ((w.alloc (.cells #[.slice a.P n a.pc, .int .i64 a.pref, .int .i64 a.med, .int .i64 a.origin, .slice a.T m a.tc] TA)).alloc (.cells #[.int .i64 0, .int .i64 0] TRF)) = W at *
    have c0 := Hb0.out.cell 0
    have c1 := Hb0.out.cell 1
    have c2 := Hb0.out.cell 2
    have c3 := Hb0.out.cell 3
    have c4 := Hb0.out.cell 4
    have z0 := Hb0.out.lt
    simp only [List.getElem?_toArray, List.getElem?_cons_zero, List.getElem?_cons_succ] at c0 c1 c2 c3 c4
    have Hf := hide (bareF_any 7 W)
    go_wp2_with fail
    refine Hf.out.mono ?_
    rintro e w2 ⟨rfl, hu2⟩
    unfold faultV
    have b2 := Hb1.out.new_ hu2
    have z2 := b2.lt
    have f0 := b2.frozen 0
    have f1 := b2.frozen 1
    have d0 := b2.cell 0
    have d1 := b2.cell 1
    simp only [List.getElem?_toArray, List.getElem?_cons_zero, List.getElem?_cons_succ] at d0 d1
    have H2 := hide b2
    clear b2
    go_wp2_with fail
    refine bodyPost_ret (fault_out Tryz.results44 rfl (fault_set H2.out)) rfl ⟨by rw [He.out]; rfl, new_set2 (Hu.out.trans_new hu2) (by omega)⟩

  · have i1 : ¬ (12 : Int) < (n : Int) := by omega
    have i2 : (8 : Int) < (m : Int) := by omega
    go_enter Tryz.func44, Tryz.ntmps44
    go_upto_region 1 with (fail)
    generalize ((w.alloc (.cells #[.slice a.P n a.pc, .int .i64 a.pref, .int .i64 a.med, .int .i64 a.origin, .slice a.T m a.tc] TA)).alloc (.cells #[.int .i64 0, .int .i64 0] TRF)) = W at *
    have c0 := Hb0.out.cell 0
    have c1 := Hb0.out.cell 1
    have c2 := Hb0.out.cell 2
    have c3 := Hb0.out.cell 3
    have c4 := Hb0.out.cell 4
    have z0 := Hb0.out.lt
    simp only [List.getElem?_toArray, List.getElem?_cons_zero, List.getElem?_cons_succ] at c0 c1 c2 c3 c4
    have Hf := hide (bareF_any 7 W)
    go_wp2_with fail
    refine Hf.out.mono ?_
    rintro e w2 ⟨rfl, hu2⟩
    unfold faultV
    have b2 := Hb1.out.new_ hu2
    have z2 := b2.lt
    have f0 := b2.frozen 0
    have f1 := b2.frozen 1
    have d0 := b2.cell 0
    have d1 := b2.cell 1
    simp only [List.getElem?_toArray, List.getElem?_cons_zero, List.getElem?_cons_succ] at d0 d1
    have H2 := hide b2
    clear b2
    go_wp2_with fail
    refine bodyPost_ret (fault_out Tryz.results44 rfl (fault_set H2.out)) rfl ⟨by rw [He.out]; rfl, new_set2 (Hu.out.trans_new hu2) (by omega)⟩


set_option maxRecDepth 8000 in
set_option maxHeartbeats 4000000 in
theorem attrFault_short (a : AttrR) (w : World) (ha : AttrOk w a) (hl : a.path.length ≤ 100000) (hl2 : a.tags.length ≤ 100000) (hbig : ¬ (12 < a.path.length ∨ 8 < a.tags.length)) :
    Calls Tryz.prog 44 #[.agg a.cells] w fun e w1 => e = .returned (faultV (attrC a)) ∧ New w w1 := by
  have Hlen0 := hide hbig
  have Ha := hide ha
  generalize hn : a.path.length = n at *
  generalize hm : a.tags.length = m at *
  have hcs : a.cells = #[.slice a.P n a.pc, .int .i64 a.pref, .int .i64 a.med, .int .i64 a.origin, .slice a.T m a.tc] := by unfold AttrR.cells; rw [hn, hm]
  rw [hcs]
  have Hn := hide hn
  have Hm := hide hm
  clear hcs ha hn hm
  have u := ((Upd.refl (fun _ => False) w).alloc (.cells #[.slice a.P n a.pc, .int .i64 a.pref, .int .i64 a.med, .int .i64 a.origin, .slice a.T m a.tc] TA)).alloc (.cells #[.int .i64 0, .int .i64 0] TRF)
  have b0 := (Blk.new w TA #[.slice a.P n a.pc, .int .i64 a.pref, .int .i64 a.med, .int .i64 a.origin, .slice a.T m a.tc]).alloc (.cells #[.int .i64 0, .int .i64 0] TRF)
  have b1 := Blk.at_ (w.alloc (.cells #[.slice a.P n a.pc, .int .i64 a.pref, .int .i64 a.med, .int .i64 a.origin, .slice a.T m a.tc] TA)) TRF #[.int .i64 0, .int .i64 0] (w.heap.size + 1) (by simp)
  have Hu := hide u
  have Hb0 := hide b0
  have Hb1 := hide b1
  have HA := hide (Ha.out.new_ u)
  clear u b0 b1
  have i1 : ¬ (12 : Int) < (n : Int) := by omega
  have i2 : ¬ (8 : Int) < (m : Int) := by omega
  have Hlen : Hid (¬ (12 < a.path.length ∨ 8 < a.tags.length)) := hide (by rw [Hn.out, Hm.out]; exact Hlen0.out)
  clear hbig
  go_enter Tryz.func44, Tryz.ntmps44
  go_upto_region 1 with (fail)
  generalize ((w.alloc (.cells #[.slice a.P n a.pc, .int .i64 a.pref, .int .i64 a.med, .int .i64 a.origin, .slice a.T m a.tc] TA)).alloc (.cells #[.int .i64 0, .int .i64 0] TRF)) = W at *
  have c0 := Hb0.out.cell 0
  have c1 := Hb0.out.cell 1
  have c2 := Hb0.out.cell 2
  have c3 := Hb0.out.cell 3
  have c4 := Hb0.out.cell 4
  have z0 := Hb0.out.lt
  simp only [List.getElem?_toArray, List.getElem?_cons_zero, List.getElem?_cons_succ] at c0 c1 c2 c3 c4

  go_wp2_with fail
  go_loopw [3] (fun i wr => ∃ j : Nat, j ≤ n ∧ i = .int .i64 j ∧ wr = W ∧ ∀ (i : Nat) x, i < j → a.path[i]? = some x → badAS x = false) (fun i _ => n - (intOf i).toNat)
  case atStart => exact ⟨0, by omega, rfl, rfl, fun i x h => absurd h (by omega)⟩
  case round =>
    obtain ⟨j, hj, rfl, rfl, hz⟩ := hrel
    have Hz := hide hz
    clear hz
    by_cases hlt : j < n
    · obtain ⟨b, o, x, hA, hb, hx, cx⟩ := HA.out.path.at_ (k := j) (by have := Hn.out; omega)
      rw [hA] at c0
      have Hx := hide hx
      have i3 : (j : Int) < (n : Int) := by omega
      clear hA hx
      by_cases x1 : x < 1
      · have He : Hid (attrC a = (2, (j : Int))) := hide (by
          have e := idxB_at badAS a.path j x Hx.out (badAS_lo x1) Hz.out
          rw [attrC_path Hlen.out (by rw [e]; omega), e])
        have b2 := Hb1.out
        have z2 := b2.lt
        have f0 := b2.frozen 0
        have f1 := b2.frozen 1
        have d0 := b2.cell 0
        have d1 := b2.cell 1
        simp only [List.getElem?_toArray, List.getElem?_cons_zero, List.getElem?_cons_succ] at d0 d1
        have H2 := hide b2
        clear b2
        go_wp2_with fail
        refine bodyPost_ret (fault_out Tryz.results44 rfl (fault_set H2.out)) rfl ⟨by rw [He.out]; rfl, new_set2 (Hu.out) (by omega)⟩

      · by_cases x2 : 1000 < x
        · have He : Hid (attrC a = (2, (j : Int))) := hide (by
            have e := idxB_at badAS a.path j x Hx.out (badAS_hi x2) Hz.out
            rw [attrC_path Hlen.out (by rw [e]; omega), e])
          have b2 := Hb1.out
          have z2 := b2.lt
          have f0 := b2.frozen 0
          have f1 := b2.frozen 1
          have d0 := b2.cell 0
          have d1 := b2.cell 1
          simp only [List.getElem?_toArray, List.getElem?_cons_zero, List.getElem?_cons_succ] at d0 d1
          have H2 := hide b2
          clear b2
          go_wp2_with fail
          refine bodyPost_ret (fault_out Tryz.results44 rfl (fault_set H2.out)) rfl ⟨by rw [He.out]; rfl, new_set2 (Hu.out) (by omega)⟩

        · have Hg := hide (badAS_no x1 x2)
          go_wp2_with fail
          refine ⟨⟨j + 1, by omega, by go_num, trivial, fun i y hi hy => ?_⟩, by simp [intOf]; omega⟩
          by_cases hij : i < j
          · exact Hz.out i y hij hy
          · obtain rfl : i = j := by omega
            rw [Hx.out] at hy; injection hy with hy; subst hy; exact Hg.out
    · have Hp : Hid (¬ 0 ≤ idxB badAS a.path) := hide (by rw [idxB_no badAS a.path fun i y hy => Hz.out i y (by have := (List.getElem?_eq_some_iff.1 hy).1; have := Hn.out; omega) hy]; omega)
      have i3 : ¬ (j : Int) < (n : Int) := by omega
      by_cases h : a.pref < 0
      · have He := hide (attrC_num Hlen.out Hp.out (.inl (inR_no (.inl h))))
        have Hf := hide (bareF_any 2 wr)
        go_wp2_with fail
        refine Hf.out.mono ?_
        rintro e w2 ⟨rfl, hu2⟩
        unfold faultV
        have b2 := Hb1.out.new_ hu2
        have z2 := b2.lt
        have f0 := b2.frozen 0
        have f1 := b2.frozen 1
        have d0 := b2.cell 0
        have d1 := b2.cell 1
        simp only [List.getElem?_toArray, List.getElem?_cons_zero, List.getElem?_cons_succ] at d0 d1
        have H2 := hide b2
        clear b2
        go_wp2_with fail
        refine bodyPost_ret (fault_out Tryz.results44 rfl (fault_set H2.out)) rfl ⟨by rw [He.out]; rfl, new_set2 (Hu.out.trans_new hu2) (by omega)⟩

      · have h0 : ¬ a.pref < 0 := h
        clear h
        by_cases h : 1000 < a.pref
        · have He := hide (attrC_num Hlen.out Hp.out (.inl (inR_no (.inr h))))
          have Hf := hide (bareF_any 2 wr)
          go_wp2_with fail
          refine Hf.out.mono ?_
          rintro e w2 ⟨rfl, hu2⟩
          unfold faultV
          have b2 := Hb1.out.new_ hu2
          have z2 := b2.lt
          have f0 := b2.frozen 0
          have f1 := b2.frozen 1
          have d0 := b2.cell 0
          have d1 := b2.cell 1
          simp only [List.getElem?_toArray, List.getElem?_cons_zero, List.getElem?_cons_succ] at d0 d1
          have H2 := hide b2
          clear b2
          go_wp2_with fail
          refine bodyPost_ret (fault_out Tryz.results44 rfl (fault_set H2.out)) rfl ⟨by rw [He.out]; rfl, new_set2 (Hu.out.trans_new hu2) (by omega)⟩

        · have h1 : ¬ 1000 < a.pref := h
          clear h
          by_cases h : a.med < 0
          · have He := hide (attrC_num Hlen.out Hp.out (.inr (.inl (inR_no (.inl h)))))
            have Hf := hide (bareF_any 2 wr)
            go_wp2_with fail
            refine Hf.out.mono ?_
            rintro e w2 ⟨rfl, hu2⟩
            unfold faultV
            have b2 := Hb1.out.new_ hu2
            have z2 := b2.lt
            have f0 := b2.frozen 0
            have f1 := b2.frozen 1
            have d0 := b2.cell 0
            have d1 := b2.cell 1
            simp only [List.getElem?_toArray, List.getElem?_cons_zero, List.getElem?_cons_succ] at d0 d1
            have H2 := hide b2
            clear b2
            go_wp2_with fail
            refine bodyPost_ret (fault_out Tryz.results44 rfl (fault_set H2.out)) rfl ⟨by rw [He.out]; rfl, new_set2 (Hu.out.trans_new hu2) (by omega)⟩

          · have h2 : ¬ a.med < 0 := h
            clear h
            by_cases h : 1000 < a.med
            · have He := hide (attrC_num Hlen.out Hp.out (.inr (.inl (inR_no (.inr h)))))
              have Hf := hide (bareF_any 2 wr)
              go_wp2_with fail
              refine Hf.out.mono ?_
              rintro e w2 ⟨rfl, hu2⟩
              unfold faultV
              have b2 := Hb1.out.new_ hu2
              have z2 := b2.lt
              have f0 := b2.frozen 0
              have f1 := b2.frozen 1
              have d0 := b2.cell 0
              have d1 := b2.cell 1
              simp only [List.getElem?_toArray, List.getElem?_cons_zero, List.getElem?_cons_succ] at d0 d1
              have H2 := hide b2
              clear b2
              go_wp2_with fail
              refine bodyPost_ret (fault_out Tryz.results44 rfl (fault_set H2.out)) rfl ⟨by rw [He.out]; rfl, new_set2 (Hu.out.trans_new hu2) (by omega)⟩

            · have h3 : ¬ 1000 < a.med := h
              clear h
              by_cases h : a.origin < 0
              · have He := hide (attrC_num Hlen.out Hp.out (.inr (.inr (inR_no (.inl h)))))
                have Hf := hide (bareF_any 2 wr)
                go_wp2_with fail
                refine Hf.out.mono ?_
                rintro e w2 ⟨rfl, hu2⟩
                unfold faultV
                have b2 := Hb1.out.new_ hu2
                have z2 := b2.lt
                have f0 := b2.frozen 0
                have f1 := b2.frozen 1
                have d0 := b2.cell 0
                have d1 := b2.cell 1
                simp only [List.getElem?_toArray, List.getElem?_cons_zero, List.getElem?_cons_succ] at d0 d1
                have H2 := hide b2
                clear b2
                go_wp2_with fail
                refine bodyPost_ret (fault_out Tryz.results44 rfl (fault_set H2.out)) rfl ⟨by rw [He.out]; rfl, new_set2 (Hu.out.trans_new hu2) (by omega)⟩

              · have h4 : ¬ a.origin < 0 := h
                clear h
                by_cases h : 2 < a.origin
                · have He := hide (attrC_num Hlen.out Hp.out (.inr (.inr (inR_no (.inr h)))))
                  have Hf := hide (bareF_any 2 wr)
                  go_wp2_with fail
                  refine Hf.out.mono ?_
                  rintro e w2 ⟨rfl, hu2⟩
                  unfold faultV
                  have b2 := Hb1.out.new_ hu2
                  have z2 := b2.lt
                  have f0 := b2.frozen 0
                  have f1 := b2.frozen 1
                  have d0 := b2.cell 0
                  have d1 := b2.cell 1
                  simp only [List.getElem?_toArray, List.getElem?_cons_zero, List.getElem?_cons_succ] at d0 d1
                  have H2 := hide b2
                  clear b2
                  go_wp2_with fail
                  refine bodyPost_ret (fault_out Tryz.results44 rfl (fault_set H2.out)) rfl ⟨by rw [He.out]; rfl, new_set2 (Hu.out.trans_new hu2) (by omega)⟩

                · have h5 : ¬ 2 < a.origin := h
                  clear h
                  have He := hide (attrC_tag Hlen.out Hp.out (inR_yes h0 h1) (inR_yes h2 h3) (inR_yes h4 h5))
                  go_wp2_with fail
                  obtain ⟨W, rfl⟩ : ∃ W : World, W = wr := ⟨_, rfl⟩
                  clear c0 c1 c2 c3 c4 z0 h0 h1 h2 h3 h4 h5
                  go_loopw [4] (fun i wr => ∃ j : Nat, j ≤ m ∧ i = .int .i64 j ∧ New W wr ∧ TagRel a.tags j) (fun i _ => m - (intOf i).toNat)
                  case atStart => exact ⟨0, by omega, rfl, Upd.refl _ _, TagRel.zero _⟩
                  case round =>
                    obtain ⟨j, hj, rfl, hnew, hz⟩ := hrel
                    have Hz := hide hz
                    clear hz
                    have c4 := (Hb0.out.new_ hnew).cell 4
                    have z0 := (Hb0.out.new_ hnew).lt
                    simp only [List.getElem?_toArray, List.getElem?_cons_zero, List.getElem?_cons_succ] at c4
                    by_cases hlt : j < m
                    · obtain ⟨b, o, t, hA, hb, hx, cx⟩ := (HA.out.tags.new_ hnew).at_ (k := j) (by have := Hm.out; omega)
                      have Hx := hide hx
                      have i4 : (j : Int) < (m : Int) := by omega
                      by_cases x1 : t < 1
                      · rw [hA] at c4
                        have He2 := hide (Hz.out.bad Hx.out (inR_no (.inl x1)))
                        have b2 := Hb1.out.new_ hnew
                        have z2 := b2.lt
                        have f0 := b2.frozen 0
                        have f1 := b2.frozen 1
                        have d0 := b2.cell 0
                        have d1 := b2.cell 1
                        simp only [List.getElem?_toArray, List.getElem?_cons_zero, List.getElem?_cons_succ] at d0 d1
                        have H2 := hide b2
                        clear b2
                        go_wp2_with fail
                        refine bodyPost_ret (fault_out Tryz.results44 rfl (fault_set H2.out)) rfl ⟨by rw [He.out, He2.out]; rfl, new_set2 (Hu.out.trans_new hnew) (by omega)⟩

                      · by_cases x2 : 9999 < t
                        · rw [hA] at c4
                          have He2 := hide (Hz.out.bad Hx.out (inR_no (.inr x2)))
                          have b2 := Hb1.out.new_ hnew
                          have z2 := b2.lt
                          have f0 := b2.frozen 0
                          have f1 := b2.frozen 1
                          have d0 := b2.cell 0
                          have d1 := b2.cell 1
                          simp only [List.getElem?_toArray, List.getElem?_cons_zero, List.getElem?_cons_succ] at d0 d1
                          have H2 := hide b2
                          clear b2
                          go_wp2_with fail
                          refine bodyPost_ret (fault_out Tryz.results44 rfl (fault_set H2.out)) rfl ⟨by rw [He.out, He2.out]; rfl, new_set2 (Hu.out.trans_new hnew) (by omega)⟩

                        · have Hg := hide (inR_yes x1 x2)
                          by_cases hj0 : 0 < j
                          · obtain ⟨b', o', q, hA', hb', hq, cq⟩ := (HA.out.tags.new_ hnew).at_ (k := j - 1) (by have := Hm.out; omega)
                            have e2 : (some (⟨b', o', none⟩ : Addr)) = some ⟨b, o, none⟩ := hA'.symm.trans hA
                            injection e2 with e2; injection e2 with e2 e3; subst e2; subst e3
                            rw [hA] at c4
                            have Hq := hide hq
                            obtain ⟨j', rfl⟩ : ∃ j', j = j' + 1 := ⟨j - 1, by omega⟩
                            have i5 : (0 : Int) < ((j' + 1 : Nat) : Int) := by omega
                            have cq' : wr.cell? ⟨b', o' + j', none⟩ = some (.int .i64 q) := cq
                            clear hA hA' hx hq cq
                            by_cases hle : t ≤ q
                            · have He2 := hide (Hz.out.low Hx.out Hg.out (by omega) Hq.out hle)
                              go_wp2_with fail
                              go_quiet (fail)
                              have b2 := Hb1.out.new_ hnew
                              have z2 := b2.lt
                              have f0 := b2.frozen 0
                              have f1 := b2.frozen 1
                              have d0 := b2.cell 0
                              have d1 := b2.cell 1
                              simp only [List.getElem?_toArray, List.getElem?_cons_zero, List.getElem?_cons_succ] at d0 d1
                              have H2 := hide b2
                              clear b2
                              go_wp2_with fail
                              refine bodyPost_ret (fault_out Tryz.results44 rfl ((fault_set H2.out).drewN _)) rfl ⟨by rw [He.out, He2.out]; rfl, (new_set2 (Hu.out.trans_new hnew) (by omega)).drewN _⟩

                            · have Hs := hide (Hz.out.step Hx.out Hg.out fun q' _ h' => by rw [Hq.out] at h'; injection h' with h'; omega)
                              go_wp2_with fail
                              go_quiet (fail)
                              go_wp2_with fail
                              exact ⟨⟨j' + 1 + 1, by omega, by go_num, hnew.drewN _, Hs.out⟩, by simp [intOf]; omega⟩
                          · rw [hA] at c4
                            have i5 : ¬ (0 : Int) < (j : Int) := by omega
                            have Hs := hide (Hz.out.step Hx.out Hg.out fun q' h' => absurd h' hj0)
                            go_wp2_with fail
                            exact ⟨⟨j + 1, by omega, by go_num, hnew, Hs.out⟩, by simp [intOf]; omega⟩
                    · have i4 : ¬ (j : Int) < (m : Int) := by omega
                      have He2 := hide (Hz.out.done (by have := Hm.out; omega))
                      have Hf := hide (fineF_any wr)
                      go_wp2_with fail
                      refine Hf.out.mono ?_
                      rintro e w2 ⟨rfl, hu2⟩
                      unfold faultV
                      have b2 := (Hb1.out.new_ hnew).new_ hu2
                      have z2 := b2.lt
                      have f0 := b2.frozen 0
                      have f1 := b2.frozen 1
                      have d0 := b2.cell 0
                      have d1 := b2.cell 1
                      simp only [List.getElem?_toArray, List.getElem?_cons_zero, List.getElem?_cons_succ] at d0 d1
                      have H2 := hide b2
                      clear b2
                      go_wp2_with fail
                      refine bodyPost_ret (fault_out Tryz.results44 rfl (fault_set H2.out)) rfl ⟨by rw [He.out, He2.out]; rfl, new_set2 ((Hu.out.trans_new hnew).trans_new hu2) (by omega)⟩

theorem attrFault_big (a : AttrR) (w : World) (ha : AttrOk w a) (hl : a.path.length ≤ 100000) (hl2 : a.tags.length ≤ 100000) :
    Calls Tryz.prog 44 #[.agg a.cells] w fun e w1 => e = .returned (faultV (attrC a)) ∧ New w w1 := by
  by_cases h : 12 < a.path.length ∨ 8 < a.tags.length
  · exact attrFault_long a w ha hl hl2 h
  · exact attrFault_short a w ha hl hl2 h
theorem attrFault_any (a : AttrR) (w : World) (ha : AttrOk w a) (hl : a.path.length ≤ 1000) (hl2 : a.tags.length ≤ 1000) :
    Calls Tryz.prog 44 #[.agg a.cells] w fun e w1 => e = .returned (faultV (attrC a)) ∧ New w w1 := attrFault_big a w ha (by omega) (by omega)
end Go.Proofs.YtignngpligicjaaGreatDoor
