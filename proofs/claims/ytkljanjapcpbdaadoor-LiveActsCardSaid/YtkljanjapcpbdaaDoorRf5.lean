/- The reference's fault of a message: all but news. No condition but those that stand in each theorem. -/
import Derived.Test.YtkljanjapcpbdaaDoorRf4
import Derived.Test.YtkljanjapcpbdaaDoorWi4
namespace Go.Proofs.YtkljanjapcpbdaaDoor
open Go.RowKit

theorem no_kind {s : ByteArray} (h : kindN s = 0) : (s.toList == [111, 112, 101, 110]) = false ∧ (s.toList == [107, 101, 101, 112]) = false ∧ (s.toList == [110, 101, 119, 115]) = false ∧ (s.toList == [110, 111, 116, 101]) = false := by
  obtain ⟨h1, h2, h3, h4⟩ := kind_facts s
  unfold strEq at h1 h2 h3 h4
  rw [tO] at h1; rw [tK] at h2; rw [tW] at h3; rw [tN] at h4
  rw [h] at h1 h2 h3 h4
  exact ⟨h1, h2, h3, h4⟩
theorem checkC_0 {m : MsgR} (h : kindN m.kind = 0) : checkC m = (4, -1) := by unfold checkC; rw [if_pos h]
theorem checkC_bound {m : MsgR} (h : (kindN m.kind = 1 ∧ (m.n < 1 ∨ 1000 < m.n)) ∨ (kindN m.kind = 4 ∧ (m.n < 0 ∨ 1000 < m.n))) : checkC m = (2, -1) := by
  unfold checkC; rw [if_neg (by omega), if_pos h]
theorem checkC_num {m : MsgR} (h : kindN m.kind = 2 ∨ kindN m.kind = 3) (h2 : m.n ≠ 0) : checkC m = (3, -1) := by
  unfold checkC; rw [if_neg (by omega), if_neg (by omega), if_pos ⟨h, h2⟩]
theorem checkC_rows {m : MsgR} (h0 : kindN m.kind ≠ 0) (h : ¬ ((kindN m.kind = 1 ∧ (m.n < 1 ∨ 1000 < m.n)) ∨ (kindN m.kind = 4 ∧ (m.n < 0 ∨ 1000 < m.n)))) (h2 : ¬ ((kindN m.kind = 2 ∨ kindN m.kind = 3) ∧ m.n ≠ 0)) (h3 : kindN m.kind ≠ 3) (h4 : 0 < m.drops.length + m.adds.length) : checkC m = (3, -1) := by
  unfold checkC; rw [if_neg h0, if_neg h, if_neg h2, if_pos ⟨h3, h4⟩]
theorem checkC_fine {m : MsgR} (h0 : kindN m.kind ≠ 0) (h : ¬ ((kindN m.kind = 1 ∧ (m.n < 1 ∨ 1000 < m.n)) ∨ (kindN m.kind = 4 ∧ (m.n < 0 ∨ 1000 < m.n)))) (h2 : ¬ ((kindN m.kind = 2 ∨ kindN m.kind = 3) ∧ m.n ≠ 0)) (h3 : kindN m.kind ≠ 3) (h4 : ¬ 0 < m.drops.length + m.adds.length) : checkC m = (0, -1) := by
  unfold checkC; rw [if_neg h0, if_neg h, if_neg h2, if_neg (fun h => h4 h.2), if_neg h3]
theorem checkC_news {m : MsgR} (h : kindN m.kind = 3) (h2 : m.n = 0) : checkC m = newsC m := by
  unfold checkC; rw [if_neg (by omega), if_neg (by omega), if_neg (by omega), if_neg (by omega), if_pos h]

set_option maxRecDepth 8000 in
set_option maxHeartbeats 4000000 in
theorem msgFault_0 (m : MsgR) (w : World) (hm : MsgOk w m) (hs : Short m) (hl : m.drops.length ≤ 1000) (hl2 : m.adds.length ≤ 1000) (hK : kindN m.kind = 0) :
    Calls Tryd.prog 99 #[.agg m.cells] w fun e w1 => e = .returned (faultV (checkC m)) ∧ New w w1 := by
  have u := ((Upd.refl (fun _ => False) w).alloc (.cells m.cells TM)).alloc (.cells #[.int .i64 0, .int .i64 0] TRF)
  have b0 := (Blk.new w TM m.cells).alloc (.cells #[.int .i64 0, .int .i64 0] TRF)
  have b1 := Blk.at_ (w.alloc (.cells m.cells TM)) TRF #[.int .i64 0, .int .i64 0] (w.heap.size + 1) (by simp)
  have hm' := hm.new_ u
  generalize hn : m.drops.length = n at *
  generalize hk : m.adds.length = k at *
  have hcs : m.cells = #[.string m.kind, .int .i64 m.n, .slice m.D n m.dc, .slice m.A k m.ac] := by unfold MsgR.cells; rw [hn, hk]
  rw [hcs] at b0 b1 u hm' ⊢
  have Hb0 := hide b0
  have Hb1 := hide b1
  have Hu := hide u
  have Hm := hide hm'
  have Hs := hide hs
  have Hn := hide hn
  have Hk := hide hk
  clear hm' u b0 b1 hm hs hn hk hcs
  have He := hide (checkC_0 hK)
  obtain ⟨k1, k2, k3, k4⟩ := no_kind hK
  clear hK
  go_enter Tryd.func99, Tryd.ntmps99
  go_upto_region 1 with (fail)
  generalize ((w.alloc (.cells #[.string m.kind, .int .i64 m.n, .slice m.D n m.dc, .slice m.A k m.ac] TM)).alloc (.cells #[.int .i64 0, .int .i64 0] TRF)) = W at *
  have c0 := Hb0.out.cell 0
  have c1 := Hb0.out.cell 1
  have c2 := Hb0.out.cell 2
  have c3 := Hb0.out.cell 3
  have z0 := Hb0.out.lt
  simp only [List.getElem?_toArray, List.getElem?_cons_zero, List.getElem?_cons_succ] at c0 c1 c2 c3
  have Hf := hide (bareF_any 4 W)
  go_wp2_with fail
  refine Hf.out.mono ?_
  rintro e w2 ⟨rfl, hu2⟩
  unfold faultV
  have b2 := Hb1.out.new_ hu2
  have z2 := b2.lt
  have f0 := b2.frozen 0
  have f1 := b2.frozen 1
  have d0 := b2.cell 0
  have d1 := b2.cell 1
  simp only [List.getElem?_toArray, List.getElem?_cons_zero, List.getElem?_cons_succ] at d0 d1
  have H2 := hide b2
  clear b2
  go_wp2_with fail
  refine bodyPost_ret (fault_out Tryd.results99 rfl (fault_set H2.out)) rfl ⟨by rw [He.out]; rfl, new_set2 (Hu.out.trans_new hu2) (by omega)⟩

set_option maxRecDepth 8000 in
set_option maxHeartbeats 4000000 in
theorem msgFault_1 (m : MsgR) (w : World) (hm : MsgOk w m) (hs : Short m) (hl : m.drops.length ≤ 1000) (hl2 : m.adds.length ≤ 1000) (hK : kindN m.kind = 1) :
    Calls Tryd.prog 99 #[.agg m.cells] w fun e w1 => e = .returned (faultV (checkC m)) ∧ New w w1 := by
  have u := ((Upd.refl (fun _ => False) w).alloc (.cells m.cells TM)).alloc (.cells #[.int .i64 0, .int .i64 0] TRF)
  have b0 := (Blk.new w TM m.cells).alloc (.cells #[.int .i64 0, .int .i64 0] TRF)
  have b1 := Blk.at_ (w.alloc (.cells m.cells TM)) TRF #[.int .i64 0, .int .i64 0] (w.heap.size + 1) (by simp)
  have hm' := hm.new_ u
  generalize hn : m.drops.length = n at *
  generalize hk : m.adds.length = k at *
  have hcs : m.cells = #[.string m.kind, .int .i64 m.n, .slice m.D n m.dc, .slice m.A k m.ac] := by unfold MsgR.cells; rw [hn, hk]
  rw [hcs] at b0 b1 u hm' ⊢
  have Hb0 := hide b0
  have Hb1 := hide b1
  have Hu := hide u
  have Hm := hide hm'
  have Hs := hide hs
  have Hn := hide hn
  have Hk := hide hk
  clear hm' u b0 b1 hm hs hn hk hcs
  have HK := hide hK
  have hk := kind_text (s := m.kind).1 hK
  have H0 : Hid (kindN m.kind ≠ 0) := hide (by omega)
  have H3 : Hid (kindN m.kind ≠ 3) := hide (by omega)
  clear hK
  by_cases b1 : m.n < 1
  · have He := hide (checkC_bound (m := m) (.inl ⟨HK.out, .inl b1⟩))
    go_enter Tryd.func99, Tryd.ntmps99
    go_upto_region 1 with (fail)
    generalize ((w.alloc (.cells #[.string m.kind, .int .i64 m.n, .slice m.D n m.dc, .slice m.A k m.ac] TM)).alloc (.cells #[.int .i64 0, .int .i64 0] TRF)) = W at *
    have c0 := Hb0.out.cell 0
    have c1 := Hb0.out.cell 1
    have c2 := Hb0.out.cell 2
    have c3 := Hb0.out.cell 3
    have z0 := Hb0.out.lt
    simp only [List.getElem?_toArray, List.getElem?_cons_zero, List.getElem?_cons_succ] at c0 c1 c2 c3
    have Hf := hide (bareF_any 2 W)
    go_wp2_with fail
    refine Hf.out.mono ?_
    rintro e w2 ⟨rfl, hu2⟩
    unfold faultV
    have b2 := Hb1.out.new_ hu2
    have z2 := b2.lt
    have f0 := b2.frozen 0
    have f1 := b2.frozen 1
    have d0 := b2.cell 0
    have d1 := b2.cell 1
    simp only [List.getElem?_toArray, List.getElem?_cons_zero, List.getElem?_cons_succ] at d0 d1
    have H2 := hide b2
    clear b2
    go_wp2_with fail
    refine bodyPost_ret (fault_out Tryd.results99 rfl (fault_set H2.out)) rfl ⟨by rw [He.out]; rfl, new_set2 (Hu.out.trans_new hu2) (by omega)⟩

  · by_cases b2 : 1000 < m.n
    · have He := hide (checkC_bound (m := m) (.inl ⟨HK.out, .inr b2⟩))
      go_enter Tryd.func99, Tryd.ntmps99
      go_upto_region 1 with (fail)
      generalize ((w.alloc (.cells #[.string m.kind, .int .i64 m.n, .slice m.D n m.dc, .slice m.A k m.ac] TM)).alloc (.cells #[.int .i64 0, .int .i64 0] TRF)) = W at *
      have c0 := Hb0.out.cell 0
      have c1 := Hb0.out.cell 1
      have c2 := Hb0.out.cell 2
      have c3 := Hb0.out.cell 3
      have z0 := Hb0.out.lt
      simp only [List.getElem?_toArray, List.getElem?_cons_zero, List.getElem?_cons_succ] at c0 c1 c2 c3
      have Hf := hide (bareF_any 2 W)
      go_wp2_with fail
      refine Hf.out.mono ?_
      rintro e w2 ⟨rfl, hu2⟩
      unfold faultV
      have b2 := Hb1.out.new_ hu2
      have z2 := b2.lt
      have f0 := b2.frozen 0
      have f1 := b2.frozen 1
      have d0 := b2.cell 0
      have d1 := b2.cell 1
      simp only [List.getElem?_toArray, List.getElem?_cons_zero, List.getElem?_cons_succ] at d0 d1
      have H2 := hide b2
      clear b2
      go_wp2_with fail
      refine bodyPost_ret (fault_out Tryd.results99 rfl (fault_set H2.out)) rfl ⟨by rw [He.out]; rfl, new_set2 (Hu.out.trans_new hu2) (by omega)⟩

    · have Hbd : Hid (¬ ((kindN m.kind = 1 ∧ (m.n < 1 ∨ 1000 < m.n)) ∨ (kindN m.kind = 4 ∧ (m.n < 0 ∨ 1000 < m.n)))) := hide (by have := HK.out; omega)
      have Hnm : Hid (¬ ((kindN m.kind = 2 ∨ kindN m.kind = 3) ∧ m.n ≠ 0)) := hide (by have := HK.out; omega)
      go_enter Tryd.func99, Tryd.ntmps99
      go_upto_region 1 with (fail)
      generalize ((w.alloc (.cells #[.string m.kind, .int .i64 m.n, .slice m.D n m.dc, .slice m.A k m.ac] TM)).alloc (.cells #[.int .i64 0, .int .i64 0] TRF)) = W at *
      have c0 := Hb0.out.cell 0
      have c1 := Hb0.out.cell 1
      have c2 := Hb0.out.cell 2
      have c3 := Hb0.out.cell 3
      have z0 := Hb0.out.lt
      simp only [List.getElem?_toArray, List.getElem?_cons_zero, List.getElem?_cons_succ] at c0 c1 c2 c3
      by_cases r1 : 0 < n
      · have He := hide (checkC_rows (m := m) H0.out Hbd.out Hnm.out H3.out (by have := Hn.out; omega))
        have r2 : (0 : Int) < (n : Int) := by omega
        have Hf := hide (bareF_any 3 W)
        go_wp2_with fail
        refine Hf.out.mono ?_
        rintro e w2 ⟨rfl, hu2⟩
        unfold faultV
        have b2 := Hb1.out.new_ hu2
        have z2 := b2.lt
        have f0 := b2.frozen 0
        have f1 := b2.frozen 1
        have d0 := b2.cell 0
        have d1 := b2.cell 1
        simp only [List.getElem?_toArray, List.getElem?_cons_zero, List.getElem?_cons_succ] at d0 d1
        have H2 := hide b2
        clear b2
        go_wp2_with fail
        refine bodyPost_ret (fault_out Tryd.results99 rfl (fault_set H2.out)) rfl ⟨by rw [He.out]; rfl, new_set2 (Hu.out.trans_new hu2) (by omega)⟩

      · by_cases r2 : 0 < k
        · have He := hide (checkC_rows (m := m) H0.out Hbd.out Hnm.out H3.out (by have := Hk.out; omega))
          have r3 : (0 : Int) < (k : Int) := by omega
          have Hf := hide (bareF_any 3 W)
          go_wp2_with fail
          refine Hf.out.mono ?_
          rintro e w2 ⟨rfl, hu2⟩
          unfold faultV
          have b2 := Hb1.out.new_ hu2
          have z2 := b2.lt
          have f0 := b2.frozen 0
          have f1 := b2.frozen 1
          have d0 := b2.cell 0
          have d1 := b2.cell 1
          simp only [List.getElem?_toArray, List.getElem?_cons_zero, List.getElem?_cons_succ] at d0 d1
          have H2 := hide b2
          clear b2
          go_wp2_with fail
          refine bodyPost_ret (fault_out Tryd.results99 rfl (fault_set H2.out)) rfl ⟨by rw [He.out]; rfl, new_set2 (Hu.out.trans_new hu2) (by omega)⟩

        · have He := hide (checkC_fine (m := m) H0.out Hbd.out Hnm.out H3.out (by have := Hk.out; have := Hn.out; omega))
          have r4 : n = 0 := by omega
          have r5 : k = 0 := by omega
          subst r4; subst r5
          have Hf := hide (fineF_any W)
          go_wp2_with fail
          refine Hf.out.mono ?_
          rintro e w2 ⟨rfl, hu2⟩
          unfold faultV
          have b2 := Hb1.out.new_ hu2
          have z2 := b2.lt
          have f0 := b2.frozen 0
          have f1 := b2.frozen 1
          have d0 := b2.cell 0
          have d1 := b2.cell 1
          simp only [List.getElem?_toArray, List.getElem?_cons_zero, List.getElem?_cons_succ] at d0 d1
          have H2 := hide b2
          clear b2
          go_wp2_with fail
          refine bodyPost_ret (fault_out Tryd.results99 rfl (fault_set H2.out)) rfl ⟨by rw [He.out]; rfl, new_set2 (Hu.out.trans_new hu2) (by omega)⟩

set_option maxRecDepth 8000 in
set_option maxHeartbeats 4000000 in
theorem msgFault_4 (m : MsgR) (w : World) (hm : MsgOk w m) (hs : Short m) (hl : m.drops.length ≤ 1000) (hl2 : m.adds.length ≤ 1000) (hK : kindN m.kind = 4) :
    Calls Tryd.prog 99 #[.agg m.cells] w fun e w1 => e = .returned (faultV (checkC m)) ∧ New w w1 := by
  have u := ((Upd.refl (fun _ => False) w).alloc (.cells m.cells TM)).alloc (.cells #[.int .i64 0, .int .i64 0] TRF)
  have b0 := (Blk.new w TM m.cells).alloc (.cells #[.int .i64 0, .int .i64 0] TRF)
  have b1 := Blk.at_ (w.alloc (.cells m.cells TM)) TRF #[.int .i64 0, .int .i64 0] (w.heap.size + 1) (by simp)
  have hm' := hm.new_ u
  generalize hn : m.drops.length = n at *
  generalize hk : m.adds.length = k at *
  have hcs : m.cells = #[.string m.kind, .int .i64 m.n, .slice m.D n m.dc, .slice m.A k m.ac] := by unfold MsgR.cells; rw [hn, hk]
  rw [hcs] at b0 b1 u hm' ⊢
  have Hb0 := hide b0
  have Hb1 := hide b1
  have Hu := hide u
  have Hm := hide hm'
  have Hs := hide hs
  have Hn := hide hn
  have Hk := hide hk
  clear hm' u b0 b1 hm hs hn hk hcs
  have HK := hide hK
  have hk := kind_text (s := m.kind).2.2.2 hK
  have H0 : Hid (kindN m.kind ≠ 0) := hide (by omega)
  have H3 : Hid (kindN m.kind ≠ 3) := hide (by omega)
  clear hK
  by_cases b1 : m.n < 0
  · have He := hide (checkC_bound (m := m) (.inr ⟨HK.out, .inl b1⟩))
    go_enter Tryd.func99, Tryd.ntmps99
    go_upto_region 1 with (fail)
    generalize ((w.alloc (.cells #[.string m.kind, .int .i64 m.n, .slice m.D n m.dc, .slice m.A k m.ac] TM)).alloc (.cells #[.int .i64 0, .int .i64 0] TRF)) = W at *
    have c0 := Hb0.out.cell 0
    have c1 := Hb0.out.cell 1
    have c2 := Hb0.out.cell 2
    have c3 := Hb0.out.cell 3
    have z0 := Hb0.out.lt
    simp only [List.getElem?_toArray, List.getElem?_cons_zero, List.getElem?_cons_succ] at c0 c1 c2 c3
    have Hf := hide (bareF_any 2 W)
    go_wp2_with fail
    refine Hf.out.mono ?_
    rintro e w2 ⟨rfl, hu2⟩
    unfold faultV
    have b2 := Hb1.out.new_ hu2
    have z2 := b2.lt
    have f0 := b2.frozen 0
    have f1 := b2.frozen 1
    have d0 := b2.cell 0
    have d1 := b2.cell 1
    simp only [List.getElem?_toArray, List.getElem?_cons_zero, List.getElem?_cons_succ] at d0 d1
    have H2 := hide b2
    clear b2
    go_wp2_with fail
    refine bodyPost_ret (fault_out Tryd.results99 rfl (fault_set H2.out)) rfl ⟨by rw [He.out]; rfl, new_set2 (Hu.out.trans_new hu2) (by omega)⟩

  · by_cases b2 : 1000 < m.n
    · have He := hide (checkC_bound (m := m) (.inr ⟨HK.out, .inr b2⟩))
      go_enter Tryd.func99, Tryd.ntmps99
      go_upto_region 1 with (fail)
      generalize ((w.alloc (.cells #[.string m.kind, .int .i64 m.n, .slice m.D n m.dc, .slice m.A k m.ac] TM)).alloc (.cells #[.int .i64 0, .int .i64 0] TRF)) = W at *
      have c0 := Hb0.out.cell 0
      have c1 := Hb0.out.cell 1
      have c2 := Hb0.out.cell 2
      have c3 := Hb0.out.cell 3
      have z0 := Hb0.out.lt
      simp only [List.getElem?_toArray, List.getElem?_cons_zero, List.getElem?_cons_succ] at c0 c1 c2 c3
      have Hf := hide (bareF_any 2 W)
      go_wp2_with fail
      refine Hf.out.mono ?_
      rintro e w2 ⟨rfl, hu2⟩
      unfold faultV
      have b2 := Hb1.out.new_ hu2
      have z2 := b2.lt
      have f0 := b2.frozen 0
      have f1 := b2.frozen 1
      have d0 := b2.cell 0
      have d1 := b2.cell 1
      simp only [List.getElem?_toArray, List.getElem?_cons_zero, List.getElem?_cons_succ] at d0 d1
      have H2 := hide b2
      clear b2
      go_wp2_with fail
      refine bodyPost_ret (fault_out Tryd.results99 rfl (fault_set H2.out)) rfl ⟨by rw [He.out]; rfl, new_set2 (Hu.out.trans_new hu2) (by omega)⟩

    · have Hbd : Hid (¬ ((kindN m.kind = 1 ∧ (m.n < 1 ∨ 1000 < m.n)) ∨ (kindN m.kind = 4 ∧ (m.n < 0 ∨ 1000 < m.n)))) := hide (by have := HK.out; omega)
      have Hnm : Hid (¬ ((kindN m.kind = 2 ∨ kindN m.kind = 3) ∧ m.n ≠ 0)) := hide (by have := HK.out; omega)
      go_enter Tryd.func99, Tryd.ntmps99
      go_upto_region 1 with (fail)
      generalize ((w.alloc (.cells #[.string m.kind, .int .i64 m.n, .slice m.D n m.dc, .slice m.A k m.ac] TM)).alloc (.cells #[.int .i64 0, .int .i64 0] TRF)) = W at *
      have c0 := Hb0.out.cell 0
      have c1 := Hb0.out.cell 1
      have c2 := Hb0.out.cell 2
      have c3 := Hb0.out.cell 3
      have z0 := Hb0.out.lt
      simp only [List.getElem?_toArray, List.getElem?_cons_zero, List.getElem?_cons_succ] at c0 c1 c2 c3
      by_cases r1 : 0 < n
      · have He := hide (checkC_rows (m := m) H0.out Hbd.out Hnm.out H3.out (by have := Hn.out; omega))
        have r2 : (0 : Int) < (n : Int) := by omega
        have Hf := hide (bareF_any 3 W)
        go_wp2_with fail
        refine Hf.out.mono ?_
        rintro e w2 ⟨rfl, hu2⟩
        unfold faultV
        have b2 := Hb1.out.new_ hu2
        have z2 := b2.lt
        have f0 := b2.frozen 0
        have f1 := b2.frozen 1
        have d0 := b2.cell 0
        have d1 := b2.cell 1
        simp only [List.getElem?_toArray, List.getElem?_cons_zero, List.getElem?_cons_succ] at d0 d1
        have H2 := hide b2
        clear b2
        go_wp2_with fail
        refine bodyPost_ret (fault_out Tryd.results99 rfl (fault_set H2.out)) rfl ⟨by rw [He.out]; rfl, new_set2 (Hu.out.trans_new hu2) (by omega)⟩

      · by_cases r2 : 0 < k
        · have He := hide (checkC_rows (m := m) H0.out Hbd.out Hnm.out H3.out (by have := Hk.out; omega))
          have r3 : (0 : Int) < (k : Int) := by omega
          have Hf := hide (bareF_any 3 W)
          go_wp2_with fail
          refine Hf.out.mono ?_
          rintro e w2 ⟨rfl, hu2⟩
          unfold faultV
          have b2 := Hb1.out.new_ hu2
          have z2 := b2.lt
          have f0 := b2.frozen 0
          have f1 := b2.frozen 1
          have d0 := b2.cell 0
          have d1 := b2.cell 1
          simp only [List.getElem?_toArray, List.getElem?_cons_zero, List.getElem?_cons_succ] at d0 d1
          have H2 := hide b2
          clear b2
          go_wp2_with fail
          refine bodyPost_ret (fault_out Tryd.results99 rfl (fault_set H2.out)) rfl ⟨by rw [He.out]; rfl, new_set2 (Hu.out.trans_new hu2) (by omega)⟩

        · have He := hide (checkC_fine (m := m) H0.out Hbd.out Hnm.out H3.out (by have := Hk.out; have := Hn.out; omega))
          have r4 : n = 0 := by omega
          have r5 : k = 0 := by omega
          subst r4; subst r5
          have Hf := hide (fineF_any W)
          go_wp2_with fail
          refine Hf.out.mono ?_
          rintro e w2 ⟨rfl, hu2⟩
          unfold faultV
          have b2 := Hb1.out.new_ hu2
          have z2 := b2.lt
          have f0 := b2.frozen 0
          have f1 := b2.frozen 1
          have d0 := b2.cell 0
          have d1 := b2.cell 1
          simp only [List.getElem?_toArray, List.getElem?_cons_zero, List.getElem?_cons_succ] at d0 d1
          have H2 := hide b2
          clear b2
          go_wp2_with fail
          refine bodyPost_ret (fault_out Tryd.results99 rfl (fault_set H2.out)) rfl ⟨by rw [He.out]; rfl, new_set2 (Hu.out.trans_new hu2) (by omega)⟩

set_option maxRecDepth 8000 in
set_option maxHeartbeats 4000000 in
theorem msgFault_2 (m : MsgR) (w : World) (hm : MsgOk w m) (hs : Short m) (hl : m.drops.length ≤ 1000) (hl2 : m.adds.length ≤ 1000) (hK : kindN m.kind = 2) :
    Calls Tryd.prog 99 #[.agg m.cells] w fun e w1 => e = .returned (faultV (checkC m)) ∧ New w w1 := by
  have u := ((Upd.refl (fun _ => False) w).alloc (.cells m.cells TM)).alloc (.cells #[.int .i64 0, .int .i64 0] TRF)
  have b0 := (Blk.new w TM m.cells).alloc (.cells #[.int .i64 0, .int .i64 0] TRF)
  have b1 := Blk.at_ (w.alloc (.cells m.cells TM)) TRF #[.int .i64 0, .int .i64 0] (w.heap.size + 1) (by simp)
  have hm' := hm.new_ u
  generalize hn : m.drops.length = n at *
  generalize hk : m.adds.length = k at *
  have hcs : m.cells = #[.string m.kind, .int .i64 m.n, .slice m.D n m.dc, .slice m.A k m.ac] := by unfold MsgR.cells; rw [hn, hk]
  rw [hcs] at b0 b1 u hm' ⊢
  have Hb0 := hide b0
  have Hb1 := hide b1
  have Hu := hide u
  have Hm := hide hm'
  have Hs := hide hs
  have Hn := hide hn
  have Hk := hide hk
  clear hm' u b0 b1 hm hs hn hk hcs
  have HK := hide hK
  have hk := kind_text (s := m.kind).2.1 hK
  have H0 : Hid (kindN m.kind ≠ 0) := hide (by omega)
  have H3 : Hid (kindN m.kind ≠ 3) := hide (by omega)
  clear hK
  by_cases b1 : m.n = 0
  · have Hbd : Hid (¬ ((kindN m.kind = 1 ∧ (m.n < 1 ∨ 1000 < m.n)) ∨ (kindN m.kind = 4 ∧ (m.n < 0 ∨ 1000 < m.n)))) := hide (by have := HK.out; omega)
    have Hnm : Hid (¬ ((kindN m.kind = 2 ∨ kindN m.kind = 3) ∧ m.n ≠ 0)) := hide (by have := HK.out; omega)
    have b2 : (m.n != 0) = false := by simp [b1]
    clear b1
    go_enter Tryd.func99, Tryd.ntmps99
    go_upto_region 1 with (fail)
    generalize ((w.alloc (.cells #[.string m.kind, .int .i64 m.n, .slice m.D n m.dc, .slice m.A k m.ac] TM)).alloc (.cells #[.int .i64 0, .int .i64 0] TRF)) = W at *
    have c0 := Hb0.out.cell 0
    have c1 := Hb0.out.cell 1
    have c2 := Hb0.out.cell 2
    have c3 := Hb0.out.cell 3
    have z0 := Hb0.out.lt
    simp only [List.getElem?_toArray, List.getElem?_cons_zero, List.getElem?_cons_succ] at c0 c1 c2 c3
    by_cases r1 : 0 < n
    · have He := hide (checkC_rows (m := m) H0.out Hbd.out Hnm.out H3.out (by have := Hn.out; omega))
      have r2 : (0 : Int) < (n : Int) := by omega
      have Hf := hide (bareF_any 3 W)
      go_wp2_with fail
      refine Hf.out.mono ?_
      rintro e w2 ⟨rfl, hu2⟩
      unfold faultV
      have b2 := Hb1.out.new_ hu2
      have z2 := b2.lt
      have f0 := b2.frozen 0
      have f1 := b2.frozen 1
      have d0 := b2.cell 0
      have d1 := b2.cell 1
      simp only [List.getElem?_toArray, List.getElem?_cons_zero, List.getElem?_cons_succ] at d0 d1
      have H2 := hide b2
      clear b2
      go_wp2_with fail
      refine bodyPost_ret (fault_out Tryd.results99 rfl (fault_set H2.out)) rfl ⟨by rw [He.out]; rfl, new_set2 (Hu.out.trans_new hu2) (by omega)⟩

    · by_cases r2 : 0 < k
      · have He := hide (checkC_rows (m := m) H0.out Hbd.out Hnm.out H3.out (by have := Hk.out; omega))
        have r3 : (0 : Int) < (k : Int) := by omega
        have Hf := hide (bareF_any 3 W)
        go_wp2_with fail
        refine Hf.out.mono ?_
        rintro e w2 ⟨rfl, hu2⟩
        unfold faultV
        have b2 := Hb1.out.new_ hu2
        have z2 := b2.lt
        have f0 := b2.frozen 0
        have f1 := b2.frozen 1
        have d0 := b2.cell 0
        have d1 := b2.cell 1
        simp only [List.getElem?_toArray, List.getElem?_cons_zero, List.getElem?_cons_succ] at d0 d1
        have H2 := hide b2
        clear b2
        go_wp2_with fail
        refine bodyPost_ret (fault_out Tryd.results99 rfl (fault_set H2.out)) rfl ⟨by rw [He.out]; rfl, new_set2 (Hu.out.trans_new hu2) (by omega)⟩

      · have He := hide (checkC_fine (m := m) H0.out Hbd.out Hnm.out H3.out (by have := Hk.out; have := Hn.out; omega))
        have r4 : n = 0 := by omega
        have r5 : k = 0 := by omega
        subst r4; subst r5
        have Hf := hide (fineF_any W)
        go_wp2_with fail
        refine Hf.out.mono ?_
        rintro e w2 ⟨rfl, hu2⟩
        unfold faultV
        have b2 := Hb1.out.new_ hu2
        have z2 := b2.lt
        have f0 := b2.frozen 0
        have f1 := b2.frozen 1
        have d0 := b2.cell 0
        have d1 := b2.cell 1
        simp only [List.getElem?_toArray, List.getElem?_cons_zero, List.getElem?_cons_succ] at d0 d1
        have H2 := hide b2
        clear b2
        go_wp2_with fail
        refine bodyPost_ret (fault_out Tryd.results99 rfl (fault_set H2.out)) rfl ⟨by rw [He.out]; rfl, new_set2 (Hu.out.trans_new hu2) (by omega)⟩

  · have He := hide (checkC_num (m := m) (.inl HK.out) b1)
    have b2 : (m.n != 0) = true := by simp [b1]
    go_enter Tryd.func99, Tryd.ntmps99
    go_upto_region 1 with (fail)
    generalize ((w.alloc (.cells #[.string m.kind, .int .i64 m.n, .slice m.D n m.dc, .slice m.A k m.ac] TM)).alloc (.cells #[.int .i64 0, .int .i64 0] TRF)) = W at *
    have c0 := Hb0.out.cell 0
    have c1 := Hb0.out.cell 1
    have c2 := Hb0.out.cell 2
    have c3 := Hb0.out.cell 3
    have z0 := Hb0.out.lt
    simp only [List.getElem?_toArray, List.getElem?_cons_zero, List.getElem?_cons_succ] at c0 c1 c2 c3
    have Hf := hide (bareF_any 3 W)
    go_wp2_with fail
    refine Hf.out.mono ?_
    rintro e w2 ⟨rfl, hu2⟩
    unfold faultV
    have b2 := Hb1.out.new_ hu2
    have z2 := b2.lt
    have f0 := b2.frozen 0
    have f1 := b2.frozen 1
    have d0 := b2.cell 0
    have d1 := b2.cell 1
    simp only [List.getElem?_toArray, List.getElem?_cons_zero, List.getElem?_cons_succ] at d0 d1
    have H2 := hide b2
    clear b2
    go_wp2_with fail
    refine bodyPost_ret (fault_out Tryd.results99 rfl (fault_set H2.out)) rfl ⟨by rw [He.out]; rfl, new_set2 (Hu.out.trans_new hu2) (by omega)⟩

set_option maxRecDepth 8000 in
set_option maxHeartbeats 4000000 in
theorem msgFault_3n (m : MsgR) (w : World) (hm : MsgOk w m) (hs : Short m) (hl : m.drops.length ≤ 1000) (hl2 : m.adds.length ≤ 1000) (hK : kindN m.kind = 3) (b1 : ¬ m.n = 0) :
    Calls Tryd.prog 99 #[.agg m.cells] w fun e w1 => e = .returned (faultV (checkC m)) ∧ New w w1 := by
  have u := ((Upd.refl (fun _ => False) w).alloc (.cells m.cells TM)).alloc (.cells #[.int .i64 0, .int .i64 0] TRF)
  have b0 := (Blk.new w TM m.cells).alloc (.cells #[.int .i64 0, .int .i64 0] TRF)
  have b1 := Blk.at_ (w.alloc (.cells m.cells TM)) TRF #[.int .i64 0, .int .i64 0] (w.heap.size + 1) (by simp)
  have hm' := hm.new_ u
  generalize hn : m.drops.length = n at *
  generalize hk : m.adds.length = k at *
  have hcs : m.cells = #[.string m.kind, .int .i64 m.n, .slice m.D n m.dc, .slice m.A k m.ac] := by unfold MsgR.cells; rw [hn, hk]
  rw [hcs] at b0 b1 u hm' ⊢
  have Hb0 := hide b0
  have Hb1 := hide b1
  have Hu := hide u
  have Hm := hide hm'
  have Hs := hide hs
  have Hn := hide hn
  have Hk := hide hk
  clear hm' u b0 b1 hm hs hn hk hcs
  have He := hide (checkC_num (m := m) (.inr hK) b1)
  have hk := kind_text (s := m.kind).2.2.1 hK
  have b2 : (m.n != 0) = true := by simp [b1]
  clear hK
  go_enter Tryd.func99, Tryd.ntmps99
  go_upto_region 1 with (fail)
  generalize ((w.alloc (.cells #[.string m.kind, .int .i64 m.n, .slice m.D n m.dc, .slice m.A k m.ac] TM)).alloc (.cells #[.int .i64 0, .int .i64 0] TRF)) = W at *
  have c0 := Hb0.out.cell 0
  have c1 := Hb0.out.cell 1
  have c2 := Hb0.out.cell 2
  have c3 := Hb0.out.cell 3
  have z0 := Hb0.out.lt
  simp only [List.getElem?_toArray, List.getElem?_cons_zero, List.getElem?_cons_succ] at c0 c1 c2 c3
  have Hf := hide (bareF_any 3 W)
  go_wp2_with fail
  refine Hf.out.mono ?_
  rintro e w2 ⟨rfl, hu2⟩
  unfold faultV
  have b2 := Hb1.out.new_ hu2
  have z2 := b2.lt
  have f0 := b2.frozen 0
  have f1 := b2.frozen 1
  have d0 := b2.cell 0
  have d1 := b2.cell 1
  simp only [List.getElem?_toArray, List.getElem?_cons_zero, List.getElem?_cons_succ] at d0 d1
  have H2 := hide b2
  clear b2
  go_wp2_with fail
  refine bodyPost_ret (fault_out Tryd.results99 rfl (fault_set H2.out)) rfl ⟨by rw [He.out]; rfl, new_set2 (Hu.out.trans_new hu2) (by omega)⟩

end Go.Proofs.YtkljanjapcpbdaaDoor
