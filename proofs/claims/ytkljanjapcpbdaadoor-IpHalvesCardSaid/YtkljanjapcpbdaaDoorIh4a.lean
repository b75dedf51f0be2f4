/- The law IpHalves: its walk, where the first prefix is of all addresses. No condition but those that stand in each theorem. -/
import Derived.Test.YtkljanjapcpbdaaDoorTx6
import Derived.Test.YtkljanjapcpbdaaDoorIh1
import Derived.Test.YtkljanjapcpbdaaDoorIh2
import Derived.Test.YtkljanjapcpbdaaDoorIh3
import Derived.Test.YtkljanjapcpbdaaDoorIsB
import Derived.Deep.DeepCutAuto
namespace Go.Proofs.YtkljanjapcpbdaaDoor
open Go.RowKit

set_option maxRecDepth 20000 in
set_option maxHeartbeats 8000000 in
theorem ipHalves_a (a n b m x : Int) (hk : n ≤ 0) (E : Nat → Addr) (w : World) (h : TxtOk w) (h1 : Sen w gText1 (E 1)) (h2 : Sen w gBound (E 2)) (h3 : Sen w gShape (E 3)) (h5 : Sen w gNone (E 5)) :
    Calls Tryd.prog 9 #[.agg #[.int .i64 a, .int .i64 n], .agg #[.int .i64 b, .int .i64 m], .int .i64 x] w fun e w1 => e = .returned (.bool true) ∧ New w w1 := by
  have u := ((Upd.refl (fun _ => False) w).alloc (.cells #[.int .i64 a, .int .i64 n] TPf)).alloc (.cells #[.int .i64 b, .int .i64 m] TPf)
  have N := hide u
  have HP := hide ((Blk.new w TPf #[.int .i64 a, .int .i64 n]).alloc (.cells #[.int .i64 b, .int .i64 m] TPf))
  have HQ := hide (Blk.at_ (w.alloc (.cells #[.int .i64 a, .int .i64 n] TPf)) TPf #[.int .i64 b, .int .i64 m] (w.heap.size + 1) (by simp))
  have Had := hide (fun w' (nw : New w w') => addressed_any E w' (h.new nw) (h1.new nw) (h2.new nw) (h3.new nw))
  have H := hide h
  have H1 := hide h1
  have H2 := hide h2
  have H3 := hide h3
  have H5 := hide h5
  have Hk := hide hk
  clear u h h1 h2 h3 h5 hk
  go_enter Tryd.func9, Tryd.ntmps9
  go_upto_region 1 with (fail)
  generalize (w.alloc (.cells #[.int .i64 a, .int .i64 n] TPf)).alloc (.cells #[.int .i64 b, .int .i64 m] TPf) = W at *
  go_wp2_with fail
  refine (Had.out _ N.out).mono ?_
  rintro e w1 ⟨rfl, hu⟩
  have N := hide (N.out.trans_new hu)
  have HP := hide (HP.out.new_ hu)
  have HQ := hide (HQ.out.new_ hu)
  clear hu
  by_cases hP : chk a n = 0
  rotate_left
  · have bq := HP.out
    have p0 := bq.cell 0
    have p1 := bq.cell 1
    have pz := bq.lt
    simp only [List.getElem?_toArray, List.getElem?_cons_zero, List.getElem?_cons_succ] at p0 p1
    clear bq
    have bq := HQ.out
    have q0 := bq.cell 0
    have q1 := bq.cell 1
    have qz := bq.lt
    simp only [List.getElem?_toArray, List.getElem?_cons_zero, List.getElem?_cons_succ] at q0 q1
    clear bq
    have hc9 := check_no a n E w1 (H2.out.new N.out) (H3.out.new N.out) hP
    unfold errv at hc9
    have Hc9 := hide hc9
    clear hc9
    go_wp2_with fail
    refine Hc9.out.mono ?_
    rintro e w2 ⟨rfl, hu⟩
    clear p0 p1 pz q0 q1 qz Hc9
    have N := hide (N.out.trans_new hu)
    go_wp2_with fail
    go_ret
    exact ⟨rfl, N.out⟩
  have bq := HP.out
  have p0 := bq.cell 0
  have p1 := bq.cell 1
  have pz := bq.lt
  simp only [List.getElem?_toArray, List.getElem?_cons_zero, List.getElem?_cons_succ] at p0 p1
  clear bq
  have bq := HQ.out
  have q0 := bq.cell 0
  have q1 := bq.cell 1
  have qz := bq.lt
  simp only [List.getElem?_toArray, List.getElem?_cons_zero, List.getElem?_cons_succ] at q0 q1
  clear bq
  have hc9 := check_yes a n E w1 (H2.out.new N.out) (H3.out.new N.out) hP
  have Hc9 := hide hc9
  clear hc9
  go_wp2_with fail
  refine Hc9.out.mono ?_
  rintro e w2 ⟨rfl, hu⟩
  clear p0 p1 pz q0 q1 qz Hc9
  have N := hide (N.out.trans_new hu)
  have HP := hide (HP.out.new_ hu)
  have HQ := hide (HQ.out.new_ hu)
  clear hu
  by_cases hQ : chk b m = 0
  rotate_left
  · have bq := HP.out
    have p0 := bq.cell 0
    have p1 := bq.cell 1
    have pz := bq.lt
    simp only [List.getElem?_toArray, List.getElem?_cons_zero, List.getElem?_cons_succ] at p0 p1
    clear bq
    have bq := HQ.out
    have q0 := bq.cell 0
    have q1 := bq.cell 1
    have qz := bq.lt
    simp only [List.getElem?_toArray, List.getElem?_cons_zero, List.getElem?_cons_succ] at q0 q1
    clear bq
    have hc9 := check_no b m E w2 (H2.out.new N.out) (H3.out.new N.out) hQ
    unfold errv at hc9
    have Hc9 := hide hc9
    clear hc9
    go_wp2_with fail
    refine Hc9.out.mono ?_
    rintro e w3 ⟨rfl, hu⟩
    clear p0 p1 pz q0 q1 qz Hc9
    have N := hide (N.out.trans_new hu)
    go_wp2_with fail
    go_ret
    exact ⟨rfl, N.out⟩
  have bq := HP.out
  have p0 := bq.cell 0
  have p1 := bq.cell 1
  have pz := bq.lt
  simp only [List.getElem?_toArray, List.getElem?_cons_zero, List.getElem?_cons_succ] at p0 p1
  clear bq
  have bq := HQ.out
  have q0 := bq.cell 0
  have q1 := bq.cell 1
  have qz := bq.lt
  simp only [List.getElem?_toArray, List.getElem?_cons_zero, List.getElem?_cons_succ] at q0 q1
  clear bq
  have hc9 := check_yes b m E w2 (H2.out.new N.out) (H3.out.new N.out) hQ
  have Hc9 := hide hc9
  clear hc9
  go_wp2_with fail
  refine Hc9.out.mono ?_
  rintro e w3 ⟨rfl, hu⟩
  clear p0 p1 pz q0 q1 qz Hc9
  have N := hide (N.out.trans_new hu)
  have HP := hide (HP.out.new_ hu)
  have HQ := hide (HQ.out.new_ hu)
  clear hu
  obtain ⟨ha9, hn9, _⟩ := chk_zero hP
  have hk := Hk.out
  have hn : n < 32 := by omega
  have hnb : decide (n < 32) = true := decide_eq_true hn
  obtain ⟨T, hT⟩ : ∃ T : Int, T = ((2 ^ (31 - n.toNat) : Nat) : Int) := ⟨_, rfl⟩
  obtain ⟨kx, ky⟩ := ih_chk hP hn
  have kh := ih_has hP hn x
  have kl := ih_less hP hn
  obtain ⟨k1, k2⟩ := ih_low hP hn
  rw [← hT] at ky kh kl k2
  have Kx := hide kx
  have Ky := hide ky
  have Kh := hide kh
  have Kl := hide kl
  have K1 := hide k1
  have K2 := hide k2
  have HT := hide hT
  clear hT kx ky kh kl k1 k2
  have bq := HP.out
  have p0 := bq.cell 0
  have p1 := bq.cell 1
  have pz := bq.lt
  simp only [List.getElem?_toArray, List.getElem?_cons_zero, List.getElem?_cons_succ] at p0 p1
  clear bq
  have bq := HQ.out
  have q0 := bq.cell 0
  have q1 := bq.cell 1
  have qz := bq.lt
  simp only [List.getElem?_toArray, List.getElem?_cons_zero, List.getElem?_cons_succ] at q0 q1
  clear bq
  have hc9 := halves_yes a n E w3 (H2.out.new N.out) (H3.out.new N.out) hP hn
  rw [← HT.out] at hc9
  have Hc9 := hide hc9
  clear hc9
  go_wp2_with fail
  refine Hc9.out.mono ?_
  rintro e w4 ⟨rfl, hu⟩
  clear p0 p1 pz q0 q1 qz Hc9
  have N := hide (N.out.trans_new hu)
  have HP := hide (HP.out.new_ hu)
  have HQ := hide (HQ.out.new_ hu)
  clear hu
  have bq := HP.out
  have p0 := bq.cell 0
  have p1 := bq.cell 1
  have pz := bq.lt
  simp only [List.getElem?_toArray, List.getElem?_cons_zero, List.getElem?_cons_succ] at p0 p1
  clear bq
  have bq := HQ.out
  have q0 := bq.cell 0
  have q1 := bq.cell 1
  have qz := bq.lt
  simp only [List.getElem?_toArray, List.getElem?_cons_zero, List.getElem?_cons_succ] at q0 q1
  clear bq
  go_upto_region 5 with (fail)
  have hu : New w4 ((w4.alloc (.cells #[.int .i64 a, .int .i64 (n + 1)] TPf)).alloc (.cells #[.int .i64 (a + T), .int .i64 (n + 1)] TPf)) := ((Upd.refl _ w4).alloc _).alloc _
  have HX := hide ((Blk.new w4 TPf #[.int .i64 a, .int .i64 (n + 1)]).alloc (.cells #[.int .i64 (a + T), .int .i64 (n + 1)] TPf))
  have HY := hide (Blk.at_ (w4.alloc (.cells #[.int .i64 a, .int .i64 (n + 1)] TPf)) TPf #[.int .i64 (a + T), .int .i64 (n + 1)] (w4.heap.size + 1) (by simp))
  generalize hW9 : (w4.alloc (.cells #[.int .i64 a, .int .i64 (n + 1)] TPf)).alloc (.cells #[.int .i64 (a + T), .int .i64 (n + 1)] TPf) = w5 at *
  clear hW9
  generalize w4.heap.size + 1 = Y at *
  generalize w4.heap.size = X at *
  clear p0 p1 pz q0 q1 qz
  have N := hide (N.out.trans_new hu)
  have HP := hide (HP.out.new_ hu)
  have HQ := hide (HQ.out.new_ hu)
  clear hu
  have bq := HP.out
  have p0 := bq.cell 0
  have p1 := bq.cell 1
  have pz := bq.lt
  simp only [List.getElem?_toArray, List.getElem?_cons_zero, List.getElem?_cons_succ] at p0 p1
  clear bq
  have bq := HQ.out
  have q0 := bq.cell 0
  have q1 := bq.cell 1
  have qz := bq.lt
  simp only [List.getElem?_toArray, List.getElem?_cons_zero, List.getElem?_cons_succ] at q0 q1
  clear bq
  refine wp_region_new w5 (Upd.refl _ _) (by kernel_rfl) (by kernel_rfl) ?_
  repeat (go_big_quiet_step (fail))
  refine wpQuiet_nil ?_
  rintro _ ⟨nq, rfl⟩
  obtain ⟨w6, hu⟩ := nq
  dsimp only
  clear p0 p1 pz q0 q1 qz
  have N := hide (N.out.trans_new hu)
  have HP := hide (HP.out.new_ hu)
  have HQ := hide (HQ.out.new_ hu)
  have HX := hide (HX.out.new_ hu)
  have HY := hide (HY.out.new_ hu)
  clear hu
  have bq := HP.out
  have p0 := bq.cell 0
  have p1 := bq.cell 1
  have pz := bq.lt
  simp only [List.getElem?_toArray, List.getElem?_cons_zero, List.getElem?_cons_succ] at p0 p1
  clear bq
  have bq := HQ.out
  have q0 := bq.cell 0
  have q1 := bq.cell 1
  have qz := bq.lt
  simp only [List.getElem?_toArray, List.getElem?_cons_zero, List.getElem?_cons_succ] at q0 q1
  clear bq
  go_upto_region 8 with (fail)
  clear p0 p1 pz q0 q1 qz
  go_cut [73] (fun v73_ wc => v73_ = .bool false ∧ New w6 wc)
  case first =>
    as_aux_lemma =>
      have bq := HP.out
      have p0 := bq.cell 0
      have p1 := bq.cell 1
      have pz := bq.lt
      simp only [List.getElem?_toArray, List.getElem?_cons_zero, List.getElem?_cons_succ] at p0 p1
      clear bq
      have bq := HQ.out
      have q0 := bq.cell 0
      have q1 := bq.cell 1
      have qz := bq.lt
      simp only [List.getElem?_toArray, List.getElem?_cons_zero, List.getElem?_cons_succ] at q0 q1
      clear bq
      have bq := HX.out
      have x0 := bq.cell 0
      have x1 := bq.cell 1
      have xz := bq.lt
      simp only [List.getElem?_toArray, List.getElem?_cons_zero, List.getElem?_cons_succ] at x0 x1
      clear bq
      have bq := HY.out
      have y0 := bq.cell 0
      have y1 := bq.cell 1
      have yz := bq.lt
      simp only [List.getElem?_toArray, List.getElem?_cons_zero, List.getElem?_cons_succ] at y0 y1
      clear bq
      rcases Kh.out with ⟨e1, e2, e3⟩ | ⟨e1, e2, e3⟩ | ⟨e1, e2, e3⟩
      all_goals
        have lp := fun w' (nw : New w6 w') => has_any a n x E w' (H2.out.new (N.out.trans_new nw)) (H3.out.new (N.out.trans_new nw))
        rw [e1] at lp
        have LP := hide lp
        clear lp
        have lx := fun w' (nw : New w6 w') => has_any a (n + 1) x E w' (H2.out.new (N.out.trans_new nw)) (H3.out.new (N.out.trans_new nw))
        rw [e2] at lx
        have LX := hide lx
        clear lx
        have ly := fun w' (nw : New w6 w') => has_any (a + T) (n + 1) x E w' (H2.out.new (N.out.trans_new nw)) (H3.out.new (N.out.trans_new nw))
        rw [e3] at ly
        have LY := hide ly
        clear ly
        have ll := fun w' (nw : New w6 w') => less_any a (n + 1) (a + T) (n + 1) E w' (H2.out.new (N.out.trans_new nw)) (H3.out.new (N.out.trans_new nw))
        rw [Kl.out] at ll
        have LL := hide ll
        clear ll
        clear e1 e2 e3
        refine wp_region_new w6 (Upd.refl _ _) (by kernel_rfl) (by kernel_rfl) ?_
        iterate 3 (go_big_quiet_step ((go_at_call 64; exact new_call (LP.out _ (NewW.h _)))))
        iterate 3 (go_big_quiet_step ((go_at_call 64; exact new_call (LX.out _ (NewW.h _)))))
        iterate 3 (go_big_quiet_step ((go_at_call 64; exact new_call (LY.out _ (NewW.h _)))))
        iterate 6 (go_big_quiet_step ((go_at_call 64; exact new_call (LX.out _ (NewW.h _)))))
        iterate 4 (go_big_quiet_step ((go_at_call 64; exact new_call (LY.out _ (NewW.h _)))))
        repeat (go_big_quiet_step ((go_at_call 61; exact new_call (LL.out _ (NewW.h _)))))
        refine wpQuiet_nil ?_
        rintro _ ⟨nq, rfl⟩
        obtain ⟨wq, hu⟩ := nq
        dsimp only
        go_wp2_with fail
        go_meet
        exact ⟨by first | rfl | simp, hu⟩
  case rest =>
    obtain ⟨rfl, hu⟩ := hcut
    have N := hide (N.out.trans_new hu)
    have HP := hide (HP.out.new_ hu)
    have HQ := hide (HQ.out.new_ hu)
    have HX := hide (HX.out.new_ hu)
    have HY := hide (HY.out.new_ hu)
    clear hu
    generalize wc = w8 at *
    have hn11 : (n + 1 - 1 : Int) = n := by omega
    have Hn11 := hide hn11
    clear hn11
    have bq := HX.out
    have x0 := bq.cell 0
    have x1 := bq.cell 1
    have xz := bq.lt
    simp only [List.getElem?_toArray, List.getElem?_cons_zero, List.getElem?_cons_succ] at x0 x1
    clear bq
    have hc9 := up_yes a (n + 1) E w8 (H2.out.new N.out) (H3.out.new N.out) Kx.out (by omega)
    rw [Hn11.out] at hc9
    rw [K1.out] at hc9
    have Hc9 := hide hc9
    clear hc9
    go_wp2_with fail
    refine Hc9.out.mono ?_
    rintro e w9 ⟨rfl, hu⟩
    clear x0 x1 xz Hc9
    have N := hide (N.out.trans_new hu)
    have HP := hide (HP.out.new_ hu)
    have HQ := hide (HQ.out.new_ hu)
    have HX := hide (HX.out.new_ hu)
    have HY := hide (HY.out.new_ hu)
    clear hu
    go_upto_region 11 with (fail)
    have hu : New w9 (w9.alloc (.cells #[.int .i64 a, .int .i64 n] TPf)) := (Upd.refl _ w9).alloc _
    have HU := hide (Blk.new w9 TPf #[.int .i64 a, .int .i64 n])
    generalize hW9 : w9.alloc (.cells #[.int .i64 a, .int .i64 n] TPf) = w10 at *
    clear hW9
    generalize w9.heap.size = U at *
    have N := hide (N.out.trans_new hu)
    have HP := hide (HP.out.new_ hu)
    have HQ := hide (HQ.out.new_ hu)
    have HX := hide (HX.out.new_ hu)
    have HY := hide (HY.out.new_ hu)
    clear hu
    have bq := HY.out
    have y0 := bq.cell 0
    have y1 := bq.cell 1
    have yz := bq.lt
    simp only [List.getElem?_toArray, List.getElem?_cons_zero, List.getElem?_cons_succ] at y0 y1
    clear bq
    have hc9 := up_yes (a + T) (n + 1) E w10 (H2.out.new N.out) (H3.out.new N.out) Ky.out (by omega)
    rw [Hn11.out] at hc9
    rw [K2.out] at hc9
    have Hc9 := hide hc9
    clear hc9
    go_wp2_with fail
    refine Hc9.out.mono ?_
    rintro e w11 ⟨rfl, hu⟩
    clear y0 y1 yz Hc9
    have N := hide (N.out.trans_new hu)
    have HP := hide (HP.out.new_ hu)
    have HQ := hide (HQ.out.new_ hu)
    have HX := hide (HX.out.new_ hu)
    have HY := hide (HY.out.new_ hu)
    have HU := hide (HU.out.new_ hu)
    clear hu
    go_upto_region 12 with (fail)
    have hu : New w11 (w11.alloc (.cells #[.int .i64 a, .int .i64 n] TPf)) := (Upd.refl _ w11).alloc _
    have HV := hide (Blk.new w11 TPf #[.int .i64 a, .int .i64 n])
    generalize hW9 : w11.alloc (.cells #[.int .i64 a, .int .i64 n] TPf) = w12 at *
    clear hW9
    generalize w11.heap.size = V at *
    have N := hide (N.out.trans_new hu)
    have HP := hide (HP.out.new_ hu)
    have HQ := hide (HQ.out.new_ hu)
    have HX := hide (HX.out.new_ hu)
    have HY := hide (HY.out.new_ hu)
    have HU := hide (HU.out.new_ hu)
    clear hu
    obtain ⟨Z, hZ⟩ : ∃ Z : Int, Z = ((2 ^ (32 - (n + 1).toNat) : Nat) : Int) := ⟨_, rfl⟩
    obtain ⟨Z2, hZ2⟩ : ∃ Z2 : Int, Z2 = ((2 ^ (32 - n.toNat) : Nat) : Int) := ⟨_, rfl⟩
    have hzz : wrap64 (Z + Z) = Z2 := by
      have e := ih_size hP hn
      have p1 := pow_le32 (32 - n.toNat) (by omega)
      rw [hZ, hZ2]
      generalize 2 ^ (32 - (n + 1).toNat) = A at *
      generalize 2 ^ (32 - n.toNat) = B at *
      rw [show ((A : Int) + (A : Int)) = (B : Int) by omega]
      exact IntWalk.wrap64_in _ ⟨by omega, by omega⟩
    have HZ := hide hZ
    have HZ2 := hide hZ2
    have Hzz := hide hzz
    clear hZ hZ2 hzz
    go_cut [109] (fun v109_ wc => v109_ = .bool false ∧ New w12 wc)
    case first =>
      as_aux_lemma =>
        have bq := HP.out
        have p0 := bq.cell 0
        have p1 := bq.cell 1
        have pz := bq.lt
        simp only [List.getElem?_toArray, List.getElem?_cons_zero, List.getElem?_cons_succ] at p0 p1
        clear bq
        have bq := HX.out
        have x0 := bq.cell 0
        have x1 := bq.cell 1
        have xz := bq.lt
        simp only [List.getElem?_toArray, List.getElem?_cons_zero, List.getElem?_cons_succ] at x0 x1
        clear bq
        have bq := HY.out
        have y0 := bq.cell 0
        have y1 := bq.cell 1
        have yz := bq.lt
        simp only [List.getElem?_toArray, List.getElem?_cons_zero, List.getElem?_cons_succ] at y0 y1
        clear bq
        have bq := HU.out
        have u0 := bq.cell 0
        have u1 := bq.cell 1
        have uz := bq.lt
        simp only [List.getElem?_toArray, List.getElem?_cons_zero, List.getElem?_cons_succ] at u0 u1
        clear bq
        have bq := HV.out
        have v0 := bq.cell 0
        have v1 := bq.cell 1
        have vz := bq.lt
        simp only [List.getElem?_toArray, List.getElem?_cons_zero, List.getElem?_cons_succ] at v0 v1
        clear bq
        have hzz := Hzz.out
        have sx := fun w' (nw : New w12 w') => size_any a (n + 1) E w' (H2.out.new (N.out.trans_new nw)) (H3.out.new (N.out.trans_new nw))
        rw [if_pos Kx.out] at sx
        rw [← HZ.out] at sx
        have SX := hide sx
        clear sx
        have sy := fun w' (nw : New w12 w') => size_any (a + T) (n + 1) E w' (H2.out.new (N.out.trans_new nw)) (H3.out.new (N.out.trans_new nw))
        rw [if_pos Ky.out] at sy
        rw [← HZ.out] at sy
        have SY := hide sy
        clear sy
        have sp := fun w' (nw : New w12 w') => size_any a n E w' (H2.out.new (N.out.trans_new nw)) (H3.out.new (N.out.trans_new nw))
        rw [if_pos hP] at sp
        rw [← HZ2.out] at sp
        have SP := hide sp
        clear sp
        refine wp_region_new w12 (Upd.refl _ _) (by kernel_rfl) (by kernel_rfl) ?_
        iterate 19 (go_big_quiet_step ((go_at_call 66; exact new_call (SX.out _ (NewW.h _)))))
        iterate 2 (go_big_quiet_step ((go_at_call 66; exact new_call (SY.out _ (NewW.h _)))))
        repeat (go_big_quiet_step ((go_at_call 66; exact new_call (SP.out _ (NewW.h _)))))
        refine wpQuiet_nil ?_
        rintro _ ⟨nq, rfl⟩
        obtain ⟨wq, hu⟩ := nq
        dsimp only
        go_wp2_with fail
        go_meet
        exact ⟨by first | rfl | simp, hu⟩
    case rest =>
      obtain ⟨rfl, hu⟩ := hcut
      clear HX HY HU HV Kx Ky Kh Kl K1 K2 HT HZ HZ2 Hzz Hn11
      have N := hide (N.out.trans_new hu)
      have HP := hide (HP.out.new_ hu)
      have HQ := hide (HQ.out.new_ hu)
      clear hu
      generalize wc = w20 at *
      have H0 := hide (show n = 0 by omega)
      clear hn hnb hk
      have bq := HP.out
      have p0 := bq.cell 0
      have p1 := bq.cell 1
      have pz := bq.lt
      simp only [List.getElem?_toArray, List.getElem?_cons_zero, List.getElem?_cons_succ] at p0 p1
      clear bq
      have bq := HQ.out
      have q0 := bq.cell 0
      have q1 := bq.cell 1
      have qz := bq.lt
      simp only [List.getElem?_toArray, List.getElem?_cons_zero, List.getElem?_cons_succ] at q0 q1
      clear bq
      have hc9 := up_zero a n E w20 (H2.out.new N.out) (H3.out.new N.out) (H5.out.new N.out) hP H0.out
      unfold errv at hc9
      have Hc9 := hide hc9
      clear hc9
      go_wp2_with fail
      refine Hc9.out.mono ?_
      rintro e w21 ⟨rfl, hu⟩
      clear p0 p1 pz q0 q1 qz Hc9
      have N := hide (N.out.trans_new hu)
      have HP := hide (HP.out.new_ hu)
      have HQ := hide (HQ.out.new_ hu)
      clear hu
      go_upto_region 15 with (fail)
      have hu : New w21 (w21.alloc (.cells #[.int .i64 0, .int .i64 0] TPf)) := (Upd.refl _ w21).alloc _
      have HU := hide (Blk.new w21 TPf #[.int .i64 0, .int .i64 0])
      generalize hW9 : w21.alloc (.cells #[.int .i64 0, .int .i64 0] TPf) = w22 at *
      clear hW9
      generalize w21.heap.size = U at *
      have N := hide (N.out.trans_new hu)
      have HP := hide (HP.out.new_ hu)
      have HQ := hide (HQ.out.new_ hu)
      clear hu
      go_cut [130] (fun v9_ wc => v9_ = .bool (false) ∧ New w22 wc)
      case first =>
        as_aux_lemma =>
          have bq := HP.out
          have p0 := bq.cell 0
          have p1 := bq.cell 1
          have pz := bq.lt
          simp only [List.getElem?_toArray, List.getElem?_cons_zero, List.getElem?_cons_succ] at p0 p1
          clear bq
          have bq := HU.out
          have u0 := bq.cell 0
          have u1 := bq.cell 1
          have uz := bq.lt
          simp only [List.getElem?_toArray, List.getElem?_cons_zero, List.getElem?_cons_succ] at u0 u1
          clear bq
          have g0 : ¬ 0 < n := by have := H0.out; omega
          have g1 : decide (0 < n) = false := decide_eq_false g0
          refine wp_region_new w22 (Upd.refl _ _) (by kernel_rfl) (by kernel_rfl) ?_
          repeat (go_big_quiet_step (fail))
          refine wpQuiet_nil ?_
          rintro _ ⟨nq, rfl⟩
          obtain ⟨wq, hu⟩ := nq
          dsimp only
          go_wp2_with fail
          go_meet
          exact ⟨by first | rfl | simp, hu⟩
      case rest =>
        obtain ⟨rfl, hu⟩ := hcut
        have N := hide (N.out.trans_new hu)
        have HP := hide (HP.out.new_ hu)
        have HQ := hide (HQ.out.new_ hu)
        clear hu
        generalize wc = w23 at *
        clear HU
        go_upto_region 17 with (fail)
        go_cut [16] (fun v9_ wc => IsB v9_ (hasB a n x && hasB b m x) ∧ New w23 wc)
        case first =>
          as_aux_lemma =>
            have bq := HP.out
            have p0 := bq.cell 0
            have p1 := bq.cell 1
            have pz := bq.lt
            simp only [List.getElem?_toArray, List.getElem?_cons_zero, List.getElem?_cons_succ] at p0 p1
            clear bq
            have bq := HQ.out
            have q0 := bq.cell 0
            have q1 := bq.cell 1
            have qz := bq.lt
            simp only [List.getElem?_toArray, List.getElem?_cons_zero, List.getElem?_cons_succ] at q0 q1
            clear bq
            cases e1 : hasB a n x with
            | false =>
              have hc9 := has_any a n x E w23 (H2.out.new N.out) (H3.out.new N.out)
              rw [e1] at hc9
              have Hc9 := hide hc9
              clear hc9
              have E1 := hide e1
              clear e1
              go_wp2_with fail
              refine Hc9.out.mono ?_
              rintro e wb ⟨rfl, hu⟩
              clear p0 p1 pz q0 q1 qz Hc9
              go_wp2_with fail
              go_meet
              exact ⟨by unfold IsB; rw [E1.out]; rfl, hu⟩
            | true =>
              have hc9 := has_any a n x E w23 (H2.out.new N.out) (H3.out.new N.out)
              rw [e1] at hc9
              have Hc9 := hide hc9
              clear hc9
              have E1 := hide e1
              clear e1
              go_wp2_with fail
              refine Hc9.out.mono ?_
              rintro e wb ⟨rfl, hu⟩
              clear p0 p1 pz q0 q1 qz Hc9
              have U9 := hide hu
              have N := hide (N.out.trans_new hu)
              have HP := hide (HP.out.new_ hu)
              have HQ := hide (HQ.out.new_ hu)
              clear hu
              have bq := HP.out
              have p0 := bq.cell 0
              have p1 := bq.cell 1
              have pz := bq.lt
              simp only [List.getElem?_toArray, List.getElem?_cons_zero, List.getElem?_cons_succ] at p0 p1
              clear bq
              have bq := HQ.out
              have q0 := bq.cell 0
              have q1 := bq.cell 1
              have qz := bq.lt
              simp only [List.getElem?_toArray, List.getElem?_cons_zero, List.getElem?_cons_succ] at q0 q1
              clear bq
              have Hc9 := hide (has_any b m x E wb (H2.out.new N.out) (H3.out.new N.out))
              go_wp2_with fail
              refine Hc9.out.mono ?_
              rintro e wd ⟨rfl, hu⟩
              go_wp2_with fail
              go_meet
              exact ⟨by unfold IsB; rw [E1.out]; rfl, U9.out.trans_new hu⟩
        case rest =>
          obtain ⟨hv9, hu⟩ := hcut
          unfold IsB at hv9
          subst hv9
          have N := hide (N.out.trans_new hu)
          have HP := hide (HP.out.new_ hu)
          have HQ := hide (HQ.out.new_ hu)
          clear hu
          generalize wc = w24 at *
          go_upto_region 18 with (fail)
          go_cut [16, 151] (fun vx_ v9_ wc => v9_ = .bool (false) ∧ New w24 wc)
          case first =>
            as_aux_lemma =>
              cases eb : (hasB a n x && hasB b m x) with
              | false =>
                go_wp2_with fail
                go_meet
                exact ⟨rfl, Upd.refl _ _⟩
              | true =>
                obtain ⟨i1, i2⟩ := Bool.and_eq_true_iff.1 eb
                have hboth := ih_both hP hQ x i1 i2
                have Hb2 := hide hboth
                clear i1 i2 hboth eb
                cases e2 : inB a n b m with
                | false =>
                  have bq := HP.out
                  have p0 := bq.cell 0
                  have p1 := bq.cell 1
                  have pz := bq.lt
                  simp only [List.getElem?_toArray, List.getElem?_cons_zero, List.getElem?_cons_succ] at p0 p1
                  clear bq
                  have bq := HQ.out
                  have q0 := bq.cell 0
                  have q1 := bq.cell 1
                  have qz := bq.lt
                  simp only [List.getElem?_toArray, List.getElem?_cons_zero, List.getElem?_cons_succ] at q0 q1
                  clear bq
                  have E3 := hide (show inB b m a n = true from Hb2.out.resolve_left (by rw [e2]; simp))
                  have E2 := hide e2
                  clear e2
                  have hc9 := in_any a n b m E w24 (H2.out.new N.out) (H3.out.new N.out)
                  rw [E2.out] at hc9
                  have Hc9 := hide hc9
                  clear hc9
                  go_wp2_with fail
                  refine Hc9.out.mono ?_
                  rintro e wb ⟨rfl, hu⟩
                  clear p0 p1 pz q0 q1 qz Hc9
                  have U9 := hide hu
                  have N := hide (N.out.trans_new hu)
                  have HP := hide (HP.out.new_ hu)
                  have HQ := hide (HQ.out.new_ hu)
                  clear hu
                  have bq := HP.out
                  have p0 := bq.cell 0
                  have p1 := bq.cell 1
                  have pz := bq.lt
                  simp only [List.getElem?_toArray, List.getElem?_cons_zero, List.getElem?_cons_succ] at p0 p1
                  clear bq
                  have bq := HQ.out
                  have q0 := bq.cell 0
                  have q1 := bq.cell 1
                  have qz := bq.lt
                  simp only [List.getElem?_toArray, List.getElem?_cons_zero, List.getElem?_cons_succ] at q0 q1
                  clear bq
                  have hc9 := in_any b m a n E wb (H2.out.new N.out) (H3.out.new N.out)
                  rw [E3.out] at hc9
                  have Hc9 := hide hc9
                  clear hc9
                  go_wp2_with fail
                  refine Hc9.out.mono ?_
                  rintro e wd ⟨rfl, hu⟩
                  clear p0 p1 pz q0 q1 qz Hc9
                  go_wp2_with fail
                  go_meet
                  exact ⟨rfl, U9.out.trans_new hu⟩
                | true =>
                  have bq := HP.out
                  have p0 := bq.cell 0
                  have p1 := bq.cell 1
                  have pz := bq.lt
                  simp only [List.getElem?_toArray, List.getElem?_cons_zero, List.getElem?_cons_succ] at p0 p1
                  clear bq
                  have bq := HQ.out
                  have q0 := bq.cell 0
                  have q1 := bq.cell 1
                  have qz := bq.lt
                  simp only [List.getElem?_toArray, List.getElem?_cons_zero, List.getElem?_cons_succ] at q0 q1
                  clear bq
                  have E2 := hide e2
                  clear e2
                  have hc9 := in_any a n b m E w24 (H2.out.new N.out) (H3.out.new N.out)
                  rw [E2.out] at hc9
                  have Hc9 := hide hc9
                  clear hc9
                  go_wp2_with fail
                  refine Hc9.out.mono ?_
                  rintro e wb ⟨rfl, hu⟩
                  clear p0 p1 pz q0 q1 qz Hc9
                  go_wp2_with fail
                  go_meet
                  exact ⟨rfl, hu⟩
          case rest =>
            obtain ⟨rfl, hu⟩ := hcut
            have N := hide (N.out.trans_new hu)
            have HP := hide (HP.out.new_ hu)
            have HQ := hide (HQ.out.new_ hu)
            clear hu
            generalize wc = w25 at *
            by_cases hx : 0 ≤ x ∧ x < 4294967296
            · have hcu := ih_cut hP x hx
              obtain ⟨Y1, hY1⟩ : ∃ Y1 : Int, Y1 = x - (low x.toNat n.toNat : Int) := ⟨_, rfl⟩
              rw [← hY1] at hcu
              have Hcu := hide hcu
              have HY1 := hide hY1
              clear hcu hY1
              have bq := HP.out
              have p0 := bq.cell 0
              have p1 := bq.cell 1
              have pz := bq.lt
              simp only [List.getElem?_toArray, List.getElem?_cons_zero, List.getElem?_cons_succ] at p0 p1
              clear bq
              have bq := HQ.out
              have q0 := bq.cell 0
              have q1 := bq.cell 1
              have qz := bq.lt
              simp only [List.getElem?_toArray, List.getElem?_cons_zero, List.getElem?_cons_succ] at q0 q1
              clear bq
              have hc9 := cut_yes x n hx hn9 w25
              rw [← HY1.out] at hc9
              have Hc9 := hide hc9
              clear hc9
              go_wp2_with fail
              refine Hc9.out.mono ?_
              rintro e w26 ⟨rfl, hu⟩
              clear p0 p1 pz q0 q1 qz Hc9
              have N := hide (N.out.trans_new hu)
              have HP := hide (HP.out.new_ hu)
              have HQ := hide (HQ.out.new_ hu)
              clear hu
              go_upto_region 21 with (fail)
              have hu : New w26 (w26.alloc (.cells #[.int .i64 Y1, .int .i64 n] TPf)) := (Upd.refl _ w26).alloc _
              have HC := hide (Blk.new w26 TPf #[.int .i64 Y1, .int .i64 n])
              generalize hW9 : w26.alloc (.cells #[.int .i64 Y1, .int .i64 n] TPf) = w27 at *
              clear hW9
              generalize w26.heap.size = C at *
              have N := hide (N.out.trans_new hu)
              have HP := hide (HP.out.new_ hu)
              have HQ := hide (HQ.out.new_ hu)
              clear hu
              go_cut [169] (fun v9_ wc => v9_ = .bool (false) ∧ New w27 wc)
              case first =>
                as_aux_lemma =>
                  by_cases hc : Y1 = a
                  · have hcb : (Y1 == a) = true := by simp [hc]
                    have bq := HP.out
                    have p0 := bq.cell 0
                    have p1 := bq.cell 1
                    have pz := bq.lt
                    simp only [List.getElem?_toArray, List.getElem?_cons_zero, List.getElem?_cons_succ] at p0 p1
                    clear bq
                    have bq := HC.out
                    have c0 := bq.cell 0
                    have c1 := bq.cell 1
                    have cz := bq.lt
                    simp only [List.getElem?_toArray, List.getElem?_cons_zero, List.getElem?_cons_succ] at c0 c1
                    clear bq
                    have lp := fun w' (nw : New w27 w') => has_any a n x E w' (H2.out.new (N.out.trans_new nw)) (H3.out.new (N.out.trans_new nw))
                    rw [Hcu.out] at lp
                    rw [decide_eq_true hc] at lp
                    have LP := hide lp
                    clear lp
                    subst hc
                    refine wp_region_new w27 (Upd.refl _ _) (by kernel_rfl) (by kernel_rfl) ?_
                    repeat (go_big_quiet_step ((go_at_call 64; exact new_call (LP.out _ (NewW.h _)))))
                    refine wpQuiet_nil ?_
                    rintro _ ⟨nq, rfl⟩
                    obtain ⟨wq, hu⟩ := nq
                    dsimp only
                    go_wp2_with fail
                    go_meet
                    exact ⟨by first | rfl | simp, hu⟩
                  · have hcb : (Y1 == a) = false := by simp [hc]
                    have bq := HP.out
                    have p0 := bq.cell 0
                    have p1 := bq.cell 1
                    have pz := bq.lt
                    simp only [List.getElem?_toArray, List.getElem?_cons_zero, List.getElem?_cons_succ] at p0 p1
                    clear bq
                    have bq := HC.out
                    have c0 := bq.cell 0
                    have c1 := bq.cell 1
                    have cz := bq.lt
                    simp only [List.getElem?_toArray, List.getElem?_cons_zero, List.getElem?_cons_succ] at c0 c1
                    clear bq
                    have lp := fun w' (nw : New w27 w') => has_any a n x E w' (H2.out.new (N.out.trans_new nw)) (H3.out.new (N.out.trans_new nw))
                    rw [Hcu.out] at lp
                    rw [decide_eq_false hc] at lp
                    have LP := hide lp
                    clear lp
                    refine wp_region_new w27 (Upd.refl _ _) (by kernel_rfl) (by kernel_rfl) ?_
                    repeat (go_big_quiet_step ((go_at_call 64; exact new_call (LP.out _ (NewW.h _)))))
                    refine wpQuiet_nil ?_
                    rintro _ ⟨nq, rfl⟩
                    obtain ⟨wq, hu⟩ := nq
                    dsimp only
                    go_wp2_with fail
                    go_meet
                    exact ⟨by first | rfl | simp, hu⟩
              case rest =>
                obtain ⟨rfl, hu⟩ := hcut
                have N := hide (N.out.trans_new hu)
                have HP := hide (HP.out.new_ hu)
                have HQ := hide (HQ.out.new_ hu)
                clear hu
                generalize wc = w28 at *
                clear HC HY1 Hcu
                have bq := HP.out
                have p0 := bq.cell 0
                have p1 := bq.cell 1
                have pz := bq.lt
                simp only [List.getElem?_toArray, List.getElem?_cons_zero, List.getElem?_cons_succ] at p0 p1
                clear bq
                have bq := HQ.out
                have q0 := bq.cell 0
                have q1 := bq.cell 1
                have qz := bq.lt
                simp only [List.getElem?_toArray, List.getElem?_cons_zero, List.getElem?_cons_succ] at q0 q1
                clear bq
                have hc9 := text_any a n E w28 (H.out.new N.out) (H2.out.new N.out) (H3.out.new N.out)
                have Hc9 := hide hc9
                clear hc9
                go_wp2_with fail
                refine Hc9.out.mono ?_
                rintro e w29 ⟨rfl, hu⟩
                clear p0 p1 pz q0 q1 qz Hc9
                have N := hide (N.out.trans_new hu)
                have HP := hide (HP.out.new_ hu)
                have HQ := hide (HQ.out.new_ hu)
                clear hu
                have hl9 := prefT_len a n hP
                have hre := read_any ⟨(prefT a n).toArray⟩ E w29 (H.out.new N.out) (H1.out.new N.out) (H2.out.new N.out) (H3.out.new N.out) (by show (prefT a n).toArray.size ≤ 1000000; simp; omega)
                rw [readP_text a n hP] at hre
                dsimp only at hre
                rw [errc_nil0] at hre
                have Hre := hide hre
                clear hre hl9
                go_wp2_with fail
                refine Hre.out.mono ?_
                rintro e w30 ⟨rfl, hu⟩
                clear Hre
                have N := hide (N.out.trans_new hu)
                have HP := hide (HP.out.new_ hu)
                have HQ := hide (HQ.out.new_ hu)
                clear hu
                go_upto_region 24 with (fail)
                have hu : New w30 (w30.alloc (.cells #[.int .i64 a, .int .i64 n] TPf)) := (Upd.refl _ w30).alloc _
                have HR := hide (Blk.new w30 TPf #[.int .i64 a, .int .i64 n])
                generalize hW9 : w30.alloc (.cells #[.int .i64 a, .int .i64 n] TPf) = w31 at *
                clear hW9
                generalize w30.heap.size = R at *
                have N := hide (N.out.trans_new hu)
                have HP := hide (HP.out.new_ hu)
                have HQ := hide (HQ.out.new_ hu)
                clear hu
                go_cut [6] (fun v9_ wc => v9_ = .bool (true) ∧ New w31 wc)
                case first =>
                  as_aux_lemma =>
                    by_cases he : a = b ∧ n = m
                    · obtain ⟨rfl, rfl⟩ := he
                      have hs := (io_self hP).2
                      have Hs := hide hs
                      clear hs
                      have bq := HP.out
                      have p0 := bq.cell 0
                      have p1 := bq.cell 1
                      have pz := bq.lt
                      simp only [List.getElem?_toArray, List.getElem?_cons_zero, List.getElem?_cons_succ] at p0 p1
                      clear bq
                      have bq := HQ.out
                      have q0 := bq.cell 0
                      have q1 := bq.cell 1
                      have qz := bq.lt
                      simp only [List.getElem?_toArray, List.getElem?_cons_zero, List.getElem?_cons_succ] at q0 q1
                      clear bq
                      have bq := HR.out
                      have r0 := bq.cell 0
                      have r1 := bq.cell 1
                      have rz := bq.lt
                      simp only [List.getElem?_toArray, List.getElem?_cons_zero, List.getElem?_cons_succ] at r0 r1
                      clear bq
                      have lp := fun w' (nw : New w31 w') => in_any a n a n E w' (H2.out.new (N.out.trans_new nw)) (H3.out.new (N.out.trans_new nw))
                      rw [Hs.out] at lp
                      have LP := hide lp
                      clear lp
                      have lq := fun w' (nw : New w31 w') => in_any a n a n E w' (H2.out.new (N.out.trans_new nw)) (H3.out.new (N.out.trans_new nw))
                      rw [Hs.out] at lq
                      have LQ := hide lq
                      clear lq
                      refine wp_region_new w31 (Upd.refl _ _) (by kernel_rfl) (by kernel_rfl) ?_
                      iterate 11 (go_big_quiet_step ((go_at_call 62; exact new_call (LP.out _ (NewW.h _)))))
                      repeat (go_big_quiet_step ((go_at_call 62; exact new_call (LQ.out _ (NewW.h _)))))
                      refine wpQuiet_nil ?_
                      rintro _ ⟨nq, rfl⟩
                      obtain ⟨wq, hu⟩ := nq
                      dsimp only
                      go_wp2_with fail
                      go_meet
                      exact ⟨by first | rfl | simp, hu⟩
                    · have He := hide he
                      by_cases hab : a = b
                      · subst hab
                        have hnm : ¬ n = m := fun h => He.out ⟨rfl, h⟩
                        have hnb : (n == m) = false := by simpa using hnm
                        clear he
                        cases e2 : inB a n a m with
                        | false =>
                          have E2 := hide e2
                          clear e2
                          have bq := HP.out
                          have p0 := bq.cell 0
                          have p1 := bq.cell 1
                          have pz := bq.lt
                          simp only [List.getElem?_toArray, List.getElem?_cons_zero, List.getElem?_cons_succ] at p0 p1
                          clear bq
                          have bq := HQ.out
                          have q0 := bq.cell 0
                          have q1 := bq.cell 1
                          have qz := bq.lt
                          simp only [List.getElem?_toArray, List.getElem?_cons_zero, List.getElem?_cons_succ] at q0 q1
                          clear bq
                          have bq := HR.out
                          have r0 := bq.cell 0
                          have r1 := bq.cell 1
                          have rz := bq.lt
                          simp only [List.getElem?_toArray, List.getElem?_cons_zero, List.getElem?_cons_succ] at r0 r1
                          clear bq
                          have lp := fun w' (nw : New w31 w') => in_any a n a m E w' (H2.out.new (N.out.trans_new nw)) (H3.out.new (N.out.trans_new nw))
                          rw [E2.out] at lp
                          have LP := hide lp
                          clear lp
                          refine wp_region_new w31 (Upd.refl _ _) (by kernel_rfl) (by kernel_rfl) ?_
                          iterate 11 (go_big_quiet_step ((go_at_call 62; exact new_call (LP.out _ (NewW.h _)))))
                          repeat (go_big_quiet_step ((go_at_call 62; exact new_call (LP.out _ (NewW.h _)))))
                          refine wpQuiet_nil ?_
                          rintro _ ⟨nq, rfl⟩
                          obtain ⟨wq, hu⟩ := nq
                          dsimp only
                          go_wp2_with fail
                          go_meet
                          exact ⟨by first | rfl | simp, hu⟩
                        | true =>
                          have E3 := hide (show inB a m a n = false from by cases e3 : inB a m a n with | false => rfl | true => exact absurd (ih_eq hP hQ e2 e3) He.out)
                          have E2 := hide e2
                          clear e2
                          have bq := HP.out
                          have p0 := bq.cell 0
                          have p1 := bq.cell 1
                          have pz := bq.lt
                          simp only [List.getElem?_toArray, List.getElem?_cons_zero, List.getElem?_cons_succ] at p0 p1
                          clear bq
                          have bq := HQ.out
                          have q0 := bq.cell 0
                          have q1 := bq.cell 1
                          have qz := bq.lt
                          simp only [List.getElem?_toArray, List.getElem?_cons_zero, List.getElem?_cons_succ] at q0 q1
                          clear bq
                          have bq := HR.out
                          have r0 := bq.cell 0
                          have r1 := bq.cell 1
                          have rz := bq.lt
                          simp only [List.getElem?_toArray, List.getElem?_cons_zero, List.getElem?_cons_succ] at r0 r1
                          clear bq
                          have lp := fun w' (nw : New w31 w') => in_any a n a m E w' (H2.out.new (N.out.trans_new nw)) (H3.out.new (N.out.trans_new nw))
                          rw [E2.out] at lp
                          have LP := hide lp
                          clear lp
                          have lq := fun w' (nw : New w31 w') => in_any a m a n E w' (H2.out.new (N.out.trans_new nw)) (H3.out.new (N.out.trans_new nw))
                          rw [E3.out] at lq
                          have LQ := hide lq
                          clear lq
                          refine wp_region_new w31 (Upd.refl _ _) (by kernel_rfl) (by kernel_rfl) ?_
                          iterate 11 (go_big_quiet_step ((go_at_call 62; exact new_call (LP.out _ (NewW.h _)))))
                          repeat (go_big_quiet_step ((go_at_call 62; exact new_call (LQ.out _ (NewW.h _)))))
                          refine wpQuiet_nil ?_
                          rintro _ ⟨nq, rfl⟩
                          obtain ⟨wq, hu⟩ := nq
                          dsimp only
                          go_wp2_with fail
                          go_meet
                          exact ⟨by first | rfl | simp, hu⟩
                      · have hnb : (a == b) = false := by simpa using hab
                        clear he
                        cases e2 : inB a n b m with
                        | false =>
                          have E2 := hide e2
                          clear e2
                          have bq := HP.out
                          have p0 := bq.cell 0
                          have p1 := bq.cell 1
                          have pz := bq.lt
                          simp only [List.getElem?_toArray, List.getElem?_cons_zero, List.getElem?_cons_succ] at p0 p1
                          clear bq
                          have bq := HQ.out
                          have q0 := bq.cell 0
                          have q1 := bq.cell 1
                          have qz := bq.lt
                          simp only [List.getElem?_toArray, List.getElem?_cons_zero, List.getElem?_cons_succ] at q0 q1
                          clear bq
                          have bq := HR.out
                          have r0 := bq.cell 0
                          have r1 := bq.cell 1
                          have rz := bq.lt
                          simp only [List.getElem?_toArray, List.getElem?_cons_zero, List.getElem?_cons_succ] at r0 r1
                          clear bq
                          have lp := fun w' (nw : New w31 w') => in_any a n b m E w' (H2.out.new (N.out.trans_new nw)) (H3.out.new (N.out.trans_new nw))
                          rw [E2.out] at lp
                          have LP := hide lp
                          clear lp
                          refine wp_region_new w31 (Upd.refl _ _) (by kernel_rfl) (by kernel_rfl) ?_
                          iterate 11 (go_big_quiet_step ((go_at_call 62; exact new_call (LP.out _ (NewW.h _)))))
                          repeat (go_big_quiet_step ((go_at_call 62; exact new_call (LP.out _ (NewW.h _)))))
                          refine wpQuiet_nil ?_
                          rintro _ ⟨nq, rfl⟩
                          obtain ⟨wq, hu⟩ := nq
                          dsimp only
                          go_wp2_with fail
                          go_meet
                          exact ⟨by first | rfl | simp, hu⟩
                        | true =>
                          have E3 := hide (show inB b m a n = false from by cases e3 : inB b m a n with | false => rfl | true => exact absurd (ih_eq hP hQ e2 e3) He.out)
                          have E2 := hide e2
                          clear e2
                          have bq := HP.out
                          have p0 := bq.cell 0
                          have p1 := bq.cell 1
                          have pz := bq.lt
                          simp only [List.getElem?_toArray, List.getElem?_cons_zero, List.getElem?_cons_succ] at p0 p1
                          clear bq
                          have bq := HQ.out
                          have q0 := bq.cell 0
                          have q1 := bq.cell 1
                          have qz := bq.lt
                          simp only [List.getElem?_toArray, List.getElem?_cons_zero, List.getElem?_cons_succ] at q0 q1
                          clear bq
                          have bq := HR.out
                          have r0 := bq.cell 0
                          have r1 := bq.cell 1
                          have rz := bq.lt
                          simp only [List.getElem?_toArray, List.getElem?_cons_zero, List.getElem?_cons_succ] at r0 r1
                          clear bq
                          have lp := fun w' (nw : New w31 w') => in_any a n b m E w' (H2.out.new (N.out.trans_new nw)) (H3.out.new (N.out.trans_new nw))
                          rw [E2.out] at lp
                          have LP := hide lp
                          clear lp
                          have lq := fun w' (nw : New w31 w') => in_any b m a n E w' (H2.out.new (N.out.trans_new nw)) (H3.out.new (N.out.trans_new nw))
                          rw [E3.out] at lq
                          have LQ := hide lq
                          clear lq
                          refine wp_region_new w31 (Upd.refl _ _) (by kernel_rfl) (by kernel_rfl) ?_
                          iterate 11 (go_big_quiet_step ((go_at_call 62; exact new_call (LP.out _ (NewW.h _)))))
                          repeat (go_big_quiet_step ((go_at_call 62; exact new_call (LQ.out _ (NewW.h _)))))
                          refine wpQuiet_nil ?_
                          rintro _ ⟨nq, rfl⟩
                          obtain ⟨wq, hu⟩ := nq
                          dsimp only
                          go_wp2_with fail
                          go_meet
                          exact ⟨by first | rfl | simp, hu⟩
                case rest =>
                  obtain ⟨rfl, hu⟩ := hcut
                  have N := hide (N.out.trans_new hu)
                  have HP := hide (HP.out.new_ hu)
                  have HQ := hide (HQ.out.new_ hu)
                  clear hu
                  generalize wc = w32 at *
                  go_wp2_with fail
                  go_ret
                  exact ⟨rfl, N.out⟩
            · have bq := HP.out
              have p0 := bq.cell 0
              have p1 := bq.cell 1
              have pz := bq.lt
              simp only [List.getElem?_toArray, List.getElem?_cons_zero, List.getElem?_cons_succ] at p0 p1
              clear bq
              have bq := HQ.out
              have q0 := bq.cell 0
              have q1 := bq.cell 1
              have qz := bq.lt
              simp only [List.getElem?_toArray, List.getElem?_cons_zero, List.getElem?_cons_succ] at q0 q1
              clear bq
              have hc9 := cut_no x n E (fun hh => hx ⟨hh.1, hh.2.1⟩) w25 (H2.out.new N.out)
              unfold errv at hc9
              have Hc9 := hide hc9
              clear hc9
              go_wp2_with fail
              refine Hc9.out.mono ?_
              rintro e w26 ⟨rfl, hu⟩
              clear p0 p1 pz q0 q1 qz Hc9
              have N := hide (N.out.trans_new hu)
              have HP := hide (HP.out.new_ hu)
              have HQ := hide (HQ.out.new_ hu)
              clear hu
              go_upto_region 21 with (fail)
              have hu : New w26 (w26.alloc (.cells #[.int .i64 0, .int .i64 0] TPf)) := (Upd.refl _ w26).alloc _
              have HC := hide (Blk.new w26 TPf #[.int .i64 0, .int .i64 0])
              generalize hW9 : w26.alloc (.cells #[.int .i64 0, .int .i64 0] TPf) = w27 at *
              clear hW9
              generalize w26.heap.size = C at *
              have N := hide (N.out.trans_new hu)
              have HP := hide (HP.out.new_ hu)
              have HQ := hide (HQ.out.new_ hu)
              clear hu
              go_cut [169] (fun v9_ wc => v9_ = .bool (false) ∧ New w27 wc)
              case first =>
                as_aux_lemma =>
                  have bq := HP.out
                  have p0 := bq.cell 0
                  have p1 := bq.cell 1
                  have pz := bq.lt
                  simp only [List.getElem?_toArray, List.getElem?_cons_zero, List.getElem?_cons_succ] at p0 p1
                  clear bq
                  have bq := HC.out
                  have c0 := bq.cell 0
                  have c1 := bq.cell 1
                  have cz := bq.lt
                  simp only [List.getElem?_toArray, List.getElem?_cons_zero, List.getElem?_cons_succ] at c0 c1
                  clear bq
                  refine wp_region_new w27 (Upd.refl _ _) (by kernel_rfl) (by kernel_rfl) ?_
                  repeat (go_big_quiet_step (fail))
                  refine wpQuiet_nil ?_
                  rintro _ ⟨nq, rfl⟩
                  obtain ⟨wq, hu⟩ := nq
                  dsimp only
                  go_wp2_with fail
                  go_meet
                  exact ⟨by first | rfl | simp, hu⟩
              case rest =>
                obtain ⟨rfl, hu⟩ := hcut
                have N := hide (N.out.trans_new hu)
                have HP := hide (HP.out.new_ hu)
                have HQ := hide (HQ.out.new_ hu)
                clear hu
                generalize wc = w28 at *
                clear HC
                have bq := HP.out
                have p0 := bq.cell 0
                have p1 := bq.cell 1
                have pz := bq.lt
                simp only [List.getElem?_toArray, List.getElem?_cons_zero, List.getElem?_cons_succ] at p0 p1
                clear bq
                have bq := HQ.out
                have q0 := bq.cell 0
                have q1 := bq.cell 1
                have qz := bq.lt
                simp only [List.getElem?_toArray, List.getElem?_cons_zero, List.getElem?_cons_succ] at q0 q1
                clear bq
                have hc9 := text_any a n E w28 (H.out.new N.out) (H2.out.new N.out) (H3.out.new N.out)
                have Hc9 := hide hc9
                clear hc9
                go_wp2_with fail
                refine Hc9.out.mono ?_
                rintro e w29 ⟨rfl, hu⟩
                clear p0 p1 pz q0 q1 qz Hc9
                have N := hide (N.out.trans_new hu)
                have HP := hide (HP.out.new_ hu)
                have HQ := hide (HQ.out.new_ hu)
                clear hu
                have hl9 := prefT_len a n hP
                have hre := read_any ⟨(prefT a n).toArray⟩ E w29 (H.out.new N.out) (H1.out.new N.out) (H2.out.new N.out) (H3.out.new N.out) (by show (prefT a n).toArray.size ≤ 1000000; simp; omega)
                rw [readP_text a n hP] at hre
                dsimp only at hre
                rw [errc_nil0] at hre
                have Hre := hide hre
                clear hre hl9
                go_wp2_with fail
                refine Hre.out.mono ?_
                rintro e w30 ⟨rfl, hu⟩
                clear Hre
                have N := hide (N.out.trans_new hu)
                have HP := hide (HP.out.new_ hu)
                have HQ := hide (HQ.out.new_ hu)
                clear hu
                go_upto_region 24 with (fail)
                have hu : New w30 (w30.alloc (.cells #[.int .i64 a, .int .i64 n] TPf)) := (Upd.refl _ w30).alloc _
                have HR := hide (Blk.new w30 TPf #[.int .i64 a, .int .i64 n])
                generalize hW9 : w30.alloc (.cells #[.int .i64 a, .int .i64 n] TPf) = w31 at *
                clear hW9
                generalize w30.heap.size = R at *
                have N := hide (N.out.trans_new hu)
                have HP := hide (HP.out.new_ hu)
                have HQ := hide (HQ.out.new_ hu)
                clear hu
                go_cut [6] (fun v9_ wc => v9_ = .bool (true) ∧ New w31 wc)
                case first =>
                  as_aux_lemma =>
                    by_cases he : a = b ∧ n = m
                    · obtain ⟨rfl, rfl⟩ := he
                      have hs := (io_self hP).2
                      have Hs := hide hs
                      clear hs
                      have bq := HP.out
                      have p0 := bq.cell 0
                      have p1 := bq.cell 1
                      have pz := bq.lt
                      simp only [List.getElem?_toArray, List.getElem?_cons_zero, List.getElem?_cons_succ] at p0 p1
                      clear bq
                      have bq := HQ.out
                      have q0 := bq.cell 0
                      have q1 := bq.cell 1
                      have qz := bq.lt
                      simp only [List.getElem?_toArray, List.getElem?_cons_zero, List.getElem?_cons_succ] at q0 q1
                      clear bq
                      have bq := HR.out
                      have r0 := bq.cell 0
                      have r1 := bq.cell 1
                      have rz := bq.lt
                      simp only [List.getElem?_toArray, List.getElem?_cons_zero, List.getElem?_cons_succ] at r0 r1
                      clear bq
                      have lp := fun w' (nw : New w31 w') => in_any a n a n E w' (H2.out.new (N.out.trans_new nw)) (H3.out.new (N.out.trans_new nw))
                      rw [Hs.out] at lp
                      have LP := hide lp
                      clear lp
                      have lq := fun w' (nw : New w31 w') => in_any a n a n E w' (H2.out.new (N.out.trans_new nw)) (H3.out.new (N.out.trans_new nw))
                      rw [Hs.out] at lq
                      have LQ := hide lq
                      clear lq
                      refine wp_region_new w31 (Upd.refl _ _) (by kernel_rfl) (by kernel_rfl) ?_
                      iterate 11 (go_big_quiet_step ((go_at_call 62; exact new_call (LP.out _ (NewW.h _)))))
                      repeat (go_big_quiet_step ((go_at_call 62; exact new_call (LQ.out _ (NewW.h _)))))
                      refine wpQuiet_nil ?_
                      rintro _ ⟨nq, rfl⟩
                      obtain ⟨wq, hu⟩ := nq
                      dsimp only
                      go_wp2_with fail
                      go_meet
                      exact ⟨by first | rfl | simp, hu⟩
                    · have He := hide he
                      by_cases hab : a = b
                      · subst hab
                        have hnm : ¬ n = m := fun h => He.out ⟨rfl, h⟩
                        have hnb : (n == m) = false := by simpa using hnm
                        clear he
                        cases e2 : inB a n a m with
                        | false =>
                          have E2 := hide e2
                          clear e2
                          have bq := HP.out
                          have p0 := bq.cell 0
                          have p1 := bq.cell 1
                          have pz := bq.lt
                          simp only [List.getElem?_toArray, List.getElem?_cons_zero, List.getElem?_cons_succ] at p0 p1
                          clear bq
                          have bq := HQ.out
                          have q0 := bq.cell 0
                          have q1 := bq.cell 1
                          have qz := bq.lt
                          simp only [List.getElem?_toArray, List.getElem?_cons_zero, List.getElem?_cons_succ] at q0 q1
                          clear bq
                          have bq := HR.out
                          have r0 := bq.cell 0
                          have r1 := bq.cell 1
                          have rz := bq.lt
                          simp only [List.getElem?_toArray, List.getElem?_cons_zero, List.getElem?_cons_succ] at r0 r1
                          clear bq
                          have lp := fun w' (nw : New w31 w') => in_any a n a m E w' (H2.out.new (N.out.trans_new nw)) (H3.out.new (N.out.trans_new nw))
                          rw [E2.out] at lp
                          have LP := hide lp
                          clear lp
                          refine wp_region_new w31 (Upd.refl _ _) (by kernel_rfl) (by kernel_rfl) ?_
                          iterate 11 (go_big_quiet_step ((go_at_call 62; exact new_call (LP.out _ (NewW.h _)))))
                          repeat (go_big_quiet_step ((go_at_call 62; exact new_call (LP.out _ (NewW.h _)))))
                          refine wpQuiet_nil ?_
                          rintro _ ⟨nq, rfl⟩
                          obtain ⟨wq, hu⟩ := nq
                          dsimp only
                          go_wp2_with fail
                          go_meet
                          exact ⟨by first | rfl | simp, hu⟩
                        | true =>
                          have E3 := hide (show inB a m a n = false from by cases e3 : inB a m a n with | false => rfl | true => exact absurd (ih_eq hP hQ e2 e3) He.out)
                          have E2 := hide e2
                          clear e2
                          have bq := HP.out
                          have p0 := bq.cell 0
                          have p1 := bq.cell 1
                          have pz := bq.lt
                          simp only [List.getElem?_toArray, List.getElem?_cons_zero, List.getElem?_cons_succ] at p0 p1
                          clear bq
                          have bq := HQ.out
                          have q0 := bq.cell 0
                          have q1 := bq.cell 1
                          have qz := bq.lt
                          simp only [List.getElem?_toArray, List.getElem?_cons_zero, List.getElem?_cons_succ] at q0 q1
                          clear bq
                          have bq := HR.out
                          have r0 := bq.cell 0
                          have r1 := bq.cell 1
                          have rz := bq.lt
                          simp only [List.getElem?_toArray, List.getElem?_cons_zero, List.getElem?_cons_succ] at r0 r1
                          clear bq
                          have lp := fun w' (nw : New w31 w') => in_any a n a m E w' (H2.out.new (N.out.trans_new nw)) (H3.out.new (N.out.trans_new nw))
                          rw [E2.out] at lp
                          have LP := hide lp
                          clear lp
                          have lq := fun w' (nw : New w31 w') => in_any a m a n E w' (H2.out.new (N.out.trans_new nw)) (H3.out.new (N.out.trans_new nw))
                          rw [E3.out] at lq
                          have LQ := hide lq
                          clear lq
                          refine wp_region_new w31 (Upd.refl _ _) (by kernel_rfl) (by kernel_rfl) ?_
                          iterate 11 (go_big_quiet_step ((go_at_call 62; exact new_call (LP.out _ (NewW.h _)))))
                          repeat (go_big_quiet_step ((go_at_call 62; exact new_call (LQ.out _ (NewW.h _)))))
                          refine wpQuiet_nil ?_
                          rintro _ ⟨nq, rfl⟩
                          obtain ⟨wq, hu⟩ := nq
                          dsimp only
                          go_wp2_with fail
                          go_meet
                          exact ⟨by first | rfl | simp, hu⟩
                      · have hnb : (a == b) = false := by simpa using hab
                        clear he
                        cases e2 : inB a n b m with
                        | false =>
                          have E2 := hide e2
                          clear e2
                          have bq := HP.out
                          have p0 := bq.cell 0
                          have p1 := bq.cell 1
                          have pz := bq.lt
                          simp only [List.getElem?_toArray, List.getElem?_cons_zero, List.getElem?_cons_succ] at p0 p1
                          clear bq
                          have bq := HQ.out
                          have q0 := bq.cell 0
                          have q1 := bq.cell 1
                          have qz := bq.lt
                          simp only [List.getElem?_toArray, List.getElem?_cons_zero, List.getElem?_cons_succ] at q0 q1
                          clear bq
                          have bq := HR.out
                          have r0 := bq.cell 0
                          have r1 := bq.cell 1
                          have rz := bq.lt
                          simp only [List.getElem?_toArray, List.getElem?_cons_zero, List.getElem?_cons_succ] at r0 r1
                          clear bq
                          have lp := fun w' (nw : New w31 w') => in_any a n b m E w' (H2.out.new (N.out.trans_new nw)) (H3.out.new (N.out.trans_new nw))
                          rw [E2.out] at lp
                          have LP := hide lp
                          clear lp
                          refine wp_region_new w31 (Upd.refl _ _) (by kernel_rfl) (by kernel_rfl) ?_
                          iterate 11 (go_big_quiet_step ((go_at_call 62; exact new_call (LP.out _ (NewW.h _)))))
                          repeat (go_big_quiet_step ((go_at_call 62; exact new_call (LP.out _ (NewW.h _)))))
                          refine wpQuiet_nil ?_
                          rintro _ ⟨nq, rfl⟩
                          obtain ⟨wq, hu⟩ := nq
                          dsimp only
                          go_wp2_with fail
                          go_meet
                          exact ⟨by first | rfl | simp, hu⟩
                        | true =>
                          have E3 := hide (show inB b m a n = false from by cases e3 : inB b m a n with | false => rfl | true => exact absurd (ih_eq hP hQ e2 e3) He.out)
                          have E2 := hide e2
                          clear e2
                          have bq := HP.out
                          have p0 := bq.cell 0
                          have p1 := bq.cell 1
                          have pz := bq.lt
                          simp only [List.getElem?_toArray, List.getElem?_cons_zero, List.getElem?_cons_succ] at p0 p1
                          clear bq
                          have bq := HQ.out
                          have q0 := bq.cell 0
                          have q1 := bq.cell 1
                          have qz := bq.lt
                          simp only [List.getElem?_toArray, List.getElem?_cons_zero, List.getElem?_cons_succ] at q0 q1
                          clear bq
                          have bq := HR.out
                          have r0 := bq.cell 0
                          have r1 := bq.cell 1
                          have rz := bq.lt
                          simp only [List.getElem?_toArray, List.getElem?_cons_zero, List.getElem?_cons_succ] at r0 r1
                          clear bq
                          have lp := fun w' (nw : New w31 w') => in_any a n b m E w' (H2.out.new (N.out.trans_new nw)) (H3.out.new (N.out.trans_new nw))
                          rw [E2.out] at lp
                          have LP := hide lp
                          clear lp
                          have lq := fun w' (nw : New w31 w') => in_any b m a n E w' (H2.out.new (N.out.trans_new nw)) (H3.out.new (N.out.trans_new nw))
                          rw [E3.out] at lq
                          have LQ := hide lq
                          clear lq
                          refine wp_region_new w31 (Upd.refl _ _) (by kernel_rfl) (by kernel_rfl) ?_
                          iterate 11 (go_big_quiet_step ((go_at_call 62; exact new_call (LP.out _ (NewW.h _)))))
                          repeat (go_big_quiet_step ((go_at_call 62; exact new_call (LQ.out _ (NewW.h _)))))
                          refine wpQuiet_nil ?_
                          rintro _ ⟨nq, rfl⟩
                          obtain ⟨wq, hu⟩ := nq
                          dsimp only
                          go_wp2_with fail
                          go_meet
                          exact ⟨by first | rfl | simp, hu⟩
                case rest =>
                  obtain ⟨rfl, hu⟩ := hcut
                  have N := hide (N.out.trans_new hu)
                  have HP := hide (HP.out.new_ hu)
                  have HQ := hide (HQ.out.new_ hu)
                  clear hu
                  generalize wc = w32 at *
                  go_wp2_with fail
                  go_ret
                  exact ⟨rfl, N.out⟩
end Go.Proofs.YtkljanjapcpbdaaDoor
