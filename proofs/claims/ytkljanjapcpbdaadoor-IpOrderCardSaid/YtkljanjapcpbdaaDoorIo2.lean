/- The law IpOrder: its walk. No condition but those that stand in each theorem. -/
import Derived.Test.YtkljanjapcpbdaaDoorTx6
import Derived.Test.YtkljanjapcpbdaaDoorIo1
namespace Go.Proofs.YtkljanjapcpbdaaDoor
open Go.RowKit

set_option maxRecDepth 20000 in
set_option maxHeartbeats 16000000 in
theorem ipOrder_any (a n b m c o : Int) (E : Nat → Addr) (w : World) (h : TxtOk w) (h1 : Sen w gText1 (E 1)) (h2 : Sen w gBound (E 2)) (h3 : Sen w gShape (E 3)) :
    Calls Tryd.prog 8 #[.agg #[.int .i64 a, .int .i64 n], .agg #[.int .i64 b, .int .i64 m], .agg #[.int .i64 c, .int .i64 o]] w fun e w1 => e = .returned (.bool true) ∧ New w w1 := by
  have u := (((Upd.refl (fun _ => False) w).alloc (.cells #[.int .i64 a, .int .i64 n] TPf)).alloc (.cells #[.int .i64 b, .int .i64 m] TPf)).alloc (.cells #[.int .i64 c, .int .i64 o] TPf)
  have N := hide u
  have HP := hide (((Blk.new w TPf #[.int .i64 a, .int .i64 n]).alloc (.cells #[.int .i64 b, .int .i64 m] TPf)).alloc (.cells #[.int .i64 c, .int .i64 o] TPf))
  have HQ := hide ((Blk.at_ (w.alloc (.cells #[.int .i64 a, .int .i64 n] TPf)) TPf #[.int .i64 b, .int .i64 m] (w.heap.size + 1) (by simp)).alloc (.cells #[.int .i64 c, .int .i64 o] TPf))
  have HS := hide (Blk.at_ ((w.alloc (.cells #[.int .i64 a, .int .i64 n] TPf)).alloc (.cells #[.int .i64 b, .int .i64 m] TPf)) TPf #[.int .i64 c, .int .i64 o] (w.heap.size + 1 + 1) (by simp))
  have Had := hide (fun w' (nw : New w w') => addressed_any E w' (h.new nw) (h1.new nw) (h2.new nw) (h3.new nw))
  have H2 := hide h2
  have H3 := hide h3
  clear u h h1 h2 h3
  go_enter Tryd.func8, Tryd.ntmps8
  go_upto_region 1 with (fail)
  generalize ((w.alloc (.cells #[.int .i64 a, .int .i64 n] TPf)).alloc (.cells #[.int .i64 b, .int .i64 m] TPf)).alloc (.cells #[.int .i64 c, .int .i64 o] TPf) = W at *
  go_wp2_with fail
  refine (Had.out _ N.out).mono ?_
  rintro e w1 ⟨rfl, hu⟩
  have N := hide (N.out.trans_new hu)
  have HP := hide (HP.out.new_ hu)
  have HQ := hide (HQ.out.new_ hu)
  have HS := hide (HS.out.new_ hu)
  clear hu
  have bq := HP.out
  have p0 := bq.cell 0
  have p1 := bq.cell 1
  have pz := bq.lt
  simp only [List.getElem?_toArray, List.getElem?_cons_zero, List.getElem?_cons_succ] at p0 p1
  clear bq
  have bq := HQ.out
  have q0 := bq.cell 0
  have q1 := bq.cell 1
  have qz := bq.lt
  simp only [List.getElem?_toArray, List.getElem?_cons_zero, List.getElem?_cons_succ] at q0 q1
  clear bq
  have bq := HS.out
  have s0 := bq.cell 0
  have s1 := bq.cell 1
  have sz := bq.lt
  simp only [List.getElem?_toArray, List.getElem?_cons_zero, List.getElem?_cons_succ] at s0 s1
  clear bq
  by_cases hP : chk a n = 0
  rotate_left
  · have hc9 := check_no a n E w1 (H2.out.new N.out) (H3.out.new N.out) hP
    unfold errv at hc9
    have Hc9 := hide hc9
    clear hc9
    go_wp2_with fail
    refine Hc9.out.mono ?_
    rintro e w99 ⟨rfl, hu⟩
    have N := hide (N.out.trans_new hu)
    clear hu
    go_wp2_with fail
    go_ret
    exact ⟨rfl, N.out⟩
  have Hc9 := hide (check_yes a n E w1 (H2.out.new N.out) (H3.out.new N.out) hP)
  go_wp2_with fail
  refine Hc9.out.mono ?_
  rintro e w2 ⟨rfl, hu⟩
  clear p0 p1 pz q0 q1 qz s0 s1 sz Hc9
  have N := hide (N.out.trans_new hu)
  have HP := hide (HP.out.new_ hu)
  have HQ := hide (HQ.out.new_ hu)
  have HS := hide (HS.out.new_ hu)
  clear hu
  have bq := HP.out
  have p0 := bq.cell 0
  have p1 := bq.cell 1
  have pz := bq.lt
  simp only [List.getElem?_toArray, List.getElem?_cons_zero, List.getElem?_cons_succ] at p0 p1
  clear bq
  have bq := HQ.out
  have q0 := bq.cell 0
  have q1 := bq.cell 1
  have qz := bq.lt
  simp only [List.getElem?_toArray, List.getElem?_cons_zero, List.getElem?_cons_succ] at q0 q1
  clear bq
  have bq := HS.out
  have s0 := bq.cell 0
  have s1 := bq.cell 1
  have sz := bq.lt
  simp only [List.getElem?_toArray, List.getElem?_cons_zero, List.getElem?_cons_succ] at s0 s1
  clear bq
  by_cases hQ : chk b m = 0
  rotate_left
  · have hc9 := check_no b m E w2 (H2.out.new N.out) (H3.out.new N.out) hQ
    unfold errv at hc9
    have Hc9 := hide hc9
    clear hc9
    go_wp2_with fail
    refine Hc9.out.mono ?_
    rintro e w99 ⟨rfl, hu⟩
    have N := hide (N.out.trans_new hu)
    clear hu
    go_wp2_with fail
    go_ret
    exact ⟨rfl, N.out⟩
  have Hc9 := hide (check_yes b m E w2 (H2.out.new N.out) (H3.out.new N.out) hQ)
  go_wp2_with fail
  refine Hc9.out.mono ?_
  rintro e w3 ⟨rfl, hu⟩
  clear p0 p1 pz q0 q1 qz s0 s1 sz Hc9
  have N := hide (N.out.trans_new hu)
  have HP := hide (HP.out.new_ hu)
  have HQ := hide (HQ.out.new_ hu)
  have HS := hide (HS.out.new_ hu)
  clear hu
  have bq := HP.out
  have p0 := bq.cell 0
  have p1 := bq.cell 1
  have pz := bq.lt
  simp only [List.getElem?_toArray, List.getElem?_cons_zero, List.getElem?_cons_succ] at p0 p1
  clear bq
  have bq := HQ.out
  have q0 := bq.cell 0
  have q1 := bq.cell 1
  have qz := bq.lt
  simp only [List.getElem?_toArray, List.getElem?_cons_zero, List.getElem?_cons_succ] at q0 q1
  clear bq
  have bq := HS.out
  have s0 := bq.cell 0
  have s1 := bq.cell 1
  have sz := bq.lt
  simp only [List.getElem?_toArray, List.getElem?_cons_zero, List.getElem?_cons_succ] at s0 s1
  clear bq
  by_cases hS : chk c o = 0
  rotate_left
  · have hc9 := check_no c o E w3 (H2.out.new N.out) (H3.out.new N.out) hS
    unfold errv at hc9
    have Hc9 := hide hc9
    clear hc9
    go_wp2_with fail
    refine Hc9.out.mono ?_
    rintro e w99 ⟨rfl, hu⟩
    have N := hide (N.out.trans_new hu)
    clear hu
    go_wp2_with fail
    go_ret
    exact ⟨rfl, N.out⟩
  have Hc9 := hide (check_yes c o E w3 (H2.out.new N.out) (H3.out.new N.out) hS)
  go_wp2_with fail
  refine Hc9.out.mono ?_
  rintro e w4 ⟨rfl, hu⟩
  clear p0 p1 pz q0 q1 qz s0 s1 sz Hc9
  have N := hide (N.out.trans_new hu)
  have HP := hide (HP.out.new_ hu)
  have HQ := hide (HQ.out.new_ hu)
  have HS := hide (HS.out.new_ hu)
  clear hu
  by_cases he : a = b ∧ n = m
  · obtain ⟨rfl, rfl⟩ := he
    have Hs1 := hide (io_self hP).1
    have Hs2 := hide (io_self hP).2
    have bq := HP.out
    have p0 := bq.cell 0
    have p1 := bq.cell 1
    have pz := bq.lt
    simp only [List.getElem?_toArray, List.getElem?_cons_zero, List.getElem?_cons_succ] at p0 p1
    clear bq
    have bq := HQ.out
    have q0 := bq.cell 0
    have q1 := bq.cell 1
    have qz := bq.lt
    simp only [List.getElem?_toArray, List.getElem?_cons_zero, List.getElem?_cons_succ] at q0 q1
    clear bq
    have bq := HS.out
    have s0 := bq.cell 0
    have s1 := bq.cell 1
    have sz := bq.lt
    simp only [List.getElem?_toArray, List.getElem?_cons_zero, List.getElem?_cons_succ] at s0 s1
    clear bq
    have hc9 := less_any a n a n E w4 (H2.out.new N.out) (H3.out.new N.out)
    rw [Hs1.out] at hc9
    have Hc9 := hide hc9
    clear hc9
    go_wp2_with fail
    refine Hc9.out.mono ?_
    rintro e w5 ⟨rfl, hu⟩
    clear p0 p1 pz q0 q1 qz s0 s1 sz Hc9
    have N := hide (N.out.trans_new hu)
    have HP := hide (HP.out.new_ hu)
    have HQ := hide (HQ.out.new_ hu)
    have HS := hide (HS.out.new_ hu)
    clear hu
    have bq := HP.out
    have p0 := bq.cell 0
    have p1 := bq.cell 1
    have pz := bq.lt
    simp only [List.getElem?_toArray, List.getElem?_cons_zero, List.getElem?_cons_succ] at p0 p1
    clear bq
    have bq := HQ.out
    have q0 := bq.cell 0
    have q1 := bq.cell 1
    have qz := bq.lt
    simp only [List.getElem?_toArray, List.getElem?_cons_zero, List.getElem?_cons_succ] at q0 q1
    clear bq
    have bq := HS.out
    have s0 := bq.cell 0
    have s1 := bq.cell 1
    have sz := bq.lt
    simp only [List.getElem?_toArray, List.getElem?_cons_zero, List.getElem?_cons_succ] at s0 s1
    clear bq
    have hc9 := in_any a n a n E w5 (H2.out.new N.out) (H3.out.new N.out)
    rw [Hs2.out] at hc9
    have Hc9 := hide hc9
    clear hc9
    go_wp2_with fail
    refine Hc9.out.mono ?_
    rintro e w6 ⟨rfl, hu⟩
    clear p0 p1 pz q0 q1 qz s0 s1 sz Hc9
    have N := hide (N.out.trans_new hu)
    have HP := hide (HP.out.new_ hu)
    have HQ := hide (HQ.out.new_ hu)
    have HS := hide (HS.out.new_ hu)
    clear hu
    go_wp2_with fail
    go_ret
    exact ⟨rfl, N.out⟩
  have Hne0 := hide he
  by_cases hab : a = b
  · subst hab
    have bq := HP.out
    have p0 := bq.cell 0
    have p1 := bq.cell 1
    have pz := bq.lt
    simp only [List.getElem?_toArray, List.getElem?_cons_zero, List.getElem?_cons_succ] at p0 p1
    clear bq
    have bq := HQ.out
    have q0 := bq.cell 0
    have q1 := bq.cell 1
    have qz := bq.lt
    simp only [List.getElem?_toArray, List.getElem?_cons_zero, List.getElem?_cons_succ] at q0 q1
    clear bq
    have bq := HS.out
    have s0 := bq.cell 0
    have s1 := bq.cell 1
    have sz := bq.lt
    simp only [List.getElem?_toArray, List.getElem?_cons_zero, List.getElem?_cons_succ] at s0 s1
    clear bq
    have hnm : ¬ n = m := fun h => Hne0.out ⟨rfl, h⟩
    have hnb : (n == m) = false := by simpa using hnm
    go_upto_region 6 with (fail)
    have Hne := hide (show ¬ (a = a ∧ n = m) from fun h => hnm h.2)
    clear hnm hnb
    have hfl := io_flip hP hQ Hne.out
    have hl1 := fun w' (nw : New w4 w') => less_any a n a m E w' (H2.out.new (N.out.trans_new nw)) (H3.out.new (N.out.trans_new nw))
    have hl2 := fun w' (nw : New w4 w') => less_any a m a n E w' (H2.out.new (N.out.trans_new nw)) (H3.out.new (N.out.trans_new nw))
    have hi1 := fun w' (nw : New w4 w') => in_any a n a m E w' (H2.out.new (N.out.trans_new nw)) (H3.out.new (N.out.trans_new nw))
    clear he
    cases hL : lessB a n a m with
    | true =>
      rw [hL] at hfl hl1
      have Hlt := hide hL
      have Hin := hide (io_in hP hQ Hne.out hL)
      rw [hfl] at hl2
      rw [Hin.out] at hi1
      clear hL hfl
      have L1 := hide hl1
      have L2 := hide hl2
      have I1 := hide hi1
      clear hl1 hl2 hi1
      refine wp_region_new w4 (Upd.refl _ _) (by kernel_rfl) (by kernel_rfl) ?_
      iterate 3 (go_big_quiet_step ((go_at_call 61; exact new_call (L1.out _ (NewW.h _)))))
      iterate 3 (go_big_quiet_step ((go_at_call 61; exact new_call (L2.out _ (NewW.h _)))))
      iterate 5 (go_big_quiet_step ((go_at_call 62; exact new_call (I1.out _ (NewW.h _)))))
      repeat (go_big_quiet_step ((go_at_call 61; exact new_call (L2.out _ (NewW.h _)))))
      refine wpQuiet_nil ?_
      rintro _ ⟨nq, rfl⟩
      obtain ⟨w5, hu⟩ := nq
      dsimp only
      clear L1 L2 I1 p0 p1 pz q0 q1 qz s0 s1 sz
      have N := hide (N.out.trans_new hu)
      have HP := hide (HP.out.new_ hu)
      have HQ := hide (HQ.out.new_ hu)
      have HS := hide (HS.out.new_ hu)
      clear hu
      have bq := HP.out
      have p0 := bq.cell 0
      have p1 := bq.cell 1
      have pz := bq.lt
      simp only [List.getElem?_toArray, List.getElem?_cons_zero, List.getElem?_cons_succ] at p0 p1
      clear bq
      have bq := HQ.out
      have q0 := bq.cell 0
      have q1 := bq.cell 1
      have qz := bq.lt
      simp only [List.getElem?_toArray, List.getElem?_cons_zero, List.getElem?_cons_succ] at q0 q1
      clear bq
      have bq := HS.out
      have s0 := bq.cell 0
      have s1 := bq.cell 1
      have sz := bq.lt
      simp only [List.getElem?_toArray, List.getElem?_cons_zero, List.getElem?_cons_succ] at s0 s1
      clear bq
      have hc9 := less_any a n a m E w5 (H2.out.new N.out) (H3.out.new N.out)
      rw [Hlt.out] at hc9
      have Hc9 := hide hc9
      clear hc9
      go_wp2_with fail
      refine Hc9.out.mono ?_
      rintro e w6 ⟨rfl, hu⟩
      clear p0 p1 pz q0 q1 qz s0 s1 sz Hc9
      have N := hide (N.out.trans_new hu)
      have HP := hide (HP.out.new_ hu)
      have HQ := hide (HQ.out.new_ hu)
      have HS := hide (HS.out.new_ hu)
      clear hu
      cases hM : lessB a m c o with
      | false =>
        have bq := HP.out
        have p0 := bq.cell 0
        have p1 := bq.cell 1
        have pz := bq.lt
        simp only [List.getElem?_toArray, List.getElem?_cons_zero, List.getElem?_cons_succ] at p0 p1
        clear bq
        have bq := HQ.out
        have q0 := bq.cell 0
        have q1 := bq.cell 1
        have qz := bq.lt
        simp only [List.getElem?_toArray, List.getElem?_cons_zero, List.getElem?_cons_succ] at q0 q1
        clear bq
        have bq := HS.out
        have s0 := bq.cell 0
        have s1 := bq.cell 1
        have sz := bq.lt
        simp only [List.getElem?_toArray, List.getElem?_cons_zero, List.getElem?_cons_succ] at s0 s1
        clear bq
        have hc9 := less_any a m c o E w6 (H2.out.new N.out) (H3.out.new N.out)
        rw [hM] at hc9
        have Hc9 := hide hc9
        clear hc9
        go_wp2_with fail
        refine Hc9.out.mono ?_
        rintro e w7 ⟨rfl, hu⟩
        clear p0 p1 pz q0 q1 qz s0 s1 sz Hc9
        have N := hide (N.out.trans_new hu)
        have HP := hide (HP.out.new_ hu)
        have HQ := hide (HQ.out.new_ hu)
        have HS := hide (HS.out.new_ hu)
        clear hu
        have bq := HP.out
        have p0 := bq.cell 0
        have p1 := bq.cell 1
        have pz := bq.lt
        simp only [List.getElem?_toArray, List.getElem?_cons_zero, List.getElem?_cons_succ] at p0 p1
        clear bq
        have bq := HQ.out
        have q0 := bq.cell 0
        have q1 := bq.cell 1
        have qz := bq.lt
        simp only [List.getElem?_toArray, List.getElem?_cons_zero, List.getElem?_cons_succ] at q0 q1
        clear bq
        have bq := HS.out
        have s0 := bq.cell 0
        have s1 := bq.cell 1
        have sz := bq.lt
        simp only [List.getElem?_toArray, List.getElem?_cons_zero, List.getElem?_cons_succ] at s0 s1
        clear bq
        have hc9 := in_any a n a m E w7 (H2.out.new N.out) (H3.out.new N.out)
        rw [Hin.out] at hc9
        have Hc9 := hide hc9
        clear hc9
        go_wp2_with fail
        refine Hc9.out.mono ?_
        rintro e w8 ⟨rfl, hu⟩
        clear p0 p1 pz q0 q1 qz s0 s1 sz Hc9
        have N := hide (N.out.trans_new hu)
        have HP := hide (HP.out.new_ hu)
        have HQ := hide (HQ.out.new_ hu)
        have HS := hide (HS.out.new_ hu)
        clear hu
        go_wp2_with fail
        go_ret
        exact ⟨rfl, N.out⟩
      | true =>
        have Hps := hide (io_less hP hQ hS Hlt.out hM)
        have bq := HP.out
        have p0 := bq.cell 0
        have p1 := bq.cell 1
        have pz := bq.lt
        simp only [List.getElem?_toArray, List.getElem?_cons_zero, List.getElem?_cons_succ] at p0 p1
        clear bq
        have bq := HQ.out
        have q0 := bq.cell 0
        have q1 := bq.cell 1
        have qz := bq.lt
        simp only [List.getElem?_toArray, List.getElem?_cons_zero, List.getElem?_cons_succ] at q0 q1
        clear bq
        have bq := HS.out
        have s0 := bq.cell 0
        have s1 := bq.cell 1
        have sz := bq.lt
        simp only [List.getElem?_toArray, List.getElem?_cons_zero, List.getElem?_cons_succ] at s0 s1
        clear bq
        have hc9 := less_any a m c o E w6 (H2.out.new N.out) (H3.out.new N.out)
        rw [hM] at hc9
        have Hc9 := hide hc9
        clear hc9
        go_wp2_with fail
        refine Hc9.out.mono ?_
        rintro e w7 ⟨rfl, hu⟩
        clear p0 p1 pz q0 q1 qz s0 s1 sz Hc9
        have N := hide (N.out.trans_new hu)
        have HP := hide (HP.out.new_ hu)
        have HQ := hide (HQ.out.new_ hu)
        have HS := hide (HS.out.new_ hu)
        clear hu
        have bq := HP.out
        have p0 := bq.cell 0
        have p1 := bq.cell 1
        have pz := bq.lt
        simp only [List.getElem?_toArray, List.getElem?_cons_zero, List.getElem?_cons_succ] at p0 p1
        clear bq
        have bq := HQ.out
        have q0 := bq.cell 0
        have q1 := bq.cell 1
        have qz := bq.lt
        simp only [List.getElem?_toArray, List.getElem?_cons_zero, List.getElem?_cons_succ] at q0 q1
        clear bq
        have bq := HS.out
        have s0 := bq.cell 0
        have s1 := bq.cell 1
        have sz := bq.lt
        simp only [List.getElem?_toArray, List.getElem?_cons_zero, List.getElem?_cons_succ] at s0 s1
        clear bq
        have hc9 := less_any a n c o E w7 (H2.out.new N.out) (H3.out.new N.out)
        rw [Hps.out] at hc9
        have Hc9 := hide hc9
        clear hc9
        go_wp2_with fail
        refine Hc9.out.mono ?_
        rintro e w8 ⟨rfl, hu⟩
        clear p0 p1 pz q0 q1 qz s0 s1 sz Hc9
        have N := hide (N.out.trans_new hu)
        have HP := hide (HP.out.new_ hu)
        have HQ := hide (HQ.out.new_ hu)
        have HS := hide (HS.out.new_ hu)
        clear hu
        cases hI : inB c o a n with
        | false =>
          have bq := HP.out
          have p0 := bq.cell 0
          have p1 := bq.cell 1
          have pz := bq.lt
          simp only [List.getElem?_toArray, List.getElem?_cons_zero, List.getElem?_cons_succ] at p0 p1
          clear bq
          have bq := HQ.out
          have q0 := bq.cell 0
          have q1 := bq.cell 1
          have qz := bq.lt
          simp only [List.getElem?_toArray, List.getElem?_cons_zero, List.getElem?_cons_succ] at q0 q1
          clear bq
          have bq := HS.out
          have s0 := bq.cell 0
          have s1 := bq.cell 1
          have sz := bq.lt
          simp only [List.getElem?_toArray, List.getElem?_cons_zero, List.getElem?_cons_succ] at s0 s1
          clear bq
          have hc9 := in_any c o a n E w8 (H2.out.new N.out) (H3.out.new N.out)
          rw [hI] at hc9
          have Hc9 := hide hc9
          clear hc9
          go_wp2_with fail
          refine Hc9.out.mono ?_
          rintro e w9 ⟨rfl, hu⟩
          clear p0 p1 pz q0 q1 qz s0 s1 sz Hc9
          have N := hide (N.out.trans_new hu)
          have HP := hide (HP.out.new_ hu)
          have HQ := hide (HQ.out.new_ hu)
          have HS := hide (HS.out.new_ hu)
          clear hu
          have bq := HP.out
          have p0 := bq.cell 0
          have p1 := bq.cell 1
          have pz := bq.lt
          simp only [List.getElem?_toArray, List.getElem?_cons_zero, List.getElem?_cons_succ] at p0 p1
          clear bq
          have bq := HQ.out
          have q0 := bq.cell 0
          have q1 := bq.cell 1
          have qz := bq.lt
          simp only [List.getElem?_toArray, List.getElem?_cons_zero, List.getElem?_cons_succ] at q0 q1
          clear bq
          have bq := HS.out
          have s0 := bq.cell 0
          have s1 := bq.cell 1
          have sz := bq.lt
          simp only [List.getElem?_toArray, List.getElem?_cons_zero, List.getElem?_cons_succ] at s0 s1
          clear bq
          have hc9 := in_any a n a m E w9 (H2.out.new N.out) (H3.out.new N.out)
          rw [Hin.out] at hc9
          have Hc9 := hide hc9
          clear hc9
          go_wp2_with fail
          refine Hc9.out.mono ?_
          rintro e w10 ⟨rfl, hu⟩
          clear p0 p1 pz q0 q1 qz s0 s1 sz Hc9
          have N := hide (N.out.trans_new hu)
          have HP := hide (HP.out.new_ hu)
          have HQ := hide (HQ.out.new_ hu)
          have HS := hide (HS.out.new_ hu)
          clear hu
          go_wp2_with fail
          go_ret
          exact ⟨rfl, N.out⟩
        | true =>
          have Hqp := hide (io_mid hP hQ hS Hlt.out hM hI)
          have bq := HP.out
          have p0 := bq.cell 0
          have p1 := bq.cell 1
          have pz := bq.lt
          simp only [List.getElem?_toArray, List.getElem?_cons_zero, List.getElem?_cons_succ] at p0 p1
          clear bq
          have bq := HQ.out
          have q0 := bq.cell 0
          have q1 := bq.cell 1
          have qz := bq.lt
          simp only [List.getElem?_toArray, List.getElem?_cons_zero, List.getElem?_cons_succ] at q0 q1
          clear bq
          have bq := HS.out
          have s0 := bq.cell 0
          have s1 := bq.cell 1
          have sz := bq.lt
          simp only [List.getElem?_toArray, List.getElem?_cons_zero, List.getElem?_cons_succ] at s0 s1
          clear bq
          have hc9 := in_any c o a n E w8 (H2.out.new N.out) (H3.out.new N.out)
          rw [hI] at hc9
          have Hc9 := hide hc9
          clear hc9
          go_wp2_with fail
          refine Hc9.out.mono ?_
          rintro e w9 ⟨rfl, hu⟩
          clear p0 p1 pz q0 q1 qz s0 s1 sz Hc9
          have N := hide (N.out.trans_new hu)
          have HP := hide (HP.out.new_ hu)
          have HQ := hide (HQ.out.new_ hu)
          have HS := hide (HS.out.new_ hu)
          clear hu
          have bq := HP.out
          have p0 := bq.cell 0
          have p1 := bq.cell 1
          have pz := bq.lt
          simp only [List.getElem?_toArray, List.getElem?_cons_zero, List.getElem?_cons_succ] at p0 p1
          clear bq
          have bq := HQ.out
          have q0 := bq.cell 0
          have q1 := bq.cell 1
          have qz := bq.lt
          simp only [List.getElem?_toArray, List.getElem?_cons_zero, List.getElem?_cons_succ] at q0 q1
          clear bq
          have bq := HS.out
          have s0 := bq.cell 0
          have s1 := bq.cell 1
          have sz := bq.lt
          simp only [List.getElem?_toArray, List.getElem?_cons_zero, List.getElem?_cons_succ] at s0 s1
          clear bq
          have hc9 := in_any a m a n E w9 (H2.out.new N.out) (H3.out.new N.out)
          rw [Hqp.out] at hc9
          have Hc9 := hide hc9
          clear hc9
          go_wp2_with fail
          refine Hc9.out.mono ?_
          rintro e w10 ⟨rfl, hu⟩
          clear p0 p1 pz q0 q1 qz s0 s1 sz Hc9
          have N := hide (N.out.trans_new hu)
          have HP := hide (HP.out.new_ hu)
          have HQ := hide (HQ.out.new_ hu)
          have HS := hide (HS.out.new_ hu)
          clear hu
          have bq := HP.out
          have p0 := bq.cell 0
          have p1 := bq.cell 1
          have pz := bq.lt
          simp only [List.getElem?_toArray, List.getElem?_cons_zero, List.getElem?_cons_succ] at p0 p1
          clear bq
          have bq := HQ.out
          have q0 := bq.cell 0
          have q1 := bq.cell 1
          have qz := bq.lt
          simp only [List.getElem?_toArray, List.getElem?_cons_zero, List.getElem?_cons_succ] at q0 q1
          clear bq
          have bq := HS.out
          have s0 := bq.cell 0
          have s1 := bq.cell 1
          have sz := bq.lt
          simp only [List.getElem?_toArray, List.getElem?_cons_zero, List.getElem?_cons_succ] at s0 s1
          clear bq
          have hc9 := in_any a n a m E w10 (H2.out.new N.out) (H3.out.new N.out)
          rw [Hin.out] at hc9
          have Hc9 := hide hc9
          clear hc9
          go_wp2_with fail
          refine Hc9.out.mono ?_
          rintro e w11 ⟨rfl, hu⟩
          clear p0 p1 pz q0 q1 qz s0 s1 sz Hc9
          have N := hide (N.out.trans_new hu)
          have HP := hide (HP.out.new_ hu)
          have HQ := hide (HQ.out.new_ hu)
          have HS := hide (HS.out.new_ hu)
          clear hu
          go_wp2_with fail
          go_ret
          exact ⟨rfl, N.out⟩
    | false =>
      rw [hL] at hfl hl1
      have Hlt := hide hL
      rw [hfl] at hl2
      clear hL hfl
      cases hI : inB a n a m with
      | false =>
        rw [hI] at hi1
        have Hin := hide hI
        clear hI
        have L1 := hide hl1
        have L2 := hide hl2
        have I1 := hide hi1
        clear hl1 hl2 hi1
        refine wp_region_new w4 (Upd.refl _ _) (by kernel_rfl) (by kernel_rfl) ?_
        iterate 3 (go_big_quiet_step ((go_at_call 61; exact new_call (L1.out _ (NewW.h _)))))
        iterate 3 (go_big_quiet_step ((go_at_call 61; exact new_call (L2.out _ (NewW.h _)))))
        iterate 5 (go_big_quiet_step ((go_at_call 62; exact new_call (I1.out _ (NewW.h _)))))
        repeat (go_big_quiet_step ((go_at_call 61; exact new_call (L2.out _ (NewW.h _)))))
        refine wpQuiet_nil ?_
        rintro _ ⟨nq, rfl⟩
        obtain ⟨w5, hu⟩ := nq
        dsimp only
        clear L1 L2 I1 p0 p1 pz q0 q1 qz s0 s1 sz
        have N := hide (N.out.trans_new hu)
        have HP := hide (HP.out.new_ hu)
        have HQ := hide (HQ.out.new_ hu)
        have HS := hide (HS.out.new_ hu)
        clear hu
        have bq := HP.out
        have p0 := bq.cell 0
        have p1 := bq.cell 1
        have pz := bq.lt
        simp only [List.getElem?_toArray, List.getElem?_cons_zero, List.getElem?_cons_succ] at p0 p1
        clear bq
        have bq := HQ.out
        have q0 := bq.cell 0
        have q1 := bq.cell 1
        have qz := bq.lt
        simp only [List.getElem?_toArray, List.getElem?_cons_zero, List.getElem?_cons_succ] at q0 q1
        clear bq
        have bq := HS.out
        have s0 := bq.cell 0
        have s1 := bq.cell 1
        have sz := bq.lt
        simp only [List.getElem?_toArray, List.getElem?_cons_zero, List.getElem?_cons_succ] at s0 s1
        clear bq
        have hc9 := less_any a n a m E w5 (H2.out.new N.out) (H3.out.new N.out)
        rw [Hlt.out] at hc9
        have Hc9 := hide hc9
        clear hc9
        go_wp2_with fail
        refine Hc9.out.mono ?_
        rintro e w6 ⟨rfl, hu⟩
        clear p0 p1 pz q0 q1 qz s0 s1 sz Hc9
        have N := hide (N.out.trans_new hu)
        have HP := hide (HP.out.new_ hu)
        have HQ := hide (HQ.out.new_ hu)
        have HS := hide (HS.out.new_ hu)
        clear hu
        have bq := HP.out
        have p0 := bq.cell 0
        have p1 := bq.cell 1
        have pz := bq.lt
        simp only [List.getElem?_toArray, List.getElem?_cons_zero, List.getElem?_cons_succ] at p0 p1
        clear bq
        have bq := HQ.out
        have q0 := bq.cell 0
        have q1 := bq.cell 1
        have qz := bq.lt
        simp only [List.getElem?_toArray, List.getElem?_cons_zero, List.getElem?_cons_succ] at q0 q1
        clear bq
        have bq := HS.out
        have s0 := bq.cell 0
        have s1 := bq.cell 1
        have sz := bq.lt
        simp only [List.getElem?_toArray, List.getElem?_cons_zero, List.getElem?_cons_succ] at s0 s1
        clear bq
        have hc9 := in_any a n a m E w6 (H2.out.new N.out) (H3.out.new N.out)
        rw [Hin.out] at hc9
        have Hc9 := hide hc9
        clear hc9
        go_wp2_with fail
        refine Hc9.out.mono ?_
        rintro e w7 ⟨rfl, hu⟩
        clear p0 p1 pz q0 q1 qz s0 s1 sz Hc9
        have N := hide (N.out.trans_new hu)
        have HP := hide (HP.out.new_ hu)
        have HQ := hide (HQ.out.new_ hu)
        have HS := hide (HS.out.new_ hu)
        clear hu
        go_wp2_with fail
        go_ret
        exact ⟨rfl, N.out⟩
      | true =>
        rw [hI] at hi1
        have Hin := hide hI
        clear hI
        have L1 := hide hl1
        have L2 := hide hl2
        have I1 := hide hi1
        clear hl1 hl2 hi1
        refine wp_region_new w4 (Upd.refl _ _) (by kernel_rfl) (by kernel_rfl) ?_
        iterate 3 (go_big_quiet_step ((go_at_call 61; exact new_call (L1.out _ (NewW.h _)))))
        iterate 3 (go_big_quiet_step ((go_at_call 61; exact new_call (L2.out _ (NewW.h _)))))
        iterate 5 (go_big_quiet_step ((go_at_call 62; exact new_call (I1.out _ (NewW.h _)))))
        repeat (go_big_quiet_step ((go_at_call 61; exact new_call (L2.out _ (NewW.h _)))))
        refine wpQuiet_nil ?_
        rintro _ ⟨nq, rfl⟩
        obtain ⟨w5, hu⟩ := nq
        dsimp only
        clear L1 L2 I1 p0 p1 pz q0 q1 qz s0 s1 sz
        have N := hide (N.out.trans_new hu)
        have HP := hide (HP.out.new_ hu)
        have HQ := hide (HQ.out.new_ hu)
        have HS := hide (HS.out.new_ hu)
        clear hu
        have bq := HP.out
        have p0 := bq.cell 0
        have p1 := bq.cell 1
        have pz := bq.lt
        simp only [List.getElem?_toArray, List.getElem?_cons_zero, List.getElem?_cons_succ] at p0 p1
        clear bq
        have bq := HQ.out
        have q0 := bq.cell 0
        have q1 := bq.cell 1
        have qz := bq.lt
        simp only [List.getElem?_toArray, List.getElem?_cons_zero, List.getElem?_cons_succ] at q0 q1
        clear bq
        have bq := HS.out
        have s0 := bq.cell 0
        have s1 := bq.cell 1
        have sz := bq.lt
        simp only [List.getElem?_toArray, List.getElem?_cons_zero, List.getElem?_cons_succ] at s0 s1
        clear bq
        have hc9 := less_any a n a m E w5 (H2.out.new N.out) (H3.out.new N.out)
        rw [Hlt.out] at hc9
        have Hc9 := hide hc9
        clear hc9
        go_wp2_with fail
        refine Hc9.out.mono ?_
        rintro e w6 ⟨rfl, hu⟩
        clear p0 p1 pz q0 q1 qz s0 s1 sz Hc9
        have N := hide (N.out.trans_new hu)
        have HP := hide (HP.out.new_ hu)
        have HQ := hide (HQ.out.new_ hu)
        have HS := hide (HS.out.new_ hu)
        clear hu
        have bq := HP.out
        have p0 := bq.cell 0
        have p1 := bq.cell 1
        have pz := bq.lt
        simp only [List.getElem?_toArray, List.getElem?_cons_zero, List.getElem?_cons_succ] at p0 p1
        clear bq
        have bq := HQ.out
        have q0 := bq.cell 0
        have q1 := bq.cell 1
        have qz := bq.lt
        simp only [List.getElem?_toArray, List.getElem?_cons_zero, List.getElem?_cons_succ] at q0 q1
        clear bq
        have bq := HS.out
        have s0 := bq.cell 0
        have s1 := bq.cell 1
        have sz := bq.lt
        simp only [List.getElem?_toArray, List.getElem?_cons_zero, List.getElem?_cons_succ] at s0 s1
        clear bq
        have hc9 := in_any a n a m E w6 (H2.out.new N.out) (H3.out.new N.out)
        rw [Hin.out] at hc9
        have Hc9 := hide hc9
        clear hc9
        go_wp2_with fail
        refine Hc9.out.mono ?_
        rintro e w7 ⟨rfl, hu⟩
        clear p0 p1 pz q0 q1 qz s0 s1 sz Hc9
        have N := hide (N.out.trans_new hu)
        have HP := hide (HP.out.new_ hu)
        have HQ := hide (HQ.out.new_ hu)
        have HS := hide (HS.out.new_ hu)
        clear hu
        cases hK : inB a m c o with
        | false =>
          have bq := HP.out
          have p0 := bq.cell 0
          have p1 := bq.cell 1
          have pz := bq.lt
          simp only [List.getElem?_toArray, List.getElem?_cons_zero, List.getElem?_cons_succ] at p0 p1
          clear bq
          have bq := HQ.out
          have q0 := bq.cell 0
          have q1 := bq.cell 1
          have qz := bq.lt
          simp only [List.getElem?_toArray, List.getElem?_cons_zero, List.getElem?_cons_succ] at q0 q1
          clear bq
          have bq := HS.out
          have s0 := bq.cell 0
          have s1 := bq.cell 1
          have sz := bq.lt
          simp only [List.getElem?_toArray, List.getElem?_cons_zero, List.getElem?_cons_succ] at s0 s1
          clear bq
          have hc9 := in_any a m c o E w7 (H2.out.new N.out) (H3.out.new N.out)
          rw [hK] at hc9
          have Hc9 := hide hc9
          clear hc9
          go_wp2_with fail
          refine Hc9.out.mono ?_
          rintro e w8 ⟨rfl, hu⟩
          clear p0 p1 pz q0 q1 qz s0 s1 sz Hc9
          have N := hide (N.out.trans_new hu)
          have HP := hide (HP.out.new_ hu)
          have HQ := hide (HQ.out.new_ hu)
          have HS := hide (HS.out.new_ hu)
          clear hu
          go_wp2_with fail
          go_ret
          exact ⟨rfl, N.out⟩
        | true =>
          have Hps := hide (io_inin hP hQ hS Hin.out hK)
          have bq := HP.out
          have p0 := bq.cell 0
          have p1 := bq.cell 1
          have pz := bq.lt
          simp only [List.getElem?_toArray, List.getElem?_cons_zero, List.getElem?_cons_succ] at p0 p1
          clear bq
          have bq := HQ.out
          have q0 := bq.cell 0
          have q1 := bq.cell 1
          have qz := bq.lt
          simp only [List.getElem?_toArray, List.getElem?_cons_zero, List.getElem?_cons_succ] at q0 q1
          clear bq
          have bq := HS.out
          have s0 := bq.cell 0
          have s1 := bq.cell 1
          have sz := bq.lt
          simp only [List.getElem?_toArray, List.getElem?_cons_zero, List.getElem?_cons_succ] at s0 s1
          clear bq
          have hc9 := in_any a m c o E w7 (H2.out.new N.out) (H3.out.new N.out)
          rw [hK] at hc9
          have Hc9 := hide hc9
          clear hc9
          go_wp2_with fail
          refine Hc9.out.mono ?_
          rintro e w8 ⟨rfl, hu⟩
          clear p0 p1 pz q0 q1 qz s0 s1 sz Hc9
          have N := hide (N.out.trans_new hu)
          have HP := hide (HP.out.new_ hu)
          have HQ := hide (HQ.out.new_ hu)
          have HS := hide (HS.out.new_ hu)
          clear hu
          have bq := HP.out
          have p0 := bq.cell 0
          have p1 := bq.cell 1
          have pz := bq.lt
          simp only [List.getElem?_toArray, List.getElem?_cons_zero, List.getElem?_cons_succ] at p0 p1
          clear bq
          have bq := HQ.out
          have q0 := bq.cell 0
          have q1 := bq.cell 1
          have qz := bq.lt
          simp only [List.getElem?_toArray, List.getElem?_cons_zero, List.getElem?_cons_succ] at q0 q1
          clear bq
          have bq := HS.out
          have s0 := bq.cell 0
          have s1 := bq.cell 1
          have sz := bq.lt
          simp only [List.getElem?_toArray, List.getElem?_cons_zero, List.getElem?_cons_succ] at s0 s1
          clear bq
          have hc9 := in_any a n c o E w8 (H2.out.new N.out) (H3.out.new N.out)
          rw [Hps.out] at hc9
          have Hc9 := hide hc9
          clear hc9
          go_wp2_with fail
          refine Hc9.out.mono ?_
          rintro e w9 ⟨rfl, hu⟩
          clear p0 p1 pz q0 q1 qz s0 s1 sz Hc9
          have N := hide (N.out.trans_new hu)
          have HP := hide (HP.out.new_ hu)
          have HQ := hide (HQ.out.new_ hu)
          have HS := hide (HS.out.new_ hu)
          clear hu
          go_wp2_with fail
          go_ret
          exact ⟨rfl, N.out⟩
  · have bq := HP.out
    have p0 := bq.cell 0
    have p1 := bq.cell 1
    have pz := bq.lt
    simp only [List.getElem?_toArray, List.getElem?_cons_zero, List.getElem?_cons_succ] at p0 p1
    clear bq
    have bq := HQ.out
    have q0 := bq.cell 0
    have q1 := bq.cell 1
    have qz := bq.lt
    simp only [List.getElem?_toArray, List.getElem?_cons_zero, List.getElem?_cons_succ] at q0 q1
    clear bq
    have bq := HS.out
    have s0 := bq.cell 0
    have s1 := bq.cell 1
    have sz := bq.lt
    simp only [List.getElem?_toArray, List.getElem?_cons_zero, List.getElem?_cons_succ] at s0 s1
    clear bq
    have hnb : (a == b) = false := by simpa using hab
    go_upto_region 6 with (fail)
    have Hne := hide (show ¬ (a = b ∧ n = m) from fun h => hab h.1)
    clear hnb hab
    have hfl := io_flip hP hQ Hne.out
    have hl1 := fun w' (nw : New w4 w') => less_any a n b m E w' (H2.out.new (N.out.trans_new nw)) (H3.out.new (N.out.trans_new nw))
    have hl2 := fun w' (nw : New w4 w') => less_any b m a n E w' (H2.out.new (N.out.trans_new nw)) (H3.out.new (N.out.trans_new nw))
    have hi1 := fun w' (nw : New w4 w') => in_any a n b m E w' (H2.out.new (N.out.trans_new nw)) (H3.out.new (N.out.trans_new nw))
    clear he
    cases hL : lessB a n b m with
    | true =>
      rw [hL] at hfl hl1
      have Hlt := hide hL
      have Hin := hide (io_in hP hQ Hne.out hL)
      rw [hfl] at hl2
      rw [Hin.out] at hi1
      clear hL hfl
      have L1 := hide hl1
      have L2 := hide hl2
      have I1 := hide hi1
      clear hl1 hl2 hi1
      refine wp_region_new w4 (Upd.refl _ _) (by kernel_rfl) (by kernel_rfl) ?_
      iterate 3 (go_big_quiet_step ((go_at_call 61; exact new_call (L1.out _ (NewW.h _)))))
      iterate 3 (go_big_quiet_step ((go_at_call 61; exact new_call (L2.out _ (NewW.h _)))))
      iterate 5 (go_big_quiet_step ((go_at_call 62; exact new_call (I1.out _ (NewW.h _)))))
      repeat (go_big_quiet_step ((go_at_call 61; exact new_call (L2.out _ (NewW.h _)))))
      refine wpQuiet_nil ?_
      rintro _ ⟨nq, rfl⟩
      obtain ⟨w5, hu⟩ := nq
      dsimp only
      clear L1 L2 I1 p0 p1 pz q0 q1 qz s0 s1 sz
      have N := hide (N.out.trans_new hu)
      have HP := hide (HP.out.new_ hu)
      have HQ := hide (HQ.out.new_ hu)
      have HS := hide (HS.out.new_ hu)
      clear hu
      have bq := HP.out
      have p0 := bq.cell 0
      have p1 := bq.cell 1
      have pz := bq.lt
      simp only [List.getElem?_toArray, List.getElem?_cons_zero, List.getElem?_cons_succ] at p0 p1
      clear bq
      have bq := HQ.out
      have q0 := bq.cell 0
      have q1 := bq.cell 1
      have qz := bq.lt
      simp only [List.getElem?_toArray, List.getElem?_cons_zero, List.getElem?_cons_succ] at q0 q1
      clear bq
      have bq := HS.out
      have s0 := bq.cell 0
      have s1 := bq.cell 1
      have sz := bq.lt
      simp only [List.getElem?_toArray, List.getElem?_cons_zero, List.getElem?_cons_succ] at s0 s1
      clear bq
      have hc9 := less_any a n b m E w5 (H2.out.new N.out) (H3.out.new N.out)
      rw [Hlt.out] at hc9
      have Hc9 := hide hc9
      clear hc9
      go_wp2_with fail
      refine Hc9.out.mono ?_
      rintro e w6 ⟨rfl, hu⟩
      clear p0 p1 pz q0 q1 qz s0 s1 sz Hc9
      have N := hide (N.out.trans_new hu)
      have HP := hide (HP.out.new_ hu)
      have HQ := hide (HQ.out.new_ hu)
      have HS := hide (HS.out.new_ hu)
      clear hu
      cases hM : lessB b m c o with
      | false =>
        have bq := HP.out
        have p0 := bq.cell 0
        have p1 := bq.cell 1
        have pz := bq.lt
        simp only [List.getElem?_toArray, List.getElem?_cons_zero, List.getElem?_cons_succ] at p0 p1
        clear bq
        have bq := HQ.out
        have q0 := bq.cell 0
        have q1 := bq.cell 1
        have qz := bq.lt
        simp only [List.getElem?_toArray, List.getElem?_cons_zero, List.getElem?_cons_succ] at q0 q1
        clear bq
        have bq := HS.out
        have s0 := bq.cell 0
        have s1 := bq.cell 1
        have sz := bq.lt
        simp only [List.getElem?_toArray, List.getElem?_cons_zero, List.getElem?_cons_succ] at s0 s1
        clear bq
        have hc9 := less_any b m c o E w6 (H2.out.new N.out) (H3.out.new N.out)
        rw [hM] at hc9
        have Hc9 := hide hc9
        clear hc9
        go_wp2_with fail
        refine Hc9.out.mono ?_
        rintro e w7 ⟨rfl, hu⟩
        clear p0 p1 pz q0 q1 qz s0 s1 sz Hc9
        have N := hide (N.out.trans_new hu)
        have HP := hide (HP.out.new_ hu)
        have HQ := hide (HQ.out.new_ hu)
        have HS := hide (HS.out.new_ hu)
        clear hu
        have bq := HP.out
        have p0 := bq.cell 0
        have p1 := bq.cell 1
        have pz := bq.lt
        simp only [List.getElem?_toArray, List.getElem?_cons_zero, List.getElem?_cons_succ] at p0 p1
        clear bq
        have bq := HQ.out
        have q0 := bq.cell 0
        have q1 := bq.cell 1
        have qz := bq.lt
        simp only [List.getElem?_toArray, List.getElem?_cons_zero, List.getElem?_cons_succ] at q0 q1
        clear bq
        have bq := HS.out
        have s0 := bq.cell 0
        have s1 := bq.cell 1
        have sz := bq.lt
        simp only [List.getElem?_toArray, List.getElem?_cons_zero, List.getElem?_cons_succ] at s0 s1
        clear bq
        have hc9 := in_any a n b m E w7 (H2.out.new N.out) (H3.out.new N.out)
        rw [Hin.out] at hc9
        have Hc9 := hide hc9
        clear hc9
        go_wp2_with fail
        refine Hc9.out.mono ?_
        rintro e w8 ⟨rfl, hu⟩
        clear p0 p1 pz q0 q1 qz s0 s1 sz Hc9
        have N := hide (N.out.trans_new hu)
        have HP := hide (HP.out.new_ hu)
        have HQ := hide (HQ.out.new_ hu)
        have HS := hide (HS.out.new_ hu)
        clear hu
        go_wp2_with fail
        go_ret
        exact ⟨rfl, N.out⟩
      | true =>
        have Hps := hide (io_less hP hQ hS Hlt.out hM)
        have bq := HP.out
        have p0 := bq.cell 0
        have p1 := bq.cell 1
        have pz := bq.lt
        simp only [List.getElem?_toArray, List.getElem?_cons_zero, List.getElem?_cons_succ] at p0 p1
        clear bq
        have bq := HQ.out
        have q0 := bq.cell 0
        have q1 := bq.cell 1
        have qz := bq.lt
        simp only [List.getElem?_toArray, List.getElem?_cons_zero, List.getElem?_cons_succ] at q0 q1
        clear bq
        have bq := HS.out
        have s0 := bq.cell 0
        have s1 := bq.cell 1
        have sz := bq.lt
        simp only [List.getElem?_toArray, List.getElem?_cons_zero, List.getElem?_cons_succ] at s0 s1
        clear bq
        have hc9 := less_any b m c o E w6 (H2.out.new N.out) (H3.out.new N.out)
        rw [hM] at hc9
        have Hc9 := hide hc9
        clear hc9
        go_wp2_with fail
        refine Hc9.out.mono ?_
        rintro e w7 ⟨rfl, hu⟩
        clear p0 p1 pz q0 q1 qz s0 s1 sz Hc9
        have N := hide (N.out.trans_new hu)
        have HP := hide (HP.out.new_ hu)
        have HQ := hide (HQ.out.new_ hu)
        have HS := hide (HS.out.new_ hu)
        clear hu
        have bq := HP.out
        have p0 := bq.cell 0
        have p1 := bq.cell 1
        have pz := bq.lt
        simp only [List.getElem?_toArray, List.getElem?_cons_zero, List.getElem?_cons_succ] at p0 p1
        clear bq
        have bq := HQ.out
        have q0 := bq.cell 0
        have q1 := bq.cell 1
        have qz := bq.lt
        simp only [List.getElem?_toArray, List.getElem?_cons_zero, List.getElem?_cons_succ] at q0 q1
        clear bq
        have bq := HS.out
        have s0 := bq.cell 0
        have s1 := bq.cell 1
        have sz := bq.lt
        simp only [List.getElem?_toArray, List.getElem?_cons_zero, List.getElem?_cons_succ] at s0 s1
        clear bq
        have hc9 := less_any a n c o E w7 (H2.out.new N.out) (H3.out.new N.out)
        rw [Hps.out] at hc9
        have Hc9 := hide hc9
        clear hc9
        go_wp2_with fail
        refine Hc9.out.mono ?_
        rintro e w8 ⟨rfl, hu⟩
        clear p0 p1 pz q0 q1 qz s0 s1 sz Hc9
        have N := hide (N.out.trans_new hu)
        have HP := hide (HP.out.new_ hu)
        have HQ := hide (HQ.out.new_ hu)
        have HS := hide (HS.out.new_ hu)
        clear hu
        cases hI : inB c o a n with
        | false =>
          have bq := HP.out
          have p0 := bq.cell 0
          have p1 := bq.cell 1
          have pz := bq.lt
          simp only [List.getElem?_toArray, List.getElem?_cons_zero, List.getElem?_cons_succ] at p0 p1
          clear bq
          have bq := HQ.out
          have q0 := bq.cell 0
          have q1 := bq.cell 1
          have qz := bq.lt
          simp only [List.getElem?_toArray, List.getElem?_cons_zero, List.getElem?_cons_succ] at q0 q1
          clear bq
          have bq := HS.out
          have s0 := bq.cell 0
          have s1 := bq.cell 1
          have sz := bq.lt
          simp only [List.getElem?_toArray, List.getElem?_cons_zero, List.getElem?_cons_succ] at s0 s1
          clear bq
          have hc9 := in_any c o a n E w8 (H2.out.new N.out) (H3.out.new N.out)
          rw [hI] at hc9
          have Hc9 := hide hc9
          clear hc9
          go_wp2_with fail
          refine Hc9.out.mono ?_
          rintro e w9 ⟨rfl, hu⟩
          clear p0 p1 pz q0 q1 qz s0 s1 sz Hc9
          have N := hide (N.out.trans_new hu)
          have HP := hide (HP.out.new_ hu)
          have HQ := hide (HQ.out.new_ hu)
          have HS := hide (HS.out.new_ hu)
          clear hu
          have bq := HP.out
          have p0 := bq.cell 0
          have p1 := bq.cell 1
          have pz := bq.lt
          simp only [List.getElem?_toArray, List.getElem?_cons_zero, List.getElem?_cons_succ] at p0 p1
          clear bq
          have bq := HQ.out
          have q0 := bq.cell 0
          have q1 := bq.cell 1
          have qz := bq.lt
          simp only [List.getElem?_toArray, List.getElem?_cons_zero, List.getElem?_cons_succ] at q0 q1
          clear bq
          have bq := HS.out
          have s0 := bq.cell 0
          have s1 := bq.cell 1
          have sz := bq.lt
          simp only [List.getElem?_toArray, List.getElem?_cons_zero, List.getElem?_cons_succ] at s0 s1
          clear bq
          have hc9 := in_any a n b m E w9 (H2.out.new N.out) (H3.out.new N.out)
          rw [Hin.out] at hc9
          have Hc9 := hide hc9
          clear hc9
          go_wp2_with fail
          refine Hc9.out.mono ?_
          rintro e w10 ⟨rfl, hu⟩
          clear p0 p1 pz q0 q1 qz s0 s1 sz Hc9
          have N := hide (N.out.trans_new hu)
          have HP := hide (HP.out.new_ hu)
          have HQ := hide (HQ.out.new_ hu)
          have HS := hide (HS.out.new_ hu)
          clear hu
          go_wp2_with fail
          go_ret
          exact ⟨rfl, N.out⟩
        | true =>
          have Hqp := hide (io_mid hP hQ hS Hlt.out hM hI)
          have bq := HP.out
          have p0 := bq.cell 0
          have p1 := bq.cell 1
          have pz := bq.lt
          simp only [List.getElem?_toArray, List.getElem?_cons_zero, List.getElem?_cons_succ] at p0 p1
          clear bq
          have bq := HQ.out
          have q0 := bq.cell 0
          have q1 := bq.cell 1
          have qz := bq.lt
          simp only [List.getElem?_toArray, List.getElem?_cons_zero, List.getElem?_cons_succ] at q0 q1
          clear bq
          have bq := HS.out
          have s0 := bq.cell 0
          have s1 := bq.cell 1
          have sz := bq.lt
          simp only [List.getElem?_toArray, List.getElem?_cons_zero, List.getElem?_cons_succ] at s0 s1
          clear bq
          have hc9 := in_any c o a n E w8 (H2.out.new N.out) (H3.out.new N.out)
          rw [hI] at hc9
          have Hc9 := hide hc9
          clear hc9
          go_wp2_with fail
          refine Hc9.out.mono ?_
          rintro e w9 ⟨rfl, hu⟩
          clear p0 p1 pz q0 q1 qz s0 s1 sz Hc9
          have N := hide (N.out.trans_new hu)
          have HP := hide (HP.out.new_ hu)
          have HQ := hide (HQ.out.new_ hu)
          have HS := hide (HS.out.new_ hu)
          clear hu
          have bq := HP.out
          have p0 := bq.cell 0
          have p1 := bq.cell 1
          have pz := bq.lt
          simp only [List.getElem?_toArray, List.getElem?_cons_zero, List.getElem?_cons_succ] at p0 p1
          clear bq
          have bq := HQ.out
          have q0 := bq.cell 0
          have q1 := bq.cell 1
          have qz := bq.lt
          simp only [List.getElem?_toArray, List.getElem?_cons_zero, List.getElem?_cons_succ] at q0 q1
          clear bq
          have bq := HS.out
          have s0 := bq.cell 0
          have s1 := bq.cell 1
          have sz := bq.lt
          simp only [List.getElem?_toArray, List.getElem?_cons_zero, List.getElem?_cons_succ] at s0 s1
          clear bq
          have hc9 := in_any b m a n E w9 (H2.out.new N.out) (H3.out.new N.out)
          rw [Hqp.out] at hc9
          have Hc9 := hide hc9
          clear hc9
          go_wp2_with fail
          refine Hc9.out.mono ?_
          rintro e w10 ⟨rfl, hu⟩
          clear p0 p1 pz q0 q1 qz s0 s1 sz Hc9
          have N := hide (N.out.trans_new hu)
          have HP := hide (HP.out.new_ hu)
          have HQ := hide (HQ.out.new_ hu)
          have HS := hide (HS.out.new_ hu)
          clear hu
          have bq := HP.out
          have p0 := bq.cell 0
          have p1 := bq.cell 1
          have pz := bq.lt
          simp only [List.getElem?_toArray, List.getElem?_cons_zero, List.getElem?_cons_succ] at p0 p1
          clear bq
          have bq := HQ.out
          have q0 := bq.cell 0
          have q1 := bq.cell 1
          have qz := bq.lt
          simp only [List.getElem?_toArray, List.getElem?_cons_zero, List.getElem?_cons_succ] at q0 q1
          clear bq
          have bq := HS.out
          have s0 := bq.cell 0
          have s1 := bq.cell 1
          have sz := bq.lt
          simp only [List.getElem?_toArray, List.getElem?_cons_zero, List.getElem?_cons_succ] at s0 s1
          clear bq
          have hc9 := in_any a n b m E w10 (H2.out.new N.out) (H3.out.new N.out)
          rw [Hin.out] at hc9
          have Hc9 := hide hc9
          clear hc9
          go_wp2_with fail
          refine Hc9.out.mono ?_
          rintro e w11 ⟨rfl, hu⟩
          clear p0 p1 pz q0 q1 qz s0 s1 sz Hc9
          have N := hide (N.out.trans_new hu)
          have HP := hide (HP.out.new_ hu)
          have HQ := hide (HQ.out.new_ hu)
          have HS := hide (HS.out.new_ hu)
          clear hu
          go_wp2_with fail
          go_ret
          exact ⟨rfl, N.out⟩
    | false =>
      rw [hL] at hfl hl1
      have Hlt := hide hL
      rw [hfl] at hl2
      clear hL hfl
      cases hI : inB a n b m with
      | false =>
        rw [hI] at hi1
        have Hin := hide hI
        clear hI
        have L1 := hide hl1
        have L2 := hide hl2
        have I1 := hide hi1
        clear hl1 hl2 hi1
        refine wp_region_new w4 (Upd.refl _ _) (by kernel_rfl) (by kernel_rfl) ?_
        iterate 3 (go_big_quiet_step ((go_at_call 61; exact new_call (L1.out _ (NewW.h _)))))
        iterate 3 (go_big_quiet_step ((go_at_call 61; exact new_call (L2.out _ (NewW.h _)))))
        iterate 5 (go_big_quiet_step ((go_at_call 62; exact new_call (I1.out _ (NewW.h _)))))
        repeat (go_big_quiet_step ((go_at_call 61; exact new_call (L2.out _ (NewW.h _)))))
        refine wpQuiet_nil ?_
        rintro _ ⟨nq, rfl⟩
        obtain ⟨w5, hu⟩ := nq
        dsimp only
        clear L1 L2 I1 p0 p1 pz q0 q1 qz s0 s1 sz
        have N := hide (N.out.trans_new hu)
        have HP := hide (HP.out.new_ hu)
        have HQ := hide (HQ.out.new_ hu)
        have HS := hide (HS.out.new_ hu)
        clear hu
        have bq := HP.out
        have p0 := bq.cell 0
        have p1 := bq.cell 1
        have pz := bq.lt
        simp only [List.getElem?_toArray, List.getElem?_cons_zero, List.getElem?_cons_succ] at p0 p1
        clear bq
        have bq := HQ.out
        have q0 := bq.cell 0
        have q1 := bq.cell 1
        have qz := bq.lt
        simp only [List.getElem?_toArray, List.getElem?_cons_zero, List.getElem?_cons_succ] at q0 q1
        clear bq
        have bq := HS.out
        have s0 := bq.cell 0
        have s1 := bq.cell 1
        have sz := bq.lt
        simp only [List.getElem?_toArray, List.getElem?_cons_zero, List.getElem?_cons_succ] at s0 s1
        clear bq
        have hc9 := less_any a n b m E w5 (H2.out.new N.out) (H3.out.new N.out)
        rw [Hlt.out] at hc9
        have Hc9 := hide hc9
        clear hc9
        go_wp2_with fail
        refine Hc9.out.mono ?_
        rintro e w6 ⟨rfl, hu⟩
        clear p0 p1 pz q0 q1 qz s0 s1 sz Hc9
        have N := hide (N.out.trans_new hu)
        have HP := hide (HP.out.new_ hu)
        have HQ := hide (HQ.out.new_ hu)
        have HS := hide (HS.out.new_ hu)
        clear hu
        have bq := HP.out
        have p0 := bq.cell 0
        have p1 := bq.cell 1
        have pz := bq.lt
        simp only [List.getElem?_toArray, List.getElem?_cons_zero, List.getElem?_cons_succ] at p0 p1
        clear bq
        have bq := HQ.out
        have q0 := bq.cell 0
        have q1 := bq.cell 1
        have qz := bq.lt
        simp only [List.getElem?_toArray, List.getElem?_cons_zero, List.getElem?_cons_succ] at q0 q1
        clear bq
        have bq := HS.out
        have s0 := bq.cell 0
        have s1 := bq.cell 1
        have sz := bq.lt
        simp only [List.getElem?_toArray, List.getElem?_cons_zero, List.getElem?_cons_succ] at s0 s1
        clear bq
        have hc9 := in_any a n b m E w6 (H2.out.new N.out) (H3.out.new N.out)
        rw [Hin.out] at hc9
        have Hc9 := hide hc9
        clear hc9
        go_wp2_with fail
        refine Hc9.out.mono ?_
        rintro e w7 ⟨rfl, hu⟩
        clear p0 p1 pz q0 q1 qz s0 s1 sz Hc9
        have N := hide (N.out.trans_new hu)
        have HP := hide (HP.out.new_ hu)
        have HQ := hide (HQ.out.new_ hu)
        have HS := hide (HS.out.new_ hu)
        clear hu
        go_wp2_with fail
        go_ret
        exact ⟨rfl, N.out⟩
      | true =>
        rw [hI] at hi1
        have Hin := hide hI
        clear hI
        have L1 := hide hl1
        have L2 := hide hl2
        have I1 := hide hi1
        clear hl1 hl2 hi1
        refine wp_region_new w4 (Upd.refl _ _) (by kernel_rfl) (by kernel_rfl) ?_
        iterate 3 (go_big_quiet_step ((go_at_call 61; exact new_call (L1.out _ (NewW.h _)))))
        iterate 3 (go_big_quiet_step ((go_at_call 61; exact new_call (L2.out _ (NewW.h _)))))
        iterate 5 (go_big_quiet_step ((go_at_call 62; exact new_call (I1.out _ (NewW.h _)))))
        repeat (go_big_quiet_step ((go_at_call 61; exact new_call (L2.out _ (NewW.h _)))))
        refine wpQuiet_nil ?_
        rintro _ ⟨nq, rfl⟩
        obtain ⟨w5, hu⟩ := nq
        dsimp only
        clear L1 L2 I1 p0 p1 pz q0 q1 qz s0 s1 sz
        have N := hide (N.out.trans_new hu)
        have HP := hide (HP.out.new_ hu)
        have HQ := hide (HQ.out.new_ hu)
        have HS := hide (HS.out.new_ hu)
        clear hu
        have bq := HP.out
        have p0 := bq.cell 0
        have p1 := bq.cell 1
        have pz := bq.lt
        simp only [List.getElem?_toArray, List.getElem?_cons_zero, List.getElem?_cons_succ] at p0 p1
        clear bq
        have bq := HQ.out
        have q0 := bq.cell 0
        have q1 := bq.cell 1
        have qz := bq.lt
        simp only [List.getElem?_toArray, List.getElem?_cons_zero, List.getElem?_cons_succ] at q0 q1
        clear bq
        have bq := HS.out
        have s0 := bq.cell 0
        have s1 := bq.cell 1
        have sz := bq.lt
        simp only [List.getElem?_toArray, List.getElem?_cons_zero, List.getElem?_cons_succ] at s0 s1
        clear bq
        have hc9 := less_any a n b m E w5 (H2.out.new N.out) (H3.out.new N.out)
        rw [Hlt.out] at hc9
        have Hc9 := hide hc9
        clear hc9
        go_wp2_with fail
        refine Hc9.out.mono ?_
        rintro e w6 ⟨rfl, hu⟩
        clear p0 p1 pz q0 q1 qz s0 s1 sz Hc9
        have N := hide (N.out.trans_new hu)
        have HP := hide (HP.out.new_ hu)
        have HQ := hide (HQ.out.new_ hu)
        have HS := hide (HS.out.new_ hu)
        clear hu
        have bq := HP.out
        have p0 := bq.cell 0
        have p1 := bq.cell 1
        have pz := bq.lt
        simp only [List.getElem?_toArray, List.getElem?_cons_zero, List.getElem?_cons_succ] at p0 p1
        clear bq
        have bq := HQ.out
        have q0 := bq.cell 0
        have q1 := bq.cell 1
        have qz := bq.lt
        simp only [List.getElem?_toArray, List.getElem?_cons_zero, List.getElem?_cons_succ] at q0 q1
        clear bq
        have bq := HS.out
        have s0 := bq.cell 0
        have s1 := bq.cell 1
        have sz := bq.lt
        simp only [List.getElem?_toArray, List.getElem?_cons_zero, List.getElem?_cons_succ] at s0 s1
        clear bq
        have hc9 := in_any a n b m E w6 (H2.out.new N.out) (H3.out.new N.out)
        rw [Hin.out] at hc9
        have Hc9 := hide hc9
        clear hc9
        go_wp2_with fail
        refine Hc9.out.mono ?_
        rintro e w7 ⟨rfl, hu⟩
        clear p0 p1 pz q0 q1 qz s0 s1 sz Hc9
        have N := hide (N.out.trans_new hu)
        have HP := hide (HP.out.new_ hu)
        have HQ := hide (HQ.out.new_ hu)
        have HS := hide (HS.out.new_ hu)
        clear hu
        cases hK : inB b m c o with
        | false =>
          have bq := HP.out
          have p0 := bq.cell 0
          have p1 := bq.cell 1
          have pz := bq.lt
          simp only [List.getElem?_toArray, List.getElem?_cons_zero, List.getElem?_cons_succ] at p0 p1
          clear bq
          have bq := HQ.out
          have q0 := bq.cell 0
          have q1 := bq.cell 1
          have qz := bq.lt
          simp only [List.getElem?_toArray, List.getElem?_cons_zero, List.getElem?_cons_succ] at q0 q1
          clear bq
          have bq := HS.out
          have s0 := bq.cell 0
          have s1 := bq.cell 1
          have sz := bq.lt
          simp only [List.getElem?_toArray, List.getElem?_cons_zero, List.getElem?_cons_succ] at s0 s1
          clear bq
          have hc9 := in_any b m c o E w7 (H2.out.new N.out) (H3.out.new N.out)
          rw [hK] at hc9
          have Hc9 := hide hc9
          clear hc9
          go_wp2_with fail
          refine Hc9.out.mono ?_
          rintro e w8 ⟨rfl, hu⟩
          clear p0 p1 pz q0 q1 qz s0 s1 sz Hc9
          have N := hide (N.out.trans_new hu)
          have HP := hide (HP.out.new_ hu)
          have HQ := hide (HQ.out.new_ hu)
          have HS := hide (HS.out.new_ hu)
          clear hu
          go_wp2_with fail
          go_ret
          exact ⟨rfl, N.out⟩
        | true =>
          have Hps := hide (io_inin hP hQ hS Hin.out hK)
          have bq := HP.out
          have p0 := bq.cell 0
          have p1 := bq.cell 1
          have pz := bq.lt
          simp only [List.getElem?_toArray, List.getElem?_cons_zero, List.getElem?_cons_succ] at p0 p1
          clear bq
          have bq := HQ.out
          have q0 := bq.cell 0
          have q1 := bq.cell 1
          have qz := bq.lt
          simp only [List.getElem?_toArray, List.getElem?_cons_zero, List.getElem?_cons_succ] at q0 q1
          clear bq
          have bq := HS.out
          have s0 := bq.cell 0
          have s1 := bq.cell 1
          have sz := bq.lt
          simp only [List.getElem?_toArray, List.getElem?_cons_zero, List.getElem?_cons_succ] at s0 s1
          clear bq
          have hc9 := in_any b m c o E w7 (H2.out.new N.out) (H3.out.new N.out)
          rw [hK] at hc9
          have Hc9 := hide hc9
          clear hc9
          go_wp2_with fail
          refine Hc9.out.mono ?_
          rintro e w8 ⟨rfl, hu⟩
          clear p0 p1 pz q0 q1 qz s0 s1 sz Hc9
          have N := hide (N.out.trans_new hu)
          have HP := hide (HP.out.new_ hu)
          have HQ := hide (HQ.out.new_ hu)
          have HS := hide (HS.out.new_ hu)
          clear hu
          have bq := HP.out
          have p0 := bq.cell 0
          have p1 := bq.cell 1
          have pz := bq.lt
          simp only [List.getElem?_toArray, List.getElem?_cons_zero, List.getElem?_cons_succ] at p0 p1
          clear bq
          have bq := HQ.out
          have q0 := bq.cell 0
          have q1 := bq.cell 1
          have qz := bq.lt
          simp only [List.getElem?_toArray, List.getElem?_cons_zero, List.getElem?_cons_succ] at q0 q1
          clear bq
          have bq := HS.out
          have s0 := bq.cell 0
          have s1 := bq.cell 1
          have sz := bq.lt
          simp only [List.getElem?_toArray, List.getElem?_cons_zero, List.getElem?_cons_succ] at s0 s1
          clear bq
          have hc9 := in_any a n c o E w8 (H2.out.new N.out) (H3.out.new N.out)
          rw [Hps.out] at hc9
          have Hc9 := hide hc9
          clear hc9
          go_wp2_with fail
          refine Hc9.out.mono ?_
          rintro e w9 ⟨rfl, hu⟩
          clear p0 p1 pz q0 q1 qz s0 s1 sz Hc9
          have N := hide (N.out.trans_new hu)
          have HP := hide (HP.out.new_ hu)
          have HQ := hide (HQ.out.new_ hu)
          have HS := hide (HS.out.new_ hu)
          clear hu
          go_wp2_with fail
          go_ret
          exact ⟨rfl, N.out⟩
end Go.Proofs.YtkljanjapcpbdaaDoor
