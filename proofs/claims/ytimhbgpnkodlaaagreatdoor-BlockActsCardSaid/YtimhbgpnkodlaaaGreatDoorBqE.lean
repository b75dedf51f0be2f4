/- The law BlockActs, its walk. No condition but those that stand in each theorem. -/
import Derived.Test.YtimhbgpnkodlaaaGreatDoorBqD
namespace Go.Proofs.YtimhbgpnkodlaaaGreatDoor
open Go.RowKit Go.Maps
section
variable {w : World} {E : Nat → Addr}
abbrev FBX : Nat := 3
set_option maxRecDepth 20000 in
set_option maxHeartbeats 8000000 in
theorem blockActs_any (p : Pf) (L host a : Int) (A : Option Addr) (n cap : Nat) (l : List TkC) (w : World) (her : Errs w E) (hl : Rws w A 2 (l.map TkC.cells)) (hn : l.length = n) (hi : ∀ (i : Nat) s, l[i]? = some s → I64 s.n) (ha : I64 a) :
    Calls Tryz.prog 3 #[.agg #[.int .i64 p.a, .int .i64 p.n], .int .i64 L, .slice A n cap, .int .i64 host, .int .i64 a] w fun e w1 => e = .returned (.bool true) ∧ New w w1 := by
  have u0 := (Upd.refl (fun _ => False) w).alloc (.cells #[.int .i64 p.a, .int .i64 p.n] 23)
  have b0 := Blk.new w 23 #[.int .i64 p.a, .int .i64 p.n]
  have Hu0 := hide u0
  have Hb0 := hide b0
  have Her := hide (her.new u0)
  have Hl := hide (hl.new_ u0)
  have Hn := hide hn
  have Hi := hide hi
  have Ha := hide ha
  clear u0 b0 her hl hn hi ha
  go_enter Tryz.func3, Tryz.ntmps3
  go_upto_region 1 with (fail)
  generalize (w.alloc (.cells #[.int .i64 p.a, .int .i64 p.n] 23)) = W at *
  go_upto_region 2 with ((go_at_call 4; refine (pooled_any Her.out.s2 Her.out.s3 Her.out.s7).mono ?_; rintro e w' ⟨rfl, hu1⟩))
  generalize w' = W1 at *
  have HN1 := hide (Hu0.out.trans_new hu1)
  have HB1 := hide (Hb0.out.new_ hu1)
  have HE1 := hide (Her.out.new hu1)
  have HL1 := hide (Hl.out.new_ hu1)
  clear Hu0 Hb0 Her Hl hu1
  have c1 := HB1.out.cell 1
  simp only [List.getElem?_toArray, List.getElem?_cons_zero, List.getElem?_cons_succ] at c1
  have z1 := HB1.out.lt
  by_cases e1 : 150 < n
  · have i1 : (150 : Int) < (n : Int) := by omega
    go_wp2_with fail
    go_ret
    exact ⟨rfl, HN1.out⟩
  · have i1 : (n : Int) ≤ 150 := by omega
    have hn150 : n ≤ 150 := by omega
    clear e1
    by_cases e2 : 0 ≤ p.n ∧ p.n < 20
    · obtain ⟨e3, e4⟩ := e2
      go_wp2_with fail
      go_ret
      exact ⟨rfl, HN1.out⟩
    · have c0 := HB1.out.cell 0
      simp only [List.getElem?_toArray, List.getElem?_cons_zero] at c0
      by_cases e3 : 0 ≤ p.n
      · have e4 : 20 ≤ p.n := by omega
        clear e2
        by_cases hc : chk p.a p.n = 0
        · by_cases hbl : badL p L
          · skip
            have Hnw := hide (plnew_len (L := L) HE1.out.s2 HE1.out.s3 hc hbl)
            have Hrn := hide (fun (X : World) => refnew_len (w := X) (p := p) (L := L) hc hbl)
            unfold errv at Hnw
            clear hc hbl
            go_upto_region 5 with ((go_at_call 5; refine Hnw.out.mono ?_; rintro e w2 ⟨rfl, hu2⟩))
            have B2 := HB1.out.new_ hu2
            have k0 := B2.cell 0
            have k1 := B2.cell 1
            simp only [List.getElem?_toArray, List.getElem?_cons_zero, List.getElem?_cons_succ] at k0 k1
            have kz := B2.lt
            have Hu2 := hide hu2
            clear B2 hu2 c0 c1 z1
            go_upto_region 6 with ((go_at_call 6; refine (Hrn.out w2).mono ?_; rintro e w3 ⟨rfl, hu3⟩))
            have Hu3 := hide (Hu2.out.trans_new hu3)
            clear k0 k1 kz hu3
            have Hcd := hide (coded_sent (k := 2) (i := 2) (HE1.out.new Hu3.out) (by decide) (by decide) rfl)
            go_wp2_with ((go_at_call 7; refine Hcd.out.mono ?_; rintro e w4 ⟨rfl, hu4⟩))
            go_ret
            exact ⟨rfl, HN1.out.trans_new (Hu3.out.trans_new hu4)⟩
          · skip
            have Hnw := hide (plnew_ok (L := L) HE1.out.s2 HE1.out.s3 hc hbl)
            have Hg := hide (PoolG.mk (PoolP.mk hc (by unfold badL at hbl; omega) (by unfold badL at hbl; omega)) (show 20 ≤ p.n by omega) : PoolG p L)
            have Hrn := hide (fun (X : World) => refnew_ok (w := X) Hg.out hbl)
            clear hc hbl
            go_upto_region 5 with ((go_at_call 5; refine Hnw.out.mono ?_; rintro e w2 ⟨kp, bm, tm, rfl, hp2, hu2, s0, s1, s2⟩))
            have B2 := HB1.out.new_ hu2
            have k0 := B2.cell 0
            have k1 := B2.cell 1
            simp only [List.getElem?_toArray, List.getElem?_cons_zero, List.getElem?_cons_succ] at k0 k1
            have kz := B2.lt
            have Hu2 := hide hu2
            have Hp2 := hide hp2
            have Hs := hide (PoolN.mk s0 s1 s2)
            clear B2 hu2 c0 c1 z1 hp2 s0 s1 s2
            go_upto_region 6 with ((go_at_call 6; refine (Hrn.out w2).mono ?_; rintro e w3 ⟨mp, gT, gB, rfl, hr3, hu3, s0, s1, s2⟩))
            have HP := hide (show ActN W1 kp bm tm gT gB from ⟨Hs.out, Nat.le_trans Hu2.out.size s1, Nat.le_trans Hu2.out.size s2⟩)
            have Hag := hide (show ActW W1 w3 kp bm tm mp gT gB p L zeroP from ⟨Hu2.out.trans_new hu3, Hp2.out.new_ hu3, hr3⟩)
            clear k0 k1 kz hr3 hu3 s0 s1 s2 Hp2 Hu2 Hs Hnw Hrn
            go_upto_region 11 with (fail)
            go_loopw [16] (fun i wr => ∃ (k : Nat) (c : PoolC), k ≤ n ∧ i = .int .i64 k ∧ ActW W1 wr kp bm tm mp gT gB p L c) (fun i _ => n - (intOf i).toNat)
            case atStart => exact ⟨0, zeroP, by omega, rfl, Hag.out⟩
            case round =>
              obtain ⟨k, c, hk, rfl, hag⟩ := hrel
              have HA := hide hag
              clear hag
              by_cases hlt : k < n
              · obtain ⟨b, o, s, hA, hbw, hsk, D0, D1⟩ := tk_at HL1.out (k := k) (by have := Hn.out; omega)
                subst hA
                have hs64 := Hi.out _ s hsk
                have d0 := (HA.out.new.cell (o := o + k * 2) hbw fun z => z).trans D0
                have d1 := (HA.out.new.cell (o := o + k * 2 + 1) hbw fun z => z).trans D1
                have hszw := HA.out.new.size
                clear D0 D1
                have i2 : (k : Int) < (n : Int) := by omega
                clear hsk
                cases hst : s.take with
                | false =>
                  rw [hst] at d0
                  generalize s.n = x at *
                  clear hst s
                  have B3 := HB1.out.new_ HA.out.new
                  have k0 := B3.cell 0
                  simp only [List.getElem?_toArray, List.getElem?_cons_zero] at k0
                  have kz := B3.lt
                  clear B3
                  by_cases hx : 0 ≤ x ∧ x < 1000
                  · obtain ⟨f1, f2, hy64⟩ := sh_facts (a := p.a) (by have := Hg.out.a_le; omega) hx
                    obtain ⟨hx0, hx1⟩ := hx
                    rcases give_cases (x := p.a + x) HA.out.pool.out with hy0 | ⟨i, hi2, hy, hT⟩
                    · skip
                      have Hg1 := hide (plgive_no HA.out.pool (HE1.out.s5.new HA.out.new) hy64 hy0)
                      unfold errv at Hg1
                      have Hg2 := hide (refgive_no Hg.out HA.out.pool.out HA.out.ref hy64 hy0)
                      have Hcd := hide (coded_sent (i := 5) (HE1.out.new HA.out.new) (show 1 ≤ 5 by decide) (by decide) rfl)
                      clear hy0 hy64 hs64
                      go_wp2_with (first
                        | (go_at_call 10; refine Hg1.out.mono ?_; rintro e w3 ⟨rfl, rfl⟩)
                        | (go_at_call 11; refine Hg2.out.mono ?_; rintro e w4 ⟨rfl, rfl⟩)
                        | (go_at_call 7; refine Hcd.out.mono ?_; rintro e w5 ⟨rfl, hu5⟩))
                      exact ⟨⟨k + 1, c, by omega, by congr 1, HA.out.new_ hu5⟩, by simp [intOf]; omega⟩
                    · skip
                      obtain rfl : x = (i : Int) := by omega
                      clear hy64
                      have Hg1 := hide (plgive_yes Hg.out HA.out.pool hi2 hT)
                      have Hg2 := hide (fun (X : World) (hu : Upd (fun k => k = bm ∨ k = tm) wr X) => refgive_yes Hg.out HA.out.pool.out (HA.out.first HP.out hu).2 hi2 hT)
                      have Hcd := hide (fun (X : World) (hX : New W1 X) => coded_nil (HE1.out.new hX))
                      clear hi2 hT hs64
                      go_wp2_with (first
                        | (go_at_call 10; refine Hg1.out.mono ?_; rintro e w3 ⟨rfl, hp3, hu3⟩)
                        | (go_at_call 11; refine (Hg2.out _ hu3).mono ?_; rintro e w4 ⟨rfl, hr4, hu4⟩; have HA4 := hide (act_then (HA.out.first HP.out hu3).1 hp3 (HA.out.first HP.out hu3).2 HP.out hr4 hu4); clear hp3 hu3 hr4 hu4)
                        | (go_at_call 7; refine (Hcd.out _ HA4.out.new).mono ?_; rintro e w5 ⟨rfl, hu5⟩))
                      exact ⟨⟨k + 1, _, by omega, by congr 1, HA4.out.new_ hu5⟩, by simp [intOf]; omega⟩
                  · have hy64 := hs64
                    by_cases hx0 : 0 ≤ x
                    · have hx1 : 1000 ≤ x := by omega
                      clear hx
                      rcases give_cases (x := x) HA.out.pool.out with hy0 | ⟨i, hi2, hy, hT⟩
                      · skip
                        have Hg1 := hide (plgive_no HA.out.pool (HE1.out.s5.new HA.out.new) hy64 hy0)
                        unfold errv at Hg1
                        have Hg2 := hide (refgive_no Hg.out HA.out.pool.out HA.out.ref hy64 hy0)
                        have Hcd := hide (coded_sent (i := 5) (HE1.out.new HA.out.new) (show 1 ≤ 5 by decide) (by decide) rfl)
                        clear hy0 hy64 hs64
                        go_wp2_with (first
                          | (go_at_call 10; refine Hg1.out.mono ?_; rintro e w3 ⟨rfl, rfl⟩)
                          | (go_at_call 11; refine Hg2.out.mono ?_; rintro e w4 ⟨rfl, rfl⟩)
                          | (go_at_call 7; refine Hcd.out.mono ?_; rintro e w5 ⟨rfl, hu5⟩))
                        exact ⟨⟨k + 1, c, by omega, by congr 1, HA.out.new_ hu5⟩, by simp [intOf]; omega⟩
                      · skip
                        subst hy
                        clear hy64
                        have Hg1 := hide (plgive_yes Hg.out HA.out.pool hi2 hT)
                        have Hg2 := hide (fun (X : World) (hu : Upd (fun k => k = bm ∨ k = tm) wr X) => refgive_yes Hg.out HA.out.pool.out (HA.out.first HP.out hu).2 hi2 hT)
                        have Hcd := hide (fun (X : World) (hX : New W1 X) => coded_nil (HE1.out.new hX))
                        clear hi2 hT hs64
                        go_wp2_with (first
                          | (go_at_call 10; refine Hg1.out.mono ?_; rintro e w3 ⟨rfl, hp3, hu3⟩)
                          | (go_at_call 11; refine (Hg2.out _ hu3).mono ?_; rintro e w4 ⟨rfl, hr4, hu4⟩; have HA4 := hide (act_then (HA.out.first HP.out hu3).1 hp3 (HA.out.first HP.out hu3).2 HP.out hr4 hu4); clear hp3 hu3 hr4 hu4)
                          | (go_at_call 7; refine (Hcd.out _ HA4.out.new).mono ?_; rintro e w5 ⟨rfl, hu5⟩))
                        exact ⟨⟨k + 1, _, by omega, by congr 1, HA4.out.new_ hu5⟩, by simp [intOf]; omega⟩
                    · have hx1 : x < 0 := by omega
                      clear hx hx0
                      rcases give_cases (x := x) HA.out.pool.out with hy0 | ⟨i, hi2, hy, hT⟩
                      · skip
                        have Hg1 := hide (plgive_no HA.out.pool (HE1.out.s5.new HA.out.new) hy64 hy0)
                        unfold errv at Hg1
                        have Hg2 := hide (refgive_no Hg.out HA.out.pool.out HA.out.ref hy64 hy0)
                        have Hcd := hide (coded_sent (i := 5) (HE1.out.new HA.out.new) (show 1 ≤ 5 by decide) (by decide) rfl)
                        clear hy0 hy64 hs64
                        go_wp2_with (first
                          | (go_at_call 10; refine Hg1.out.mono ?_; rintro e w3 ⟨rfl, rfl⟩)
                          | (go_at_call 11; refine Hg2.out.mono ?_; rintro e w4 ⟨rfl, rfl⟩)
                          | (go_at_call 7; refine Hcd.out.mono ?_; rintro e w5 ⟨rfl, hu5⟩))
                        exact ⟨⟨k + 1, c, by omega, by congr 1, HA.out.new_ hu5⟩, by simp [intOf]; omega⟩
                      · skip
                        subst hy
                        clear hy64
                        have Hg1 := hide (plgive_yes Hg.out HA.out.pool hi2 hT)
                        have Hg2 := hide (fun (X : World) (hu : Upd (fun k => k = bm ∨ k = tm) wr X) => refgive_yes Hg.out HA.out.pool.out (HA.out.first HP.out hu).2 hi2 hT)
                        have Hcd := hide (fun (X : World) (hX : New W1 X) => coded_nil (HE1.out.new hX))
                        clear hi2 hT hs64
                        go_wp2_with (first
                          | (go_at_call 10; refine Hg1.out.mono ?_; rintro e w3 ⟨rfl, hp3, hu3⟩)
                          | (go_at_call 11; refine (Hg2.out _ hu3).mono ?_; rintro e w4 ⟨rfl, hr4, hu4⟩; have HA4 := hide (act_then (HA.out.first HP.out hu3).1 hp3 (HA.out.first HP.out hu3).2 HP.out hr4 hu4); clear hp3 hu3 hr4 hu4)
                          | (go_at_call 7; refine (Hcd.out _ HA4.out.new).mono ?_; rintro e w5 ⟨rfl, hu5⟩))
                        exact ⟨⟨k + 1, _, by omega, by congr 1, HA4.out.new_ hu5⟩, by simp [intOf]; omega⟩
                | true =>
                  rw [hst] at d0
                  generalize s.n = x at *
                  clear hst s hs64
                  by_cases hx : 1 ≤ x ∧ x ≤ 1000
                  · have Hx := hide hx
                    clear hx
                    have y2 := HE1.out.s2.new HA.out.new
                    have y3 := HE1.out.s3.new HA.out.new
                    have y7 := HE1.out.s7.new HA.out.new
                    cases htk : takeC (plN p) (plZ L) c x with
                    | mk o1 c1 =>
                      cases o1 with
                      | none =>
                        have Ht := hide (pltake_none Hg.out HA.out.pool y2 y3 y7 x Hx.out htk)
                        unfold errv at Ht
                        have Hr := hide (fun (X : World) (hu : New wr X) => reftake_none Hg.out (HA.out.ref.new_ hu) x Hx.out htk)
                        have Hcd := hide (fun (X : World) (hX : New W1 X) => coded_sent (i := 7) (HE1.out.new hX) (show 1 ≤ 7 by decide) (by decide) rfl)
                        clear htk y2 y3 y7
                        go_wp2_with (first
                          | (go_at_call 8; refine Ht.out.mono ?_; rintro e w3 ⟨rfl, hu3⟩)
                          | (go_at_call 9; refine (Hr.out _ hu3).mono ?_; rintro e w4 ⟨rfl, hu4⟩; have Hu4 := hide (hu3.trans_new hu4); clear hu3 hu4)
                          | (go_at_call 7; refine (Hcd.out _ (HA.out.new.trans_new Hu4.out)).mono ?_; rintro e w5 ⟨rfl, hu5⟩))
                        exact ⟨⟨k + 1, c, by omega, by congr 1, HA.out.new_ (Hu4.out.trans_new hu5)⟩, by simp [intOf]; omega⟩
                      | some i =>
                        have Ht := hide (pltake_some Hg.out HA.out.pool y2 y3 y7 x Hx.out htk)
                        have Hr := hide (fun (X : World) (hu : Upd (fun k => k = bm ∨ k = tm) wr X) => reftake_some Hg.out (HA.out.first HP.out hu).2 x Hx.out htk)
                        have Hcd := hide (fun (X : World) (hX : New W1 X) => coded_nil (HE1.out.new hX))
                        clear htk y2 y3 y7
                        go_wp2_with (first
                          | (go_at_call 8; refine Ht.out.mono ?_; rintro e w3 ⟨rfl, hp3, hu3⟩)
                          | (go_at_call 9; refine (Hr.out _ hu3).mono ?_; rintro e w4 ⟨rfl, hr4, hu4⟩; have HA4 := hide (act_then (HA.out.first HP.out hu3).1 hp3 (HA.out.first HP.out hu3).2 HP.out hr4 hu4); clear hp3 hu3 hr4 hu4)
                          | (go_at_call 7; refine (Hcd.out _ HA4.out.new).mono ?_; rintro e w5 ⟨rfl, hu5⟩))
                        exact ⟨⟨k + 1, _, by omega, by congr 1, HA4.out.new_ hu5⟩, by simp [intOf]; omega⟩
                  · have Ht := hide (pltake_out (kp := kp) (HE1.out.s2.new HA.out.new) x (by omega))
                    unfold errv at Ht
                    have Hr := hide (fun (X : World) => reftake_out (mp := mp) (w := X) x (by omega))
                    have Hcd := hide (fun (X : World) (hX : New W1 X) => coded_sent (i := 2) (HE1.out.new hX) (show 1 ≤ 2 by decide) (by decide) rfl)
                    clear hx
                    go_wp2_with (first
                      | (go_at_call 8; refine Ht.out.mono ?_; rintro e w3 ⟨rfl, hu3⟩)
                      | (go_at_call 9; refine (Hr.out _).mono ?_; rintro e w4 ⟨rfl, rfl⟩)
                      | (go_at_call 7; refine (Hcd.out _ (HA.out.new.trans_new hu3)).mono ?_; rintro e w5 ⟨rfl, hu5⟩))
                    exact ⟨⟨k + 1, c, by omega, by congr 1, HA.out.new_ (hu3.trans_new hu5)⟩, by simp [intOf]; omega⟩
              · have i2 : (n : Int) ≤ (k : Int) := by omega
                clear hlt hk
                have Hcp := hide (plcopy_any HA.out.pool)
                go_upto_region 24 with ((go_at_call 12; refine Hcp.out.mono ?_; rintro e w4 ⟨kc, bc, tc, rfl, hp4, hu4, _, _, _⟩))
                have HA4 := hide (HA.out.new_ hu4)
                have HC4 := hide hp4
                clear i2 hp4 hu4 Hcp
                have Ho1 := hide (fun (kx bx tx : Nat) (hp : PoolM w4 kx bx tx p L c) => plowner_any hp Ha.out)
                have Ho3 := hide (refowner_any Hg.out HA4.out.pool.out HA4.out.ref Ha.out)
                have Hc1 := hide (plcount_any HA4.out.pool)
                have Hc2 := hide (refcount_any Hg.out HA4.out.ref)
                have Hb1 := hide (plblocks_row Hg.out HA4.out.pool (HE1.out.s2.new HA4.out.new) (HE1.out.s3.new HA4.out.new) host)
                have Hb2 := hide (fun (X : World) (hX : New w4 X) => refblocks_row Hg.out (HA4.out.ref.new_ hX) host)
                have Hbl := hide (blks_len (c := c) (plM p L) (plZ L) p.a L host)
                have Hml := hide (plM_le Hg.out)
                have Hl1 := hide (fun (X : World) (hX : New w4 X) => plloose_row Hg.out (HA4.out.pool.new_ hX) host)
                have Hl2 := hide (fun (X : World) (hX : New w4 X) => refloose_row Hg.out (HA4.out.ref.new_ hX) host)
                have Hll := hide (loose_len (plN p) (plZ L) p.a c host)
                have Hnl := hide Hg.out.n_le
                have Hw1 := hide (fun (kx bx tx : Nat) (hp : PoolM w4 kx bx tx p L c) (X : World) (hX : New w4 X) => plways_row Hg.out (hp.new_ hX) (HE1.out.s2.new (HA4.out.new.trans_new hX)) (HE1.out.s3.new (HA4.out.new.trans_new hX)) host)
                have Hw3 := hide (fun (X : World) (hX : New w4 X) => refways_any Hg.out (HA4.out.ref.new_ hX) host)
                have Hwl := hide (ways_len2 (c := c) (host := host) Hg.out)
                generalize blksH (plM p L) (plZ L) p.a L c host = lb at *
                generalize looseH (plN p) (plZ L) p.a c host = ll at *
                generalize waysH (plN p) (plM p L) (plZ L) p.a L c host = lw at *
                generalize atT p.a c a = av at *
                generalize cntC (plN p) c.T = cn at *
                go_upto_region 28 with (first
                  | (go_at_call 13; refine (Ho1.out _ _ _ (by first | exact HA4.out.pool | exact HC4.out)).mono ?_; rintro e wo ⟨rfl, rfl⟩)
                  | (go_at_call 14; refine Ho3.out.mono ?_; rintro e wo ⟨rfl, rfl⟩)
                  | (go_at_call 15; refine Hc1.out.mono ?_; rintro e wo ⟨rfl, rfl⟩)
                  | (go_at_call 16; refine Hc2.out.mono ?_; rintro e wo ⟨rfl, rfl⟩)
                  | (go_at_call 18; refine Hb1.out.mono ?_; rintro e w5 ⟨A1, k1, rfl, hr5, hu5⟩; have NX := hide hu5; have RX := hide hr5; clear hu5 hr5)
                  | (go_at_call 19; refine (Hb2.out _ NX.out).mono ?_; rintro e w6 ⟨A2, k2, rfl, hr6, hu6⟩; have Hsm := hide (same_pfs (k := k1) (d := k2) (Rws.new_ RX.out hu6) hr6 (by have := Hbl.out; have := Hml.out; omega)); have NX := hide (NX.out.trans_new hu6); clear hu6 hr6)
                  | (go_at_call 17; refine Hsm.out.mono ?_; rintro e w7 ⟨rfl, hu7⟩; have NX := hide (NX.out.trans_new hu7); clear hu7 Hsm))
                go_wp2_with (first
                  | (go_at_call 21; refine (Hl1.out _ NX.out).mono ?_; rintro e w8 ⟨A3, k3, rfl, hr8, hu8⟩; have NX := hide (NX.out.trans_new hu8); have RX := hide hr8; clear hu8 hr8)
                  | (go_at_call 22; refine (Hl2.out _ NX.out).mono ?_; rintro e w9 ⟨A4, k4, rfl, hr9, hu9⟩; have Hsi := hide (same_ints (k := k3) (d := k4) (Ints.new_ RX.out hu9) hr9 (by have := Hll.out; have := Hnl.out; omega)); have NX := hide (NX.out.trans_new hu9); clear hu9 hr9)
                  | (go_at_call 20; refine Hsi.out.mono ?_; rintro e wa ⟨rfl, hua⟩; have NX := hide (NX.out.trans_new hua); clear hua Hsi)
                  | (go_at_call 23; refine (Hw1.out _ _ _ (by first | exact HA4.out.pool | exact HC4.out) _ NX.out).mono ?_; rintro e wb ⟨A5, k5, rfl, hrb, hub⟩; have NX := hide (NX.out.trans_new hub); have RX := hide hrb; clear hub hrb)
                  | (go_at_call 24; refine (Hw3.out _ NX.out).mono ?_; rintro e wd ⟨A7, k7, rfl, hrd, hud⟩; have Hsw := hide (fun k d => same_pfs (k := k) (d := d) (Rws.new_ RX.out hud) hrd Hwl.out); have NX := hide (NX.out.trans_new hud); clear hud hrd)
                  | (go_at_call 17; refine (Hsw.out _ _).mono ?_; rintro e wf ⟨rfl, huf⟩; have NX := hide (NX.out.trans_new huf); clear huf Hsw))
                go_ret
                exact ⟨rfl, HN1.out.trans_new (HA4.out.new.trans_new NX.out)⟩
        · skip
          obtain ⟨q, hq⟩ : ∃ q, chk p.a p.n = q := ⟨_, rfl⟩
          have Hnw := hide (plnew_chk (L := L) HE1.out.s2 HE1.out.s3 hc)
          have Hrn := hide (fun (X : World) => refnew_chk (w := X) (p := p) (L := L) hc)
          have Hq := hide (show 1 ≤ q ∧ q ≤ 9 from ⟨by omega, by rw [← hq]; exact chk_le9k _ _⟩)
          rw [hq] at Hnw Hrn
          clear hq
          clear hc
          go_upto_region 5 with ((go_at_call 5; refine Hnw.out.mono ?_; rintro e w2 ⟨rfl, hu2⟩))
          have B2 := HB1.out.new_ hu2
          have k0 := B2.cell 0
          have k1 := B2.cell 1
          simp only [List.getElem?_toArray, List.getElem?_cons_zero, List.getElem?_cons_succ] at k0 k1
          have kz := B2.lt
          have Hu2 := hide hu2
          clear B2 hu2 c0 c1 z1
          go_upto_region 6 with ((go_at_call 6; refine (Hrn.out w2).mono ?_; rintro e w3 ⟨rfl, hu3⟩))
          have Hu3 := hide (Hu2.out.trans_new hu3)
          clear k0 k1 kz hu3
          have iq : (0 : Int) < (q : Int) := by have := Hq.out; omega
          have Hcd := hide (coded_sent (HE1.out.new Hu3.out) Hq.out.1 Hq.out.2 rfl)
          go_wp2_with ((go_at_call 7; refine Hcd.out.mono ?_; rintro e w4 ⟨rfl, hu4⟩))
          go_ret
          exact ⟨rfl, HN1.out.trans_new (Hu3.out.trans_new hu4)⟩
      · have e4 : p.n < 0 := by omega
        clear e3 e2
        have hc : chk p.a p.n ≠ 0 := fun h => by have := (chk_zero h).2.1.1; omega
        obtain ⟨q, hq⟩ : ∃ q, chk p.a p.n = q := ⟨_, rfl⟩
        have Hnw := hide (plnew_chk (L := L) HE1.out.s2 HE1.out.s3 hc)
        have Hrn := hide (fun (X : World) => refnew_chk (w := X) (p := p) (L := L) hc)
        have Hq := hide (show 1 ≤ q ∧ q ≤ 9 from ⟨by omega, by rw [← hq]; exact chk_le9k _ _⟩)
        rw [hq] at Hnw Hrn
        clear hq
        clear hc
        go_upto_region 5 with ((go_at_call 5; refine Hnw.out.mono ?_; rintro e w2 ⟨rfl, hu2⟩))
        have B2 := HB1.out.new_ hu2
        have k0 := B2.cell 0
        have k1 := B2.cell 1
        simp only [List.getElem?_toArray, List.getElem?_cons_zero, List.getElem?_cons_succ] at k0 k1
        have kz := B2.lt
        have Hu2 := hide hu2
        clear B2 hu2 c0 c1 z1
        go_upto_region 6 with ((go_at_call 6; refine (Hrn.out w2).mono ?_; rintro e w3 ⟨rfl, hu3⟩))
        have Hu3 := hide (Hu2.out.trans_new hu3)
        clear k0 k1 kz hu3
        have iq : (0 : Int) < (q : Int) := by have := Hq.out; omega
        have Hcd := hide (coded_sent (HE1.out.new Hu3.out) Hq.out.1 Hq.out.2 rfl)
        go_wp2_with ((go_at_call 7; refine Hcd.out.mono ?_; rintro e w4 ⟨rfl, hu4⟩))
        go_ret
        exact ⟨rfl, HN1.out.trans_new (Hu3.out.trans_new hu4)⟩
end
end Go.Proofs.YtimhbgpnkodlaaaGreatDoor
