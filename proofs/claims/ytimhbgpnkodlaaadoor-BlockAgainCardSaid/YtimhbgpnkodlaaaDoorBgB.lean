/- The law BlockAgain, its walk. No condition but those that stand in each theorem. -/
import Derived.Test.YtimhbgpnkodlaaaDoorBgA
namespace Go.Proofs.YtimhbgpnkodlaaaDoor
open Go.RowKit Go.Maps
section
variable {w : World} {E : Nat → Addr}
abbrev FBA : Nat := 4
set_option maxRecDepth 20000 in
set_option maxHeartbeats 8000000 in
theorem blockAgain_any (p : Pf) (L host : Int) (A : Option Addr) (n cap : Nat) (l : List TkC) (w : World) (her : Errs w E) (hl : Rws w A 2 (l.map TkC.cells)) (hn : l.length = n) :
    Calls Tryd.prog 4 #[.agg #[.int .i64 p.a, .int .i64 p.n], .int .i64 L, .slice A n cap, .int .i64 host] w fun e w1 => e = .returned (.bool true) ∧ New w w1 := by
  have u0 := (Upd.refl (fun _ => False) w).alloc (.cells #[.int .i64 p.a, .int .i64 p.n] 23)
  have b0 := Blk.new w 23 #[.int .i64 p.a, .int .i64 p.n]
  have Hu0 := hide u0
  have Hb0 := hide b0
  have Her := hide (her.new u0)
  have Hl := hide (hl.new_ u0)
  have Hn := hide hn
  clear u0 b0 her hl hn
  go_enter Tryd.func4, Tryd.ntmps4
  go_upto_region 1 with (fail)
  generalize (w.alloc (.cells #[.int .i64 p.a, .int .i64 p.n] 23)) = W at *
  go_upto_region 2 with ((go_at_call 5; refine (pooled_any Her.out.s2 Her.out.s3 Her.out.s7).mono ?_; rintro e w' ⟨rfl, hu1⟩))
  generalize w' = W1 at *
  have HN1 := hide (Hu0.out.trans_new hu1)
  have HB1 := hide (Hb0.out.new_ hu1)
  have HE1 := hide (Her.out.new hu1)
  have HL1 := hide (Hl.out.new_ hu1)
  clear Hu0 Hb0 Her Hl hu1
  have c1 := HB1.out.cell 1
  simp only [List.getElem?_toArray, List.getElem?_cons_zero, List.getElem?_cons_succ] at c1
  have z1 := HB1.out.lt
  by_cases e1 : 60 < n
  · have i1 : (60 : Int) < (n : Int) := by omega
    go_wp2_with fail
    go_ret
    exact ⟨rfl, HN1.out⟩
  · have i1 : (n : Int) ≤ 60 := by omega
    have hn60 : n ≤ 60 := by omega
    clear e1
    by_cases e2 : 0 ≤ p.n ∧ p.n < 24
    · obtain ⟨e3, e4⟩ := e2
      go_wp2_with fail
      go_ret
      exact ⟨rfl, HN1.out⟩
    · by_cases e5 : host < 1
      · by_cases e3 : 0 ≤ p.n
        · have e4 : 24 ≤ p.n := by omega
          go_wp2_with fail
          go_ret
          exact ⟨rfl, HN1.out⟩
        · have e4 : p.n < 0 := by omega
          clear e3
          go_wp2_with fail
          go_ret
          exact ⟨rfl, HN1.out⟩
      · have h1 : 1 ≤ host := by omega
        clear e5
        by_cases e6 : 1000 < host
        · by_cases e3 : 0 ≤ p.n
          · have e4 : 24 ≤ p.n := by omega
            go_wp2_with fail
            go_ret
            exact ⟨rfl, HN1.out⟩
          · have e4 : p.n < 0 := by omega
            clear e3
            go_wp2_with fail
            go_ret
            exact ⟨rfl, HN1.out⟩
        · have h2 : host ≤ 1000 := by omega
          clear e6
          have c0 := HB1.out.cell 0
          simp only [List.getElem?_toArray, List.getElem?_cons_zero] at c0
          by_cases e3 : 0 ≤ p.n
          · have e4 : 24 ≤ p.n := by omega
            clear e2
            by_cases hc : chk p.a p.n = 0
            · by_cases hbl : badL p L
              · have Hnw := hide (plnew_len (L := L) HE1.out.s2 HE1.out.s3 hc hbl)
                unfold errv at Hnw
                clear hc hbl
                go_wp2_with ((go_at_call 6; refine Hnw.out.mono ?_; rintro e w' ⟨rfl, hu2⟩))
                go_ret
                exact ⟨rfl, HN1.out.trans_new hu2⟩
              · have Hnw := hide (plnew_ok (L := L) HE1.out.s2 HE1.out.s3 hc hbl)
                have Hg := hide (PoolG.mk (PoolP.mk hc (by unfold badL at hbl; omega) (by unfold badL at hbl; omega)) (show 20 ≤ p.n by omega) : PoolG p L)
                clear hc hbl
                go_upto_region 7 with ((go_at_call 6; refine Hnw.out.mono ?_; rintro e w' ⟨kp, bm, tm, rfl, hp2, hu2, s0, s1, s2⟩))
                generalize w' = W2 at *
                have HP := hide (PoolN.mk s0 s1 s2)
                have hag := agw_start hu2 hp2
                have Hag := hide hag
                clear hag hp2 hu2 s0 s1 s2
                go_upto_region 10 with (fail)
                go_loopw [12, 13, 14] (fun v1 v2 i wr => ∃ (k : Nat) (c : PoolC) (hv : List Nat) (hs : List Int), k ≤ n ∧ i = .int .i64 k ∧ hs.length ≤ k ∧ AgW W1 wr kp bm tm p L c v1 v2 hv hs) (fun _ _ i _ => n - (intOf i).toNat)
                case atStart => exact ⟨0, zeroP, [], [], by omega, rfl, by simp, Hag.out⟩
                case round =>
                  obtain ⟨k, c, hv, hs, hk, rfl, hsl, hag⟩ := hrel
                  have HA := hide hag
                  clear hag
                  by_cases hlt : k < n
                  · obtain ⟨b, o, s, hA, hbw, hsk, D0, D1⟩ := tk_at HL1.out (k := k) (by have := Hn.out; omega)
                    subst hA
                    have d0 := (HA.out.new.cell (o := o + k * 2) hbw fun z => z).trans D0
                    have d1 := (HA.out.new.cell (o := o + k * 2 + 1) hbw fun z => z).trans D1
                    have hD1 := hide D1
                    have hszw := HA.out.new.size
                    clear D0 D1
                    have i2 : (k : Int) < (n : Int) := by omega
                    clear hsk
                    cases hst : s.take with
                    | false =>
                      rw [hst] at d0
                      go_wp2_with fail
                      exact ⟨⟨k + 1, c, hv, hs, by omega, by congr 1, by omega, HA.out⟩, by simp [intOf]; omega⟩
                    | true =>
                      rw [hst] at d0
                      generalize s.n = x at *
                      clear hst s
                      by_cases hx : 1 ≤ x ∧ x ≤ 1000
                      · have Hx := hide hx
                        clear hx
                        have y2 := HE1.out.s2.new HA.out.new
                        have y3 := HE1.out.s3.new HA.out.new
                        have y7 := HE1.out.s7.new HA.out.new
                        cases htk : takeC (plN p) (plZ L) c x with
                        | mk o1 c1 =>
                          cases o1 with
                          | none =>
                            have Ht := hide (pltake_none Hg.out HA.out.pool y2 y3 y7 x Hx.out htk)
                            unfold errv at Ht
                            clear htk y2 y3 y7
                            go_wp2_with ((go_at_call 7; refine Ht.out.mono ?_; rintro e w' ⟨rfl, hu3⟩))
                            exact ⟨⟨k + 1, c, hv, hs, by omega, by congr 1, by omega, HA.out.new_ hu3⟩, by simp [intOf]; omega⟩
                          | some i =>
                            have Ht := hide (pltake_some Hg.out HA.out.pool y2 y3 y7 x Hx.out htk)
                            have Htk := hide htk
                            clear htk y2 y3 y7
                            go_upto_region 15 with ((go_at_call 7; refine Ht.out.mono ?_; rintro e w' ⟨rfl, hp3, hu3⟩))
                            generalize w' = W3 at *
                            obtain ⟨hn3, r1, r2⟩ := HA.out.took HP.out hp3 hu3
                            have hlen := HA.out.len Hg.out
                            have hpt := HA.out.apt
                            have hs3 := hn3.size
                            have ua : New W3 (W3.alloc (.cells #[.int .i64 (p.a + (i : Int))] 3)) := (Upd.refl _ _).alloc _
                            have Hr1 := hide (row_new r1 ua)
                            have Hr2 := hide (row_new r2 ua)
                            have Hp3 := hide (hp3.new_ ua)
                            have Hn3 := hide (hn3.trans_new ua)
                            have Hlw := hide (HA.out.law.take Htk.out Hx.out (plZ_pos L))
                            clear r1 r2 hp3 hu3 ua hn3 d0 d1
                            go_upto_region 16 with (first
                              | (at_builtin; refine wpList_app1_at _ rfl _ _ rfl W1.heap.size _ _ _ _ rfl rfl Hr1.out (Blk.new _ _ _) (by rw [List.length_map]; omega) (by simp; omega) ?_; intro v3 w3 ho3 hg3 hb3)
                              | go_in)
                            have hn4 := own_ge Hr1.out Hn3.out (Nat.le_refl _) hg3
                            have hp4 := Hp3.out.kept_row Hr1.out (by decide) hg3
                            have hr4 := row_kept_apt Hr2.out Hr1.out hpt.symm hg3
                            have hpt4 := Apt.grown Hr2.out hpt.symm hb3
                            have d1 := (hn4.cell (o := o + k * 2 + 1) hbw fun z => z).trans hD1.out
                            have hs4 := hn4.size
                            have ub : New w3 (w3.alloc (.cells #[.int .i64 x] 3)) := (Upd.refl _ _).alloc _
                            have Hr1 := hide (row_new ho3 ub)
                            have Hr2 := hide (row_new hr4 ub)
                            have Hp4 := hide (hp4.new_ ub)
                            have Hn4 := hide (hn4.trans_new ub)
                            have Hpt := hide hpt4
                            clear hg3 hb3 ho3 hr4 hp4 hn4 ub hpt4 hpt
                            have hbl4 : b < w3.heap.size := by omega
                            go_wp2_with (first
                              | (at_builtin; refine wpList_app1_at _ rfl _ _ rfl W1.heap.size _ _ _ _ rfl rfl Hr2.out (Blk.new _ _ _) (by omega) (by simp; omega) ?_; intro v4 w4 ho4 hg4 hb4)
                              | go_in)
                            have hn5 := own_ge Hr2.out Hn4.out (Nat.le_refl _) hg4
                            have hp5 := Hp4.out.kept_row Hr2.out (by decide) hg4
                            have hr5 := row_kept_apt Hr1.out Hr2.out Hpt.out.symm hg4
                            have hpt5 := Apt.grown Hr1.out Hpt.out.symm hb4
                            exact ⟨⟨k + 1, _, hv ++ [i], hs ++ [x], by omega, by congr 1, by rw [List.length_append, List.length_singleton]; omega, hn5, hp5, by rw [List.map_append]; exact hr5, ho4, hpt5, Hlw.out.1⟩, by simp [intOf]; omega⟩
                      · have Ht := hide (pltake_out (kp := kp) (HE1.out.s2.new HA.out.new) x (by omega))
                        unfold errv at Ht
                        clear hx
                        go_wp2_with ((go_at_call 7; refine Ht.out.mono ?_; rintro e w' ⟨rfl, hu3⟩))
                        exact ⟨⟨k + 1, c, hv, hs, by omega, by congr 1, by omega, HA.out.new_ hu3⟩, by simp [intOf]; omega⟩
                  · have hkn := hide (show k = n by omega)
                    have i2 : (n : Int) ≤ (k : Int) := by omega
                    have hs60 : hs.length ≤ 60 := by omega
                    clear hlt hk
                    have hlen := HA.out.len Hg.out
                    obtain ⟨A1, cp1, hv1, _, _, _, _, _⟩ := ints_of_own HA.out.r1
                    rw [List.length_map] at hv1
                    subst hv1
                    go_upto_region 18 with (fail)
                    clear i2
                    go_loopw [17] (fun i wx => ∃ (j : Nat) (c : PoolC), j ≤ hv.length ∧ i = .int .i64 ((j : Int) - 1) ∧ New W1 wx ∧ PoolM wx kp bm tm p L c ∧ OwnI wx W1.heap.size (.slice A1 hv.length cp1) (hv.map (plA p)) ∧ OwnI wx W1.heap.size u13 hs ∧ LawA (plN p) (plZ L) c (hv.take j) hs) (fun i _ => (intOf i + 1).toNat)
                    case atStart => exact ⟨hv.length, c, Nat.le_refl _, rfl, HA.out.new, HA.out.pool, HA.out.r1, HA.out.r2, by rw [List.take_length]; exact HA.out.law⟩
                    case round =>
                      obtain ⟨j, c2, hj, rfl, hn2, hp2, hr1, hr2, hlw⟩ := hrel
                      have Hn2 := hide hn2
                      have Hp2 := hide hp2
                      have Hr1 := hide hr1
                      have Hr2 := hide hr2
                      have Hlw := hide hlw
                      clear hn2 hp2 hr1 hr2 hlw
                      cases j with
                      | zero =>
                        have e9 : ((0 : Nat) : Int) - 1 = -1 := rfl
                        rw [e9]
                        rw [List.take_zero] at Hlw
                        obtain rfl : c2 = zeroP := Hlw.out.zero fun j x hj hx => Hg.out.pp.block_lt (Hg.out.pp.block_in hj) hx
                        have Hhs := hide Hlw.out.hb
                        clear hj e9 Hlw
                        have hz1 := plZ_pos L
                        have hL1 := plZ_one (L := L)
                        obtain ⟨A3, cp3, hv3, _, _, _, _, _⟩ := ints_of_own Hr2.out
                        subst hv3
                        have hN1 := Hn2.out.size
                        go_upto_region 23 with (fail)
                        go_loopw [18] (fun i wx => ∃ (j : Nat), j ≤ hs.length ∧ i = .int .i64 j ∧ New W1 wx ∧ PoolM wx kp bm tm p L zeroP ∧ OwnI wx W1.heap.size (.slice A3 hs.length cp3) hs) (fun i _ => hs.length - (intOf i).toNat)
                        case atStart => exact ⟨0, by omega, rfl, Hn2.out, Hp2.out, Hr2.out⟩
                        case round =>
                          obtain ⟨j, hj, rfl, hn3, hp3, hr3⟩ := hrel
                          have Hn3 := hide hn3
                          have Hp3 := hide hp3
                          have Hr3 := hide hr3
                          clear hn3 hp3 hr3
                          by_cases hlt : j < hs.length
                          · obtain ⟨A2, cp2, he, _, _, hi2, _, _⟩ := ints_of_own Hr3.out
                            injection he with he1 he2 he3
                            subst he1
                            subst he3
                            obtain ⟨b, o, rfl, hbw, hcc⟩ := hi2 (by omega)
                            have hck := hcc j _ (List.getElem?_eq_getElem hlt)
                            generalize hs[j] = h at *
                            have Hwy := hide (plways_any Hg.out Hp3.out (HE1.out.s2.new Hn3.out) (HE1.out.s3.new Hn3.out) h)
                            rw [waysH_zero hz1 hL1] at Hwy
                            clear hcc
                            go_wp2_with ((go_at_call 13; refine Hwy.out.mono ?_; rintro e w' ⟨v9, rfl, ho9, hu9⟩; obtain ⟨A9, cp9, rfl, _, _, _⟩ := ho9.rws))
                            exact ⟨⟨j + 1, by omega, by congr 1, Hn3.out.trans_new hu9, Hp3.out.new_ hu9, row_new Hr3.out hu9⟩, by simp [intOf]; omega⟩
                          · have hjl := hide (show j = hs.length by omega)
                            have i3 : (hs.length : Int) ≤ (j : Int) := by omega
                            clear hlt hj
                            have B3 := hide (HB1.out.new_ Hn3.out)
                            have k0 := B3.out.cell 0
                            have k1 := B3.out.cell 1
                            simp only [List.getElem?_toArray, List.getElem?_cons_zero, List.getElem?_cons_succ] at k0 k1
                            have kz := B3.out.lt
                            have Hsz := hide (size_here Hg.out (HE1.out.s2.new Hn3.out) (HE1.out.s3.new Hn3.out))
                            go_upto_region 29 with ((go_at_call 14; refine Hsz.out.mono ?_; rintro e w' ⟨rfl, hu5⟩))
                            have Hn5 := hide (Hn3.out.trans_new hu5)
                            have hp5 := Hp3.out.new_ hu5
                            rw [← fullC_start (plZ L) host] at hp5
                            have Hp5 := hide hp5
                            have hnp := Hg.out.n_le
                            obtain ⟨ha0, ha1⟩ := Hg.out.a_le
                            clear k0 k1 kz i3 hp5 hu5
                            obtain ⟨N, hNN⟩ : ∃ N, plN p = N := ⟨_, rfl⟩
                            rw [hNN] at hnp ha1 ⊢
                            go_loopw [20] (fun i wx => ∃ (j : Nat), j ≤ N ∧ i = .int .i64 j ∧ New W1 wx ∧ PoolM wx kp bm tm p L (fullC (plZ L) j host)) (fun i _ => N - (intOf i).toNat)
                            case atStart => exact ⟨0, by omega, rfl, Hn5.out, Hp5.out⟩
                            case round =>
                              obtain ⟨j, hj, rfl, hn6, hp6⟩ := hrel
                              have Hn6 := hide hn6
                              have Hp6 := hide hp6
                              have B6 := hide (HB1.out.new_ hn6)
                              clear hn6 hp6
                              by_cases hlt : j < N
                              · have Ht := hide (pltake_some Hg.out Hp6.out (HE1.out.s2.new Hn6.out) (HE1.out.s3.new Hn6.out) (HE1.out.s7.new Hn6.out) host ⟨h1, h2⟩ (take_full (n := plN p) (z := plZ L) (by omega) (by omega) hz1))
                                have i4 : (j : Int) < (N : Int) := by omega
                                go_upto_region 32 with ((go_at_call 7; refine Ht.out.mono ?_; rintro e w' ⟨rfl, hp7, hu7⟩))
                                have hn7 := Hn6.out.keep hu7 HP.out.in_
                                have B7 := HB1.out.new_ hn7
                                have k0 := B7.cell 0
                                simp only [List.getElem?_toArray, List.getElem?_cons_zero] at k0
                                have kz := B7.lt
                                go_wp2_with fail
                                exact ⟨⟨j + 1, by omega, by congr 1, hn7, hp7⟩, by simp [intOf]; omega⟩
                              · obtain rfl : j = N := by omega
                                have Ht := hide (pltake_none Hg.out Hp6.out (HE1.out.s2.new Hn6.out) (HE1.out.s3.new Hn6.out) (HE1.out.s7.new Hn6.out) host ⟨h1, h2⟩ (by rw [hNN]; exact take_over (by omega)))
                                clear hlt hj
                                go_upto_region 35 with ((go_at_call 7; refine Ht.out.mono ?_; rintro e w' ⟨rfl, hu7⟩))
                                have Hn7 := hide (Hn6.out.trans_new hu7)
                                have Hp7 := hide (Hp6.out.new_ hu7)
                                have hcd := codedB_any (errv (E 7)) 7 (-1) 7 w' E (HE1.out.new Hn7.out) (ErrV.sent (by decide) (by decide))
                                rw [show decide (((7 : Nat) : Int) = 7 ∧ (-1 : Int) = -1) = true by decide] at hcd
                                have Hcd := hide hcd
                                have hct := fun W (hu : New w' W) => plcount_any (Hp7.out.new_ hu)
                                rw [hNN, cntC_full j (plZ L) (h := host) (by omega)] at hct
                                have Hct := hide hct
                                have Hlo := hide (fun W (hu : New w' W) => plloose_any Hg.out (Hp7.out.new_ hu) host)
                                rw [hNN, looseH_full hz1] at Hlo
                                clear hcd hct hu7
                                go_wp2_with (first
                                  | (go_at_call 15; refine Hcd.out.mono ?_; rintro e w8 ⟨rfl, hu8⟩)
                                  | (go_at_call 12; refine (Hct.out _ hu8).mono ?_; rintro e w9 ⟨rfl, rfl⟩)
                                  | (go_at_call 16; refine (Hlo.out _ hu8).mono ?_; rintro e w9 ⟨v9, rfl, ho9, hu9⟩; obtain ⟨A9, cp9, rfl, _, _, _, _, _⟩ := ints_of_own ho9))
                                go_ret
                                exact ⟨rfl, HN1.out.trans_new (((Hn7.out.trans_new hu8).trans_new hu9))⟩
                      | succ j =>
                        have e9 : ((j + 1 : Nat) : Int) - 1 = (j : Int) := by omega
                        rw [e9]
                        obtain ⟨A2, cp2, he, _, _, hi2, _, _⟩ := ints_of_own Hr1.out
                        rw [List.length_map] at he
                        injection he with he1 he2 he3
                        subst he1
                        subst he3
                        obtain ⟨b, o, rfl, hbw, hcc⟩ := hi2 (by rw [List.length_map]; omega)
                        have hck := hcc j _ (by rw [List.getElem?_map, List.getElem?_eq_getElem (by omega)]; rfl)
                        have htk := Hlw.out
                        rw [List.take_succ_eq_append_getElem (by omega)] at htk
                        generalize hv[j] = i at *
                        obtain ⟨hlw2, hT, hi⟩ := htk.back (plZ_pos L) (fun j x hj hx => Hg.out.pp.block_lt (Hg.out.pp.block_in hj) hx)
                        have Hgv := hide (plgive_yes Hg.out Hp2.out hi hT)
                        have Hlw2 := hide hlw2
                        have hjl : (j : Int) < (hv.length : Int) := by omega
                        unfold plA at hck
                        clear hcc htk hlw2 hT hi
                        go_wp2_with ((go_at_call 11; refine Hgv.out.mono ?_; rintro e w' ⟨rfl, hp3, hu3⟩))
                        exact ⟨⟨j, _, by omega, rfl, Hn2.out.keep hu3 HP.out.in_, hp3, row_pool Hr1.out Hp2.out hu3, row_pool Hr2.out Hp2.out hu3, Hlw2.out⟩, by simp [intOf]⟩
            · have Hnw := hide (plnew_chk (L := L) HE1.out.s2 HE1.out.s3 hc)
              clear hc
              go_wp2_with ((go_at_call 6; refine Hnw.out.mono ?_; rintro e w' ⟨rfl, hu2⟩))
              go_ret
              exact ⟨rfl, HN1.out.trans_new hu2⟩
          · have e4 : p.n < 0 := by omega
            clear e3 e2
            have hc : chk p.a p.n ≠ 0 := fun h => by have := (chk_zero h).2.1.1; omega
            have Hnw := hide (plnew_chk (L := L) HE1.out.s2 HE1.out.s3 hc)
            clear hc
            go_wp2_with ((go_at_call 6; refine Hnw.out.mono ?_; rintro e w' ⟨rfl, hu2⟩))
            go_ret
            exact ⟨rfl, HN1.out.trans_new hu2⟩
end
end Go.Proofs.YtimhbgpnkodlaaaDoor
