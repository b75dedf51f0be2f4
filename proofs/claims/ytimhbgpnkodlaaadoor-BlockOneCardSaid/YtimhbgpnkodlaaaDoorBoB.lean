/- The law BlockOne, its walk. No condition but those that stand in each theorem. -/
import Derived.Test.YtimhbgpnkodlaaaDoorBoA
namespace Go.Proofs.YtimhbgpnkodlaaaDoor
open Go.RowKit Go.Maps
section
variable {E : Nat → Addr}
set_option maxRecDepth 20000 in
set_option maxHeartbeats 8000000 in
theorem blockOne_any (p : Pf) (L : Int) (A : Option Addr) (n cap : Nat) (l : List TkC) (w : World) (h2 : Sen w gBound (E 2)) (h3 : Sen w gShape (E 3)) (h5 : Sen w gNoneB (E 5)) (h7 : Sen w gFullB (E 7)) (hl : Rws w A 2 (l.map TkC.cells)) (hn : l.length = n) :
    Calls Tryd.prog 3 #[.agg #[.int .i64 p.a, .int .i64 p.n], .int .i64 L, .slice A n cap] w fun e w1 => e = .returned (.bool true) ∧ New w w1 := by
  have u0 := (Upd.refl (fun _ => False) w).alloc (.cells #[.int .i64 p.a, .int .i64 p.n] 23)
  have b0 := Blk.new w 23 #[.int .i64 p.a, .int .i64 p.n]
  have Hu0 := hide u0
  have Hb0 := hide b0
  have G2 := hide (h2.new u0)
  have G3 := hide (h3.new u0)
  have G5 := hide (h5.new u0)
  have G7 := hide (h7.new u0)
  have Hl := hide (hl.new_ u0)
  have Hn := hide hn
  clear u0 b0 h2 h3 h5 h7 hl hn
  go_enter Tryd.func3, Tryd.ntmps3
  go_upto_region 1 with (fail)
  generalize (w.alloc (.cells #[.int .i64 p.a, .int .i64 p.n] 23)) = W at *
  go_upto_region 2 with ((go_at_call 5; refine (pooled_any G2.out G3.out G7.out).mono ?_; rintro e w' ⟨rfl, hu1⟩))
  generalize w' = W1 at *
  have HN1 := hide (Hu0.out.trans_new hu1)
  have HB1 := hide (Hb0.out.new_ hu1)
  have S2 := hide (G2.out.new hu1)
  have S3 := hide (G3.out.new hu1)
  have S5 := hide (G5.out.new hu1)
  have S7 := hide (G7.out.new hu1)
  have HL1 := hide (Hl.out.new_ hu1)
  clear Hu0 Hb0 G2 G3 G5 G7 Hl hu1
  have c1 := HB1.out.cell 1
  simp only [List.getElem?_toArray, List.getElem?_cons_zero, List.getElem?_cons_succ] at c1
  have z1 := HB1.out.lt
  by_cases e1 : 100 < n
  · have i1 : (100 : Int) < (n : Int) := by omega
    go_wp2_with fail
    go_ret
    exact ⟨rfl, HN1.out⟩
  · have i1 : (n : Int) ≤ 100 := by omega
    have hn100 : n ≤ 100 := by omega
    clear e1
    by_cases e2 : 0 ≤ p.n ∧ p.n < 24
    · obtain ⟨e3, e4⟩ := e2
      go_wp2_with fail
      go_ret
      exact ⟨rfl, HN1.out⟩
    · have c0 := HB1.out.cell 0
      simp only [List.getElem?_toArray, List.getElem?_cons_zero] at c0
      by_cases e3 : 0 ≤ p.n
      · have e4 : 24 ≤ p.n := by omega
        clear e2
        by_cases hc : chk p.a p.n = 0
        · by_cases hbl : badL p L
          · have Hnw := hide (plnew_len (L := L) S2.out S3.out hc hbl)
            unfold errv at Hnw
            clear hc hbl
            go_wp2_with ((go_at_call 6; refine Hnw.out.mono ?_; rintro e w' ⟨rfl, hu2⟩))
            go_ret
            exact ⟨rfl, HN1.out.trans_new hu2⟩
          · have Hnw := hide (plnew_ok (L := L) S2.out S3.out hc hbl)
            have Hg := hide (PoolG.mk (PoolP.mk hc (by unfold badL at hbl; omega) (by unfold badL at hbl; omega)) (show 20 ≤ p.n by omega) : PoolG p L)
            clear hc hbl
            go_upto_region 7 with ((go_at_call 6; refine Hnw.out.mono ?_; rintro e w' ⟨kp, bm, tm, rfl, hp2, hu2, s0, s1, s2⟩))
            generalize w' = W2 at *
            have HP := hide (PoolN.mk s0 s1 s2)
            have Hag := hide (bow_start hu2 hp2)
            obtain ⟨a0, a1⟩ := Hg.out.a_le
            have hnp := Hg.out.n_le
            obtain ⟨i0, hi0, hz0, hz1, hz2⟩ := info_parts info_TI
            clear hp2 hu2 s0 s1 s2 c0 c1
            go_upto_region 10 with (fail)
            go_loopw [10, 11, 12] (fun v1 v2 i wr => ∃ (k : Nat) (c : PoolC) (hv : List Nat) (hs : List Int), k ≤ n ∧ i = .int .i64 k ∧ hs.length ≤ k ∧ BoW W1 wr kp bm tm p L c v1 v2 hv hs) (fun _ _ i _ => n - (intOf i).toNat)
            case atStart => exact ⟨0, zeroP, [], [], by omega, rfl, by simp, Hag.out⟩
            case round =>
              obtain ⟨k, c, hv, hs, hk, rfl, hsl, hag⟩ := hrel
              have HA := hide hag
              clear hag
              have hlen := HA.out.len Hg.out
              obtain ⟨A1, cp1, hv1, _, _, _, _, _⟩ := ints_of_own HA.out.r1
              obtain ⟨A2, cp2, hv2, _, _, _, _, _⟩ := ints_of_own HA.out.r2
              rw [List.length_map] at hv1
              subst hv1
              subst hv2
              by_cases hlt : k < n
              · obtain ⟨b, o, s, hA, hbw, hsk, D0, D1⟩ := tk_at HL1.out (k := k) (by have := Hn.out; omega)
                subst hA
                have d0 := (HA.out.new.cell (o := o + k * 2) hbw fun z => z).trans D0
                have d1 := (HA.out.new.cell (o := o + k * 2 + 1) hbw fun z => z).trans D1
                have hszw := HA.out.new.size
                have i2 : (k : Int) < (n : Int) := by omega
                clear hsk D0 D1
                cases hst : s.take with
                | false =>
                  rw [hst] at d0
                  generalize s.n = x at *
                  clear hst s
                  by_cases hx : 0 ≤ x ∧ x < (hv.length : Int)
                  · obtain ⟨hx0, hx1⟩ := hx
                    obtain ⟨j, rfl⟩ : ∃ j : Nat, x = (j : Int) := ⟨x.toNat, by omega⟩
                    have hj : j < hv.length := by omega
                    have hij : hv[j]? = some hv[j] := List.getElem?_eq_getElem hj
                    generalize hv[j] = i at *
                    have Hij := hide hij
                    obtain ⟨hi1, hl1, hc1⟩ := own_ints HA.out.r1
                    obtain ⟨b1, o1, rfl, hb1, hcc⟩ := hi1 (by rw [List.length_map]; omega)
                    have hck : wr.cell? ⟨b1, o1 + j, none⟩ = some (.int .i64 (p.a + (i : Int))) := hcc j _ (by rw [List.getElem?_map, hij]; rfl)
                    obtain ⟨hlw, hT, hT0, hi⟩ := HA.out.law.give hij (plZ_pos L) (fun j x hj hx => Hg.out.pp.block_lt (Hg.out.pp.block_in hj) hx)
                    have Hlw := hide hlw
                    have HT0 := hide hT0
                    have Hg1 := hide (plgive_yes Hg.out HA.out.pool hi hT)
                    have h64 : I64 (p.a + (i : Int)) := ⟨by omega, by omega⟩
                    clear hij hi1 hcc hlw hT hT0
                    go_upto_region 23 with (fail)
                    have Ho := hide (fun W (hp : PoolM W kp bm tm p L (giveC (plZ L) c i)) => plowner_any hp h64)
                    rw [atT_place, HT0.out] at Ho
                    have Hg2 := hide (fun W (hp : PoolM W kp bm tm p L (giveC (plZ L) c i)) (hs : Sen W gNoneB (E 5)) => plgive_no hp hs h64 (by rw [atT_place]; exact HT0.out))
                    unfold errv at Hg2
                    go_upto_region 25 with (first
                      | (go_at_call 11; refine Hg1.out.mono ?_; clear Hg1; rintro e w' ⟨rfl, hp3, hu3⟩)
                      | (go_at_call 9; refine (Ho.out _ hp3).mono ?_; rintro e w4 ⟨rfl, rfl⟩)
                      | (go_at_call 11; refine (Hg2.out _ hp3 (S5.out.new (HA.out.new.keep hu3 HP.out.in_))).mono ?_; rintro e w4 ⟨rfl, rfl⟩))
                    generalize w' = W3 at *
                    obtain ⟨hn3, r1, r2⟩ := HA.out.took HP.out hp3 hu3
                    have hs3 := hn3.size
                    have hia := (own_ints r1).1
                    have hla : (hv.map (plB p)).length = hv.length := List.length_map _
                    have Hif := hide (ints_front hia j)
                    have Hib := hide (ints_back hia (j + 1))
                    have Hr1 := hide r1
                    have Hr2 := hide r2
                    have Hp3 := hide hp3
                    have Hn3 := hide hn3
                    have hlen2 : ((hv.map (plB p)).take j).length = j := by rw [List.length_take, hla]; omega
                    have hlen3 : ((hv.map (plB p)).drop (j + 1)).length = hv.length - (j + 1) := by rw [List.length_drop, hla]
                    have Hm := hide (show (hv.take j ++ hv.drop (j + 1)).map (plB p) = (hv.map (plB p)).take j ++ (hv.map (plB p)).drop (j + 1) by rw [List.map_append, List.map_take, List.map_drop])
                    have hj64 : (j : Int) + 1 ≤ (hv.length : Int) := by omega
                    clear hp3 hu3 hn3 r1 r2 hia d0 d1
                    go_upto_region 27 with (first
                      | (at_builtin; refine append_src rfl (.tmp 134) (.tmp 137) 31 rfl W3.heap.size 3 i0 (.int .i64 0) 1 8 Tryd.underlying31 hi0 hz0 hz1 hz2 rfl (by omega) (.slice none 0 0) 0 [] rfl (World.ownsRow_nil _ _ _ _) (some ⟨b1, o1, none⟩) j _ (((hv.map (plB p)).take j).map (.int .i64)) rfl (by rw [List.length_map, hlen2]; omega) (fun h0 => Hif.out h0 (by omega)) (ints_one _) (by unfold maxLen; omega) (by omega) (Nat.le_refl _) ?_; intro v3 w3 ho3 hg3)
                      | go_in)
                    have Hif3 := hide (grown_new hg3)
                    have hs4 := Hif3.out.size
                    have Hib4 := hide (ints_back ((own_ints Hr1.out).1.new_ Hif3.out) (j + 1))
                    by_cases hcap : cp1 = j + 1
                    · have hjl : hv.length - (j + 1) = 0 := by omega
                      have hdn := hide (show (hv.map (plB p)).drop (j + 1) = [] from List.drop_eq_nil_of_le (by rw [hla]; omega))
                      go_wp2_with (first
                        | (at_builtin; refine append_src rfl (.tmp 139) (.tmp 143) 31 rfl W3.heap.size 3 i0 (.int .i64 0) 1 8 Tryd.underlying31 hi0 hz0 hz1 hz2 rfl (by omega) _ _ _ rfl ho3 (some ⟨b1, o1, none⟩) 0 _ (([] : List Int).map (.int .i64)) rfl rfl (fun h0 => absurd h0 (by omega)) (ints_one _) (by unfold maxLen; omega) (by omega) (by omega) ?_; intro v4 w4 ho4 hg4)
                        | go_in)
                      exact ⟨⟨k + 1, _, _, hs, by omega, by congr 1, by omega, BoW.gone Hn3.out Hp3.out Hr2.out Hif3.out ho3 hg4 (by rw [Hm.out, hdn.out]; exact own_parts ho4 hlen2 rfl (Nat.le_refl _)) Hlw.out⟩, by simp [intOf]; omega⟩
                    · have hcap2 : j + 1 < cp1 := by omega
                      go_wp2_with (first
                        | (at_builtin; refine append_src rfl (.tmp 139) (.tmp 143) 31 rfl W3.heap.size 3 i0 (.int .i64 0) 1 8 Tryd.underlying31 hi0 hz0 hz1 hz2 rfl (by omega) _ _ _ rfl ho3 (some ⟨b1, o1 + (j + 1), none⟩) (hv.length - (j + 1)) _ (((hv.map (plB p)).drop (j + 1)).map (.int .i64)) rfl (by rw [List.length_map, hlen3]; omega) (fun h0 => Hib4.out (by omega)) (ints_one _) (by unfold maxLen; omega) (by omega) (by omega) ?_; intro v4 w4 ho4 hg4)
                        | go_in)
                      exact ⟨⟨k + 1, _, _, hs, by omega, by congr 1, by omega, BoW.gone Hn3.out Hp3.out Hr2.out Hif3.out ho3 hg4 (by rw [Hm.out]; exact own_parts ho4 hlen2 hlen3 (Nat.le_refl _)) Hlw.out⟩, by simp [intOf]; omega⟩
                  · go_wp2_with fail
                    all_goals exact ⟨⟨k + 1, c, hv, hs, by omega, by congr 1, by omega, HA.out⟩, by simp [intOf]; omega⟩
                | true =>
                  rw [hst] at d0
                  generalize s.n = x at *
                  clear hst s
                  by_cases hx : 1 ≤ x ∧ x ≤ 1000
                  · have Hx := hide hx
                    clear hx
                    have y2 := S2.out.new HA.out.new
                    have y3 := S3.out.new HA.out.new
                    have y7 := S7.out.new HA.out.new
                    cases htk : takeC (plN p) (plZ L) c x with
                    | mk o1 c1 =>
                      cases o1 with
                      | none =>
                        have Ht := hide (pltake_none Hg.out HA.out.pool y2 y3 y7 x Hx.out htk)
                        unfold errv at Ht
                        clear htk y2 y3 y7
                        go_wp2_with ((go_at_call 7; refine Ht.out.mono ?_; rintro e w' ⟨rfl, hu3⟩))
                        exact ⟨⟨k + 1, c, hv, hs, by omega, by congr 1, by omega, HA.out.new_ hu3⟩, by simp [intOf]; omega⟩
                      | some i =>
                        have Ht := hide (pltake_some Hg.out HA.out.pool y2 y3 y7 x Hx.out htk)
                        obtain ⟨hlw, hni, hin, hTx⟩ := HA.out.law.take htk Hx.out (plZ_pos L)
                        have Hlw := hide hlw
                        clear htk y2 y3 y7 hlw
                        go_upto_region 16 with ((go_at_call 7; refine Ht.out.mono ?_; rintro e w' ⟨rfl, hp3, hu3⟩))
                        generalize w' = W3 at *
                        obtain ⟨hn3, r1, r2⟩ := HA.out.took HP.out hp3 hu3
                        have h64 : I64 (p.a + (i : Int)) := ⟨by omega, by omega⟩
                        have Hii := hide (inInts_any (p.a + (i : Int)) A1 hv.length cp1 (hv.map (plB p)) W3 (own_ints r1).1 (by rw [List.length_map]) (by omega))
                        rw [any_not (plB_not hni)] at Hii
                        have Ho := hide (plowner_any hp3 h64)
                        rw [atT_place, hTx] at Ho
                        have Hh := hide (has_any p.a p.n (p.a + (i : Int)) E W3 (S2.out.new hn3) (S3.out.new hn3))
                        rw [has_self Hg.out hin] at Hh
                        have B3 := HB1.out.new_ hn3
                        have k0 := B3.cell 0
                        have k1 := B3.cell 1
                        simp only [List.getElem?_toArray, List.getElem?_cons_zero, List.getElem?_cons_succ] at k0 k1
                        have kz := B3.lt
                        have Hr1 := hide r1
                        have Hr2 := hide r2
                        have Hp3 := hide hp3
                        have Hn3 := hide hn3
                        clear hp3 hu3 hn3 r1 r2 B3 d0 d1
                        go_upto_region 18 with (first
                          | (go_at_call 8; refine Hii.out.mono ?_; rintro e w4 ⟨rfl, rfl⟩)
                          | (go_at_call 9; refine Ho.out.mono ?_; rintro e w4 ⟨rfl, rfl⟩)
                          | (go_at_call 10; refine Hh.out.mono ?_; rintro e w4 ⟨rfl, hu4⟩))
                        have hpt := HA.out.apt
                        have hs3 := (Hn3.out.trans_new hu4).size
                        have ua : New w4 (w4.alloc (.cells #[.int .i64 (p.a + (i : Int))] 3)) := (Upd.refl _ _).alloc _
                        have Hr1 := hide (row_new (row_new Hr1.out hu4) ua)
                        have Hr2 := hide (row_new (row_new Hr2.out hu4) ua)
                        have Hp3 := hide ((Hp3.out.new_ hu4).new_ ua)
                        have Hn3 := hide ((Hn3.out.trans_new hu4).trans_new ua)
                        clear k0 k1 kz ua
                        go_upto_region 19 with (first
                          | (at_builtin; refine wpList_app1_at _ rfl _ _ rfl W1.heap.size _ _ _ _ rfl rfl Hr1.out (Blk.new _ _ _) (by rw [List.length_map]; omega) (by simp; omega) ?_; intro v3 w5 ho3 hg3 hb3)
                          | go_in)
                        have hn4 := own_ge Hr1.out Hn3.out (Nat.le_refl _) hg3
                        have hp4 := Hp3.out.kept_row Hr1.out (by decide) hg3
                        have hr4 := row_kept_apt Hr2.out Hr1.out hpt.symm hg3
                        have hpt4 := Apt.grown Hr2.out hpt.symm hb3
                        have hs4 := hn4.size
                        have Hii2 := hide (inInts_any x A2 hs.length cp2 hs w5 (own_ints hr4).1 rfl (by omega))
                        by_cases hxs : x ∈ hs
                        · rw [any_yes hxs] at Hii2
                          have Hhw := hide (show hostsW hs x = hs from if_pos hxs)
                          have Ho3 := hide ho3
                          have Hr4 := hide hr4
                          have Hp4 := hide hp4
                          have Hn4 := hide hn4
                          have Hpt := hide hpt4
                          clear hg3 hb3 ho3 hr4 hp4 hn4 hpt4 hpt hxs
                          go_wp2_with ((go_at_call 8; refine Hii2.out.mono ?_; rintro e w6 ⟨rfl, rfl⟩))
                          rw [Hhw.out] at Hlw
                          exact ⟨⟨k + 1, _, hv ++ [i], hs, by omega, by congr 1, by omega, Hn4.out, Hp4.out, by rw [List.map_append]; exact Ho3.out, Hr4.out, Hpt.out.symm, Hlw.out⟩, by simp [intOf]; omega⟩
                        · rw [any_not hxs] at Hii2
                          have Hhw := hide (show hostsW hs x = hs ++ [x] from if_neg hxs)
                          have ub : New w5 (w5.alloc (.cells #[.int .i64 x] 3)) := (Upd.refl _ _).alloc _
                          have Hr1 := hide (row_new ho3 ub)
                          have Hr2 := hide (row_new hr4 ub)
                          have Hp4 := hide (hp4.new_ ub)
                          have Hn4 := hide (hn4.trans_new ub)
                          have Hpt := hide hpt4
                          clear hg3 hb3 ho3 hr4 hp4 hn4 ub hpt4 hpt hxs
                          go_wp2_with (first
                            | (go_at_call 8; refine Hii2.out.mono ?_; rintro e w6 ⟨rfl, rfl⟩)
                            | (at_builtin; refine wpList_app1_at _ rfl _ _ rfl W1.heap.size _ _ _ _ rfl rfl Hr2.out (Blk.new _ _ _) (by omega) (by simp; omega) ?_; intro v4 w4 ho4 hg4 hb4)
                            | go_in)
                          have hn5 := own_ge Hr2.out Hn4.out (Nat.le_refl _) hg4
                          have hp5 := Hp4.out.kept_row Hr2.out (by decide) hg4
                          have hr5 := row_kept_apt Hr1.out Hr2.out Hpt.out.symm hg4
                          have hpt5 := Apt.grown Hr1.out Hpt.out.symm hb4
                          rw [Hhw.out] at Hlw
                          exact ⟨⟨k + 1, _, hv ++ [i], hs ++ [x], by omega, by congr 1, by rw [List.length_append, List.length_singleton]; omega, hn5, hp5, by rw [List.map_append]; exact hr5, ho4, hpt5, Hlw.out⟩, by simp [intOf]; omega⟩
                  · have Ht := hide (pltake_out (kp := kp) (S2.out.new HA.out.new) x (by omega))
                    unfold errv at Ht
                    clear hx
                    go_wp2_with ((go_at_call 7; refine Ht.out.mono ?_; rintro e w' ⟨rfl, hu3⟩))
                    exact ⟨⟨k + 1, c, hv, hs, by omega, by congr 1, by omega, HA.out.new_ hu3⟩, by simp [intOf]; omega⟩
              · have hkn := hide (show k = n by omega)
                have i2 : (n : Int) ≤ (k : Int) := by omega
                have hs100 : hs.length ≤ 100 := by omega
                clear hlt hk
                have hct := plcount_any HA.out.pool
                rw [HA.out.cnt] at hct
                have Hct := hide hct
                clear hct
                go_upto_region 31 with ((go_at_call 12; refine Hct.out.mono ?_; rintro e w' ⟨rfl, rfl⟩))
                clear i2
                go_loopw [18] (fun i wx => ∃ (j : Nat), j ≤ hv.length ∧ i = .int .i64 j ∧ BoW W1 wx kp bm tm p L c (.slice A1 hv.length cp1) (.slice A2 hs.length cp2) hv hs) (fun i _ => hv.length - (intOf i).toNat)
                case atStart => exact ⟨0, by omega, rfl, HA.out⟩
                case round =>
                  obtain ⟨j, hj, rfl, hag⟩ := hrel
                  have HA := hide hag
                  clear hag
                  by_cases hlt : j < hv.length
                  · have i3 : (j : Int) < (hv.length : Int) := by omega
                    have hij : hv[j]? = some hv[j] := List.getElem?_eq_getElem hlt
                    have him : hv[j] ∈ hv := List.getElem_mem hlt
                    generalize hv[j] = i at *
                    have Hij := hide hij
                    obtain ⟨f, hfold⟩ := all_longest Hg.out HA.out.law him
                    have hT := (HA.out.law.mem i).1 him
                    have hin : i < plN p := Classical.byContradiction fun h => hT (HA.out.law.out.1 i (by omega))
                    have h64 : I64 (p.a + (i : Int)) := ⟨by omega, by omega⟩
                    have Hfold := hide hfold
                    obtain ⟨b1, o1, rfl, hb1, hcc1⟩ := (own_ints HA.out.r1).1 (by rw [List.length_map]; omega)
                    clear hij him hfold hT hb1 hcc1
                    go_upto_region 37 with (fail)
                    go_loopw [19, 20, 21, 22] (fun fv wv tv hv2 wx => ∃ (k : Nat) (F H : Int) (T : Bool), k ≤ hs.length ∧ fv = .int .i64 F ∧ wv = .int .i64 H ∧ tv = .bool T ∧ hv2 = .int .i64 k ∧ (allPairs (p.a + (i : Int)) (fun h => waysH (plN p) (plM p L) (plZ L) p.a L c h) (hs.take k)).foldl stepW (-1, 0, false) = (F, H, T) ∧
                      BoW W1 wx kp bm tm p L c (.slice (some ⟨b1, o1, none⟩) hv.length cp1) (.slice A2 hs.length cp2) hv hs) (fun _ _ _ hv2 _ => hs.length - (intOf hv2).toNat)
                    case atStart => exact ⟨0, -1, 0, false, by omega, rfl, rfl, rfl, rfl, rfl, HA.out⟩
                    case round =>
                      obtain ⟨k2, F, H, T, hk2, rfl, rfl, rfl, rfl, hst, hag⟩ := hrel
                      have HA := hide hag
                      have Hst := hide hst
                      clear hag hst
                      by_cases hlt2 : k2 < hs.length
                      · have i4 : (k2 : Int) < (hs.length : Int) := by omega
                        have hik : hs[k2]? = some hs[k2] := List.getElem?_eq_getElem hlt2
                        generalize hs[k2] = h at *
                        have Hik := hide hik
                        obtain ⟨b2, o2, rfl, hb2, hcc2⟩ := (own_ints HA.out.r2).1 (by omega)
                        have hck2 := hcc2 k2 h hik
                        have Hik := hide hik
                        have Hwy := hide (plways_any Hg.out HA.out.pool (S2.out.new HA.out.new) (S3.out.new HA.out.new) h)
                        have hall := all_take (a := p.a + (i : Int)) (ws := fun h => waysH (plN p) (plM p L) (plZ L) p.a L c h) hik
                        have Hall := hide hall
                        clear hall
                        clear hik hcc2
                        go_upto_region 41 with ((go_at_call 13; refine Hwy.out.mono ?_; rintro e w' ⟨v9, rfl, ho9, hu9⟩; obtain ⟨A9, cp9, rfl, hcp9, hrw9, _⟩ := ho9.rws))
                        generalize w' = W5 at *
                        have HA5 := hide (HA.out.new_ hu9)
                        have Hrw := hide hrw9
                        have hwl := waysH_len (c := c) (p := p) (L := L) (h := h) Hg.out
                        generalize waysH (plN p) (plM p L) (plZ L) p.a L c h = ws at *
                        clear ho9 hu9 hrw9 hck2
                        go_loopw [19, 20, 21, 24] (fun fv wv tv nv wx => ∃ (k3 : Nat) (F3 H3 : Int) (T3 : Bool), k3 ≤ ws.length ∧ fv = .int .i64 F3 ∧ wv = .int .i64 H3 ∧ tv = .bool T3 ∧ nv = .int .i64 k3 ∧ (pairsOf (p.a + (i : Int)) h (ws.take k3)).foldl stepW (F, H, T) = (F3, H3, T3) ∧
                          New W5 wx) (fun _ _ _ nv _ => ws.length - (intOf nv).toNat)
                        case atStart => exact ⟨0, F, H, T, by omega, rfl, rfl, rfl, rfl, rfl, Upd.refl _ _⟩
                        case round =>
                          obtain ⟨k3, F3, H3, T3, hk3, rfl, rfl, rfl, rfl, hst3, hn5⟩ := hrel
                          have Hst3 := hide hst3
                          have Hn5 := hide hn5
                          clear hst3 hn5
                          by_cases hlt3 : k3 < ws.length
                          · have i5 : (k3 : Int) < (ws.length : Int) := by omega
                            have hiq : ws[k3]? = some ws[k3] := List.getElem?_eq_getElem hlt3
                            generalize ws[k3] = q at *
                            have Hpt := hide (pairs_take (a := p.a + (i : Int)) (h := h) hiq)
                            obtain ⟨b9, o9, rfl, hb9, hc9⟩ := Hrw.out (by rw [List.length_map]; omega)
                            have hqc := hc9 k3 q.cells (by rw [List.getElem?_map, hiq]; rfl)
                            have g0 : wr.cell? ⟨b9, o9 + k3 * 2, none⟩ = some (.int .i64 q.a) := (Hn5.out.cell (o := o9 + k3 * 2) hb9 fun z => z).trans (hqc 0 _ rfl)
                            have g1 : wr.cell? ⟨b9, o9 + k3 * 2 + 1, none⟩ = some (.int .i64 q.n) := (Hn5.out.cell (o := o9 + k3 * 2 + 1) hb9 fun z => z).trans (hqc 1 _ rfl)
                            obtain ⟨b1a, o1a, he1, hb1, hcc1⟩ := (own_ints HA5.out.r1).1 (by rw [List.length_map]; omega)
                            injection he1 with he1
                            injection he1 with e11 e12 _
                            subst e11
                            subst e12
                            have g2 : wr.cell? ⟨b1, o1 + j, none⟩ = some (.int .i64 (p.a + (i : Int))) := (Hn5.out.cell (o := o1 + j) hb1 fun z => z).trans (hcc1 j _ (by rw [List.getElem?_map, Hij.out]; rfl))
                            obtain ⟨b2a, o2a, he2, hb2, hcc2⟩ := (own_ints HA5.out.r2).1 (by omega)
                            injection he2 with he2
                            injection he2 with e21 e22 _
                            subst e21
                            subst e22
                            have g3 : wr.cell? ⟨b2, o2 + k2, none⟩ = some (.int .i64 h) := (Hn5.out.cell (o := o2 + k2) hb2 fun z => z).trans (hcc2 k2 _ Hik.out)
                            have hhs := fun n : NewW wr => has_any q.a q.n (p.a + (i : Int)) E n.w (S2.out.new ((HA5.out.new.trans_new Hn5.out).trans_new n.h)) (S3.out.new ((HA5.out.new.trans_new Hn5.out).trans_new n.h))
                            have y5 := Hn5.out.size
                            have z9 : b9 < wr.heap.size := by omega
                            have z8 : b1 < wr.heap.size := by omega
                            have z7 : b2 < wr.heap.size := by omega
                            clear hiq hc9 hqc hb9 hcc1 hcc2 hb1 hb2
                            go_upto_region 43 with (fail)
                            by_cases hb : hasB q.a q.n (p.a + (i : Int)) = true
                            · rw [if_pos hb] at Hpt
                              rw [hb] at hhs
                              have Hhs := hide hhs
                              clear hhs hb
                              by_cases hf : q.n < F3
                              · have hfd : decide (q.n < F3) = true := decide_eq_true hf
                                have Hf := hide hf
                                clear hf
                                refine wp_region_new wr (Upd.refl _ _) (by kernel_rfl) (by kernel_rfl) ?_
                                repeat (go_big_quiet_step ((go_at_call 10; exact new_call (Hhs.out _))))
                                refine wpQuiet_nil ?_
                                rintro _ ⟨nq, rfl⟩
                                go_wp2_with fail
                                exact ⟨⟨k3 + 1, F3, H3, T3, by omega, rfl, rfl, rfl, by congr 1, by rw [Hpt.out, List.foldl_append, Hst3.out]; exact if_pos Hf.out, Hn5.out.trans_new nq.h⟩, by simp [intOf]; omega⟩
                              · have hf2 : F3 ≤ q.n := by omega
                                by_cases hfe : q.n = F3
                                · have hbe : (q.n == F3) = true := by simpa using hfe
                                  have Hfe := hide hfe
                                  have Hf := hide hf
                                  clear hfe hf
                                  refine wp_region_new wr (Upd.refl _ _) (by kernel_rfl) (by kernel_rfl) ?_
                                  repeat (go_big_quiet_step ((go_at_call 10; exact new_call (Hhs.out _))))
                                  refine wpQuiet_nil ?_
                                  rintro _ ⟨nq, rfl⟩
                                  go_wp2_with fail
                                  exact ⟨⟨k3 + 1, q.n, h, true, by omega, rfl, rfl, rfl, by congr 1, by rw [Hpt.out, List.foldl_append, Hst3.out]; exact step_over Hf.out (decide_eq_true Hfe.out), Hn5.out.trans_new nq.h⟩, by simp [intOf]; omega⟩
                                · have hbe : (q.n == F3) = false := by simpa using hfe
                                  have Hfe := hide hfe
                                  have Hf := hide hf
                                  clear hfe hf
                                  refine wp_region_new wr (Upd.refl _ _) (by kernel_rfl) (by kernel_rfl) ?_
                                  repeat (go_big_quiet_step ((go_at_call 10; exact new_call (Hhs.out _))))
                                  refine wpQuiet_nil ?_
                                  rintro _ ⟨nq, rfl⟩
                                  go_wp2_with fail
                                  exact ⟨⟨k3 + 1, q.n, h, false, by omega, rfl, rfl, rfl, by congr 1, by rw [Hpt.out, List.foldl_append, Hst3.out]; exact step_over Hf.out (decide_eq_false Hfe.out), Hn5.out.trans_new nq.h⟩, by simp [intOf]; omega⟩
                            · rw [if_neg hb, List.append_nil] at Hpt
                              have hb2 : hasB q.a q.n (p.a + (i : Int)) = false := by simpa using hb
                              rw [hb2] at hhs
                              have Hhs := hide hhs
                              clear hhs hb hb2
                              refine wp_region_new wr (Upd.refl _ _) (by kernel_rfl) (by kernel_rfl) ?_
                              repeat (go_big_quiet_step ((go_at_call 10; exact new_call (Hhs.out _))))
                              refine wpQuiet_nil ?_
                              rintro _ ⟨nq, rfl⟩
                              go_wp2_with fail
                              exact ⟨⟨k3 + 1, F3, H3, T3, by omega, rfl, rfl, rfl, by congr 1, by rw [Hpt.out]; exact Hst3.out, Hn5.out.trans_new nq.h⟩, by simp [intOf]; omega⟩
                          · have hkn3 := hide (show k3 = ws.length by omega)
                            have i5 : (ws.length : Int) ≤ (k3 : Int) := by omega
                            clear hlt3 hk3
                            go_wp2_with fail
                            have hlast := Hst3.out
                            rw [hkn3.out, List.take_length] at hlast
                            exact ⟨⟨k2 + 1, F3, H3, T3, by omega, rfl, rfl, rfl, by congr 1, by rw [Hall.out, List.foldl_append, Hst.out]; exact hlast, HA5.out.new_ Hn5.out⟩, by simp [intOf]; omega⟩
                      · have hkn2 := hide (show k2 = hs.length by omega)
                        have i4 : (hs.length : Int) ≤ (k2 : Int) := by omega
                        have hlast := Hst.out
                        rw [hkn2.out, List.take_length, Hfold.out] at hlast
                        injection hlast with hl1 hl2
                        injection hl2 with hl2 hl3
                        subst hl1
                        subst hl2
                        subst hl3
                        have Ho := hide (plowner_any HA.out.pool h64)
                        rw [atT_place] at Ho
                        obtain ⟨b1a, o1a, he1, hb1, hcc1⟩ := (own_ints HA.out.r1).1 (by rw [List.length_map]; omega)
                        injection he1 with he1
                        injection he1 with e11 e12 _
                        subst e11
                        subst e12
                        have g2 : wr.cell? ⟨b1, o1 + j, none⟩ = some (.int .i64 (p.a + (i : Int))) := hcc1 j _ (by rw [List.getElem?_map, Hij.out]; rfl)
                        clear hlt2 hk2 hcc1
                        go_wp2_with ((go_at_call 9; refine Ho.out.mono ?_; rintro e w' ⟨rfl, rfl⟩))
                        exact ⟨⟨j + 1, by omega, by congr 1, HA.out⟩, by simp [intOf]; omega⟩
                  · have i3 : (hv.length : Int) ≤ (j : Int) := by omega
                    clear hlt hj
                    go_wp2_with fail
                    go_ret
                    exact ⟨rfl, HN1.out.trans_new HA.out.new⟩
        · have Hnw := hide (plnew_chk (L := L) S2.out S3.out hc)
          clear hc
          go_wp2_with ((go_at_call 6; refine Hnw.out.mono ?_; rintro e w' ⟨rfl, hu2⟩))
          go_ret
          exact ⟨rfl, HN1.out.trans_new hu2⟩
      · have e4 : p.n < 0 := by omega
        clear e3 e2
        have hc : chk p.a p.n ≠ 0 := fun h => by have := (chk_zero h).2.1.1; omega
        have Hnw := hide (plnew_chk (L := L) S2.out S3.out hc)
        clear hc
        go_wp2_with ((go_at_call 6; refine Hnw.out.mono ?_; rintro e w' ⟨rfl, hu2⟩))
        go_ret
        exact ⟨rfl, HN1.out.trans_new hu2⟩
end
end Go.Proofs.YtimhbgpnkodlaaaDoor
