/- Package set: two, at what Not wants. No condition but those that stand in each theorem. -/
import Derived.Test.YtignngpligicjaaGreatDoorSt9
namespace Go.Proofs.YtignngpligicjaaGreatDoor
open Go.RowKit

def want_n (x y : Bool) : Bool := x && !y
theorem want_n_any (x y : Bool) (w : World) : Calls Tryz.prog 81 #[.bool x, .bool y] w fun e w1 => e = .returned (.bool (want_n x y)) ∧ w = w1 := by
  cases x <;> cases y <;>
  · go_enter Tryz.func81, Tryz.ntmps81
    go_wp2_with fail
    go_ret
    exact ⟨rfl, rfl⟩

set_option maxRecDepth 20000 in
set_option maxHeartbeats 4000000 in
theorem two_n_any (A1 A2 : Option Addr) (n1 c1 n2 c2 : Nat) (a b : List Pf) (E : Nat → Addr) (w : World) (htz : TzOk w) (h2 : Sen w gBound (E 2)) (h3 : Sen w gShape (E 3)) (hx : Rws w A1 2 (a.map Pf.cells)) (hn1 : a.length = n1) (hy : Rws w A2 2 (b.map Pf.cells)) (hn2 : b.length = n2) (hl1 : n1 ≤ 100000) (hl2 : n2 ≤ 100000) :
    Calls Tryz.prog 78 #[.slice A1 n1 c1, .slice A2 n2 c2, .func (.func 81) #[] #[]] w (NormPost E (twoC a b) (fun x => want_n (inK (a.map Pf.b) x) (inK (b.map Pf.b) x)) (132 * (n1 + n2)) w) := by
  have Hs1 := hide (spans_any A1 n1 c1 a E w h2 h3 hx hn1 hl1)
  have Hs2 := hide (fun w1 (u : New w w1) => spans_any A2 n2 c2 b E w1 (h2.new u) (h3.new u) (hy.new_ u) hn2 hl2)
  have Htz := hide htz
  have Hn1 := hide hn1
  have Hn2 := hide hn2
  clear htz h2 h3 hx hy hn1 hn2
  go_enter Tryz.func78, Tryz.ntmps78
  go_wp2_with fail
  refine Hs1.out.mono ?_
  rintro e w1 ⟨v1, er1, rfl, her1, hu1, hbad1, hgood1⟩
  have U1 := hide hu1
  by_cases hC1 : (pfsC a).1 = 0
  rotate_left
  · obtain ⟨t, p, rfl⟩ := her1.ptr_of hC1
    have Her := hide her1
    have HC := hide hC1
    clear her1 hu1 hbad1 hgood1 hC1
    go_wp2_with fail
    go_ret2
    have e9 : twoC a b = pfsC a := if_neg HC.out
    exact ⟨_, _, [], rfl, by rw [e9]; exact Her.out, U1.out, World.ownsRow_nil _ _ _ _, by simp, fun _ => rfl, fun h => absurd (by rw [e9] at h; exact h) HC.out⟩
  obtain rfl := her1.nil_of hC1
  obtain ⟨l1, hp1, hs1, ho1⟩ := hgood1 hC1
  have HC1 := hide hC1
  have G1 := hide (And.intro hp1 hs1)
  have HO1 := hide ho1
  have Hs2 := hide (Hs2.out w1 hu1)
  clear her1 hu1 hbad1 hgood1 hC1 hp1 hs1 ho1
  go_wp2_with fail
  refine Hs2.out.mono ?_
  rintro e w2 ⟨v2, er2, rfl, her2, hu2, hbad2, hgood2⟩
  have e9 : twoC a b = pfsC b := if_pos HC1.out
  have E9 := hide e9
  have U2 := hide (U1.out.trans_new hu2)
  have HO1 := hide (HO1.out.new_ hu2)
  clear e9
  by_cases hC2 : (pfsC b).1 = 0
  rotate_left
  · obtain ⟨t, p, rfl⟩ := her2.ptr_of hC2
    have Her := hide her2
    have HC := hide hC2
    clear her2 hu2 hbad2 hgood2 hC2
    go_wp2_with fail
    go_ret2
    exact ⟨_, _, [], rfl, by rw [E9.out]; exact Her.out, U2.out, World.ownsRow_nil _ _ _ _, by simp, fun _ => rfl, fun h => absurd (by rw [E9.out] at h; exact h) HC.out⟩
  obtain rfl := her2.nil_of hC2
  obtain ⟨l2, hp2, hs2, ho2⟩ := hgood2 hC2
  have HC2 := hide hC2
  have HerN := hide her2
  have G2 := hide (And.intro hp2 hs2)
  have HO2 := hide ho2
  obtain ⟨B1, k1, rfl, hq1⟩ := HO1.out.get
  obtain ⟨B2, k2, rfl, hq2⟩ := HO2.out.get
  have lc1 : (mergeL l1).length ≤ n1 := by
    have h1 := merge_len l1
    have h2 := G1.out.1.length_eq
    rw [List.length_map] at h2
    have := Hn1.out
    omega
  have lc2 : (mergeL l2).length ≤ n2 := by
    have h1 := merge_len l2
    have h2 := G2.out.1.length_eq
    rw [List.length_map] at h2
    have := Hn2.out
    omega
  have lb1 : (mergeL l1).length ≤ 100000 := Nat.le_trans lc1 hl1
  have lb2 : (mergeL l2).length ≤ 100000 := Nat.le_trans lc2 hl2
  have Q1 := hide hq1
  have Q2 := hide hq2
  clear her2 hu2 hbad2 hgood2 hC2 hp2 hs2 ho2 hq1 hq2 Hs1 Hs2
  have HO2 := hide (HO2.out.lower U1.out.size)
  generalize hX : mergeL l1 = X at *
  generalize hY : mergeL l2 = Y at *
  have HX := hide hX
  have HY := hide hY
  have HLen := hide (And.intro lc1 lc2)
  clear hX hY lc1 lc2
  obtain ⟨iS, his, hs0, hs1, hs9⟩ := info_parts info_TSp
  have HiS := hide his
  have HzS := hide (And.intro hs0 (And.intro hs1 hs9))
  clear his hs0 hs1 hs9
  obtain ⟨i0, hi0, hz0, hz1, hz2⟩ := info_parts info_TIn
  have Hi0 := hide hi0
  have Hz := hide (And.intro hz0 (And.intro hz1 hz2))
  clear hi0 hz0 hz1 hz2
  go_upto_region 8 with (fail)
  have u3 := (Upd.refl (fun _ => False) w2).alloc (.cells #[] 3)
  have OE := hide (show OwnI (w2.alloc (.cells #[] 3)) w.heap.size (.slice (some ⟨w2.heap.size, 0, none⟩) 0 0) [] from ⟨rfl, .inr ⟨w2.heap.size, 0, #[], rfl, U2.out.size, Blk.new w2 3 #[], Nat.le_refl _, Nat.zero_le _, rfl, rfl⟩⟩)
  have Q1 := hide (show Sps (w2.alloc (.cells #[] 3)) B1 X from Q1.out.new_ u3)
  have Q2 := hide (show Sps (w2.alloc (.cells #[] 3)) B2 Y from Q2.out.new_ u3)
  have U3 := hide (U2.out.trans_new u3)
  generalize w2.alloc (.cells #[] 3) = w3 at *
  generalize Value.slice (some ⟨w2.heap.size, 0, none⟩) 0 0 = v0 at *
  have u4 := (Upd.refl (fun _ => False) w3).alloc (.cells #[.slice B1 X.length k1, .slice B2 Y.length k2] TSS)
  have Hcc := hide (concat_any w3.heap.size k1 k2 B1 B2 X Y (w3.alloc (.cells #[.slice B1 X.length k1, .slice B2 Y.length k2] TSS)) (Blk.new _ _ _) (Q1.out.new_ u4) (Q2.out.new_ u4) (by omega) (by omega))
  have U4 := hide u4
  clear u4
  go_wp2_with fail
  refine Hcc.out.mono ?_
  rintro e w5 ⟨v5, rfl, ho5, hu5⟩
  have U5 := hide (U4.out.trans_new hu5)
  have O5 := hide (ho5.lower U4.out.size)
  clear ho5 hu5 Hcc U4
  obtain ⟨B5, k5, rfl, hq5⟩ := O5.out.get
  have Q5 := hide hq5
  have OE := hide (show OwnI w5 w.heap.size v0 (endsI ((X ++ Y).take 0)) from row_new OE.out U5.out)
  have O1 := hide ((HO1.out.new_ u3).new_ U5.out)
  have O2 := hide ((HO2.out.new_ u3).new_ U5.out)
  have O5 := hide (O5.out.lower U3.out.size)
  have U5 := hide (U3.out.trans_new U5.out)
  have lxy : (X ++ Y).length ≤ 200000 := by rw [List.length_append]; omega
  clear hq5 u3 HO1 HO2 Q1 Q2 Q5 U3
  generalize hXY : X ++ Y = XY at *
  have HXY := hide hXY
  clear hXY
  generalize hm : XY.length = m at *
  have Hm := hide hm
  clear hm
  go_wp2_with fail
  go_loopw [11, 40] (fun ev iv wz => ∃ j : Nat, j ≤ m ∧ iv = .int .i64 j ∧ New w wz ∧ OwnI wz w.heap.size ev (endsI (XY.take j)) ∧ OwnS wz w.heap.size (.slice B1 X.length k1) X ∧ OwnS wz w.heap.size (.slice B2 Y.length k2) Y ∧ OwnS wz w.heap.size (.slice B5 m k5) XY) (fun _ iv _ => m - (intOf iv).toNat)
  case atStart => exact ⟨0, by omega, rfl, U5.out, OE.out, O1.out, O2.out, O5.out⟩
  case round =>
    obtain ⟨j, hj, rfl, hu, he, o1, o2, o5⟩ := hrel
    have HU := hide hu
    have HE := hide he
    have O1 := hide o1
    have O2 := hide o2
    have O5 := hide o5
    obtain ⟨C5, kk5, hv5, hs5⟩ := o5.get
    rw [Hm.out] at hv5
    injection hv5 with q1 _ q3
    subst q1
    subst q3
    obtain ⟨wo, rfl⟩ : ∃ wo : World, wo = wr := ⟨_, rfl⟩
    obtain ⟨l, hl3⟩ : ∃ l : Value, l = u11 := ⟨_, rfl⟩
    rw [← hl3] at HE ⊢
    clear hl3 he o1 o2 o5
    by_cases hlt : j < m
    · obtain ⟨b, o, s, hA, hbw, hsj, e0, e1⟩ := sps_at (k := j) hs5 (by have := Hm.out; omega)
      subst hA
      have Hsj := hide hsj
      have i3 : (j : Int) < (m : Int) := by omega
      have UA := hide ((Upd.refl (fun _ => False) wo).alloc (.cells #[.int .i64 (s.1 : Int), .int .i64 (s.2 : Int)] TSp))
      have BX := hide (Blk.new wo TSp #[.int .i64 (s.1 : Int), .int .i64 (s.2 : Int)])
      clear hsj hu hs5
      go_upto_region 11 with (fail)
      clear e0 e1 hbw
      have HE2 := hide (show OwnI (wo.alloc (.cells #[.int .i64 (s.1 : Int), .int .i64 (s.2 : Int)] TSp)) w.heap.size l (endsI (XY.take j)) from row_new HE.out UA.out)
      generalize wo.alloc (.cells #[.int .i64 (s.1 : Int), .int .i64 (s.2 : Int)] TSp) = W at *
      generalize wo.heap.size = X2 at *
      have x0 := BX.out.cell 0
      have x1 := BX.out.cell 1
      have xz := BX.out.lt
      simp only [List.getElem?_toArray, List.getElem?_cons_zero, List.getElem?_cons_succ] at x0 x1
      have hE9 := endsI_len (XY.take j)
      have hE8 : (endsI (XY.take j)).length ≤ 400000 := by rw [hE9, List.length_take]; omega
      generalize hL : endsI (XY.take j) = L at *
      have HL := hide hL
      have hWsz : w.heap.size ≤ W.heap.size := (HU.out.trans_new UA.out).size
      clear hL hE9
      go_wp2_with (at_builtin; refine append_src rfl (.tmp 44) (.tmp 49) 60 rfl w.heap.size 3 i0 _ 1 8 Tryz.underlying60 Hi0.out Hz.out.1 Hz.out.2.1 Hz.out.2.2 rfl (by omega) l _ _ rfl (HE2.out.alloc _) (some ⟨W.heap.size, 0, none⟩) 2 2 [.int .i64 (s.1 : Int), .int .i64 (s.2 : Int)] rfl rfl (fun _ => ⟨_, _, rfl, rowc rfl⟩) (by simp [Value.oneCell']) (by unfold maxLen; omega) (by omega) (by simp; omega) ?_)
      intro v' w' ho hg
      have hu9 : Upd (fun q => l.ownBlock = some q) W w' := ((Upd.refl _ W).alloc _).trans' (grown_upd hg fun g h => h)
      have N9 := hide ((HU.out.trans_new UA.out).trans hu9 fun q hq hx => by have := (row_ge HE2.out hx).1; omega)
      have E9 := hide (show OwnI w' w.heap.size v' (endsI (XY.take (j + 1))) by
        have e1 : XY.take (j + 1) = XY.take j ++ [s] := by rw [List.take_add_one, Hsj.out]; rfl
        rw [e1, endsI_snoc, HL.out]
        unfold OwnI
        rw [List.length_append, List.map_append]
        exact ho)
      have P1 := hide ((O1.out.new_ UA.out).upd hu9 fun g h1 h2 => row_ne_row (O1.out.new_ UA.out) HE2.out (by decide) g h1 h2)
      have P2 := hide ((O2.out.new_ UA.out).upd hu9 fun g h1 h2 => row_ne_row (O2.out.new_ UA.out) HE2.out (by decide) g h1 h2)
      have P5 := hide ((O5.out.new_ UA.out).upd hu9 fun g h1 h2 => row_ne_row (O5.out.new_ UA.out) HE2.out (by decide) g h1 h2)
      clear ho hg hu9 x0 x1 xz
      go_wp2_with fail
      exact ⟨⟨j + 1, by omega, by go_num, N9.out, E9.out, P1.out, P2.out, P5.out⟩, by simp [intOf]; omega⟩
    · have hjm : j = m := by omega
      subst hjm
      have he := HE.out
      rw [List.take_of_length_le (by have := Hm.out; omega)] at he
      have Hsrt := hide (sortInts_any l _ _ _ he (by rw [endsI_len]; have := Hm.out; omega))
      clear he hlt hs5 hu
      go_wp2_with fail
      refine Hsrt.out.mono ?_
      rintro e w6 ⟨rfl, El, hp6, hs6, he6, hg6⟩
      have hu6 : Upd (fun q => l.ownBlock = some q) wo w6 := grown_upd hg6 fun g h => h
      have N6 := hide (HU.out.trans hu6 fun q hq hx => by have := (row_ge HE.out hx).1; omega)
      have P1 := hide (O1.out.upd hu6 fun g h1 h2 => row_ne_row O1.out HE.out (by decide) g h1 h2)
      have P2 := hide (O2.out.upd hu6 fun g h1 h2 => row_ne_row O2.out HE.out (by decide) g h1 h2)
      obtain ⟨EN, rfl, hpn, hsn⟩ := ends_sorted hp6 hs6
      have HPn := hide hpn
      have HSn := hide hsn
      have HE6 := hide he6
      clear hp6 hs6 he6 hg6 hu6 hpn hsn Hsrt
      have hlN : EN.length ≤ 400000 := by
        have h1 := HPn.out.length_eq
        have h2 := endsI_len XY
        unfold endsI at h2
        rw [List.length_map] at h2
        rw [h1, h2]
        have := Hm.out
        omega
      obtain ⟨N, hN⟩ : ∃ N, N = EN.length := ⟨_, rfl⟩
      rw [← hN] at hlN
      have HN := hide hN
      have HV := hide (show ∃ A cap, l = .slice A N cap by
        rcases HE6.out.2 with ⟨h1, h0⟩ | ⟨g, cap, cur, h1, _⟩
        · exact ⟨none, 0, by rw [h1, hN]; rw [List.length_map] at h0; rw [h0]⟩
        · exact ⟨_, cap, by rw [h1, hN, List.length_map]⟩)
      obtain ⟨AL, capL, rfl⟩ := HV.out
      clear hN HV HE O1 O2 O5 HU lxy
      go_wp2_with fail
      go_loopw [15, 16] (fun ov iv wz => ∃ (q : Nat) (D : List (Nat × Nat)) (o : Option (Nat × Nat)), iv = .int .i64 ((q + 1 : Nat) : Int) ∧ (q + 1 ≤ N ∨ q = 0) ∧ New w6 wz ∧ OwnS wz w6.heap.size ov (D ++ o.toList) ∧ (D ++ o.toList).length ≤ q ∧ TwS (fun z => want_n (inB2 X z) (inB2 Y z)) EN D o q) (fun _ iv _ => N - (intOf iv).toNat)
      case atStart => exact ⟨0, [], none, rfl, .inr rfl, Upd.refl _ _, World.ownsRow_nil _ _ _ _, Nat.le_refl _, twS_start _ _⟩
      case round =>
        obtain ⟨q, D, o, rfl, hq, hu, oo, hDq, ht⟩ := hrel
        have he : OwnI wr w.heap.size (.slice AL N capL) (EN.map fun n : Nat => (n : Int)) := row_new HE6.out hu
        have o1 := P1.out.new_ hu
        have o2 := P2.out.new_ hu
        have HDq := hide hDq
        clear hDq
        have HU := hide hu
        have HE := hide he
        have O1 := hide o1
        have O2 := hide o2
        have OO := hide oo
        have HT := hide ht
        obtain ⟨wo, rfl⟩ : ∃ wo : World, wo = wr := ⟨_, rfl⟩
        obtain ⟨lo, hl3⟩ : ∃ lo : Value, lo = u15 := ⟨_, rfl⟩
        rw [← hl3] at OO ⊢
        clear hl3 hu he o1 o2 oo ht
        by_cases hlt : q + 1 < N
        · have hlen := HN.out
          obtain ⟨e, heq⟩ : ∃ e, EN[q]? = some e := ⟨_, List.getElem?_eq_getElem (by omega)⟩
          obtain ⟨d, hdq⟩ : ∃ d, EN[q + 1]? = some d := ⟨_, List.getElem?_eq_getElem (by omega)⟩
          obtain ⟨ge, cg, hv, hgb, hge⟩ := HE.out.slice (by rw [List.length_map]; omega)
          injection hv with a1 a2 a3
          clear a2
          subst a1
          subst a3
          have c0 := HE.out.cell (k := q) (x := (e : Int)) (by rw [List.getElem?_map, heq]; rfl)
          have c1' := HE.out.cell (k := q + 1) (x := (d : Int)) (by rw [List.getElem?_map, hdq]; rfl)
          obtain ⟨K, hK⟩ : ∃ K : Int, K = ((q + 1 : Nat) : Int) := ⟨_, rfl⟩
          rw [← hK]
          obtain ⟨iw, iw2, kt, k0, k1'⟩ := idx_facts hK (show q + 1 < N from hlt) hlN
          have Heq := hide heq
          have Hdq := hide hdq
          have HK := hide hK
          have Hge := hide (And.intro hgb hge)
          have hin1 := fun w' (nw : New wo w') => inSpans_any B1 X.length k1 X (e : Int) w' (show Rws w' B1 2 (X.map spc) by obtain ⟨B9, k9, hv9, hs9⟩ := (O1.out.new_ nw).get; injection hv9 with b1 _ b3; subst b1; exact hs9) rfl (by omega)
          have hin2 := fun w' (nw : New wo w') => inSpans_any B2 Y.length k2 Y (e : Int) w' (show Rws w' B2 2 (Y.map spc) by obtain ⟨B9, k9, hv9, hs9⟩ := (O2.out.new_ nw).get; injection hv9 with b1 _ b3; subst b1; exact hs9) rfl (by omega)
          rw [inSL_inB2] at hin1 hin2
          have hwf : (fun z => want_n (inB2 X z) (inB2 Y z)) e = want_n (inB2 X e) (inB2 Y e) := rfl
          generalize inB2 X e = bx at *
          generalize inB2 Y e = bY at *
          have hwc := fun w' => want_n_any bx bY w'
          have Hin1 := hide hin1
          have Hin2 := hide hin2
          have HQ := hide hq
          clear heq hdq hK hgb hin1 hin2 hlen hq hlt
          cases hw : want_n bx bY with
          | false =>
            rw [hw] at hwc hwf
            have Hwc := hide hwc
            have Hwf := hide hwf
            clear hw hwc hwf
            go_upto_region 19 with (fail)
            refine wp_region_new wo (Upd.refl _ _) (by kernel_rfl) (by kernel_rfl) ?_
            repeat (go_big_quiet_step (first | (go_at_call_of 118 (Value.slice B1 X.length k1); exact new_call (Hin1.out _ (NewW.h _))) | (go_at_call_of 118 (Value.slice B2 Y.length k2); exact new_call (Hin2.out _ (NewW.h _))) | (go_at_call 81; exact new_call_same (Hwc.out _))))
            refine wpQuiet_nil ?_
            rintro _ ⟨nq, rfl⟩
            obtain ⟨wq, hu⟩ := nq
            dsimp only
            have U9 := hide (HU.out.trans_new hu)
            have E9 := hide (show OwnI wq w.heap.size (.slice (some ⟨ge, 0, none⟩) N capL) (EN.map fun n : Nat => (n : Int)) from row_new HE.out hu)
            have PO := hide (OO.out.new_ hu)
            clear c0 c1'
            clear hu
            go_wp2_with fail
            exact ⟨⟨q + 1, D, o, by rw [HK.out]; go_num, .inl (by omega), U9.out, PO.out, Nat.le_succ_of_le HDq.out, twS_skip HT.out Heq.out Hdq.out (.inl Hwf.out)⟩, by rw [HK.out]; simp [intOf]; omega⟩
          | true =>
            rw [hw] at hwc hwf
            have Hwc := hide hwc
            have Hwf := hide hwf
            clear hw hwc hwf
            by_cases hed : e = d
            · have hb9 : ((e : Int) == (d : Int)) = true := by rw [hed]; simp
              have Hed := hide hed
              clear hed
              go_upto_region 19 with (fail)
              refine wp_region_new wo (Upd.refl _ _) (by kernel_rfl) (by kernel_rfl) ?_
              repeat (go_big_quiet_step (first | (go_at_call_of 118 (Value.slice B1 X.length k1); exact new_call (Hin1.out _ (NewW.h _))) | (go_at_call_of 118 (Value.slice B2 Y.length k2); exact new_call (Hin2.out _ (NewW.h _))) | (go_at_call 81; exact new_call_same (Hwc.out _))))
              refine wpQuiet_nil ?_
              rintro _ ⟨nq, rfl⟩
              obtain ⟨wq, hu⟩ := nq
              dsimp only
              have U9 := hide (HU.out.trans_new hu)
              have E9 := hide (show OwnI wq w.heap.size (.slice (some ⟨ge, 0, none⟩) N capL) (EN.map fun n : Nat => (n : Int)) from row_new HE.out hu)
              have PO := hide (OO.out.new_ hu)
              clear c0 c1'
              clear hu
              go_wp2_with fail
              exact ⟨⟨q + 1, D, o, by rw [HK.out]; go_num, .inl (by omega), U9.out, PO.out, Nat.le_succ_of_le HDq.out, twS_skip HT.out Heq.out Hdq.out (.inr Hed.out)⟩, by rw [HK.out]; simp [intOf]; omega⟩
            · have hb9 : ((e : Int) == (d : Int)) = false := by
                rw [beq_eq_false_iff_ne]
                intro h
                exact hed (by omega)
              have Hnn := hide (show ¬ ((fun z => want_n (inB2 X z) (inB2 Y z)) e = false ∨ e = d) from fun h => by
                rcases h with h | h
                · rw [Hwf.out] at h; cases h
                · exact hed h)
              clear hed
              go_upto_region 19 with (fail)
              refine wp_region_new wo (Upd.refl _ _) (by kernel_rfl) (by kernel_rfl) ?_
              repeat (go_big_quiet_step (first | (go_at_call_of 118 (Value.slice B1 X.length k1); exact new_call (Hin1.out _ (NewW.h _))) | (go_at_call_of 118 (Value.slice B2 Y.length k2); exact new_call (Hin2.out _ (NewW.h _))) | (go_at_call 81; exact new_call_same (Hwc.out _))))
              refine wpQuiet_nil ?_
              rintro _ ⟨nq, rfl⟩
              obtain ⟨wq, hu⟩ := nq
              dsimp only
              have U9 := hide (HU.out.trans_new hu)
              have E9 := hide (show OwnI wq w.heap.size (.slice (some ⟨ge, 0, none⟩) N capL) (EN.map fun n : Nat => (n : Int)) from row_new HE.out hu)
              have PO := hide (OO.out.new_ hu)
              clear c0 c1'
              clear hu
              have cc0 := E9.out.cell (k := q) (x := (e : Int)) (by rw [List.getElem?_map, Heq.out]; rfl)
              have cc1 := E9.out.cell (k := q + 1) (x := (d : Int)) (by rw [List.getElem?_map, Hdq.out]; rfl)
              have zq9 : ge < wq.heap.size := World.block_lt_of_cell? wq _ cc0
              obtain ⟨LA, lcap, rfl, _⟩ := PO.out.get
              cases o with
              | none =>
                obtain rfl : D = [] := HT.out.1 rfl
                simp only [List.nil_append, Option.toList_none, List.length_nil] at PO ⊢
                go_upto_region 21 with (fail)
                refine wp_region_new wq (Upd.refl _ _) (by kernel_rfl) (by kernel_rfl) ?_
                repeat (go_big_quiet_step (fail))
                refine wpQuiet_nil ?_
                rintro _ ⟨nq, rfl⟩
                obtain ⟨wt, hu⟩ := nq
                dsimp only
                have U9 := hide (U9.out.trans_new hu)
                have E9 := hide (show OwnI wt w.heap.size (.slice (some ⟨ge, 0, none⟩) N capL) (EN.map fun n : Nat => (n : Int)) from row_new E9.out hu)
                have PO := hide (PO.out.new_ hu)
                clear hu
                have c0 := E9.out.cell (k := q) (x := (e : Int)) (by rw [List.getElem?_map, Heq.out]; rfl)
                have c1' := E9.out.cell (k := q + 1) (x := (d : Int)) (by rw [List.getElem?_map, Hdq.out]; rfl)
                have zt := World.block_lt_of_cell? wt _ c0
                go_upto_region 23 with (fail)
                have K0 := hide (keepE9 ⟨c0, c1'⟩)
                have hwz : w6.heap.size ≤ wt.heap.size := U9.out.size
                obtain ⟨R, hR⟩ : ∃ R : List (Nat × Nat), R = [] := ⟨_, rfl⟩
                have PR := hide (show OwnS wt w6.heap.size (.slice LA 0 lcap) R by rw [hR]; exact PO.out)
                have hdl : R.length ≤ 400000 := by rw [hR]; simp
                have HR := hide hR
                have i8 : (q : Int) < (N : Int) := by omega
                have i9 : q < N := by omega
                clear hR
                go_region_held3 (fun w' => w'.cell? ⟨ge, q, none⟩ = some (.int .i64 (e : Int)) ∧ w'.cell? ⟨ge, q + 1, none⟩ = some (.int .i64 (d : Int)))
                  (first | go_keep | exact K1.out)
                  ((refine step_append_lies _ (by rfl) _ _ _ (by rfl) w6.heap.size TSp iS _ 2 16 Tryz.underlying94 HiS.out HzS.out.1 HzS.out.2.1 HzS.out.2.2 rfl (by omega) (.slice LA 0 lcap) _ _ (by rfl) ((PR.out.alloc _).drew) ⟨wt.heap.size, 0, none⟩ 1 1 [.int .i64 (e : Int), .int .i64 (d : Int)] (by rfl) (by rfl) (World.news_of_block (cs := #[.int .i64 (e : Int), .int .i64 (d : Int)]) (t := TSp) (fr := (0, 0)) (heap_alloc_new wt _)) (by simp [Value.oneCell']) (by omega) (by unfold maxLen; omega) (by omega) (by simp; omega) (wt.heap.size + 1) (by simp) ?_; intro gg cap w5 hown5 hgrow hat hlt5; have hu5 : Upd (fun q => (Value.slice LA 0 lcap).ownBlock = some q) wt w5 := (((Upd.refl _ wt).alloc _).drew).trans' (Upd.of_grown hgrow fun q _ hq => hq); have hnb := row_ne_row E9.out PR.out (by decide) ge rfl; have K1 := hide (keepE9 ⟨(hu5.cell zt hnb).trans K0.out.1, (hu5.cell zt hnb).trans K0.out.2⟩)))
                go_wp2_with fail
                refine ⟨⟨q + 1, [], some (e, d), by rw [HK.out]; go_num, .inl (by omega), U9.out.trans hu5 fun z hz hx => by have := (row_ge PR.out hx).1; omega, ?_, by simp, twS_new HT.out Heq.out Hdq.out Hnn.out (fun c hc => by cases hc)⟩, by rw [HK.out]; simp [intOf]; omega⟩
                have h9 := OwnS.snoc hown5
                rw [HR.out] at h9 ⊢
                exact h9
              | some c =>
                have hDl := HDq.out
                obtain ⟨R, hR⟩ : ∃ R : List (Nat × Nat), R = D ++ (some c).toList := ⟨_, rfl⟩
                rw [← hR] at PO hDl ⊢
                have hRl : R.length = D.length + 1 := by rw [hR]; simp
                have hRc : R[D.length]? = some c := by rw [hR]; simp
                obtain ⟨gO, cO, hv, hgb, hgO, hq8, hq9⟩ := PO.out.slice (by omega)
                clear hq8 hq9
                injection hv with a1 a2 a3
                clear a2
                subst a1
                subst a3
                obtain ⟨f0, f1, fz0, fz1⟩ := PO.out.cells hRc
                obtain ⟨M, hM⟩ : ∃ M : Nat, M = D.length := ⟨_, rfl⟩
                rw [← hM] at f0 f1 fz0 fz1 hRl
                obtain ⟨jw, jw2⟩ := len_facts hRl (show R.length ≤ 400000 by omega)
                have hRM : (M : Int) < (R.length : Int) := by omega
                have hRM2 : M < R.length := by omega
                have hMs : (0 : Int) ≤ (M : Int) := by omega
                have HR := hide hR
                have HM := hide hM
                have HRl := hide hRl
                have Hrc := hide (show R[M]? = some c by rw [hM]; exact hRc)
                have HRs := hide (show ∀ x, R.set M x = D ++ [x] by rw [hR, hM]; intro x; simp)
                have HRn := hide (show R = D ++ [c] from hR)
                clear hR hM hRl hRc
                by_cases hce : c.2 = e
                · have hb8 : ((c.2 : Int) == (e : Int)) = true := by rw [hce]; simp
                  have Hce := hide hce
                  clear hce
                  go_upto_region 21 with (fail)
                  refine wp_region_new wq (Upd.refl _ _) (by kernel_rfl) (by kernel_rfl) ?_
                  repeat (go_big_quiet_step (fail))
                  refine wpQuiet_nil ?_
                  rintro _ ⟨nq, rfl⟩
                  obtain ⟨wt, hu⟩ := nq
                  dsimp only
                  have U9 := hide (U9.out.trans_new hu)
                  have E9 := hide (show OwnI wt w.heap.size (.slice (some ⟨ge, 0, none⟩) N capL) (EN.map fun n : Nat => (n : Int)) from row_new E9.out hu)
                  have PO := hide (PO.out.new_ hu)
                  clear hu f0 f1 fz0 fz1 cc0 cc1
                  have cc1 := E9.out.cell (k := q + 1) (x := (d : Int)) (by rw [List.getElem?_map, Hdq.out]; rfl)
                  obtain ⟨f0, f1, fz0, fz1⟩ := PO.out.cells Hrc.out
                  have zt := World.block_lt_of_cell? wt _ f0
                  go_wp2_with fail
                  refine ⟨⟨q + 1, D, some (c.1, d), by rw [HK.out]; go_num, .inl (by omega), U9.out.trans ((Upd.refl (fun z => z = gO) wt).setCell (p := ⟨gO, M * 2 + 1, none⟩) (.inl rfl) _) (fun z hz hx => by have hx : z = gO := hx; have := (row_ge PO.out (g := gO) rfl).1; omega), ?_, by have := HDq.out; rw [List.length_append] at this ⊢; simp at this ⊢; omega, twS_more HT.out Heq.out Hdq.out Hnn.out Hce.out⟩, by rw [HK.out]; simp [intOf]; omega⟩
                  have h9 := PO.out.put1 (y := d) Hrc.out
                  rw [HRs.out] at h9
                  exact h9
                · have hb8 : ((c.2 : Int) == (e : Int)) = false := by
                    rw [beq_eq_false_iff_ne]
                    intro h
                    exact hce (by omega)
                  have Hce := hide hce
                  clear hce
                  go_upto_region 21 with (fail)
                  refine wp_region_new wq (Upd.refl _ _) (by kernel_rfl) (by kernel_rfl) ?_
                  repeat (go_big_quiet_step (fail))
                  refine wpQuiet_nil ?_
                  rintro _ ⟨nq, rfl⟩
                  obtain ⟨wt, hu⟩ := nq
                  dsimp only
                  have U9 := hide (U9.out.trans_new hu)
                  have E9 := hide (show OwnI wt w.heap.size (.slice (some ⟨ge, 0, none⟩) N capL) (EN.map fun n : Nat => (n : Int)) from row_new E9.out hu)
                  have PR := hide (show OwnS wt w6.heap.size (.slice (some ⟨gO, 0, none⟩) R.length lcap) R from PO.out.new_ hu)
                  clear hu f0 f1 fz0 fz1 cc0 cc1 jw jw2
                  have c0 := E9.out.cell (k := q) (x := (e : Int)) (by rw [List.getElem?_map, Heq.out]; rfl)
                  have c1' := E9.out.cell (k := q + 1) (x := (d : Int)) (by rw [List.getElem?_map, Hdq.out]; rfl)
                  have zt := World.block_lt_of_cell? wt _ c0
                  go_upto_region 23 with (fail)
                  have K0 := hide (keepE9 ⟨c0, c1'⟩)
                  have hwz : w6.heap.size ≤ wt.heap.size := U9.out.size
                  have hdl : R.length ≤ 400000 := by omega
                  have i8 : (q : Int) < (N : Int) := by omega
                  have i9 : q < N := by omega
                  go_region_held3 (fun w' => w'.cell? ⟨ge, q, none⟩ = some (.int .i64 (e : Int)) ∧ w'.cell? ⟨ge, q + 1, none⟩ = some (.int .i64 (d : Int)))
                    (first | go_keep | exact K1.out)
                    ((refine step_append_lies _ (by rfl) _ _ _ (by rfl) w6.heap.size TSp iS _ 2 16 Tryz.underlying94 HiS.out HzS.out.1 HzS.out.2.1 HzS.out.2.2 rfl (by omega) (.slice (some ⟨gO, 0, none⟩) R.length lcap) _ _ (by rfl) ((PR.out.alloc _).drew) ⟨wt.heap.size, 0, none⟩ 1 1 [.int .i64 (e : Int), .int .i64 (d : Int)] (by rfl) (by rfl) (World.news_of_block (cs := #[.int .i64 (e : Int), .int .i64 (d : Int)]) (t := TSp) (fr := (0, 0)) (heap_alloc_new wt _)) (by simp [Value.oneCell']) (by omega) (by unfold maxLen; omega) (by omega) (by simp; omega) (wt.heap.size + 1) (by simp) ?_; intro gg cap w5 hown5 hgrow hat hlt5; have hu5 : Upd (fun q => (Value.slice (some ⟨gO, 0, none⟩) R.length lcap).ownBlock = some q) wt w5 := (((Upd.refl _ wt).alloc _).drew).trans' (Upd.of_grown hgrow fun q _ hq => hq); have hnb := row_ne_row E9.out PR.out (by decide) ge rfl; have K1 := hide (keepE9 ⟨(hu5.cell zt hnb).trans K0.out.1, (hu5.cell zt hnb).trans K0.out.2⟩)))
                  go_wp2_with fail
                  refine ⟨⟨q + 1, R, some (e, d), by rw [HK.out]; go_num, .inl (by omega), U9.out.trans hu5 fun z hz hx => by have := (row_ge PR.out hx).1; omega, OwnS.snoc hown5, by rw [List.length_append]; simp; have := HDq.out; rw [show (D ++ (some c).toList) = R from HRn.out.symm] at this; omega, by rw [HRn.out]; exact twS_new HT.out Heq.out Hdq.out Hnn.out (fun c' hc' => by injection hc' with hc'; rw [← hc']; exact Hce.out)⟩, by rw [HK.out]; simp [intOf]; omega⟩
        · have hte := twS_end HT.out (by have := HN.out; omega)
          obtain ⟨hap, hcn⟩ := two_fin (wK := want_n) rfl HC1.out HC2.out G1.out.1 G1.out.2 G2.out.1 G2.out.2 HX.out HY.out HXY.out HPn.out HSn.out hte
          have hRl := HDq.out
          obtain ⟨R, hR⟩ : ∃ R : List (Nat × Nat), R = D ++ o.toList := ⟨_, rfl⟩
          rw [← hR] at OO hap hcn hRl
          have U := hide (N6.out.trans_new HU.out)
          obtain ⟨A9, k9, rfl, hs9⟩ := OO.out.get
          have Hpr := hide (prefixes_any A9 R.length k9 R wo (Htz.out.new U.out) hs9 rfl (by omega) hap)
          have Hcn := hide hcn
          have HRf := hide (show R.length ≤ 2 * (n1 + n2) by
            have h1 := HN.out
            have h2 := HPn.out.length_eq
            have h3 := endsI_len XY
            unfold endsI at h3
            rw [List.length_map] at h3
            have h4 := HLen.out
            have h5 := congrArg List.length HXY.out
            rw [List.length_append] at h5
            omega)
          clear hs9 hap hcn hte hR hRl
          go_wp2_with fail
          refine Hpr.out.mono ?_
          rintro e wf ⟨v2, P, rfl, hg, ho, _, hu2⟩
          have h9 := Hcn.out P hg
          have hP : P.length ≤ 132 * (n1 + n2) := by
            have h1 := gres_len _ _ hg
            have h2 := HRf.out
            omega
          have H9 := hide h9
          have HO := hide (ho.lower U.out.size)
          have HP := hide hP
          have U2 := hide (U.out.trans_new hu2)
          clear h9 hg ho hP hu2
          go_wp2_with fail
          go_ret2
          exact ⟨_, _, P, rfl, by rw [E9.out]; exact HerN.out.nilw HC2.out, U2.out, HO.out, HP.out, fun h => absurd (by rw [E9.out]; exact HC2.out) h, fun _ => H9.out⟩
end Go.Proofs.YtignngpligicjaaGreatDoor
