/- The law SetNormal: its walk. No condition but those that stand in each theorem. -/
import Derived.Test.YtignngpligicjaaDoorStN
namespace Go.Proofs.YtignngpligicjaaDoor
open Go.RowKit

set_option maxRecDepth 20000 in
set_option maxHeartbeats 8000000 in
theorem setNormal_any (A0 A1 : Option Addr) (n0 c0 n1 c1 : Nat) (a b : List Pf) (x : Int) (E : Nat → Addr) (w : World) (htz : TzOk w) (h2 : Sen w gBound (E 2)) (h3 : Sen w gShape (E 3)) (ra : Rws w A0 2 (a.map Pf.cells)) (hn0 : a.length = n0) (rb : Rws w A1 2 (b.map Pf.cells)) (hn1 : b.length = n1) :
    Calls Tryd.prog 4 #[.slice A0 n0 c0, .slice A1 n1 c1, .int .i64 x] w fun e w1 => e = .returned (.bool true) ∧ New w w1 := by
  have Hst := hide (setted_any E w htz h2 h3)
  have HT := hide htz
  have H2 := hide h2
  have H3 := hide h3
  have Ra := hide ra
  have Rb := hide rb
  have Hn0 := hide hn0
  have Hn1 := hide hn1
  have N := hide (Upd.refl (fun _ => False) w)
  clear htz h2 h3 ra rb hn0 hn1
  go_enter Tryd.func4, Tryd.ntmps4
  go_wp2_with fail
  refine Hst.out.mono ?_
  rintro e w0 ⟨rfl, hu⟩
  have Ra := hide (Ra.out.new_ hu)
  have Rb := hide (Rb.out.new_ hu)
  have HT := hide (HT.out.new hu)
  have H2 := hide (H2.out.new hu)
  have H3 := hide (H3.out.new hu)
  have N := hide (N.out.trans_new hu)
  clear hu
  by_cases hl0 : n0 ≤ 20
  rotate_left
  · have i0 : (20 : Int) < (n0 : Int) := by omega
    go_wp2_with fail
    go_ret
    exact ⟨rfl, N.out⟩
  have i0 : ¬ (20 : Int) < (n0 : Int) := by omega
  by_cases hl1 : n1 ≤ 20
  rotate_left
  · have i1 : (20 : Int) < (n1 : Int) := by omega
    go_wp2_with fail
    go_ret
    exact ⟨rfl, N.out⟩
  have i1 : ¬ (20 : Int) < (n1 : Int) := by omega
  go_wp2_with fail
  refine (ownPrefixes_own A0 n0 c0 a _ Ra.out Hn0.out (by omega)).mono ?_
  rintro e w1 ⟨vo, rfl, ho, hu⟩
  obtain ⟨Ao, co, rfl, _, ro, _⟩ := ho.rws
  have Ro := hide ro
  clear ho ro
  have Ra := hide (Ra.out.new_ hu)
  have Rb := hide (Rb.out.new_ hu)
  have HT := hide (HT.out.new hu)
  have H2 := hide (H2.out.new hu)
  have H3 := hide (H3.out.new hu)
  have N := hide (N.out.trans_new hu)
  clear hu
  rw [Hn0.out]
  go_wp2_with fail
  by_cases hca : (pfsC a).1 = 0
  rotate_left
  · refine (norm_bad Ao n0 co a E _ HT.out H2.out H3.out Ro.out Hn0.out (by omega) hca).mono ?_
    rintro e w2 ⟨Ax, cx, tx, px, rfl, hu⟩
    have N := hide (N.out.trans_new hu)
    clear hu
    go_wp2_with fail
    go_ret
    exact ⟨rfl, N.out⟩
  have hca := hide hca
  refine (norm_good Ao n0 co a E _ HT.out H2.out H3.out Ro.out Hn0.out (by omega) hca.out).mono ?_
  rintro e w2 ⟨Al, cl, l, rfl, hu, hr, hl, hn⟩
  have Ra := hide (Ra.out.new_ hu)
  have Rb := hide (Rb.out.new_ hu)
  have HT := hide (HT.out.new hu)
  have H2 := hide (H2.out.new hu)
  have H3 := hide (H3.out.new hu)
  have N := hide (N.out.trans_new hu)
  clear hu
  have Rl := hide hr
  have Ll := hide hl
  have Pl := hide hn
  clear hr hl hn
  go_wp2_with fail
  clear Ro
  have hac := pfsC_ok hca.out
  have Hac := hide hac
  clear hac
  have Hh := hide (fun w' (nw : New w2 w') => setHas_any Al l.length cl l x E w' (H2.out.new nw) (H3.out.new nw) (Rl.out.new_ nw) rfl (by have := Ll.out; omega))
  have Hk := fun w' (nw : New w2 w') => setHas_any A0 n0 c0 a x E w' (H2.out.new nw) (H3.out.new nw) (Ra.out.new_ nw) Hn0.out (by omega)
  rw [← npl_has Hac.out Pl.out x] at Hk
  have Hk := hide Hk
  have hb9 : (hasL l x != hasL l x) = false := by cases hasL l x <;> rfl
  have U2 := hide (Upd.refl (fun _ => False) w2)
  generalize hasL l x = hx at *
  refine (Hh.out _ U2.out).mono ?_
  rintro e w3 ⟨rfl, hu⟩
  have U2 := hide (U2.out.trans_new hu)
  clear hu
  go_wp2_with fail
  refine (Hk.out _ U2.out).mono ?_
  rintro e w4 ⟨rfl, hu⟩
  have hu := U2.out.trans_new hu
  clear U2
  have Ra := hide (Ra.out.new_ hu)
  have Rb := hide (Rb.out.new_ hu)
  have Rl := hide (Rl.out.new_ hu)
  have HT := hide (HT.out.new hu)
  have H2 := hide (H2.out.new hu)
  have H3 := hide (H3.out.new hu)
  have N := hide (N.out.trans_new hu)
  clear hu
  go_wp2_with fail
  clear hb9 Hh Hk
  have hlb : l.length ≤ 5000 := by have := Ll.out; omega
  go_loopw [10] (fun iv wz => ∃ i : Nat, i ≤ l.length ∧ iv = .int .i64 i ∧ New w4 wz) (fun iv _ => l.length - (intOf iv).toNat)
  case atStart => exact ⟨0, by omega, rfl, Upd.refl _ _⟩
  case round =>
    obtain ⟨i, hi, rfl, hu⟩ := hrel
    have HU := hide hu
    clear hu
    obtain ⟨wo, rfl⟩ : ∃ wo : World, wo = wr := ⟨_, rfl⟩
    by_cases hlt : i < l.length
    · have i3 : (i : Int) < (l.length : Int) := by omega
      go_wp2_with fail
      go_loopw [11] (fun kv wz => ∃ k : Nat, k ≤ i ∧ kv = .int .i64 k ∧ New w4 wz) (fun kv _ => i - (intOf kv).toNat)
      case atStart => exact ⟨0, by omega, rfl, HU.out⟩
      case round =>
        as_aux_lemma =>
          obtain ⟨k, hk, rfl, hu⟩ := hrel
          have HV := hide hu
          clear hu
          obtain ⟨wi, rfl⟩ : ∃ wi : World, wi = wr := ⟨_, rfl⟩
          by_cases hkl : k < i
          · have i4 : (k : Int) < (i : Int) := by omega
            have i5 : (k : Int) < (l.length : Int) := by omega
            obtain ⟨p, hp⟩ : ∃ p, l[i]? = some p := ⟨_, List.getElem?_eq_getElem hlt⟩
            obtain ⟨q, hq⟩ : ∃ q, l[k]? = some q := ⟨_, List.getElem?_eq_getElem (by omega)⟩
            obtain ⟨okp, okq, hnp, hnq, hne, f1, f2, f3⟩ := Pl.out.two hp hq hkl
            obtain ⟨bl, ol, _, hAl, _, _, _, _⟩ := rws_two Rl.out hlt
            obtain ⟨p0, p1, pz⟩ := rl_at (Rl.out.new_ HV.out) hAl hp
            have h9 := up_yes p.a p.n E wi (H2.out.new HV.out) (H3.out.new HV.out) okp hnp
            obtain ⟨U0, hU0⟩ : ∃ U0 : Int, U0 = p.a - (low p.a.toNat (p.n - 1).toNat : Int) := ⟨_, rfl⟩
            obtain ⟨U1, hU1⟩ : ∃ U1 : Int, U1 = p.n - 1 := ⟨_, rfl⟩
            obtain ⟨V0, hV0⟩ : ∃ V0 : Int, V0 = q.a - (low q.a.toNat (q.n - 1).toNat : Int) := ⟨_, rfl⟩
            obtain ⟨V1, hV1⟩ : ∃ V1 : Int, V1 = q.n - 1 := ⟨_, rfl⟩
            rw [← hU0, ← hU1, ← hV0, ← hV1] at hne
            rw [← hU0, hU1.symm] at h9
            have H9 := hide h9
            have h9 := fun w' (nw : New w4 w') => up_yes q.a q.n E w' (H2.out.new nw) (H3.out.new nw) okq hnq
            rw [← hV0, hV1.symm] at h9
            have H8 := hide h9
            have g1 := guard_pfx
            have g9 : ∀ wx : World, (binOp .eql 34 (.agg #[.int .i64 U0, .int .i64 U1]) (.agg #[.int .i64 V0, .int .i64 V1])).run Tryd.prog wx = .ok (.bool false) wx := fun wx => by rw [eql_pfx, hne]
            clear hne
            have Hp := hide hp
            have Hq := hide hq
            have HF := hide (And.intro f1 (And.intro f2 f3))
            subst hAl
            clear hp hq okp okq hnp hnq f1 f2 f3 h9 hU0 hU1 hV0 hV1
            go_wp2_with fail
            refine H9.out.mono ?_
            rintro e wj ⟨rfl, hu⟩
            have HV := hide (HV.out.trans_new hu)
            clear hu p0 p1 pz H9
            go_upto_region 16 with (fail)
            have BU := hide (Blk.new wj TPf #[.int .i64 U0, .int .i64 U1])
            have HV := hide (HV.out.trans_new ((Upd.refl (fun _ => False) wj).alloc (.cells #[.int .i64 U0, .int .i64 U1] TPf)))
            generalize wj.alloc (.cells #[.int .i64 U0, .int .i64 U1] TPf) = W1 at *
            generalize wj.heap.size = XU at *
            as_aux_lemma =>
              obtain ⟨q0, q1, qz⟩ := rl_at (Rl.out.new_ HV.out) rfl Hq.out
              go_wp2_with fail
              refine (H8.out _ HV.out).mono ?_
              rintro e wk ⟨rfl, hu⟩
              have HV := hide (HV.out.trans_new hu)
              have BU := hide (BU.out.new_ hu)
              clear hu q0 q1 qz H8
              go_upto_region 17 with (fail)
              have BV := hide (Blk.new wk TPf #[.int .i64 V0, .int .i64 V1])
              have hu := (Upd.refl (fun _ => False) wk).alloc (.cells #[.int .i64 V0, .int .i64 V1] TPf)
              have HV := hide (HV.out.trans_new hu)
              have BU := hide (BU.out.new_ hu)
              clear hu
              generalize wk.alloc (.cells #[.int .i64 V0, .int .i64 V1] TPf) = W2 at *
              generalize wk.heap.size = XV at *
              as_aux_lemma =>
                have u0 := BU.out.cell 0
                have u1 := BU.out.cell 1
                have uz := BU.out.lt
                have v0 := BV.out.cell 0
                have v1 := BV.out.cell 1
                have vz := BV.out.lt
                simp only [List.getElem?_toArray, List.getElem?_cons_zero, List.getElem?_cons_succ] at u0 u1 v0 v1
                go_upto_region 18 with (fail)
                clear u0 u1 uz v0 v1 vz
                obtain ⟨p0, p1, pz⟩ := rl_at (Rl.out.new_ HV.out) rfl Hp.out
                obtain ⟨q0, q1, qz⟩ := rl_at (Rl.out.new_ HV.out) rfl Hq.out
                have In1 := fun w' (nw : New W2 w') => in_any p.a p.n q.a q.n E w' (H2.out.new (HV.out.trans_new nw)) (H3.out.new (HV.out.trans_new nw))
                have In2 := fun w' (nw : New W2 w') => in_any q.a q.n p.a p.n E w' (H2.out.new (HV.out.trans_new nw)) (H3.out.new (HV.out.trans_new nw))
                have Le := fun w' (nw : New W2 w') => less_any q.a q.n p.a p.n E w' (H2.out.new (HV.out.trans_new nw)) (H3.out.new (HV.out.trans_new nw))
                rw [HF.out.1] at In1
                rw [HF.out.2.1] at In2
                rw [HF.out.2.2] at Le
                have IN1 := hide In1
                have IN2 := hide In2
                have LE := hide Le
                clear In1 In2 Le
                as_aux_lemma =>
                  refine wp_region_new W2 (Upd.refl _ _) (by kernel_rfl) (by kernel_rfl) ?_
                  repeat (go_big_quiet_step (first | (go_at_call_of 15 (#[Value.agg #[.int .i64 p.a, .int .i64 p.n], Value.agg #[.int .i64 q.a, .int .i64 q.n]] : Array Value); exact new_call (IN1.out _ (NewW.h _))) | (go_at_call_of 15 (#[Value.agg #[.int .i64 q.a, .int .i64 q.n], Value.agg #[.int .i64 p.a, .int .i64 p.n]] : Array Value); exact new_call (IN2.out _ (NewW.h _))) | (go_at_call 16; exact new_call (LE.out _ (NewW.h _)))))
                  refine wpQuiet_nil ?_
                  rintro _ ⟨nq, rfl⟩
                  obtain ⟨wq, hu⟩ := nq
                  dsimp only
                  have HV := hide (HV.out.trans_new hu)
                  clear hu p0 p1 pz q0 q1 qz
                  go_wp2_with fail
                  exact ⟨⟨k + 1, by omega, by go_num, HV.out⟩, by simp [intOf]; omega⟩
          · have i4 : ¬ (k : Int) < (i : Int) := by omega
            go_wp2_with fail
            exact ⟨⟨i + 1, by omega, by go_num, HV.out⟩, by simp [intOf]; omega⟩
    · have i3 : ¬ (i : Int) < (l.length : Int) := by omega
      have hu := HU.out
      clear HU
      as_aux_lemma =>
        have Ra := hide (Ra.out.new_ hu)
        have Rb := hide (Rb.out.new_ hu)
        have Rl := hide (Rl.out.new_ hu)
        have HT := hide (HT.out.new hu)
        have H2 := hide (H2.out.new hu)
        have H3 := hide (H3.out.new hu)
        have N := hide (N.out.trans_new hu)
        clear hu
        go_wp2_with fail
        refine (norm_good Al l.length cl l E _ HT.out H2.out H3.out Rl.out rfl (by have := Ll.out; omega) (pfsC_all Pl.out.1)).mono ?_
        rintro e w5 ⟨Aagain, cagain, again, rfl, hu, hr, hl, hn⟩
        have Ra := hide (Ra.out.new_ hu)
        have Rb := hide (Rb.out.new_ hu)
        have Rl := hide (Rl.out.new_ hu)
        have HT := hide (HT.out.new hu)
        have H2 := hide (H2.out.new hu)
        have H3 := hide (H3.out.new hu)
        have N := hide (N.out.trans_new hu)
        clear hu
        have Ragain := hide hr
        have Lagain := hide hl
        have Pagain := hide hn
        clear hr hl hn
        go_wp2_with fail
        have Hs := samePrefixes_any Aagain Al again.length l.length cagain cl again l _ Ragain.out Rl.out rfl rfl (by have := Lagain.out; have := Ll.out; omega) (by have := Ll.out; omega)
        rw [(sameL_iff again l).2 (Pagain.out.one Pl.out fun z hz => Pl.out.inP hz)] at Hs
        have HS := hide Hs
        clear Hs
        refine (HS.out).mono ?_
        rintro e w6 ⟨rfl, hu⟩
        have Ra := hide (Ra.out.new_ hu)
        have Rb := hide (Rb.out.new_ hu)
        have Rl := hide (Rl.out.new_ hu)
        have Ragain := hide (Ragain.out.new_ hu)
        have HT := hide (HT.out.new hu)
        have H2 := hide (H2.out.new hu)
        have H3 := hide (H3.out.new hu)
        have N := hide (N.out.trans_new hu)
        clear hu
        go_wp2_with fail
        clear HS
        by_cases hcb : (pfsC b).1 = 0
        rotate_left
        · refine (setOr_bad A0 A1 n0 c0 n1 c1 a b E _ HT.out H2.out H3.out Ra.out Hn0.out Rb.out Hn1.out (by omega) (by omega) (by unfold twoC; rw [if_pos hca.out]; exact hcb)).mono ?_
          rintro e w7 ⟨Ax, cx, tx, px, rfl, hu⟩
          have N := hide (N.out.trans_new hu)
          clear hu
          go_wp2_with fail
          go_ret
          exact ⟨rfl, N.out⟩
        have hcb := hide hcb
        as_aux_lemma =>
          refine (setOr_good A0 A1 n0 c0 n1 c1 a b E _ HT.out H2.out H3.out Ra.out Hn0.out Rb.out Hn1.out (by omega) (by omega) hca.out hcb.out).mono ?_
          rintro e w7 ⟨Aor_, cor_, or_, rfl, hu, hr, hl, hn⟩
          have Ra := hide (Ra.out.new_ hu)
          have Rb := hide (Rb.out.new_ hu)
          have Rl := hide (Rl.out.new_ hu)
          have Ragain := hide (Ragain.out.new_ hu)
          have HT := hide (HT.out.new hu)
          have H2 := hide (H2.out.new hu)
          have H3 := hide (H3.out.new hu)
          have N := hide (N.out.trans_new hu)
          clear hu
          have Ror_ := hide hr
          have Lor_ := hide hl
          have Por_ := hide hn
          clear hr hl hn
          go_wp2_with fail
          refine (setAnd_good A0 A1 n0 c0 n1 c1 a b E _ HT.out H2.out H3.out Ra.out Hn0.out Rb.out Hn1.out (by omega) (by omega) hca.out hcb.out).mono ?_
          rintro e w8 ⟨Aand_, cand_, and_, rfl, hu, hr, hl, hn⟩
          have Ra := hide (Ra.out.new_ hu)
          have Rb := hide (Rb.out.new_ hu)
          have Rl := hide (Rl.out.new_ hu)
          have Ragain := hide (Ragain.out.new_ hu)
          have Ror_ := hide (Ror_.out.new_ hu)
          have HT := hide (HT.out.new hu)
          have H2 := hide (H2.out.new hu)
          have H3 := hide (H3.out.new hu)
          have N := hide (N.out.trans_new hu)
          clear hu
          have Rand_ := hide hr
          have Land_ := hide hl
          have Pand_ := hide hn
          clear hr hl hn
          go_wp2_with fail
          refine (setNot_good A0 A1 n0 c0 n1 c1 a b E _ HT.out H2.out H3.out Ra.out Hn0.out Rb.out Hn1.out (by omega) (by omega) hca.out hcb.out).mono ?_
          rintro e w9 ⟨Aone, cone, one, rfl, hu, hr, hl, hn⟩
          have Ra := hide (Ra.out.new_ hu)
          have Rb := hide (Rb.out.new_ hu)
          have Rl := hide (Rl.out.new_ hu)
          have Ragain := hide (Ragain.out.new_ hu)
          have Ror_ := hide (Ror_.out.new_ hu)
          have Rand_ := hide (Rand_.out.new_ hu)
          have HT := hide (HT.out.new hu)
          have H2 := hide (H2.out.new hu)
          have H3 := hide (H3.out.new hu)
          have N := hide (N.out.trans_new hu)
          clear hu
          have Rone := hide hr
          have Lone := hide hl
          have Pone := hide hn
          clear hr hl hn
          go_wp2_with fail
          refine (setNot_good A1 A0 n1 c1 n0 c0 b a E _ HT.out H2.out H3.out Rb.out Hn1.out Ra.out Hn0.out (by omega) (by omega) hcb.out hca.out).mono ?_
          rintro e w10 ⟨Atwo, ctwo, two, rfl, hu, hr, hl, hn⟩
          have Ra := hide (Ra.out.new_ hu)
          have Rb := hide (Rb.out.new_ hu)
          have Rl := hide (Rl.out.new_ hu)
          have Ragain := hide (Ragain.out.new_ hu)
          have Ror_ := hide (Ror_.out.new_ hu)
          have Rand_ := hide (Rand_.out.new_ hu)
          have Rone := hide (Rone.out.new_ hu)
          have HT := hide (HT.out.new hu)
          have H2 := hide (H2.out.new hu)
          have H3 := hide (H3.out.new hu)
          have N := hide (N.out.trans_new hu)
          clear hu
          have Rtwo := hide hr
          have Ltwo := hide hl
          have Ptwo := hide hn
          clear hr hl hn
          go_upto_region 31 with (fail)
          have h1 := fun w' (nw : New w10 w') => setHas_any Aand_ and_.length cand_ and_ x E w' (H2.out.new nw) (H3.out.new nw) (Rand_.out.new_ nw) rfl (by have := Land_.out; omega)
          have h2 := fun w' (nw : New w10 w') => setHas_any A0 n0 c0 a x E w' (H2.out.new nw) (H3.out.new nw) (Ra.out.new_ nw) Hn0.out (by omega)
          have h3 := fun w' (nw : New w10 w') => setHas_any A1 n1 c1 b x E w' (H2.out.new nw) (H3.out.new nw) (Rb.out.new_ nw) Hn1.out (by omega)
          have h4 := fun w' (nw : New w10 w') => setHas_any Aone one.length cone one x E w' (H2.out.new nw) (H3.out.new nw) (Rone.out.new_ nw) rfl (by have := Lone.out; omega)
          rw [has_and Hac.out (pfsC_ok hcb.out) Pand_.out x] at h1
          rw [has_not Hac.out (pfsC_ok hcb.out) Pone.out x] at h4
          have J1 := hide h1
          have J2 := hide h2
          have J3 := hide h3
          have J4 := hide h4
          clear h1 h2 h3 h4
          generalize hasL a x = ha at *
          generalize hasL b x = hb at *
          go_cut [216] (fun v216_ wc => v216_ = .bool false ∧ New w10 wc)
          case first =>
            as_aux_lemma =>
              have nw := Upd.refl (fun _ => False) w10
              cases ha <;> cases hb
              · go_wp2_with fail
                refine (J1.out _ nw).mono ?_
                rintro e y0 ⟨rfl, hu⟩
                have nw := nw.trans_new hu
                clear hu
                go_wp2_with fail
                refine (J2.out _ nw).mono ?_
                rintro e y1 ⟨rfl, hu⟩
                have nw := nw.trans_new hu
                clear hu
                go_wp2_with fail
                refine (J4.out _ nw).mono ?_
                rintro e y2 ⟨rfl, hu⟩
                have nw := nw.trans_new hu
                clear hu
                go_wp2_with fail
                refine (J2.out _ nw).mono ?_
                rintro e y3 ⟨rfl, hu⟩
                have nw := nw.trans_new hu
                clear hu
                go_wp2_with fail
                go_meet
                exact ⟨rfl, nw⟩
              · go_wp2_with fail
                refine (J1.out _ nw).mono ?_
                rintro e y0 ⟨rfl, hu⟩
                have nw := nw.trans_new hu
                clear hu
                go_wp2_with fail
                refine (J2.out _ nw).mono ?_
                rintro e y1 ⟨rfl, hu⟩
                have nw := nw.trans_new hu
                clear hu
                go_wp2_with fail
                refine (J4.out _ nw).mono ?_
                rintro e y2 ⟨rfl, hu⟩
                have nw := nw.trans_new hu
                clear hu
                go_wp2_with fail
                refine (J2.out _ nw).mono ?_
                rintro e y3 ⟨rfl, hu⟩
                have nw := nw.trans_new hu
                clear hu
                go_wp2_with fail
                go_meet
                exact ⟨rfl, nw⟩
              · go_wp2_with fail
                refine (J1.out _ nw).mono ?_
                rintro e y0 ⟨rfl, hu⟩
                have nw := nw.trans_new hu
                clear hu
                go_wp2_with fail
                refine (J2.out _ nw).mono ?_
                rintro e y1 ⟨rfl, hu⟩
                have nw := nw.trans_new hu
                clear hu
                go_wp2_with fail
                refine (J3.out _ nw).mono ?_
                rintro e y2 ⟨rfl, hu⟩
                have nw := nw.trans_new hu
                clear hu
                go_wp2_with fail
                refine (J4.out _ nw).mono ?_
                rintro e y3 ⟨rfl, hu⟩
                have nw := nw.trans_new hu
                clear hu
                go_wp2_with fail
                refine (J2.out _ nw).mono ?_
                rintro e y4 ⟨rfl, hu⟩
                have nw := nw.trans_new hu
                clear hu
                go_wp2_with fail
                refine (J3.out _ nw).mono ?_
                rintro e y5 ⟨rfl, hu⟩
                have nw := nw.trans_new hu
                clear hu
                go_wp2_with fail
                go_meet
                exact ⟨rfl, nw⟩
              · go_wp2_with fail
                refine (J1.out _ nw).mono ?_
                rintro e y0 ⟨rfl, hu⟩
                have nw := nw.trans_new hu
                clear hu
                go_wp2_with fail
                refine (J2.out _ nw).mono ?_
                rintro e y1 ⟨rfl, hu⟩
                have nw := nw.trans_new hu
                clear hu
                go_wp2_with fail
                refine (J3.out _ nw).mono ?_
                rintro e y2 ⟨rfl, hu⟩
                have nw := nw.trans_new hu
                clear hu
                go_wp2_with fail
                refine (J4.out _ nw).mono ?_
                rintro e y3 ⟨rfl, hu⟩
                have nw := nw.trans_new hu
                clear hu
                go_wp2_with fail
                refine (J2.out _ nw).mono ?_
                rintro e y4 ⟨rfl, hu⟩
                have nw := nw.trans_new hu
                clear hu
                go_wp2_with fail
                refine (J3.out _ nw).mono ?_
                rintro e y5 ⟨rfl, hu⟩
                have nw := nw.trans_new hu
                clear hu
                go_wp2_with fail
                go_meet
                exact ⟨rfl, nw⟩
          case rest =>
            obtain ⟨rfl, hu⟩ := hcut
            clear J1 J2 J3 J4 ha hb
            have Ra := hide (Ra.out.new_ hu)
            have Rb := hide (Rb.out.new_ hu)
            have Rl := hide (Rl.out.new_ hu)
            have Ragain := hide (Ragain.out.new_ hu)
            have Ror_ := hide (Ror_.out.new_ hu)
            have Rand_ := hide (Rand_.out.new_ hu)
            have Rone := hide (Rone.out.new_ hu)
            have Rtwo := hide (Rtwo.out.new_ hu)
            have HT := hide (HT.out.new hu)
            have H2 := hide (H2.out.new hu)
            have H3 := hide (H3.out.new hu)
            have N := hide (N.out.trans_new hu)
            clear hu
            generalize wc = w11 at *
            as_aux_lemma =>
              go_wp2_with fail
              refine (ownPrefixes_own Aand_ and_.length cand_ and_ _ Rand_.out rfl (by have := Land_.out; omega)).mono ?_
              rintro e w12 ⟨vo, rfl, ho, hu⟩
              obtain ⟨i0, hi0, hz0, hz1, hz2⟩ := info_parts info_TPf
              have Hi0 := hide hi0
              have Hz := hide (And.intro hz0 (And.intro hz1 hz2))
              have HO := hide ho
              have U := hide hu
              have F1 := hide (Rws.flat (by omega) Rone.out (pf_size one))
              have F2 := hide (Rws.flat (by omega) Rtwo.out (pf_size two))
              have hla : and_.length ≤ 10000 := by have := Land_.out; omega
              have hlo : one.length ≤ 10000 := by have := Lone.out; omega
              have hlt2 : two.length ≤ 10000 := by have := Ltwo.out; omega
              have hsz := hu.size
              clear ho hu hi0 hz0 hz1 hz2
              go_wp2_with (at_builtin; refine append_src rfl (.tmp 218) (.tmp 219) 22 rfl w11.heap.size TPf i0 _ 2 16 Tryd.underlying22 Hi0.out Hz.out.1 Hz.out.2.1 Hz.out.2.2 rfl (by omega) vo and_.length (flat (and_.map Pf.cells)) rfl HO.out Aone one.length cone (flat (one.map Pf.cells)) rfl (by rw [flat_length _ (pf_size one), List.length_map]) (fun h => (Rws.flat (by omega) (Rone.out.new_ U.out) (pf_size one)) (by rw [List.length_map]; exact h)) (pf_one one) (by unfold maxLen; omega) (by omega) hsz ?_)
              intro v1 w13 ho hg
              have U := hide (U.out.trans (grown_upd (S := fun q => Value.ownBlock vo = some q) hg fun g h => h) fun q hq hx => by have := (row_ge HO.out hx).1; omega)
              have HO := hide (OwnP.join ho)
              have hsz := U.out.size
              have hao : (and_ ++ one).length ≤ 20000 := by rw [List.length_append]; omega
              clear ho hg
              go_wp2_with (at_builtin; refine append_src rfl (.tmp 221) (.tmp 222) 22 rfl w11.heap.size TPf i0 _ 2 16 Tryd.underlying22 Hi0.out Hz.out.1 Hz.out.2.1 Hz.out.2.2 rfl (by omega) v1 (and_ ++ one).length (flat ((and_ ++ one).map Pf.cells)) rfl HO.out Atwo two.length ctwo (flat (two.map Pf.cells)) rfl (by rw [flat_length _ (pf_size two), List.length_map]) (fun h => (Rws.flat (by omega) (Rtwo.out.new_ U.out) (pf_size two)) (by rw [List.length_map]; exact h)) (pf_one two) (by unfold maxLen; omega) (by omega) hsz ?_)
              intro v2 w14 ho hg
              have hu := U.out.trans (grown_upd (S := fun q => Value.ownBlock v1 = some q) hg fun g h => h) fun q hq hx => by have := (row_ge HO.out hx).1; omega
              have HO := hide (show OwnP w14 w11.heap.size v2 (and_ ++ one ++ two) by
                unfold OwnP
                simpa only [List.map_append, flat_append, List.length_append] using ho)
              clear ho hg U F1 F2 Hi0 Hz hsz
              have Ra := hide (Ra.out.new_ hu)
              have Rb := hide (Rb.out.new_ hu)
              have Rl := hide (Rl.out.new_ hu)
              have Ragain := hide (Ragain.out.new_ hu)
              have Ror_ := hide (Ror_.out.new_ hu)
              have Rand_ := hide (Rand_.out.new_ hu)
              have Rone := hide (Rone.out.new_ hu)
              have Rtwo := hide (Rtwo.out.new_ hu)
              have HT := hide (HT.out.new hu)
              have H2 := hide (H2.out.new hu)
              have H3 := hide (H3.out.new hu)
              have N := hide (N.out.trans_new hu)
              clear hu
              obtain ⟨Aall, call, rfl, _, rall, _⟩ := HO.out.rws
              have hokall : ∀ p ∈ and_ ++ one ++ two, p.ok := fun p hp => by
                rcases List.mem_append.1 hp with hp | hp
                · rcases List.mem_append.1 hp with hp | hp
                  · exact Pand_.out.1 p hp
                  · exact Pone.out.1 p hp
                · exact Ptwo.out.1 p hp
              have hnall := fun (bk : List Pf) (n k : Nat) h4 h5 h6 => norm_all (back := bk) (n := n) (k := k) Por_.out Pand_.out Pone.out Ptwo.out h4 h5 h6
              have hal : (and_ ++ one ++ two).length ≤ 30000 := by rw [List.length_append]; omega
              have Rall := hide rall
              have Hok := hide hokall
              have Hna := hide hnall
              clear rall hokall hnall HO
              generalize and_ ++ one ++ two = all at *
              as_aux_lemma =>
                go_wp2_with fail
                refine (norm_good Aall all.length call all E _ HT.out H2.out H3.out Rall.out rfl (by omega) (pfsC_all Hok.out)).mono ?_
                rintro e w15 ⟨Aback, cback, back, rfl, hu, hr, hl, hn⟩
                have Ra := hide (Ra.out.new_ hu)
                have Rb := hide (Rb.out.new_ hu)
                have Rl := hide (Rl.out.new_ hu)
                have Ragain := hide (Ragain.out.new_ hu)
                have Ror_ := hide (Ror_.out.new_ hu)
                have Rand_ := hide (Rand_.out.new_ hu)
                have Rone := hide (Rone.out.new_ hu)
                have Rtwo := hide (Rtwo.out.new_ hu)
                have Rall := hide (Rall.out.new_ hu)
                have HT := hide (HT.out.new hu)
                have H2 := hide (H2.out.new hu)
                have H3 := hide (H3.out.new hu)
                have N := hide (N.out.trans_new hu)
                clear hu
                have Rback := hide hr
                have Lback := hide hl
                have Pback := hide hn
                clear hr hl hn
                go_wp2_with fail
                refine (count_good Aor_ or_.length cor_ or_ E _ H2.out H3.out Ror_.out rfl (by have := Lor_.out; omega) (pfsC_all Por_.out.1)).mono ?_
                rintro e w16 ⟨n, rfl, hu, hc⟩
                have HCn := hide hc
                clear hc
                have Ra := hide (Ra.out.new_ hu)
                have Rb := hide (Rb.out.new_ hu)
                have Rl := hide (Rl.out.new_ hu)
                have Ragain := hide (Ragain.out.new_ hu)
                have Ror_ := hide (Ror_.out.new_ hu)
                have Rand_ := hide (Rand_.out.new_ hu)
                have Rone := hide (Rone.out.new_ hu)
                have Rtwo := hide (Rtwo.out.new_ hu)
                have Rall := hide (Rall.out.new_ hu)
                have Rback := hide (Rback.out.new_ hu)
                have HT := hide (HT.out.new hu)
                have H2 := hide (H2.out.new hu)
                have H3 := hide (H3.out.new hu)
                have N := hide (N.out.trans_new hu)
                clear hu
                go_wp2_with fail
                refine (count_good Aall all.length call all E _ H2.out H3.out Rall.out rfl (by omega) (pfsC_all Hok.out)).mono ?_
                rintro e w17 ⟨k, rfl, hu, hc⟩
                have HCk := hide hc
                clear hc
                have Ra := hide (Ra.out.new_ hu)
                have Rb := hide (Rb.out.new_ hu)
                have Rl := hide (Rl.out.new_ hu)
                have Ragain := hide (Ragain.out.new_ hu)
                have Ror_ := hide (Ror_.out.new_ hu)
                have Rand_ := hide (Rand_.out.new_ hu)
                have Rone := hide (Rone.out.new_ hu)
                have Rtwo := hide (Rtwo.out.new_ hu)
                have Rall := hide (Rall.out.new_ hu)
                have Rback := hide (Rback.out.new_ hu)
                have HT := hide (HT.out.new hu)
                have H2 := hide (H2.out.new hu)
                have H3 := hide (H3.out.new hu)
                have N := hide (N.out.trans_new hu)
                clear hu
                obtain ⟨e1, e2, e3⟩ := Hna.out _ _ _ Pback.out HCn.out HCk.out
                subst e2
                have E1 := hide e1
                have E3 := hide e3
                clear e1 e3 HCn HCk Hna
                as_aux_lemma =>
                  go_wp2_with fail
                  go_loopw [31, 32] (fun mv iv wz => ∃ j : Nat, j ≤ all.length ∧ iv = .int .i64 j ∧ mv = .int .i64 ((sizes (all.take j) : Nat) : Int) ∧ New w17 wz) (fun _ iv _ => all.length - (intOf iv).toNat)
                  case atStart => exact ⟨0, by omega, rfl, by simp [sizes], Upd.refl _ _⟩
                  case round =>
                    obtain ⟨j, hj, rfl, rfl, hu⟩ := hrel
                    have HU := hide hu
                    clear hu
                    obtain ⟨wo, rfl⟩ : ∃ wo : World, wo = wr := ⟨_, rfl⟩
                    by_cases hlt : j < all.length
                    · have i3 : (j : Int) < (all.length : Int) := by omega
                      obtain ⟨p, hp⟩ : ∃ p, all[j]? = some p := ⟨_, List.getElem?_eq_getElem hlt⟩
                      obtain ⟨bl, ol, _, hAl, _, _, _, _⟩ := rws_two Rall.out hlt
                      obtain ⟨p0, p1, pz⟩ := rl_at (Rall.out.new_ HU.out) hAl hp
                      subst hAl
                      have h9 := size_any p.a p.n E wo (H2.out.new HU.out) (H3.out.new HU.out)
                      rw [if_pos (show chk p.a p.n = 0 from Hok.out p (List.mem_of_getElem? hp))] at h9
                      have hst := sizes_take hp
                      have hS9 : sizes (all.take j) ≤ 1000000000000000 := by
                        have h1 := sizes_le (all.take j)
                        rw [List.length_take] at h1
                        omega
                      have hD9 := p32_le p.n.toNat
                      generalize sizes (all.take j) = S at *
                      generalize 2 ^ (32 - p.n.toNat) = D at *
                      obtain ⟨a1, a2⟩ := add_facts hS9 hD9
                      have Hst := hide hst
                      have H9 := hide h9
                      clear hst h9 hp
                      go_wp2_with fail
                      refine H9.out.mono ?_
                      rintro e wj ⟨rfl, hu⟩
                      have HU := hide (HU.out.trans_new hu)
                      clear hu p0 p1 pz H9
                      go_wp2_with fail
                      exact ⟨⟨j + 1, by omega, by go_num, by rw [Hst.out, Int.natCast_add], HU.out⟩, by simp [intOf]; omega⟩
                    · obtain rfl : j = all.length := by omega
                      have i3 : ¬ (all.length : Int) < (all.length : Int) := by omega
                      rw [List.take_length, E3.out]
                      have Hs := samePrefixes_any Aback Aor_ back.length or_.length cback cor_ back or_ wo (Rback.out.new_ HU.out) (Ror_.out.new_ HU.out) rfl rfl (by have := Lback.out; omega) (by have := Lor_.out; omega)
                      rw [(sameL_iff back or_).2 E1.out] at Hs
                      have HS := hide Hs
                      have j1 : ((n : Int) == (n : Int)) = true := by simp
                      clear Hs
                      go_wp2_with fail
                      refine HS.out.mono ?_
                      rintro e wz ⟨rfl, hu⟩
                      have N := hide ((N.out.trans_new HU.out).trans_new hu)
                      clear hu
                      go_wp2_with fail
                      go_ret
                      exact ⟨rfl, N.out⟩
end Go.Proofs.YtignngpligicjaaDoor
