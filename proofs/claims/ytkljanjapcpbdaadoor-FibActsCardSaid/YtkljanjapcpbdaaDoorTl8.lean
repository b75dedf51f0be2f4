/- The reference's Set. No condition but those that stand in each theorem. -/
import Derived.Test.YtkljanjapcpbdaaDoorTl7
import Derived.Test.YtkljanjapcpbdaaDoorRf3
namespace Go.Proofs.YtkljanjapcpbdaaDoor
open Go.RowKit

theorem allX_zero : allX V0 = [] := by
  have := len_zero
  apply List.eq_nil_of_length_eq_zero
  rw [allX_len]; exact this
theorem VI_0 (xs : List E3) : VI xs (js1 0) = V0 := VI_nil xs

/-- What the reference's Set leaves. -/
def RSetPost (B y : Nat) (ms : Int) (L : List E3) (G : Nat → Prop) (xs : List E3) (w : World) (e : Ending) (w1 : World) : Prop :=
  (∃ (k : Nat) (x : E3), xs[k]? = some x ∧ setC ms xs k x ≠ 0 ∧ (∀ j z, j < k → xs[j]? = some z → setC ms xs j z = 0) ∧ e = .returned (faultV (setC ms xs k x, (k : Int))) ∧ TabL B w1 y ms L G ∧ New w w1) ∨
  ((∀ j z, xs[j]? = some z → setC ms xs j z = 0) ∧ e = .returned (faultV (0, -1)) ∧ ∃ G', TabL B w1 y ms (allX (VI xs (js1 xs.length))) G' ∧ (∀ k, G' k → G k ∨ w.heap.size ≤ k) ∧ Upd G w w1)

set_option maxRecDepth 20000 in
set_option maxHeartbeats 4000000 in
theorem rset_any (B y n c : Nat) (A : Option Addr) (ms : Int) (L : List E3) (G : Nat → Prop) (xs : List E3) (w : World) (hT : TabL B w y ms L G) (hms : 0 ≤ ms ∧ ms ≤ 60) (hx : Rws w A 3 (xs.map E3.cells)) (hn : xs.length = n) (hl : n ≤ 1000) (hB : B ≤ w.heap.size) :
    Calls Tryd.prog 32 #[.pointer (some ⟨y, 0, none⟩), .slice A n c] w (RSetPost B y ms L G xs w) := by
  obtain ⟨Ay, capy, hby, _, _, _, hGy, _, _⟩ := hT.open_
  have u := (Upd.refl (fun _ => False) w).alloc (.cells #[.int .i64 0, .int .i64 0] TRF)
  have HR := hide (Blk.new w TRF #[.int .i64 0, .int .i64 0])
  have Hu := hide u
  have HT := hide hT
  have Hx := hide hx
  have Hn := hide hn
  have Hby := hide (hby.new_ u)
  have Hylt := hide hby.lt
  have HGy := hide (show G y by rw [hGy]; exact .inl rfl)
  have HfB := hide hT.from_
  have HB0 := hide hB
  have hnt := newTable_any (w.alloc (.cells #[.int .i64 0, .int .i64 0] TRF)).heap.size ms (w.alloc (.cells #[.int .i64 0, .int .i64 0] TRF)) (Nat.le_refl _)
  rw [show min (max ms 0) 60 = ms by rw [mm]; split; omega; split <;> omega] at hnt
  have Hnt := hide hnt
  have c0 := Hby.out.cell 0
  have zy := Hby.out.lt
  simp only [List.getElem?_toArray, List.getElem?_cons_zero] at c0
  have g1 := guard_pfx
  have g2 := eql_pfx
  clear u hT hx hn hby hGy hnt hB
  go_enter Tryd.func32, Tryd.ntmps32
  go_wp2_with fail
  generalize (w.alloc (.cells #[.int .i64 0, .int .i64 0] TRF)) = W at *
  refine Hnt.out.mono ?_
  rintro e w1 ⟨yx, Gx, rfl, hTx, hGx, hu1⟩
  have HTx := hide (show TabL W.heap.size w1 yx ms (allX (VI xs (js1 0))) Gx by rw [VI_0, allX_zero]; exact hTx)
  have HU1 := hide hu1
  clear hTx hGx hu1 c0 zy
  go_wp2_with fail
  go_loopw [6] (fun i wr => ∃ (k : Nat) (Gk : Nat → Prop), k ≤ n ∧ i = .int .i64 k ∧ New W wr ∧ TabL W.heap.size wr yx ms (allX (VI xs (js1 k))) Gk ∧ (allX (VI xs (js1 k))).length = k ∧ Val (VI xs (js1 k)) ∧ Good xs k ∧ ∀ j z, j < k → xs[j]? = some z → setC ms xs j z = 0) (fun i _ => n - (intOf i).toNat)
  case atStart => exact ⟨0, Gx, by omega, rfl, HU1.out, HTx.out, by rw [VI_0, allX_zero]; rfl, by rw [VI_0]; exact Val.zero, Good.zero _, fun j z h => absurd h (by omega)⟩
  case round =>
    obtain ⟨k, Gk, hk, rfl, hnew, hTk, hlen, hV, hgood, hzz⟩ := hrel
    have Hnew := hide hnew
    have HTk := hide hTk
    have Hlen := hide hlen
    have HV := hide hV
    have Hgood := hide hgood
    have Hzz := hide hzz
    clear hTk hlen hV hgood hzz hnew
    by_cases hlt : k < n
    · obtain ⟨b, o, x, hA, hbw, hxk, e0, e1, e2⟩ := Hx.out.e3 (k := k) (by have := Hn.out; omega)
      have hww := Hu.out.trans_new Hnew.out
      have d0 := (hww.cell hbw (fun x => x)).trans e0
      have d1 := (hww.cell hbw (fun x => x)).trans e1
      have hb := Nat.lt_of_lt_of_le hbw hww.size
      have Hbw := hide hbw
      have EE := hide (And.intro e0 (And.intro e1 e2))
      have HA := hide hA
      rw [hA]
      have Hxk := hide hxk
      have i3 : (k : Int) < (n : Int) := by omega
      have Hpe := hide (prefixError_any x.a x.n wr)
      clear hxk hbw e0 e1 e2 hA hww
      go_wp2_with fail
      refine Hpe.out.mono ?_
      rintro e w2 ⟨rfl, hu2⟩
      have N2 := hide (Hnew.out.trans_new hu2)
      have U2 := hide hu2
      clear hu2 d0 d1 hb
      by_cases k1 : chk x.a x.n = 0
      · have Hchk := hide k1
        rw [k1]
        clear k1
        go_wp2_with fail
        go_loopw [7, 8] (fun e q wz => ∃ Q : Nat, Q ≤ k ∧ q = .int .i64 Q ∧ New w2 wz ∧ ((e = .int .i64 0 ∧ ∀ (i : Nat) z, i < Q → xs[i]? = some z → sameP x z = false) ∨ (e = .int .i64 6 ∧ (xs.take k).any (sameP x) = true))) (fun _ q _ => k - (intOf q).toNat)
        case atStart => exact ⟨0, by omega, rfl, Upd.refl _ _, .inl ⟨rfl, fun i z h => absurd h (by omega)⟩⟩
        case round =>
          obtain ⟨Q, hQ, rfl, hnz, hor⟩ := hrel
          have Hnz := hide (N2.out.trans_new hnz)
          have HU3 := hide hnz
          clear hnz
          have hwz := Hu.out.trans_new Hnz.out
          have d0 := (hwz.cell Hbw.out (fun x => x)).trans EE.out.1
          have d1 := (hwz.cell Hbw.out (fun x => x)).trans EE.out.2.1
          have hb := Nat.lt_of_lt_of_le Hbw.out hwz.size
          clear hwz
          rcases hor with ⟨rfl, hno⟩ | ⟨rfl, hany⟩
          · have Hno := hide hno
            clear hno
            by_cases hQk : Q < k
            · obtain ⟨b', o', z, hA2, hbw2, hz, e0, e1, e2⟩ := Hx.out.e3 (k := Q) (by have := Hn.out; omega)
              have ee := hA2.symm.trans HA.out
              injection ee with ee; injection ee with e3 e4; subst e3; subst e4
              have hwz := Hu.out.trans_new Hnz.out
              have f0 := (hwz.cell hbw2 (fun x => x)).trans e0
              have f1 := (hwz.cell hbw2 (fun x => x)).trans e1
              have Hz := hide hz
              have i4 : (Q : Int) < (k : Int) := by omega
              have i5 : (Q : Int) < (n : Int) := by omega
              have i6 : Q < n := by omega
              clear e0 e1 e2 hwz hA2 hz hbw2
              cases he : sameP x z with
              | true =>
                have he2 : (z.a == x.a && z.n == x.n) = true := he
                have Hany : Hid ((xs.take k).any (sameP x) = true) := hide (List.any_eq_true.2 ⟨z, List.mem_of_getElem? (i := Q) (by rw [List.getElem?_take_of_lt hQk]; exact Hz.out), he⟩)
                clear he
                go_wp2_with fail
                go_quiet (fail)
                go_wp2_with fail
                exact ⟨⟨Q + 1, by omega, by go_num, HU3.out.drewN _, .inr ⟨rfl, Hany.out⟩⟩, by simp [intOf]; omega⟩
              | false =>
                have he2 : (z.a == x.a && z.n == x.n) = false := he
                have Hee := hide he
                clear he
                go_wp2_with fail
                go_quiet (fail)
                go_wp2_with fail
                refine ⟨⟨Q + 1, by omega, by go_num, HU3.out.drewN _, .inl ⟨rfl, fun i y hi hy => ?_⟩⟩, by simp [intOf]; omega⟩
                by_cases hij : i < Q
                · exact Hno.out i y hij hy
                · obtain rfl : i = Q := by omega
                  rw [Hz.out] at hy; injection hy with hy; subst hy; exact Hee.out
            · have hQe : Q = k := by omega
              subst hQe
              have Hany : Hid ((xs.take Q).any (sameP x) = false) := hide (by
                rw [List.any_eq_false]
                intro y hy
                obtain ⟨i, hi⟩ := List.getElem?_of_mem hy
                have hiQ : i < Q := by
                  have := (List.getElem?_eq_some_iff.1 hi).1
                  rw [List.length_take] at this
                  omega
                rw [List.getElem?_take_of_lt hiQ] at hi
                simpa using Hno.out i y hiQ hi)
              have Hgood2 := hide (Hgood.out.any Hxk.out Hchk.out Hany.out)
              have hfree := VI_free1 Hgood2.out Hxk.out
              have hTz := HTk.out.new (U2.out.trans_new HU3.out)
              have hrp := fun w' (hw' : TabL W.heap.size w' yx ms (allX (VI xs (js1 Q))) Gk) (hbw : W.heap.size ≤ w'.heap.size) => rput_any W.heap.size yx ms (allX (VI xs (js1 Q))) Gk x.a x.n x.h w' hw' (by have := Hlen.out; omega) hbw
              have d2 := ((Hu.out.trans_new Hnz.out).cell Hbw.out (fun x => x)).trans EE.out.2.2
              have D := hide (And.intro d0 (And.intro d1 d2))
              have Hbo := hide hb
              have HTz := hide hTz
              have zW := hide (show W.heap.size ≤ wr.heap.size from Hnz.out.size)
              obtain ⟨wo, rfl⟩ : ∃ wo : World, wo = wr := ⟨_, rfl⟩
              have Hbne : Hid (¬ Gk b) := hide (fun h => by have h1 := HTk.out.ge h; have h2 := Hbw.out; have h3 := Hu.out.size; omega)
              clear hTz
              by_cases hfull : ms ≤ (Q : Int)
              · have hc : rputC ms (allX (VI xs (js1 Q))) x.a x.n x.h = (7, allX (VI xs (js1 Q))) := rput_full HV.out Hchk.out hfree (by rw [Hlen.out]; exact hfull) x.h
                have Hsc := hide (setC_full (ms := ms) Hchk.out Hany.out hfull)
                rw [hc] at hrp
                have Hrp := hide hrp
                clear hrp hc hfree hfull
                go_upto_region 12 with (fail)
                go_region_held3 (fun w' => w'.cell? ⟨b, o + Q * 3, none⟩ = some (.int .i64 x.a) ∧ w'.cell? ⟨b, o + Q * 3 + 1, none⟩ = some (.int .i64 x.n) ∧ w'.cell? ⟨b, o + Q * 3 + 2, none⟩ = some (.int .i64 x.h))
                  (first | go_keep | exact K1.out)
                  ((go_at_call 26; refine (Hrp.out _ (by exact HTz.out.new ((Upd.refl _ wo).drew)) (by exact zW.out)).mono ?_; rintro e w5 ⟨rfl, G5, hT5, hG5, hu5⟩; have K1 := hide (keepE ⟨(hu5.cell Hbo.out Hbne.out).trans D.out.1, (hu5.cell Hbo.out Hbne.out).trans D.out.2.1, (hu5.cell Hbo.out Hbne.out).trans D.out.2.2⟩)))
                have n5 : New W w5 := (Upd.drew Hnz.out).trans hu5 fun q hq hx => by have := HTk.out.ge hx; omega
                have N5 := hide n5
                clear n5
                have b2 := HR.out.new_ N5.out
                have z2 := b2.lt
                have f0 := b2.frozen 0
                have f1 := b2.frozen 1
                have d0 := b2.cell 0
                have d1 := b2.cell 1
                simp only [List.getElem?_toArray, List.getElem?_cons_zero, List.getElem?_cons_succ] at d0 d1
                have H2 := hide b2
                clear b2
                go_wp2_with fail
                refine bodyPost_ret (fault_out Tryd.results32 rfl (fault_set H2.out)) rfl ?_
                have hR : w.heap.size ≤ w.heap.size := Nat.le_refl _
                exact .inl ⟨Q, x, Hxk.out, by rw [Hsc.out]; omega, Hzz.out, by rw [Hsc.out]; rfl, HT.out.new (new_set2 (Hu.out.trans_new N5.out) hR), new_set2 (Hu.out.trans_new N5.out) hR⟩

              · have hc : rputC ms (allX (VI xs (js1 Q))) x.a x.n x.h = (0, allX (VI xs (js1 (Q + 1)))) := by rw [rput_new HV.out Hchk.out hfree (by rw [Hlen.out]; exact hfull) x.h, VI_snoc1 Hgood2.out Hxk.out]
                have Hsc := hide (setC_ok (ms := ms) Hchk.out Hany.out (by omega))
                have Hl2 := hide (show (allX (VI xs (js1 (Q + 1)))).length = Q + 1 by rw [← VI_snoc1 Hgood2.out Hxk.out, len_new Hchk.out hfree, Hlen.out])
                have HV2 := hide (show Val (VI xs (js1 (Q + 1))) by rw [← VI_snoc1 Hgood2.out Hxk.out]; exact HV.out.put Hchk.out _)
                rw [hc] at hrp
                have Hrp := hide hrp
                clear hrp hc hfree hfull
                go_upto_region 12 with (fail)
                go_region_held3 (fun w' => w'.cell? ⟨b, o + Q * 3, none⟩ = some (.int .i64 x.a) ∧ w'.cell? ⟨b, o + Q * 3 + 1, none⟩ = some (.int .i64 x.n) ∧ w'.cell? ⟨b, o + Q * 3 + 2, none⟩ = some (.int .i64 x.h))
                  (first | go_keep | exact K1.out)
                  ((go_at_call 26; refine (Hrp.out _ (by exact HTz.out.new ((Upd.refl _ wo).drew)) (by exact zW.out)).mono ?_; rintro e w5 ⟨rfl, G5, hT5, hG5, hu5⟩; have K1 := hide (keepE ⟨(hu5.cell Hbo.out Hbne.out).trans D.out.1, (hu5.cell Hbo.out Hbne.out).trans D.out.2.1, (hu5.cell Hbo.out Hbne.out).trans D.out.2.2⟩)))
                have n5 : New W w5 := (Upd.drew Hnz.out).trans hu5 fun q hq hx => by have := HTk.out.ge hx; omega
                have N5 := hide n5
                have HT5 := hide hT5
                clear n5 hT5
                go_wp2_with fail
                refine ⟨⟨Q + 1, G5, by omega, by go_num, N5.out, HT5.out, Hl2.out, HV2.out, Hgood2.out, fun j z hj hz => ?_⟩, by simp [intOf]; omega⟩
                by_cases hjq : j < Q
                · exact Hzz.out j z hjq hz
                · obtain rfl : j = Q := by omega
                  rw [Hxk.out] at hz; injection hz with hz; subst hz; exact Hsc.out
          · have Hsc := hide (setC_old (ms := ms) Hchk.out hany)
            by_cases hQk : Q < k
            · have i4 : (Q : Int) < (k : Int) := by omega
              have b2 := HR.out.new_ Hnz.out
              have z2 := b2.lt
              have f0 := b2.frozen 0
              have f1 := b2.frozen 1
              have d0 := b2.cell 0
              have d1 := b2.cell 1
              simp only [List.getElem?_toArray, List.getElem?_cons_zero, List.getElem?_cons_succ] at d0 d1
              have H2 := hide b2
              clear b2
              go_wp2_with fail
              refine bodyPost_ret (fault_out Tryd.results32 rfl (fault_set H2.out)) rfl ?_
              have hR : w.heap.size ≤ w.heap.size := Nat.le_refl _
              exact .inl ⟨k, x, Hxk.out, by rw [Hsc.out]; omega, Hzz.out, by rw [Hsc.out]; rfl, HT.out.new (new_set2 (Hu.out.trans_new Hnz.out) hR), new_set2 (Hu.out.trans_new Hnz.out) hR⟩

            · have i4 : ¬ (Q : Int) < (k : Int) := by omega
              have b2 := HR.out.new_ Hnz.out
              have z2 := b2.lt
              have f0 := b2.frozen 0
              have f1 := b2.frozen 1
              have d0 := b2.cell 0
              have d1 := b2.cell 1
              simp only [List.getElem?_toArray, List.getElem?_cons_zero, List.getElem?_cons_succ] at d0 d1
              have H2 := hide b2
              clear b2
              go_wp2_with fail
              refine bodyPost_ret (fault_out Tryd.results32 rfl (fault_set H2.out)) rfl ?_
              have hR : w.heap.size ≤ w.heap.size := Nat.le_refl _
              exact .inl ⟨k, x, Hxk.out, by rw [Hsc.out]; omega, Hzz.out, by rw [Hsc.out]; rfl, HT.out.new (new_set2 (Hu.out.trans_new Hnz.out) hR), new_set2 (Hu.out.trans_new Hnz.out) hR⟩

      · have Hsc := hide (setC_chk (ms := ms) (xs := xs) (k := k) k1)
        have Hcne := hide k1
        generalize chk x.a x.n = kc at *
        have k2 : 0 < kc := by omega
        have k3 : ((kc : Int) == 0) = false := by simp; omega
        have k4 : (0 : Int) < (kc : Int) := by omega
        clear k1
        go_wp2_with fail
        refine wp_loop_rounds 1 ?_
        rw [rounds_succ]
        by_cases hk0 : 0 < k
        · have i5 : (0 : Int) < (k : Int) := by omega
          have b2 := HR.out.new_ N2.out
          have z2 := b2.lt
          have f0 := b2.frozen 0
          have f1 := b2.frozen 1
          have d0 := b2.cell 0
          have d1 := b2.cell 1
          simp only [List.getElem?_toArray, List.getElem?_cons_zero, List.getElem?_cons_succ] at d0 d1
          have H2 := hide b2
          clear b2
          go_wp2_with fail
          refine bodyPost_ret (fault_out Tryd.results32 rfl (fault_set H2.out)) rfl ?_
          have hR : w.heap.size ≤ w.heap.size := Nat.le_refl _
          exact .inl ⟨k, x, Hxk.out, by rw [Hsc.out]; exact Hcne.out, Hzz.out, by rw [Hsc.out]; rfl, HT.out.new (new_set2 (Hu.out.trans_new N2.out) hR), new_set2 (Hu.out.trans_new N2.out) hR⟩

        · have i5 : ¬ (0 : Int) < (k : Int) := by omega
          have b2 := HR.out.new_ N2.out
          have z2 := b2.lt
          have f0 := b2.frozen 0
          have f1 := b2.frozen 1
          have d0 := b2.cell 0
          have d1 := b2.cell 1
          simp only [List.getElem?_toArray, List.getElem?_cons_zero, List.getElem?_cons_succ] at d0 d1
          have H2 := hide b2
          clear b2
          go_wp2_with fail
          refine bodyPost_ret (fault_out Tryd.results32 rfl (fault_set H2.out)) rfl ?_
          have hR : w.heap.size ≤ w.heap.size := Nat.le_refl _
          exact .inl ⟨k, x, Hxk.out, by rw [Hsc.out]; exact Hcne.out, Hzz.out, by rw [Hsc.out]; rfl, HT.out.new (new_set2 (Hu.out.trans_new N2.out) hR), new_set2 (Hu.out.trans_new N2.out) hR⟩

    · have hkn : k = n := by omega
      subst hkn
      have i3 : ¬ (k : Int) < (k : Int) := by omega
      obtain ⟨Ax, capx, hbx, hox, _, _, hGx2, _, _⟩ := HTk.out.open_
      rw [Hlen.out] at hbx hox hGx2
      have hbyk := Hby.out.new_ Hnew.out
      have hxB := HTk.out.from_
      have hylt := Hylt.out
      have hWw : w.heap.size < W.heap.size := HR.out.lt
      have hyx : yx ≠ y := by omega
      have hyR : y ≠ w.heap.size := by omega
      have x1 := hbx.cell 1
      have zx := hbx.lt
      have y1 := hbyk.cell 1
      have zy := hbyk.lt
      have fy := hbyk.frozen 1
      simp only [List.getElem?_toArray, List.getElem?_cons_zero, List.getElem?_cons_succ] at x1 y1
      have Hox := hide hox
      have Hbyk := hide hbyk
      have Hff := hide (fun w' => fineF_any w')
      have Hne := hide (And.intro hyR hWw)
      clear hbx hox hGx2 hbyk hxB hyR hWw
      go_wp2_with fail
      generalize hwy : (wr.setCell ⟨y, 1, none⟩ (.slice Ax k capx)) = wy at *
      refine (Hff.out wy).mono ?_
      rintro e w6 ⟨rfl, hu6⟩
      unfold faultV
      have uy : Upd (fun q => q = y) wr wy := by rw [← hwy]; exact (Upd.refl (fun q => q = y) wr).setCell (p := ⟨y, 1, none⟩) (.inl rfl) _
      have Hby6 : Hid (Blk w6 y TRTb #[.int .i64 ms, .slice Ax k capx]) := hide (by
        have h := Hbyk.out.set_ 1 (.slice Ax k capx)
        rw [hwy] at h
        have h2 : Blk wy y TRTb #[.int .i64 ms, .slice Ax k capx] := by simpa using h
        exact h2.new_ hu6)
      have Uy := hide uy
      have U6 := hide hu6
      have hRy : ¬ w.heap.size = y := fun e => Hne.out.1 e.symm
      clear hwy uy hu6 x1 y1 zx zy fy
      have b2 := ((HR.out.new_ Hnew.out).upd Uy.out hRy).new_ U6.out
      have z2 := b2.lt
      have f0 := b2.frozen 0
      have f1 := b2.frozen 1
      have d0 := b2.cell 0
      have d1 := b2.cell 1
      simp only [List.getElem?_toArray, List.getElem?_cons_zero, List.getElem?_cons_succ] at d0 d1
      have H2 := hide b2
      clear b2

      go_wp2_with fail
      refine bodyPost_ret (fault_out Tryd.results32 rfl (fault_set H2.out)) rfl ?_
      have hup : Upd G w w6 := ((Upd.of_new (Hu.out.trans_new Hnew.out)).trans Uy.out (fun q _ e => by rw [e]; exact HGy.out)).trans_new U6.out
      have hge := fun q (hq : (Value.slice Ax k capx).ownBlock = some q) => (Hox.out.lt q hq).1
      have hlt3 := fun q (hq : (Value.slice Ax k capx).ownBlock = some q) => (Hox.out.lt q hq).2
      have hWw := Hne.out.2
      refine .inr ⟨fun j z hz => Hzz.out j z (by have := (List.getElem?_eq_some_iff.1 hz).1; have := Hn.out; omega) hz, rfl, fun q => q = y ∨ (Value.slice Ax k capx).ownBlock = some q, ⟨⟨.slice Ax k capx, ?_, ?_, rfl⟩, HfB.out⟩, ?_, ?_⟩
      · exact Blk.far (Blk.far Hby6.out (p := ⟨w.heap.size, 0, none⟩) Hne.out.1 _) (p := ⟨w.heap.size, 1, none⟩) Hne.out.1 _
      · rw [Hn.out, Hlen.out]
        have h1 := own_keep (own_mono Hox.out (Nat.le_trans HB0.out (Nat.le_of_lt hWw))) (Uy.out.trans_new U6.out) (fun q hq e => by have := hge q hq; have := Hylt.out; omega)
        exact own_keep (S := fun q => q = w.heap.size) h1 (((Upd.refl (fun q => q = w.heap.size) w6).setCell (p := ⟨w.heap.size, 0, none⟩) (.inl rfl) _).setCell (p := ⟨w.heap.size, 1, none⟩) (.inl rfl) _) (fun q hq e => by have := hge q hq; omega)
      · rintro q (rfl | hq)
        · exact .inl HGy.out
        · exact .inr (by have := hge q hq; omega)
      · exact (hup.setCell (p := ⟨w.heap.size, 0, none⟩) (.inr (Nat.le_refl _)) _).setCell (p := ⟨w.heap.size, 1, none⟩) (.inr (Nat.le_refl _)) _
end Go.Proofs.YtkljanjapcpbdaaDoor
