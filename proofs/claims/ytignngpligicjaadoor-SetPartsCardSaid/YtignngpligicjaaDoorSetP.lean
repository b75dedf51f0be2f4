/- The law SetParts: its walk. No condition but those that stand in each theorem. -/
import Derived.Test.YtignngpligicjaaDoorStBo
import Derived.Test.YtignngpligicjaaDoorStS
namespace Go.Proofs.YtignngpligicjaaDoor
open Go.RowKit

set_option maxRecDepth 20000 in
set_option maxHeartbeats 4000000 in
theorem setParts_any (A0 A1 A2 : Option Addr) (n0 c0 n1 c1 n2 c2 : Nat) (a b c : List Pf) (E : Nat → Addr) (w : World) (htz : TzOk w) (h2 : Sen w gBound (E 2)) (h3 : Sen w gShape (E 3)) (ra : Rws w A0 2 (a.map Pf.cells)) (hn0 : a.length = n0) (rb : Rws w A1 2 (b.map Pf.cells)) (hn1 : b.length = n1) (rc : Rws w A2 2 (c.map Pf.cells)) (hn2 : c.length = n2) :
    Calls Tryd.prog 3 #[.slice A0 n0 c0, .slice A1 n1 c1, .slice A2 n2 c2] w fun e w1 => e = .returned (.bool true) ∧ New w w1 := by
  have Hst := hide (setted_any E w htz h2 h3)
  have HT := hide htz
  have H2 := hide h2
  have H3 := hide h3
  have Ra := hide ra
  have Rb := hide rb
  have Rc := hide rc
  have Hn0 := hide hn0
  have Hn1 := hide hn1
  have Hn2 := hide hn2
  have N := hide (Upd.refl (fun _ => False) w)
  clear htz h2 h3 ra rb rc hn0 hn1 hn2
  go_enter Tryd.func3, Tryd.ntmps3
  go_wp2_with fail
  refine Hst.out.mono ?_
  rintro e w0 ⟨rfl, hu⟩
  have Ra := hide (Ra.out.new_ hu)
  have Rb := hide (Rb.out.new_ hu)
  have Rc := hide (Rc.out.new_ hu)
  have HT := hide (HT.out.new hu)
  have H2 := hide (H2.out.new hu)
  have H3 := hide (H3.out.new hu)
  have N := hide (N.out.trans_new hu)
  clear hu
  by_cases hl0 : n0 ≤ 15
  rotate_left
  · have i0 : (15 : Int) < (n0 : Int) := by omega
    go_wp2_with fail
    go_ret
    exact ⟨rfl, N.out⟩
  have i0 : ¬ (15 : Int) < (n0 : Int) := by omega
  by_cases hl1 : n1 ≤ 15
  rotate_left
  · have i1 : (15 : Int) < (n1 : Int) := by omega
    go_wp2_with fail
    go_ret
    exact ⟨rfl, N.out⟩
  have i1 : ¬ (15 : Int) < (n1 : Int) := by omega
  by_cases hl2 : n2 ≤ 15
  rotate_left
  · have i2 : (15 : Int) < (n2 : Int) := by omega
    go_wp2_with fail
    go_ret
    exact ⟨rfl, N.out⟩
  have i2 : ¬ (15 : Int) < (n2 : Int) := by omega
  go_wp2_with fail
  by_cases hca : (pfsC a).1 = 0
  rotate_left
  · refine (norm_bad A0 n0 c0 a E _ HT.out H2.out H3.out Ra.out Hn0.out (by omega) hca).mono ?_
    rintro e w1 ⟨Ax, cx, tx, px, rfl, hu⟩
    have Rb := hide (Rb.out.new_ hu)
    have Rc := hide (Rc.out.new_ hu)
    have HT := hide (HT.out.new hu)
    have H2 := hide (H2.out.new hu)
    have H3 := hide (H3.out.new hu)
    have N := hide (N.out.trans_new hu)
    clear hu hca
    go_wp2_with fail
    refine (norm_some A1 n1 c1 b E _ HT.out H2.out H3.out Rb.out Hn1.out (by omega)).mono ?_
    rintro e w2 ⟨Ay, ky, cy, ey, rfl, hu⟩
    have Rc := hide (Rc.out.new_ hu)
    have HT := hide (HT.out.new hu)
    have H2 := hide (H2.out.new hu)
    have H3 := hide (H3.out.new hu)
    have N := hide (N.out.trans_new hu)
    clear hu
    go_wp2_with fail
    refine (norm_some A2 n2 c2 c E _ HT.out H2.out H3.out Rc.out Hn2.out (by omega)).mono ?_
    rintro e w3 ⟨Az, kz, cz, ez, rfl, hu⟩
    have N := hide (N.out.trans_new hu)
    clear hu
    go_wp2_with fail
    go_ret
    exact ⟨rfl, N.out⟩
  have hca := hide hca
  refine (norm_good A0 n0 c0 a E _ HT.out H2.out H3.out Ra.out Hn0.out (by omega) hca.out).mono ?_
  rintro e w1 ⟨Ax, cx, x, rfl, hu, hr, hl, hn⟩
  have Ra := hide (Ra.out.new_ hu)
  have Rb := hide (Rb.out.new_ hu)
  have Rc := hide (Rc.out.new_ hu)
  have HT := hide (HT.out.new hu)
  have H2 := hide (H2.out.new hu)
  have H3 := hide (H3.out.new hu)
  have N := hide (N.out.trans_new hu)
  clear hu
  have Rx := hide hr
  have Lx := hide hl
  have Px := hide hn
  clear hr hl hn
  go_wp2_with fail
  by_cases hcb : (pfsC b).1 = 0
  rotate_left
  · refine (norm_bad A1 n1 c1 b E _ HT.out H2.out H3.out Rb.out Hn1.out (by omega) hcb).mono ?_
    rintro e w2 ⟨Ay, cy, ty, py, rfl, hu⟩
    have Rc := hide (Rc.out.new_ hu)
    have HT := hide (HT.out.new hu)
    have H2 := hide (H2.out.new hu)
    have H3 := hide (H3.out.new hu)
    have N := hide (N.out.trans_new hu)
    clear hu hcb
    go_wp2_with fail
    refine (norm_some A2 n2 c2 c E _ HT.out H2.out H3.out Rc.out Hn2.out (by omega)).mono ?_
    rintro e w3 ⟨Az, kz, cz, ez, rfl, hu⟩
    have N := hide (N.out.trans_new hu)
    clear hu
    go_wp2_with fail
    go_ret
    exact ⟨rfl, N.out⟩
  have hcb := hide hcb
  refine (norm_good A1 n1 c1 b E _ HT.out H2.out H3.out Rb.out Hn1.out (by omega) hcb.out).mono ?_
  rintro e w2 ⟨Ay, cy, y, rfl, hu, hr, hl, hn⟩
  have Ra := hide (Ra.out.new_ hu)
  have Rb := hide (Rb.out.new_ hu)
  have Rc := hide (Rc.out.new_ hu)
  have Rx := hide (Rx.out.new_ hu)
  have HT := hide (HT.out.new hu)
  have H2 := hide (H2.out.new hu)
  have H3 := hide (H3.out.new hu)
  have N := hide (N.out.trans_new hu)
  clear hu
  have Ry := hide hr
  have Ly := hide hl
  have Py := hide hn
  clear hr hl hn
  go_wp2_with fail
  by_cases hcc : (pfsC c).1 = 0
  rotate_left
  · refine (norm_bad A2 n2 c2 c E _ HT.out H2.out H3.out Rc.out Hn2.out (by omega) hcc).mono ?_
    rintro e w3 ⟨Az, cz, tz, pz, rfl, hu⟩
    have N := hide (N.out.trans_new hu)
    clear hu hcc
    go_wp2_with fail
    go_ret
    exact ⟨rfl, N.out⟩
  have hcc := hide hcc
  refine (norm_good A2 n2 c2 c E _ HT.out H2.out H3.out Rc.out Hn2.out (by omega) hcc.out).mono ?_
  rintro e w3 ⟨Az, cz, z, rfl, hu, hr, hl, hn⟩
  have Ra := hide (Ra.out.new_ hu)
  have Rb := hide (Rb.out.new_ hu)
  have Rc := hide (Rc.out.new_ hu)
  have Rx := hide (Rx.out.new_ hu)
  have Ry := hide (Ry.out.new_ hu)
  have HT := hide (HT.out.new hu)
  have H2 := hide (H2.out.new hu)
  have H3 := hide (H3.out.new hu)
  have N := hide (N.out.trans_new hu)
  clear hu
  have Rz := hide hr
  have Lz := hide hl
  have Pz := hide hn
  clear hr hl hn
  go_wp2_with fail
  refine (setNot_good A0 A1 n0 c0 n1 c1 a b E _ HT.out H2.out H3.out Ra.out Hn0.out Rb.out Hn1.out (by omega) (by omega) hca.out hcb.out).mono ?_
  rintro e w4 ⟨Aoff, coff, off, rfl, hu, hr, hl, hn⟩
  have Ra := hide (Ra.out.new_ hu)
  have Rb := hide (Rb.out.new_ hu)
  have Rc := hide (Rc.out.new_ hu)
  have Rx := hide (Rx.out.new_ hu)
  have Ry := hide (Ry.out.new_ hu)
  have Rz := hide (Rz.out.new_ hu)
  have HT := hide (HT.out.new hu)
  have H2 := hide (H2.out.new hu)
  have H3 := hide (H3.out.new hu)
  have N := hide (N.out.trans_new hu)
  clear hu
  have Roff := hide hr
  have Loff := hide hl
  have Poff := hide hn
  clear hr hl hn
  go_wp2_with fail
  refine (setAnd_good A0 A1 n0 c0 n1 c1 a b E _ HT.out H2.out H3.out Ra.out Hn0.out Rb.out Hn1.out (by omega) (by omega) hca.out hcb.out).mono ?_
  rintro e w5 ⟨Aand_, cand_, and_, rfl, hu, hr, hl, hn⟩
  have Ra := hide (Ra.out.new_ hu)
  have Rb := hide (Rb.out.new_ hu)
  have Rc := hide (Rc.out.new_ hu)
  have Rx := hide (Rx.out.new_ hu)
  have Ry := hide (Ry.out.new_ hu)
  have Rz := hide (Rz.out.new_ hu)
  have Roff := hide (Roff.out.new_ hu)
  have HT := hide (HT.out.new hu)
  have H2 := hide (H2.out.new hu)
  have H3 := hide (H3.out.new hu)
  have N := hide (N.out.trans_new hu)
  clear hu
  have Rand_ := hide hr
  have Land_ := hide hl
  have Pand_ := hide hn
  clear hr hl hn
  go_wp2_with fail
  refine (setOr_good Aoff Aand_ off.length coff and_.length cand_ off and_ E _ HT.out H2.out H3.out Roff.out rfl Rand_.out rfl (by have := Loff.out; omega) (by have := Land_.out; omega) (pfsC_all Poff.out.1) (pfsC_all Pand_.out.1)).mono ?_
  rintro e w6 ⟨Aback, cback, back, rfl, hu, hr, hl, hn⟩
  have Ra := hide (Ra.out.new_ hu)
  have Rb := hide (Rb.out.new_ hu)
  have Rc := hide (Rc.out.new_ hu)
  have Rx := hide (Rx.out.new_ hu)
  have Ry := hide (Ry.out.new_ hu)
  have Rz := hide (Rz.out.new_ hu)
  have Roff := hide (Roff.out.new_ hu)
  have Rand_ := hide (Rand_.out.new_ hu)
  have HT := hide (HT.out.new hu)
  have H2 := hide (H2.out.new hu)
  have H3 := hide (H3.out.new hu)
  have N := hide (N.out.trans_new hu)
  clear hu
  have Rback := hide hr
  have Lback := hide hl
  have Pback := hide hn
  clear hr hl hn
  go_wp2_with fail
  have Hs := samePrefixes_any Aback Ax back.length x.length cback cx back x _ Rback.out Rx.out rfl rfl (by have := Lback.out; have := Land_.out; have := Loff.out; omega) (by have := Lx.out; omega)
  rw [(sameL_iff back x).2 (parts_back Px.out Poff.out Pand_.out Pback.out)] at Hs
  have HS := hide Hs
  clear Hs
  refine (HS.out).mono ?_
  rintro e w7 ⟨rfl, hu⟩
  have Ra := hide (Ra.out.new_ hu)
  have Rb := hide (Rb.out.new_ hu)
  have Rc := hide (Rc.out.new_ hu)
  have Rx := hide (Rx.out.new_ hu)
  have Ry := hide (Ry.out.new_ hu)
  have Rz := hide (Rz.out.new_ hu)
  have Roff := hide (Roff.out.new_ hu)
  have Rand_ := hide (Rand_.out.new_ hu)
  have Rback := hide (Rback.out.new_ hu)
  have HT := hide (HT.out.new hu)
  have H2 := hide (H2.out.new hu)
  have H3 := hide (H3.out.new hu)
  have N := hide (N.out.trans_new hu)
  clear hu
  go_wp2_with fail
  clear HS
  refine (setOr_good A1 A2 n1 c1 n2 c2 b c E _ HT.out H2.out H3.out Rb.out Hn1.out Rc.out Hn2.out (by omega) (by omega) hcb.out hcc.out).mono ?_
  rintro e w8 ⟨Aboth, cboth, both, rfl, hu, hr, hl, hn⟩
  have Ra := hide (Ra.out.new_ hu)
  have Rb := hide (Rb.out.new_ hu)
  have Rc := hide (Rc.out.new_ hu)
  have Rx := hide (Rx.out.new_ hu)
  have Ry := hide (Ry.out.new_ hu)
  have Rz := hide (Rz.out.new_ hu)
  have Roff := hide (Roff.out.new_ hu)
  have Rand_ := hide (Rand_.out.new_ hu)
  have Rback := hide (Rback.out.new_ hu)
  have HT := hide (HT.out.new hu)
  have H2 := hide (H2.out.new hu)
  have H3 := hide (H3.out.new hu)
  have N := hide (N.out.trans_new hu)
  clear hu
  have Rboth := hide hr
  have Lboth := hide hl
  have Pboth := hide hn
  clear hr hl hn
  go_wp2_with fail
  refine (setNot_good A0 Aboth n0 c0 both.length cboth a both E _ HT.out H2.out H3.out Ra.out Hn0.out Rboth.out rfl (by omega) (by have := Lboth.out; omega) hca.out (pfsC_all Pboth.out.1)).mono ?_
  rintro e w9 ⟨Aone, cone, one, rfl, hu, hr, hl, hn⟩
  have Ra := hide (Ra.out.new_ hu)
  have Rb := hide (Rb.out.new_ hu)
  have Rc := hide (Rc.out.new_ hu)
  have Rx := hide (Rx.out.new_ hu)
  have Ry := hide (Ry.out.new_ hu)
  have Rz := hide (Rz.out.new_ hu)
  have Roff := hide (Roff.out.new_ hu)
  have Rand_ := hide (Rand_.out.new_ hu)
  have Rback := hide (Rback.out.new_ hu)
  have Rboth := hide (Rboth.out.new_ hu)
  have HT := hide (HT.out.new hu)
  have H2 := hide (H2.out.new hu)
  have H3 := hide (H3.out.new hu)
  have N := hide (N.out.trans_new hu)
  clear hu
  have Rone := hide hr
  have Lone := hide hl
  have Pone := hide hn
  clear hr hl hn
  go_wp2_with fail
  refine (setNot_good Aoff A2 off.length coff n2 c2 off c E _ HT.out H2.out H3.out Roff.out rfl Rc.out Hn2.out (by have := Loff.out; omega) (by omega) (pfsC_all Poff.out.1) hcc.out).mono ?_
  rintro e w10 ⟨Atwo, ctwo, two, rfl, hu, hr, hl, hn⟩
  have Ra := hide (Ra.out.new_ hu)
  have Rb := hide (Rb.out.new_ hu)
  have Rc := hide (Rc.out.new_ hu)
  have Rx := hide (Rx.out.new_ hu)
  have Ry := hide (Ry.out.new_ hu)
  have Rz := hide (Rz.out.new_ hu)
  have Roff := hide (Roff.out.new_ hu)
  have Rand_ := hide (Rand_.out.new_ hu)
  have Rback := hide (Rback.out.new_ hu)
  have Rboth := hide (Rboth.out.new_ hu)
  have Rone := hide (Rone.out.new_ hu)
  have HT := hide (HT.out.new hu)
  have H2 := hide (H2.out.new hu)
  have H3 := hide (H3.out.new hu)
  have N := hide (N.out.trans_new hu)
  clear hu
  have Rtwo := hide hr
  have Ltwo := hide hl
  have Ptwo := hide hn
  clear hr hl hn
  go_wp2_with fail
  have Hs := samePrefixes_any Aone Atwo one.length two.length cone ctwo one two _ Rone.out Rtwo.out rfl rfl (by have := Lone.out; have := Lboth.out; omega) (by have := Ltwo.out; have := Loff.out; omega)
  rw [(sameL_iff one two).2 (parts_less Poff.out Pboth.out Pone.out Ptwo.out)] at Hs
  have HS := hide Hs
  clear Hs
  refine (HS.out).mono ?_
  rintro e w11 ⟨rfl, hu⟩
  have Ra := hide (Ra.out.new_ hu)
  have Rb := hide (Rb.out.new_ hu)
  have Rc := hide (Rc.out.new_ hu)
  have Rx := hide (Rx.out.new_ hu)
  have Ry := hide (Ry.out.new_ hu)
  have Rz := hide (Rz.out.new_ hu)
  have Roff := hide (Roff.out.new_ hu)
  have Rand_ := hide (Rand_.out.new_ hu)
  have Rback := hide (Rback.out.new_ hu)
  have Rboth := hide (Rboth.out.new_ hu)
  have Rone := hide (Rone.out.new_ hu)
  have Rtwo := hide (Rtwo.out.new_ hu)
  have HT := hide (HT.out.new hu)
  have H2 := hide (H2.out.new hu)
  have H3 := hide (H3.out.new hu)
  have N := hide (N.out.trans_new hu)
  clear hu
  go_wp2_with fail
  clear HS
  refine (setNot_good A1 A0 n1 c1 n0 c0 b a E _ HT.out H2.out H3.out Rb.out Hn1.out Ra.out Hn0.out (by omega) (by omega) hcb.out hca.out).mono ?_
  rintro e w12 ⟨Aother, cother, other, rfl, hu, hr, hl, hn⟩
  have Ra := hide (Ra.out.new_ hu)
  have Rb := hide (Rb.out.new_ hu)
  have Rc := hide (Rc.out.new_ hu)
  have Rx := hide (Rx.out.new_ hu)
  have Ry := hide (Ry.out.new_ hu)
  have Rz := hide (Rz.out.new_ hu)
  have Roff := hide (Roff.out.new_ hu)
  have Rand_ := hide (Rand_.out.new_ hu)
  have Rback := hide (Rback.out.new_ hu)
  have Rboth := hide (Rboth.out.new_ hu)
  have Rone := hide (Rone.out.new_ hu)
  have Rtwo := hide (Rtwo.out.new_ hu)
  have HT := hide (HT.out.new hu)
  have H2 := hide (H2.out.new hu)
  have H3 := hide (H3.out.new hu)
  have N := hide (N.out.trans_new hu)
  clear hu
  have Rother := hide hr
  have Lother := hide hl
  have Pother := hide hn
  clear hr hl hn
  have hS := parts_same Px.out Py.out Poff.out Pother.out
  have Hs := samePrefixes_any Ax Ay x.length y.length cx cy x y _ Rx.out Ry.out rfl rfl (by have := Lx.out; omega) (by have := Ly.out; omega)
  by_cases ho : off = []
  · have j1 : ((off.length : Int) == 0) = true := by rw [ho]; rfl
    by_cases ht : other = []
    · have j2 : ((other.length : Int) == 0) = true := by rw [ht]; rfl
      rw [(sameL_iff x y).2 (hS.2 ⟨ho, ht⟩)] at Hs
      have HS := hide Hs
      clear Hs hS ho ht
      go_wp2_with fail
      refine HS.out.mono ?_
      rintro e wz ⟨rfl, hu⟩
      have N := hide (N.out.trans_new hu)
      clear hu
      go_wp2_with fail
      go_ret
      exact ⟨rfl, N.out⟩
    · have j2 : ((other.length : Int) == 0) = false := by
        rw [beq_eq_false_iff_ne]
        intro h
        exact ht (List.eq_nil_of_length_eq_zero (by omega))
      have e9 : sameL x y = false := by
        cases h : sameL x y with
        | false => rfl
        | true => exact absurd (hS.1 ((sameL_iff x y).1 h)).2 ht
      rw [e9] at Hs
      have HS := hide Hs
      clear Hs hS ho ht e9
      go_wp2_with fail
      refine HS.out.mono ?_
      rintro e wz ⟨rfl, hu⟩
      have N := hide (N.out.trans_new hu)
      clear hu
      go_wp2_with fail
      go_ret
      exact ⟨rfl, N.out⟩
  · have j1 : ((off.length : Int) == 0) = false := by
      rw [beq_eq_false_iff_ne]
      intro h
      exact ho (List.eq_nil_of_length_eq_zero (by omega))
    have e9 : sameL x y = false := by
      cases h : sameL x y with
      | false => rfl
      | true => exact absurd (hS.1 ((sameL_iff x y).1 h)).1 ho
    rw [e9] at Hs
    have HS := hide Hs
    clear Hs hS ho e9
    go_wp2_with fail
    refine HS.out.mono ?_
    rintro e wz ⟨rfl, hu⟩
    have N := hide (N.out.trans_new hu)
    clear hu
    go_wp2_with fail
    go_ret
    exact ⟨rfl, N.out⟩
end Go.Proofs.YtignngpligicjaaDoor
