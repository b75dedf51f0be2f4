/- The reference's HasAddr and Find. No condition but those that stand in each theorem. -/
import Derived.Test.YtkljanjapcpbdaaDoorTl3
import Derived.Test.YtkljanjapcpbdaaDoorIp3
namespace Go.Proofs.YtkljanjapcpbdaaDoor
open Go.RowKit

theorem has_range {a n x : Int} (h : chk a n = 0) (hx : 0 ≤ x ∧ x < 4294967296) : hasB a n x = decide (a ≤ x ∧ x < a + ((2 ^ (32 - n.toNat) : Nat) : Int)) := by
  obtain ⟨ha, hn, hl⟩ := chk_zero h
  obtain ⟨a, rfl⟩ := Int.eq_ofNat_of_zero_le ha.1
  obtain ⟨x, rfl⟩ := Int.eq_ofNat_of_zero_le hx.1
  rw [Int.toNat_natCast] at hl
  unfold hasB
  rw [Int.toNat_natCast]
  unfold low at hl ⊢
  obtain ⟨p, hp⟩ : ∃ p, p = 2 ^ (32 - n.toNat) := ⟨_, rfl⟩
  rw [← hp] at hl ⊢
  have hp0 : 0 < p := by rw [hp]; exact Nat.two_pow_pos _
  have h1 := Nat.div_add_mod x p
  have h2 := Nat.mod_lt x hp0
  have h3 := Nat.div_add_mod a p
  rw [hl, Nat.add_zero] at h3
  rw [Bool.eq_iff_iff]
  simp only [decide_eq_true_eq]
  constructor
  · rintro ⟨_, _, h4⟩
    omega
  · rintro ⟨h4, h5⟩
    refine ⟨h, hx, ?_⟩
    have h6 : x / p = a / p := by
      have e1 : a / p ≤ x / p := Nat.div_le_div_right (by omega)
      have e2 : x / p < a / p + 1 := by
        rw [Nat.div_lt_iff_lt_mul hp0, Nat.add_mul, Nat.one_mul, Nat.mul_comm]
        omega
      omega
    rw [h6] at h1
    omega

set_option maxRecDepth 8000 in
set_option maxHeartbeats 2000000 in
theorem hasAddr_any (a n x : Int) (w : World) : Calls Tryd.prog 82 #[.agg #[.int .i64 a, .int .i64 n], .int .i64 x] w fun e w1 => e = .returned (.bool (hasB a n x)) ∧ New w w1 := by
  have u := (Upd.refl (fun _ => False) w).alloc (.cells #[.int .i64 a, .int .i64 n] 51)
  have Hu := hide u
  have Hb := hide (Blk.new w 51 #[.int .i64 a, .int .i64 n])
  clear u
  by_cases hx : 0 ≤ x ∧ x < 4294967296
  · have hi : isA x = true := decide_eq_true hx
    have hA := isAddr_any x
    rw [hi] at hA
    have HA := hide hA
    have HX := hide hx
    clear hA hi hx
    have HP := hide (prefixError_any a n)
    by_cases k1 : chk a n = 0
    · have He := hide (has_range k1 HX.out)
      have hn := (chk_zero k1).2.1
      have ha := (chk_zero k1).1
      have hs := sizeOf_any n hn
      have hle : 2 ^ (32 - n.toNat) ≤ 4294967296 := pw_le _ (by omega)
      obtain ⟨p, hp⟩ : ∃ p, p = 2 ^ (32 - n.toNat) := ⟨_, rfl⟩
      rw [← hp] at hs hle He
      have Hs := hide hs
      have hw : IntKind.i64.wrap (a + (p : Int)) = a + (p : Int) := IntWalk.i64_in _ (by omega)
      have K1 := hide k1
      clear hs hp hn ha hle
      go_enter Tryd.func82, Tryd.ntmps82
      go_wp2_with (go_at_call 126; refine (HA.out _).mono ?_; rintro e w' ⟨rfl, rfl⟩)
      generalize (w.alloc (.cells #[.int .i64 a, .int .i64 n] 51)) = W at *
      refine (HP.out W).mono ?_
      rintro e w2 ⟨rfl, hu2⟩
      rw [k1]
      clear k1
      have bb := Hb.out.new_ hu2
      have c0 := bb.cell 0
      have c1 := bb.cell 1
      have zb := bb.lt
      simp only [List.getElem?_toArray, List.getElem?_cons_zero, List.getElem?_cons_succ] at c0 c1
      have N2 := hide (Hu.out.trans_new hu2)
      clear bb hu2
      by_cases h1 : a ≤ x
      · have He2 : Hid (hasB a n x = decide (x < a + (p : Int))) := hide (by rw [He.out]; simp [h1])
        go_upto_region 4 with (fail)
        refine wp_region_new w2 (Upd.refl _ _) (by kernel_rfl) (by kernel_rfl) ?_
        repeat (go_big_quiet_step ((go_at_call 127; exact new_call_same (Hs.out _))))
        refine wpQuiet_nil ?_
        rintro _ ⟨nq, rfl⟩
        go_wp2_with fail
        go_ret
        exact ⟨ret_bool He2.out.symm, N2.out.trans_new nq.h⟩
      · have He2 : Hid (hasB a n x = false) := hide (by rw [He.out]; simp [h1])
        have h2 : x < a := by omega
        have h3 : decide (a ≤ x) = false := decide_eq_false h1
        go_upto_region 4 with (fail)
        refine wp_region_new w2 (Upd.refl _ _) (by kernel_rfl) (by kernel_rfl) ?_
        repeat (go_big_quiet_step (fail))
        refine wpQuiet_nil ?_
        rintro _ ⟨nq, rfl⟩
        go_wp2_with fail
        go_ret
        exact ⟨ret_bool He2.out.symm, N2.out.trans_new nq.h⟩
    · have He : Hid (hasB a n x = false) := hide (by unfold hasB; exact decide_eq_false fun h => k1 h.1)
      go_enter Tryd.func82, Tryd.ntmps82
      go_wp2_with (go_at_call 126; refine (HA.out _).mono ?_; rintro e w' ⟨rfl, rfl⟩)
      generalize (w.alloc (.cells #[.int .i64 a, .int .i64 n] 51)) = W at *
      refine (HP.out W).mono ?_
      rintro e w2 ⟨rfl, hu2⟩
      generalize chk a n = kc at *
      have k2 : 0 < kc := by omega
      have k4 : (0 : Int) < (kc : Int) := by omega
      clear k1
      go_wp2_with fail
      go_ret
      exact ⟨ret_bool He.out.symm, Hu.out.trans_new hu2⟩
  · have hi : isA x = false := decide_eq_false hx
    have He : Hid (hasB a n x = false) := hide (by unfold hasB; exact decide_eq_false fun h => hx h.2.1)
    have hA := isAddr_any x
    rw [hi] at hA
    have HA := hide hA
    clear hA hi hx
    go_enter Tryd.func82, Tryd.ntmps82
    go_wp2_with (go_at_call 126; refine (HA.out _).mono ?_; rintro e w' ⟨rfl, rfl⟩)
    go_ret
    exact ⟨ret_bool He.out.symm, Hu.out⟩

/-- The longest of the first k that has an address: -1: none. -/
def bestI (L : List E3) (a : Int) : Nat → Int
  | 0 => -1
  | k + 1 => match L[k]? with
    | some x => if hasB x.a x.n a = false then bestI L a k else if bestI L a k < 0 then k else match L[(bestI L a k).toNat]? with
      | some z => if z.n < x.n then k else bestI L a k
      | none => bestI L a k
    | none => bestI L a k
theorem bestI_range (L : List E3) (a : Int) : ∀ k, -1 ≤ bestI L a k ∧ bestI L a k < k := by
  intro k
  induction k with
  | zero => simp [bestI]
  | succ k ih =>
    unfold bestI
    split
    · split
      · omega
      · split
        · omega
        · split
          · split <;> omega
          · omega
    · omega

set_option maxRecDepth 8000 in
set_option maxHeartbeats 4000000 in
theorem rfind_any (B y : Nat) (ms : Int) (L : List E3) (G : Nat → Prop) (a : Int) (w : World) (hT : TabL B w y ms L G) (hl : L.length ≤ 1000) :
    Calls Tryd.prog 34 #[.pointer (some ⟨y, 0, none⟩), .int .i64 a] w fun e w1 => e = .returned (.int .i64 (bestI L a L.length)) ∧ New w w1 := by
  obtain ⟨A, cap, hb, ho, hr, hc, hG, hgy, hfo⟩ := hT.open_
  generalize hn : L.length = len at *
  have Hb := hide hb
  have Hr := hide hr
  have Hn := hide hn
  clear hb hr ho hG hn hT hc hgy hfo
  go_enter Tryd.func34, Tryd.ntmps34
  go_wp2_with fail
  go_loopw [5, 6] (fun at_ i wr => ∃ j : Nat, j ≤ len ∧ i = .int .i64 j ∧ at_ = .int .i64 (bestI L a j) ∧ New w wr) (fun _ i _ => len - (intOf i).toNat)
  case atStart => exact ⟨0, by omega, rfl, rfl, Upd.refl _ _⟩
  case round =>
    obtain ⟨j, hj, rfl, rfl, hnew⟩ := hrel
    have Hnew := hide hnew
    have bb := Hb.out.new_ hnew
    have c1 := bb.cell 1
    have zy := bb.lt
    simp only [List.getElem?_toArray, List.getElem?_cons_zero, List.getElem?_cons_succ] at c1
    clear bb
    have hrg := bestI_range L a j
    by_cases hlt : j < len
    · obtain ⟨b, o, x, hA, hb, hx, d0, d1, d2⟩ := (Hr.out.new_ hnew).e3 (k := j) (by have := Hn.out; omega)
      have Hx := hide hx
      have HA := hide hA
      have i3 : (j : Int) < (len : Int) := by omega
      rw [hA] at c1
      have hh := fun w1 => hasAddr_any x.a x.n a w1
      have hstep : bestI L a (j + 1) = if hasB x.a x.n a = false then bestI L a j else if bestI L a j < 0 then (j : Int) else match L[(bestI L a j).toNat]? with
        | some z => if z.n < x.n then (j : Int) else bestI L a j
        | none => bestI L a j := by rw [bestI, hx]
      have Hst := hide hstep
      clear hA hx hnew hstep
      cases hb2 : hasB x.a x.n a with
      | false =>
        rw [hb2] at hh
        have Hh := hide hh
        have Hs2 : Hid (bestI L a (j + 1) = bestI L a j) := hide (by rw [Hst.out, hb2, if_pos rfl])
        clear hh hb2
        go_wp2_with fail
        refine (Hh.out _).mono ?_
        rintro e w2 ⟨rfl, hu2⟩
        go_wp2_with fail
        exact ⟨⟨j + 1, by omega, by go_num, by rw [Hs2.out], Hnew.out.trans_new hu2⟩, by simp [intOf]; omega⟩
      | true =>
        rw [hb2] at hh
        have Hh := hide hh
        by_cases hneg : bestI L a j < 0
        · have Hs2 : Hid (bestI L a (j + 1) = j) := hide (by rw [Hst.out, hb2, if_neg (by simp), if_pos hneg])
          clear hh hb2
          go_wp2_with fail
          refine (Hh.out _).mono ?_
          rintro e w2 ⟨rfl, hu2⟩
          go_wp2_with fail
          exact ⟨⟨j + 1, by omega, by go_num, by rw [Hs2.out], Hnew.out.trans_new hu2⟩, by simp [intOf]; omega⟩
        · obtain ⟨q, hq⟩ : ∃ q : Nat, bestI L a j = q := ⟨(bestI L a j).toNat, by omega⟩
          have hql : q < len := by omega
          rw [hq] at Hst hrg ⊢
          obtain ⟨b', o', z, hA2, _, hz, f0, f1, f2⟩ := (Hr.out.new_ Hnew.out).e3 (k := q) (by have := Hn.out; omega)
          have e1 := hA2.symm.trans HA.out
          injection e1 with e1; injection e1 with e2 e3; subst e2; subst e3
          have Hst2 : Hid (bestI L a (j + 1) = if z.n < x.n then (j : Int) else (q : Int)) := hide (by rw [Hst.out, hb2, if_neg (by simp), if_neg (by omega), Int.toNat_natCast, hz])
          have D := hide (And.intro d1 f1)
          have Hbb := hide hb
          have i4 : (q : Int) < (len : Int) := by omega
          have i5 : ¬ (q : Int) < 0 := by omega
          clear hh hb2 hneg hq hA2 hz d0 d1 d2 f0 f2 f1
          have d0 : True := trivial
          have d1 := D.out.1
          have hcells := (Hr.out.new_ Hnew.out).e3 (k := j) (by have := Hn.out; omega)
          obtain ⟨b3, o3, x3, hA3, _, hx3, g0, _, _⟩ := hcells
          have e1 := hA3.symm.trans HA.out
          injection e1 with e1; injection e1 with e2 e3; subst e2; subst e3
          rw [Hx.out] at hx3
          injection hx3 with hx3
          subst hx3
          clear d0 hA3
          go_wp2_with fail
          refine (Hh.out _).mono ?_
          rintro e w2 ⟨rfl, hu2⟩
          have c1 := (hu2.cell zy (fun x => x)).trans c1
          have d1 := (hu2.cell Hbb.out (fun x => x)).trans D.out.1
          have f1 := (hu2.cell Hbb.out (fun x => x)).trans D.out.2
          have hb := Nat.lt_of_lt_of_le Hbb.out hu2.size
          have zy := Nat.lt_of_lt_of_le zy hu2.size
          have N2 := hide (Hnew.out.trans_new hu2)
          clear hu2 g0
          by_cases hlen : z.n < x.n
          · have Hs3 : Hid (bestI L a (j + 1) = j) := hide (by rw [Hst2.out, if_pos hlen])
            go_upto_region 9 with (fail)
            go_quiet (fail)
            go_wp2_with fail
            exact ⟨⟨j + 1, by omega, by go_num, by rw [Hs3.out], N2.out.drewN _⟩, by simp [intOf]; omega⟩
          · have Hs3 : Hid (bestI L a (j + 1) = q) := hide (by rw [Hst2.out, if_neg hlen])
            go_upto_region 9 with (fail)
            go_quiet (fail)
            go_wp2_with fail
            exact ⟨⟨j + 1, by omega, by go_num, by rw [Hs3.out], N2.out.drewN _⟩, by simp [intOf]; omega⟩
    · have hjl : j = len := by omega
      subst hjl
      have i3 : ¬ (j : Int) < (j : Int) := by omega
      go_wp2_with fail
      go_ret
      exact ⟨rfl, Hnew.out⟩
end Go.Proofs.YtkljanjapcpbdaaDoor
