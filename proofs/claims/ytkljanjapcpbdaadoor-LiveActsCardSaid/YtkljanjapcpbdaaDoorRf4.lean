/- The reference's fault of rising prefixes. No condition but those that stand in each theorem. -/
import Derived.Test.YtkljanjapcpbdaaDoorRf3
import Derived.Test.YtkljanjapcpbdaaDoorWi3
namespace Go.Proofs.YtkljanjapcpbdaaDoor
open Go.RowKit

def riseP (ps : List Pf) : Nat × Int := firstC (riseC (pfAt ps) (fun _ => 0)) ps.length 0
def riseAt (ps : List Pf) (i : Nat) : Nat := riseC (pfAt ps) (fun _ => 0) i
theorem riseP_at {ps : List Pf} {j c : Nat} (h1 : j < ps.length) (h2 : riseAt ps j = c) (h3 : c ≠ 0) (h4 : ∀ i, i < j → riseAt ps i = 0) : riseP ps = (c, (j : Int)) := by
  subst h2
  exact firstC_at _ ps.length 0 j (by omega) (by omega) h3 fun i _ hi => h4 i hi
theorem riseP_no {ps : List Pf} (h : ∀ i, i < ps.length → riseAt ps i = 0) : riseP ps = (0, -1) := firstC_no _ ps.length 0 fun i _ hi => h i (by omega)

set_option maxRecDepth 8000 in
set_option maxHeartbeats 4000000 in
theorem risingFault_any (A : Option Addr) (n c : Nat) (ps : List Pf) (w : World) (hx : Pfs w A ps) (hn : ps.length = n) (hl : n ≤ 1000) :
    Calls Tryd.prog 138 #[.slice A n c] w fun e w1 => e = .returned (faultV (riseP ps)) ∧ New w w1 := by
  have u := (Upd.refl (fun _ => False) w).alloc (.cells #[.int .i64 0, .int .i64 0] TRF)
  have Hx := hide (hx.new_ u)
  have Hb := hide (Blk.new w TRF #[.int .i64 0, .int .i64 0])
  have Hu := hide u
  have Hn := hide hn
  clear hx hn u
  go_enter Tryd.func138, Tryd.ntmps138
  go_wp2_with fail
  obtain ⟨W, hW⟩ : ∃ W, W = w.alloc (.cells #[.int .i64 0, .int .i64 0] TRF) := ⟨_, rfl⟩
  rw [← hW] at Hx Hb Hu ⊢
  clear hW
  go_loopw [3] (fun i wr => ∃ j : Nat, j ≤ n ∧ i = .int .i64 j ∧ New W wr ∧ ∀ i, i < j → riseAt ps i = 0) (fun i _ => n - (intOf i).toNat)
  case atStart => exact ⟨0, by omega, rfl, Upd.refl _ _, fun i h => absurd h (by omega)⟩
  case round =>
    obtain ⟨j, hj, rfl, hnew, hz⟩ := hrel
    have Hz := hide hz
    have Hnew := hide hnew
    clear hz
    by_cases hlt : j < n
    · obtain ⟨b, o, p, hA, hb, hp, c0, c1⟩ := (Hx.out.new_ hnew).at_ (k := j) (by have := Hn.out; omega)
      have hA' := hide hA
      subst hA
      have Hp := hide (pfAt_some hp)
      have i3 : (j : Int) < (n : Int) := by omega
      have Hc := hide (prefixError_any p.a p.n wr)
      have Hb2 := hide hb
      have C0 := hide c0
      have C1 := hide c1
      clear hp hnew
      go_wp2_with fail
      refine Hc.out.mono ?_
      rintro e w1 ⟨rfl, hu1⟩
      have N1 := hide (Hnew.out.trans_new hu1)
      have U1 := hide hu1
      clear hu1
      by_cases k1 : chk p.a p.n = 0
      · by_cases hj0 : 0 < j
        · obtain ⟨b', o', q, hA2, _, hq, d0, d1⟩ := (Hx.out.new_ N1.out).at_ (k := j - 1) (by have := Hn.out; omega)
          injection hA2 with hA2; injection hA2 with e2 e3; subst e2; subst e3
          have Hq := hide (pfAt_some hq)
          obtain ⟨j', rfl⟩ : ∃ j', j = j' + 1 := ⟨j - 1, by omega⟩
          have i5 : (0 : Int) < ((j' + 1 : Nat) : Int) := by omega
          have d0' : w1.cell? ⟨b, o + j' * 2, none⟩ = some (.int .i64 q.a) := d0
          have d1' : w1.cell? ⟨b, o + j' * 2 + 1, none⟩ = some (.int .i64 q.n) := d1
          have x0 := (U1.out.cell Hb2.out (fun x => x)).trans C0.out
          have x1 := (U1.out.cell Hb2.out (fun x => x)).trans C1.out
          have zb := Nat.lt_of_lt_of_le Hb2.out U1.out.size
          have Hchk := hide k1
          clear d0 d1 hq c0 c1 hb
          rw [k1]
          have hle := isLess_any q.a q.n p.a p.n
          have hr : riseAt ps (j' + 1) = if lessB q.a q.n p.a p.n = true then 0 else 8 := by
            unfold riseAt riseC
            rw [Hp.out, show j' + 1 - 1 = j' by omega, show pfAt ps j' = q from Hq.out, if_neg (by simpa using Hchk.out)]
            cases h : lessB q.a q.n p.a p.n
            · rw [if_pos ⟨by omega, rfl⟩]; rfl
            · rw [if_neg (by simp)]; rfl
          have Hr := hide hr
          clear hr k1
          cases hb : lessB q.a q.n p.a p.n with
          | true =>
            rw [hb] at hle
            have Hle := hide hle
            have Hr2 : Hid (riseAt ps (j' + 1) = 0) := hide (by rw [Hr.out, hb]; rfl)
            clear hle hb
            go_upto_region 6 with (fail)
            refine wp_region_new w1 (Upd.refl _ _) (by kernel_rfl) (by kernel_rfl) ?_
            repeat (go_big_quiet_step ((go_at_call 139; exact new_call (Hle.out _))))
            refine wpQuiet_nil ?_
            rintro _ ⟨nq, rfl⟩
            have n2 := N1.out.trans_new nq.h
            go_wp2_with fail
            refine ⟨⟨j' + 1 + 1, by omega, by go_num, n2, fun i hi => ?_⟩, by simp [intOf]; omega⟩
            by_cases hij : i < j' + 1
            · exact Hz.out i hij
            · obtain rfl : i = j' + 1 := by omega
              exact Hr2.out
          | false =>
            rw [hb] at hle
            have Hle := hide hle
            have He : Hid (riseP ps = (8, ((j' + 1 : Nat) : Int))) := hide (riseP_at (by have := Hn.out; omega) (by rw [Hr.out, hb]; rfl) (by omega) Hz.out)
            clear hle hb
            go_upto_region 6 with (fail)
            refine wp_region_new w1 (Upd.refl _ _) (by kernel_rfl) (by kernel_rfl) ?_
            repeat (go_big_quiet_step ((go_at_call 139; exact new_call (Hle.out _))))
            refine wpQuiet_nil ?_
            rintro _ ⟨nq, rfl⟩
            have n2 := N1.out.trans_new nq.h
            have b2 := Hb.out.new_ n2
            have z2 := b2.lt
            have f0 := b2.frozen 0
            have f1 := b2.frozen 1
            have d0 := b2.cell 0
            have d1 := b2.cell 1
            simp only [List.getElem?_toArray, List.getElem?_cons_zero, List.getElem?_cons_succ] at d0 d1
            have H2 := hide b2
            clear b2
            go_wp2_with fail
            refine bodyPost_ret (fault_out Tryd.results138 rfl (fault_set H2.out)) rfl ⟨by rw [He.out]; rfl, new_set2 (Hu.out.trans_new n2) (by omega)⟩

        · have Hr2 : Hid (riseAt ps j = 0) := hide (by
            unfold riseAt riseC
            rw [Hp.out, if_neg (by simpa using k1), if_neg (by omega)])
          have i5 : ¬ (0 : Int) < (j : Int) := by omega
          rw [k1]
          clear k1
          go_wp2_with fail
          refine ⟨⟨j + 1, by omega, by go_num, N1.out, fun i hi => ?_⟩, by simp [intOf]; omega⟩
          by_cases hij : i < j
          · exact Hz.out i hij
          · obtain rfl : i = j := by omega
            exact Hr2.out
      · have Hr2 : Hid (riseAt ps j = chk p.a p.n) := hide (by
          unfold riseAt riseC
          rw [Hp.out, if_pos (by simpa using k1)])
        have He : Hid (riseP ps = (chk p.a p.n, (j : Int))) := hide (riseP_at (by have := Hn.out; omega) Hr2.out k1 Hz.out)
        generalize chk p.a p.n = k at *
        have k2 : 0 < k := by omega
        have k3 : ((k : Int) == 0) = false := by simp; omega
        have k4 : (0 : Int) < (k : Int) := by omega
        clear k1
        have b2 := Hb.out.new_ N1.out
        have z2 := b2.lt
        have f0 := b2.frozen 0
        have f1 := b2.frozen 1
        have d0 := b2.cell 0
        have d1 := b2.cell 1
        simp only [List.getElem?_toArray, List.getElem?_cons_zero, List.getElem?_cons_succ] at d0 d1
        have H2 := hide b2
        clear b2
        go_wp2_with fail
        refine bodyPost_ret (fault_out Tryd.results138 rfl (fault_set H2.out)) rfl ⟨by rw [He.out]; rfl, new_set2 (Hu.out.trans_new N1.out) (by omega)⟩

    · have i3 : ¬ (j : Int) < (n : Int) := by omega
      have He := hide (riseP_no fun i hi => Hz.out i (by have := Hn.out; omega))
      have Hf := hide (fineF_any wr)
      go_wp2_with fail
      refine Hf.out.mono ?_
      rintro e w2 ⟨rfl, hu2⟩
      unfold faultV
      have b2 := (Hb.out.new_ Hnew.out).new_ hu2
      have z2 := b2.lt
      have f0 := b2.frozen 0
      have f1 := b2.frozen 1
      have d0 := b2.cell 0
      have d1 := b2.cell 1
      simp only [List.getElem?_toArray, List.getElem?_cons_zero, List.getElem?_cons_succ] at d0 d1
      have H2 := hide b2
      clear b2
      go_wp2_with fail
      refine bodyPost_ret (fault_out Tryd.results138 rfl (fault_set H2.out)) rfl ⟨by rw [He.out]; rfl, new_set2 ((Hu.out.trans_new Hnew.out).trans_new hu2) (by omega)⟩

end Go.Proofs.YtkljanjapcpbdaaDoor
