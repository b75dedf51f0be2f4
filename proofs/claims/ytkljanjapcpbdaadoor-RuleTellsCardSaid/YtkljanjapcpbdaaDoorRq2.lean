/- The reference: what is wrong with rules. No condition but those that stand in each theorem. -/
import Derived.Test.YtkljanjapcpbdaaDoorRq1
import Derived.Test.YtkljanjapcpbdaaDoorRf3
import Derived.Test.YtkljanjapcpbdaaDoorRu3
namespace Go.Proofs.YtkljanjapcpbdaaDoor
open Go.RowKit

theorem rightB_yes {r : RuR} (h : rightB r = true) : (0 ≤ r.hi ∧ r.hi ≤ 32) ∧ (0 ≤ r.lo ∧ r.lo ≤ r.hi) ∧ (0 ≤ r.tag ∧ r.tag ≤ 9999) ∧ (0 ≤ r.add ∧ r.add ≤ 9999) ∧ (0 ≤ r.as_ ∧ r.as_ ≤ 1000) ∧ (-1 ≤ r.pref ∧ r.pref ≤ 1000) ∧ (-1 ≤ r.med ∧ r.med ≤ 1000) ∧ (0 ≤ r.lead ∧ r.lead ≤ 12) := by
  unfold rightB inR at h
  simpa [and_assoc] using h
theorem rightB_all {r : RuR} (h1 : ¬ r.lo < 0) (h2 : ¬ r.hi < r.lo) (h3 : ¬ 32 < r.hi) (h4 : ¬ r.tag < 0) (h5 : ¬ 9999 < r.tag) (h6 : ¬ r.add < 0) (h7 : ¬ 9999 < r.add) (h8 : ¬ r.as_ < 0) (h9 : ¬ 1000 < r.as_) (h10 : ¬ r.lead < 0) (h11 : ¬ 12 < r.lead)
    (h12 : ¬ r.pref < -1) (h13 : ¬ 1000 < r.pref) (h14 : ¬ r.med < -1) (h15 : ¬ 1000 < r.med) : rightB r = true := by
  have : ∀ x a b : Int, ¬ x < a → ¬ b < x → inR x a b = true := fun x a b p q => inR_yes p q
  unfold rightB
  rw [this r.hi 0 32 (by omega) h3, this r.lo 0 r.hi h1 h2, this r.tag 0 9999 h4 h5, this r.add 0 9999 h6 h7, this r.as_ 0 1000 h8 h9, this r.pref (-1) 1000 h12 h13, this r.med (-1) 1000 h14 h15, this r.lead 0 12 h10 h11]
  rfl
theorem rightB_no {r : RuR} (h : r.lo < 0 ∨ r.hi < r.lo ∨ 32 < r.hi ∨ r.tag < 0 ∨ 9999 < r.tag ∨ r.add < 0 ∨ 9999 < r.add ∨ r.as_ < 0 ∨ 1000 < r.as_ ∨ r.lead < 0 ∨ 12 < r.lead ∨ r.pref < -1 ∨ 1000 < r.pref ∨ r.med < -1 ∨ 1000 < r.med) : rightB r = false := by
  cases hr : rightB r with
  | false => rfl
  | true => have := rightB_yes hr; omega

set_option maxRecDepth 20000 in
set_option maxHeartbeats 16000000 in
theorem rulesFault_any (A : Option Addr) (n c : Nat) (l : List RuR) (w : World) (hx : Rules w A l) (hn : l.length = n) (hl : n ≤ 1000) :
    Calls Tryd.prog 54 #[.slice A n c] w fun e w1 => e = .returned (faultV (rulesC l)) ∧ New w w1 := by
  have u := (Upd.refl (fun _ => False) w).alloc (.cells #[.int .i64 0, .int .i64 0] TRF)
  have b0 := Blk.new w TRF #[.int .i64 0, .int .i64 0]
  have N := hide u
  have HR := hide b0
  have Hx := hide hx
  have Hn := hide hn
  clear u b0 hx hn
  go_enter Tryd.func54, Tryd.ntmps54
  go_upto_region 1 with (fail)
  generalize w.alloc (.cells #[.int .i64 0, .int .i64 0] TRF) = W at *
  by_cases h10 : 10 < n
  · have He := hide (rulesC_long (l := l) (by have := Hn.out; omega))
    have i1 : (10 : Int) < (n : Int) := by omega
    have Hb := hide (bareF_any 7 W)
    unfold faultV at Hb
    go_wp2_with fail
    refine Hb.out.mono ?_
    rintro e w1 ⟨rfl, hu⟩
    have HR1 := hide (HR.out.new_ hu)
    have N1 := hide (N.out.trans_new hu)
    clear hu
    have bq := HR1.out
    have r0 := bq.cell 0
    have r1 := bq.cell 1
    have s0 := bq.frozen 0
    have s1 := bq.frozen 1
    have zR := bq.lt
    simp only [List.getElem?_toArray, List.getElem?_cons_zero, List.getElem?_cons_succ] at r0 r1
    clear bq
    go_wp2_with fail
    refine bodyPost_ret (fault_out Tryd.results54 rfl (fault_set HR1.out)) rfl ⟨?_, new_set2 N1.out (Nat.le_refl _)⟩
    rw [He.out]; rfl
  · have He := hide (rulesC_short (l := l) (by have := Hn.out; omega))
    have i1 : ¬ (10 : Int) < (n : Int) := by omega
    go_wp2_with fail
    go_loopw [3] (fun i wr => ∃ k : Nat, k ≤ n ∧ i = .int .i64 k ∧ New W wr ∧ ∀ j, j < k → ruF l j = 0) (fun i _ => n - (intOf i).toNat)
    case atStart => exact ⟨0, by omega, rfl, Upd.refl _ _, fun j h => absurd h (by omega)⟩
    case round =>
      obtain ⟨k, hk, rfl, hnr, hz⟩ := hrel
      have Hz := hide hz
      have Nr := hide hnr
      have N2 := hide (N.out.trans_new hnr)
      have HR2 := hide (HR.out.new_ hnr)
      clear hz hnr
      by_cases hlt : k < n
      · obtain ⟨b, q, r, rfl, zb, hrk, c0, c1, c2, c3, c4, c5, c6, c7, c8, c9, c10⟩ := (Hx.out.new_ N2.out).at_ (k := k) (by rw [Hn.out]; exact hlt)
        have HF := hide (ruF_at hrk)
        have i2 : (k : Int) < (n : Int) := by omega
        clear hrk
        have bX := Blk.new wr TRu #[.int .i64 r.a, .int .i64 r.n, .int .i64 r.lo, .int .i64 r.hi, .int .i64 r.tag, .int .i64 r.as_, .bool r.deny, .int .i64 r.pref, .int .i64 r.med, .int .i64 r.add, .int .i64 r.lead]
        have nX := (Upd.refl (fun _ => False) wr).alloc (.cells #[.int .i64 r.a, .int .i64 r.n, .int .i64 r.lo, .int .i64 r.hi, .int .i64 r.tag, .int .i64 r.as_, .bool r.deny, .int .i64 r.pref, .int .i64 r.med, .int .i64 r.add, .int .i64 r.lead] TRu)
        have HB := hide bX
        have NX := hide nX
        clear bX nX
        go_upto_region 7 with (fail)
        generalize wr.alloc (.cells #[.int .i64 r.a, .int .i64 r.n, .int .i64 r.lo, .int .i64 r.hi, .int .i64 r.tag, .int .i64 r.as_, .bool r.deny, .int .i64 r.pref, .int .i64 r.med, .int .i64 r.add, .int .i64 r.lead] TRu) = W6 at *
        generalize wr.heap.size = X at *
        have N3 := hide (N2.out.trans_new NX.out)
        have HR3 := hide (HR2.out.new_ NX.out)
        have Hp := hide (prefixError_any r.a r.n W6)
        clear c0 c1 c2 c3 c4 c5 c6 c7 c8 c9 c10 zb
        have bq := HB.out
        have b0 := bq.cell 0
        have b1 := bq.cell 1
        have b2 := bq.cell 2
        have b3 := bq.cell 3
        have b4 := bq.cell 4
        have b5 := bq.cell 5
        have b6 := bq.cell 6
        have b7 := bq.cell 7
        have b8 := bq.cell 8
        have b9 := bq.cell 9
        have b10 := bq.cell 10
        have zB := bq.lt
        simp only [List.getElem?_toArray, List.getElem?_cons_zero, List.getElem?_cons_succ] at b0 b1 b2 b3 b4 b5 b6 b7 b8 b9 b10
        clear bq
        go_wp2_with fail
        refine Hp.out.mono ?_
        rintro e w7 ⟨rfl, hu⟩
        have HB7 := hide (HB.out.new_ hu)
        have HR7 := hide (HR3.out.new_ hu)
        have N7 := hide (N3.out.trans_new hu)
        have NX7 := hide (NX.out.trans_new hu)
        clear hu Hp b0 b1 b2 b3 b4 b5 b6 b7 b8 b9 b10 zB
        have bq := HB7.out
        have b0 := bq.cell 0
        have b1 := bq.cell 1
        have b2 := bq.cell 2
        have b3 := bq.cell 3
        have b4 := bq.cell 4
        have b5 := bq.cell 5
        have b6 := bq.cell 6
        have b7 := bq.cell 7
        have b8 := bq.cell 8
        have b9 := bq.cell 9
        have b10 := bq.cell 10
        have zB := bq.lt
        simp only [List.getElem?_toArray, List.getElem?_cons_zero, List.getElem?_cons_succ] at b0 b1 b2 b3 b4 b5 b6 b7 b8 b9 b10
        clear bq
        have bq := HR7.out
        have r0 := bq.cell 0
        have r1 := bq.cell 1
        have s0 := bq.frozen 0
        have s1 := bq.frozen 1
        have zR := bq.lt
        simp only [List.getElem?_toArray, List.getElem?_cons_zero, List.getElem?_cons_succ] at r0 r1
        clear bq
        by_cases hc : chk r.a r.n = 0
        · rw [hc]
          have Hc := hide hc
          clear hc
          by_cases g0 : r.lo < 0
          · have HF2 := hide (HF.out.trans (ruC_bad Hc.out (rightB_no (by omega))))
            go_wp2_with fail
            refine bodyPost_ret (fault_out Tryd.results54 rfl (fault_set HR7.out)) rfl ⟨?_, new_set2 N7.out (Nat.le_refl _)⟩
            have h1 := firstC_at (ruF l) n 0 k (by omega) (by omega) (by rw [HF2.out]; omega) (fun j _ h => Hz.out j h)
            rw [HF2.out] at h1
            rw [He.out, Hn.out, h1]; rfl
          by_cases g1 : r.hi < r.lo
          · have HF2 := hide (HF.out.trans (ruC_bad Hc.out (rightB_no (by omega))))
            go_wp2_with fail
            refine bodyPost_ret (fault_out Tryd.results54 rfl (fault_set HR7.out)) rfl ⟨?_, new_set2 N7.out (Nat.le_refl _)⟩
            have h1 := firstC_at (ruF l) n 0 k (by omega) (by omega) (by rw [HF2.out]; omega) (fun j _ h => Hz.out j h)
            rw [HF2.out] at h1
            rw [He.out, Hn.out, h1]; rfl
          by_cases g2 : 32 < r.hi
          · have HF2 := hide (HF.out.trans (ruC_bad Hc.out (rightB_no (by omega))))
            go_wp2_with fail
            refine bodyPost_ret (fault_out Tryd.results54 rfl (fault_set HR7.out)) rfl ⟨?_, new_set2 N7.out (Nat.le_refl _)⟩
            have h1 := firstC_at (ruF l) n 0 k (by omega) (by omega) (by rw [HF2.out]; omega) (fun j _ h => Hz.out j h)
            rw [HF2.out] at h1
            rw [He.out, Hn.out, h1]; rfl
          by_cases g3 : r.tag < 0
          · have HF2 := hide (HF.out.trans (ruC_bad Hc.out (rightB_no (by omega))))
            go_wp2_with fail
            refine bodyPost_ret (fault_out Tryd.results54 rfl (fault_set HR7.out)) rfl ⟨?_, new_set2 N7.out (Nat.le_refl _)⟩
            have h1 := firstC_at (ruF l) n 0 k (by omega) (by omega) (by rw [HF2.out]; omega) (fun j _ h => Hz.out j h)
            rw [HF2.out] at h1
            rw [He.out, Hn.out, h1]; rfl
          by_cases g4 : 9999 < r.tag
          · have HF2 := hide (HF.out.trans (ruC_bad Hc.out (rightB_no (by omega))))
            go_wp2_with fail
            refine bodyPost_ret (fault_out Tryd.results54 rfl (fault_set HR7.out)) rfl ⟨?_, new_set2 N7.out (Nat.le_refl _)⟩
            have h1 := firstC_at (ruF l) n 0 k (by omega) (by omega) (by rw [HF2.out]; omega) (fun j _ h => Hz.out j h)
            rw [HF2.out] at h1
            rw [He.out, Hn.out, h1]; rfl
          by_cases g5 : r.add < 0
          · have HF2 := hide (HF.out.trans (ruC_bad Hc.out (rightB_no (by omega))))
            go_wp2_with fail
            refine bodyPost_ret (fault_out Tryd.results54 rfl (fault_set HR7.out)) rfl ⟨?_, new_set2 N7.out (Nat.le_refl _)⟩
            have h1 := firstC_at (ruF l) n 0 k (by omega) (by omega) (by rw [HF2.out]; omega) (fun j _ h => Hz.out j h)
            rw [HF2.out] at h1
            rw [He.out, Hn.out, h1]; rfl
          by_cases g6 : 9999 < r.add
          · have HF2 := hide (HF.out.trans (ruC_bad Hc.out (rightB_no (by omega))))
            go_wp2_with fail
            refine bodyPost_ret (fault_out Tryd.results54 rfl (fault_set HR7.out)) rfl ⟨?_, new_set2 N7.out (Nat.le_refl _)⟩
            have h1 := firstC_at (ruF l) n 0 k (by omega) (by omega) (by rw [HF2.out]; omega) (fun j _ h => Hz.out j h)
            rw [HF2.out] at h1
            rw [He.out, Hn.out, h1]; rfl
          by_cases g7 : r.as_ < 0
          · have HF2 := hide (HF.out.trans (ruC_bad Hc.out (rightB_no (by omega))))
            go_wp2_with fail
            refine bodyPost_ret (fault_out Tryd.results54 rfl (fault_set HR7.out)) rfl ⟨?_, new_set2 N7.out (Nat.le_refl _)⟩
            have h1 := firstC_at (ruF l) n 0 k (by omega) (by omega) (by rw [HF2.out]; omega) (fun j _ h => Hz.out j h)
            rw [HF2.out] at h1
            rw [He.out, Hn.out, h1]; rfl
          by_cases g8 : 1000 < r.as_
          · have HF2 := hide (HF.out.trans (ruC_bad Hc.out (rightB_no (by omega))))
            go_wp2_with fail
            refine bodyPost_ret (fault_out Tryd.results54 rfl (fault_set HR7.out)) rfl ⟨?_, new_set2 N7.out (Nat.le_refl _)⟩
            have h1 := firstC_at (ruF l) n 0 k (by omega) (by omega) (by rw [HF2.out]; omega) (fun j _ h => Hz.out j h)
            rw [HF2.out] at h1
            rw [He.out, Hn.out, h1]; rfl
          by_cases g9 : r.lead < 0
          · have HF2 := hide (HF.out.trans (ruC_bad Hc.out (rightB_no (by omega))))
            go_wp2_with fail
            refine bodyPost_ret (fault_out Tryd.results54 rfl (fault_set HR7.out)) rfl ⟨?_, new_set2 N7.out (Nat.le_refl _)⟩
            have h1 := firstC_at (ruF l) n 0 k (by omega) (by omega) (by rw [HF2.out]; omega) (fun j _ h => Hz.out j h)
            rw [HF2.out] at h1
            rw [He.out, Hn.out, h1]; rfl
          by_cases g10 : 12 < r.lead
          · have HF2 := hide (HF.out.trans (ruC_bad Hc.out (rightB_no (by omega))))
            go_wp2_with fail
            refine bodyPost_ret (fault_out Tryd.results54 rfl (fault_set HR7.out)) rfl ⟨?_, new_set2 N7.out (Nat.le_refl _)⟩
            have h1 := firstC_at (ruF l) n 0 k (by omega) (by omega) (by rw [HF2.out]; omega) (fun j _ h => Hz.out j h)
            rw [HF2.out] at h1
            rw [He.out, Hn.out, h1]; rfl
          by_cases g11 : r.pref < -1
          · have HF2 := hide (HF.out.trans (ruC_bad Hc.out (rightB_no (by omega))))
            go_wp2_with fail
            refine bodyPost_ret (fault_out Tryd.results54 rfl (fault_set HR7.out)) rfl ⟨?_, new_set2 N7.out (Nat.le_refl _)⟩
            have h1 := firstC_at (ruF l) n 0 k (by omega) (by omega) (by rw [HF2.out]; omega) (fun j _ h => Hz.out j h)
            rw [HF2.out] at h1
            rw [He.out, Hn.out, h1]; rfl
          by_cases g12 : 1000 < r.pref
          · have HF2 := hide (HF.out.trans (ruC_bad Hc.out (rightB_no (by omega))))
            go_wp2_with fail
            refine bodyPost_ret (fault_out Tryd.results54 rfl (fault_set HR7.out)) rfl ⟨?_, new_set2 N7.out (Nat.le_refl _)⟩
            have h1 := firstC_at (ruF l) n 0 k (by omega) (by omega) (by rw [HF2.out]; omega) (fun j _ h => Hz.out j h)
            rw [HF2.out] at h1
            rw [He.out, Hn.out, h1]; rfl
          by_cases g13 : r.med < -1
          · have HF2 := hide (HF.out.trans (ruC_bad Hc.out (rightB_no (by omega))))
            go_wp2_with fail
            refine bodyPost_ret (fault_out Tryd.results54 rfl (fault_set HR7.out)) rfl ⟨?_, new_set2 N7.out (Nat.le_refl _)⟩
            have h1 := firstC_at (ruF l) n 0 k (by omega) (by omega) (by rw [HF2.out]; omega) (fun j _ h => Hz.out j h)
            rw [HF2.out] at h1
            rw [He.out, Hn.out, h1]; rfl
          by_cases g14 : 1000 < r.med
          · have HF2 := hide (HF.out.trans (ruC_bad Hc.out (rightB_no (by omega))))
            go_wp2_with fail
            refine bodyPost_ret (fault_out Tryd.results54 rfl (fault_set HR7.out)) rfl ⟨?_, new_set2 N7.out (Nat.le_refl _)⟩
            have h1 := firstC_at (ruF l) n 0 k (by omega) (by omega) (by rw [HF2.out]; omega) (fun j _ h => Hz.out j h)
            rw [HF2.out] at h1
            rw [He.out, Hn.out, h1]; rfl
          have HF2 := hide (HF.out.trans (ruC_ok Hc.out (rightB_all g0 g1 g2 g3 g4 g5 g6 g7 g8 g9 g10 g11 g12 g13 g14)))
          go_wp2_with fail
          refine ⟨⟨k + 1, by omega, by go_num, Upd.trans_new Nr.out NX7.out, fun j hj => ?_⟩, by simp [intOf]; omega⟩
          by_cases hjk : j < k
          · exact Hz.out j hjk
          · obtain rfl : j = k := by omega
            exact HF2.out
        · have HF2 := hide (HF.out.trans (ruC_chk hc))
          have hc2 : chk r.a r.n ≤ 3 := chk_le r.a r.n
          generalize chk r.a r.n = C at *
          have i3 : (0 : Int) < (C : Int) := by omega
          have i4 : ((C : Int) == 0) = false := by simp [hc]
          have Hc0 := hide hc
          clear hc
          go_wp2_with fail
          refine bodyPost_ret (fault_out Tryd.results54 rfl (fault_set HR7.out)) rfl ⟨?_, new_set2 N7.out (Nat.le_refl _)⟩
          have h1 := firstC_at (ruF l) n 0 k (by omega) (by omega) (by rw [HF2.out]; exact Hc0.out) (fun j _ h => Hz.out j h)
          rw [HF2.out] at h1
          rw [He.out, Hn.out, h1]; rfl
      · have hkn : k = n := by omega
        subst hkn
        have Hf := hide (fineF_any wr)
        unfold faultV at Hf
        go_wp2_with fail
        refine Hf.out.mono ?_
        rintro e w3 ⟨rfl, hu⟩
        have HR1 := hide (HR2.out.new_ hu)
        have N1 := hide (N2.out.trans_new hu)
        clear hu
        have bq := HR1.out
        have r0 := bq.cell 0
        have r1 := bq.cell 1
        have s0 := bq.frozen 0
        have s1 := bq.frozen 1
        have zR := bq.lt
        simp only [List.getElem?_toArray, List.getElem?_cons_zero, List.getElem?_cons_succ] at r0 r1
        clear bq
        go_wp2_with fail
        refine bodyPost_ret (fault_out Tryd.results54 rfl (fault_set HR1.out)) rfl ⟨?_, new_set2 N1.out (Nat.le_refl _)⟩
        rw [He.out, Hn.out, firstC_no (ruF l) k 0 fun i _ h => Hz.out i (by omega)]; rfl
end Go.Proofs.YtkljanjapcpbdaaDoor
