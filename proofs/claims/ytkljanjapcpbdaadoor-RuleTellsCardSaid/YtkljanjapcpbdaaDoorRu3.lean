/- Package rule: Check. No condition but those that stand in each theorem. -/
import Derived.Test.YtkljanjapcpbdaaDoorRu2
import Derived.Test.YtkljanjapcpbdaaDoorWi2
namespace Go.Proofs.YtkljanjapcpbdaaDoor
open Go.RowKit

/-- What is wrong with a rule, with rules. -/
def ruC (r : RuR) : Nat := if chk r.a r.n ≠ 0 then chk r.a r.n else if rightB r = false then 2 else 0
def ruF (l : List RuR) (i : Nat) : Nat := match l[i]? with
  | some r => ruC r
  | none => 0
def rulesC (l : List RuR) : Nat × Int := if 10 < l.length then (7, -1) else firstC (ruF l) l.length 0
theorem ruF_at {l : List RuR} {i : Nat} {r : RuR} (h : l[i]? = some r) : ruF l i = ruC r := by unfold ruF; rw [h]
theorem ruC_chk {r : RuR} (h : chk r.a r.n ≠ 0) : ruC r = chk r.a r.n := by unfold ruC; rw [if_pos h]
theorem ruC_bad {r : RuR} (h : chk r.a r.n = 0) (h2 : rightB r = false) : ruC r = 2 := by unfold ruC; rw [if_neg (by simp [h]), if_pos h2]
theorem ruC_ok {r : RuR} (h : chk r.a r.n = 0) (h2 : rightB r = true) : ruC r = 0 := by unfold ruC; rw [if_neg (by simp [h]), if_neg (by simp [h2])]
theorem rulesC_long {l : List RuR} (h : 10 < l.length) : rulesC l = (7, -1) := by unfold rulesC; rw [if_pos h]
theorem rulesC_short {l : List RuR} (h : ¬ 10 < l.length) : rulesC l = firstC (ruF l) l.length 0 := by unfold rulesC; rw [if_neg h]

set_option maxRecDepth 8000 in
set_option maxHeartbeats 4000000 in
theorem ruleCheck_any (A : Option Addr) (n c : Nat) (l : List RuR) (E : Nat → Addr) (w : World) (h2 : Sen w gBound (E 2)) (h3 : Sen w gShape (E 3)) (h7 : Sen w gFull_ (E 7)) (hx : Rules w A l) (hn : l.length = n) (hl : n ≤ 1000) :
    Calls Tryd.prog 40 #[.slice A n c] w (ErrPost E (rulesC l).1 (rulesC l).2 w) := by
  by_cases h10 : 10 < n
  · have He := hide (rulesC_long (l := l) (by omega))
    have z7 : 3 < w.heap.size := h7.lt
    have c7 : w.cell? ⟨3, 0, none⟩ = some (errv (E 7)) := h7
    have i1 : (10 : Int) < (n : Int) := by omega
    unfold errv at c7
    clear h2 h3 h7 hx hn
    go_enter Tryd.func40, Tryd.ntmps40
    go_wp2_with fail
    go_ret
    exact ⟨_, rfl, by rw [He.out]; exact .sent (by omega) (by omega), Upd.refl _ _⟩
  · have He := hide (rulesC_short (l := l) (by omega))
    have H2 := hide h2
    have H3 := hide h3
    have Hx := hide hx
    have Hn := hide hn
    have i1 : ¬ (10 : Int) < (n : Int) := by omega
    clear h2 h3 h7 hx hn
    go_enter Tryd.func40, Tryd.ntmps40
    go_wp2_with fail
    go_loopw [12] (fun i wr => ∃ k : Nat, k ≤ n ∧ i = .int .i64 k ∧ New w wr ∧ ∀ j : Nat, 0 ≤ j → j < k → ruF l j = 0) (fun i _ => n - (intOf i).toNat)
    case atStart => exact ⟨0, by omega, rfl, Upd.refl _ _, fun j _ h => absurd h (by omega)⟩
    case round =>
      obtain ⟨k, hk, rfl, hnew, hz⟩ := hrel
      have Hz := hide hz
      have Hnew := hide hnew
      clear hz
      by_cases hlt : k < n
      · obtain ⟨b, o, r, hA, hb, hrk, d0, d1, d2, d3, d4, d5, d6, d7, d8, d9, d10⟩ := (Hx.out.new_ hnew).at_ (k := k) (by have := Hn.out; omega)
        subst hA
        have HF := hide (ruF_at hrk)
        have i2 : (k : Int) < (n : Int) := by omega
        have HB := hide (Blk.new wr TRu #[.int .i64 r.a, .int .i64 r.n, .int .i64 r.lo, .int .i64 r.hi, .int .i64 r.tag, .int .i64 r.as_, .bool r.deny, .int .i64 r.pref, .int .i64 r.med, .int .i64 r.add, .int .i64 r.lead])
        have hu := (Upd.refl (fun _ => False) wr).alloc (.cells #[.int .i64 r.a, .int .i64 r.n, .int .i64 r.lo, .int .i64 r.hi, .int .i64 r.tag, .int .i64 r.as_, .bool r.deny, .int .i64 r.pref, .int .i64 r.med, .int .i64 r.add, .int .i64 r.lead] TRu)
        have n1 := Hnew.out.trans_new hu
        clear hrk
        by_cases hc : chk r.a r.n = 0
        · have Hck := hide (check_yes r.a r.n E _ (H2.out.new n1) (H3.out.new n1) hc)
          have N1 := hide n1
          have Hc := hide hc
          clear hu hnew n1 hc
          go_wp2_with fail
          refine Hck.out.mono ?_
          rintro e w3 ⟨rfl, hu3⟩
          have n3 := N1.out.trans_new hu3
          have hb3 := HB.out.new_ hu3
          have e0 := hb3.cell 0
          have e1 := hb3.cell 1
          have e2 := hb3.cell 2
          have e3 := hb3.cell 3
          have e4 := hb3.cell 4
          have e5 := hb3.cell 5
          have e6 := hb3.cell 6
          have e7 := hb3.cell 7
          have e8 := hb3.cell 8
          have e9 := hb3.cell 9
          have e10 := hb3.cell 10
          have ze := hb3.lt
          simp only [List.getElem?_toArray, List.getElem?_cons_zero, List.getElem?_cons_succ] at e0 e1 e2 e3 e4 e5 e6 e7 e8 e9 e10
          have N3 := hide n3
          clear hb3 hu3 n3 d0 d1 d2 d3 d4 d5 d6 d7 d8 d9 d10 hb
          have hR := right_any r w3
          unfold RuR.cells at hR
          cases hrb : rightB r with
          | false =>
            rw [hrb] at hR
            have HR := hide hR
            have HF2 := hide (HF.out.trans (ruC_bad Hc.out hrb))
            clear hR hrb
            go_wp2_with fail
            refine HR.out.mono ?_
            rintro e w4 ⟨rfl, hu4⟩
            have n4 := N3.out.trans_new hu4
            have z2 : 0 < w4.heap.size := (H2.out.new n4).lt
            have c2 : w4.cell? ⟨0, 0, none⟩ = some (errv (E 2)) := H2.out.new n4
            unfold errv at c2
            have N4 := hide n4
            clear n4 hu4
            go_wp2_with fail
            go_ret
            have h1 := firstC_at (ruF l) n 0 k (by omega) (by omega) (by rw [HF2.out]; omega) Hz.out
            rw [HF2.out] at h1
            rw [He.out, Hn.out]
            exact ErrPost.fault_at h1 (by omega) (by omega) (Blk.new _ _ _) (N4.out.alloc _)
          | true =>
            rw [hrb] at hR
            have HR := hide hR
            have HF2 := hide (HF.out.trans (ruC_ok Hc.out hrb))
            clear hR hrb
            go_wp2_with fail
            refine HR.out.mono ?_
            rintro e w4 ⟨rfl, hu4⟩
            have N4 := hide (N3.out.trans_new hu4)
            clear hu4
            go_wp2_with fail
            refine ⟨⟨k + 1, by omega, by go_num, N4.out, fun j h0 hj => ?_⟩, by simp [intOf]; omega⟩
            by_cases hjk : j < k
            · exact Hz.out j h0 hjk
            · obtain rfl : j = k := by omega
              exact HF2.out
        · have Hck := hide (check_no r.a r.n E _ (H2.out.new n1) (H3.out.new n1) hc)
          have N1 := hide n1
          have HF2 := hide (HF.out.trans (ruC_chk hc))
          have Hc := hide hc
          clear hu hnew n1 hc
          go_wp2_with fail
          refine Hck.out.mono ?_
          rintro e w3 ⟨rfl, hu3⟩
          unfold errv
          have N3 := hide (N1.out.trans_new hu3)
          clear hu3
          go_wp2_with fail
          go_ret
          have h1 := firstC_at (ruF l) n 0 k (by omega) (by omega) (by rw [HF2.out]; exact Hc.out) Hz.out
          rw [HF2.out] at h1
          rw [He.out, Hn.out]
          exact ErrPost.fault_at h1 (Nat.pos_of_ne_zero Hc.out) (by have := chk_le r.a r.n; omega) (Blk.new _ _ _) (N3.out.alloc _)
      · have hkn : k = n := by omega
        subst hkn
        have H1 := hide (firstC_no (ruF l) k 0 (fun i h1 h2 => Hz.out i h1 (by omega)))
        go_wp2_with fail
        go_ret
        exact ⟨_, rfl, by rw [He.out, Hn.out, H1.out]; exact .nil, hnew⟩
end Go.Proofs.YtkljanjapcpbdaaDoor
