/- The reference's sameness of prefixes, and of messages. No condition but those that stand in each theorem. -/
import Derived.Test.YtjgecmkfgeajiaaGreatDoorRs1
import Derived.Test.YtjgecmkfgeajiaaGreatDoorWi3
import Derived.Test.YtjgecmkfgeajiaaGreatDoorEq
import Derived.Test.YtjgecmkfgeajiaaGreatDoorWr1
namespace Go.Proofs.YtjgecmkfgeajiaaGreatDoor
open Go.RowKit

theorem pfs_ne {ps qs : List Pf} {j : Nat} {p q : Pf} (hp : ps[j]? = some p) (hq : qs[j]? = some q) (h : (p.a == q.a && p.n == q.n) = false) : decide (ps = qs) = false := by
  refine decide_eq_false fun hs => ?_
  subst hs
  rw [hp] at hq
  injection hq with hq
  subst hq
  simp at h
theorem pfs_eq {ps qs : List Pf} (hl : ps.length = qs.length) (h : ∀ (i : Nat) p q, i < ps.length → ps[i]? = some p → qs[i]? = some q → p = q) : decide (ps = qs) = true := by
  refine decide_eq_true (List.ext_getElem? fun i => ?_)
  by_cases hi : i < ps.length
  · have h1 : ps[i]? = some ps[i] := List.getElem?_eq_getElem hi
    have h2 : qs[i]? = some (qs[i]'(by omega)) := List.getElem?_eq_getElem (by omega)
    rw [h1, h2, h i _ _ hi h1 h2]
  · rw [List.getElem?_eq_none (by omega), List.getElem?_eq_none (by omega)]

set_option maxRecDepth 8000 in
set_option maxHeartbeats 1000000 in
theorem samePfs_any (A B : Option Addr) (n m c d : Nat) (ps qs : List Pf) (w : World) (hx : Pfs w A ps) (hy : Pfs w B qs) (hn : ps.length = n) (hm : qs.length = m) (hl : n ≤ 4294967296) (hl2 : m ≤ 4294967296) :
    Calls Tryz.prog 29 #[.slice A n c, .slice B m d] w fun e w1 => e = .returned (.bool (decide (ps = qs))) ∧ New w w1 := by
  have Hx := hide hx
  have Hy := hide hy
  have Hn := hide hn
  have Hm := hide hm
  clear hx hy hn hm
  by_cases hnm : n = m
  · subst hnm
    have g1 := guard_pfx
    have g3 := neq_pfx
    go_enter Tryz.func29, Tryz.ntmps29
    go_wp2_with fail
    go_loopw [5] (fun i wr => ∃ k : Nat, k ≤ n ∧ i = .int .i64 k ∧ New w wr ∧ ∀ (i : Nat) r s, i < k → ps[i]? = some r → qs[i]? = some s → r = s) (fun i _ => n - (intOf i).toNat)
    case atStart => exact ⟨0, by omega, rfl, Upd.refl _ _, fun j r s h => absurd h (by omega)⟩
    case round =>
      obtain ⟨k, hk, rfl, hnew, hz⟩ := hrel
      have Hz := hide hz
      have Hnew := hide hnew
      clear hz
      by_cases hlt : k < n
      · obtain ⟨b, o, r, hA, hb, hr, q0, q1⟩ := (Hx.out.new_ hnew).at_ (k := k) (by have := Hn.out; omega)
        obtain ⟨b2, o2, s, hB, hb2, hs, p0, p1⟩ := (Hy.out.new_ hnew).at_ (k := k) (by have := Hm.out; omega)
        subst hA; subst hB
        have Hr := hide hr
        have Hs2 := hide hs
        have i1 : (k : Int) < (n : Int) := by omega
        clear hr hs hnew
        obtain ⟨wo, rfl⟩ : ∃ wo : World, wo = wr := ⟨_, rfl⟩
        cases h1 : (r.a == s.a && r.n == s.n) with
        | false =>
          have Hne := hide (pfs_ne Hr.out Hs2.out h1)
          go_upto_region 6 with (fail)
          refine wp_region_new wo (Upd.refl _ _) (by kernel_rfl) (by kernel_rfl) ?_
          repeat (go_big_quiet_step (fail))
          refine wpQuiet_nil ?_
          rintro _ ⟨nq2, rfl⟩
          go_wp2_with fail
          go_ret
          exact ⟨ret_bool Hne.out.symm, Hnew.out.trans_new nq2.h⟩
        | true =>
          have He := hide (show r = s by
            simp at h1
            obtain ⟨a, n⟩ := r
            obtain ⟨b, m⟩ := s
            obtain ⟨rfl, rfl⟩ := h1
            rfl)
          go_upto_region 6 with (fail)
          refine wp_region_new wo (Upd.refl _ _) (by kernel_rfl) (by kernel_rfl) ?_
          repeat (go_big_quiet_step (fail))
          refine wpQuiet_nil ?_
          rintro _ ⟨nq2, rfl⟩
          go_wp2_with fail
          refine ⟨⟨k + 1, by omega, by go_num, Hnew.out.trans_new nq2.h, fun i x y hi hx hy => ?_⟩, by simp [intOf]; omega⟩
          by_cases hij : i < k
          · exact Hz.out i x y hij hx hy
          · obtain rfl : i = k := by omega
            rw [Hr.out] at hx; injection hx with hx; subst hx
            rw [Hs2.out] at hy; injection hy with hy; subst hy
            exact He.out
      · have i1 : ¬ (k : Int) < (n : Int) := by omega
        have He := hide (pfs_eq (ps := ps) (qs := qs) (by have := Hn.out; have := Hm.out; omega) fun i r s hi hr hs => Hz.out i r s (by have := Hn.out; omega) hr hs)
        go_wp2_with fail
        go_ret
        exact ⟨ret_bool He.out.symm, Hnew.out⟩
  · have He : Hid (decide (ps = qs) = false) := hide (decide_eq_false fun hs => by
      have := congrArg List.length hs
      have h1 := Hn.out
      have h2 := Hm.out
      exact absurd (by omega) hnm)
    have i1 : ((n : Int) != (m : Int)) = true := by simp; omega
    go_enter Tryz.func29, Tryz.ntmps29
    go_wp2_with fail
    go_ret
    exact ⟨ret_bool He.out.symm, Upd.refl _ _⟩
noncomputable instance msgDec (a b : MsgC) : Decidable (a = b) := Classical.propDecidable _
theorem msg_eqs (k1 k2 : ByteArray) (n1 n2 : Int) (D1 D2 A1 A2 : Option Addr) (dc1 dc2 ac1 ac2 : Nat) (d1 d2 : List Pf) (a1 a2 : List RouteR) :
    decide ((⟨k1, n1, D1, dc1, d1, A1, ac1, a1⟩ : MsgR).con = (⟨k2, n2, D2, dc2, d2, A2, ac2, a2⟩ : MsgR).con) = (decide (k1 = k2) && (decide (n1 = n2) && (decide (d1 = d2) && decide (a1.map RouteR.con = a2.map RouteR.con)))) := by
  have hk : (k1.data.toList = k2.data.toList) ↔ k1 = k2 := ⟨fun h => by rw [← ba_eta k1, ← ba_eta k2, h], fun h => by rw [h]⟩
  rw [Bool.eq_iff_iff]
  simp only [MsgR.con, decide_eq_true_eq, Bool.and_eq_true, MsgC.mk.injEq, hk]

set_option maxRecDepth 8000 in
set_option maxHeartbeats 2000000 in
theorem sameMsg_any (m m2 : MsgR) (w : World) (hm : MsgOk w m) (h2 : MsgOk w m2) (hs : Short m) (hs2 : Short m2) (hl : m.drops.length ≤ 100000) (hl2 : m2.drops.length ≤ 100000) (hl3 : m.adds.length ≤ 100000) (hl4 : m2.adds.length ≤ 100000) :
    Calls Tryz.prog 10 #[.agg m.cells, .agg m2.cells] w fun e w1 => e = .returned (.bool (decide (m.con = m2.con))) ∧ New w w1 := by
  have u := ((Upd.refl (fun _ => False) w).alloc (.cells m.cells TM)).alloc (.cells m2.cells TM)
  have b0 := (Blk.new w TM m.cells).alloc (.cells m2.cells TM)
  have b1 := Blk.at_ (w.alloc (.cells m.cells TM)) TM m2.cells (w.heap.size + 1) (by simp)
  have Hu := hide u
  have HA := hide (hm.new_ u)
  have HB := hide (h2.new_ u)
  have Hb0 := hide b0
  have Hb1 := hide b1
  have Hs := hide hs
  have Hs2 := hide hs2
  have HL := hide (And.intro hl (And.intro hl2 (And.intro hl3 hl4)))
  clear u b0 b1 hm h2 hs hs2 hl hl2 hl3 hl4
  obtain ⟨k1, n1, D1, dc1, d1s, A1, ac1, a1s⟩ := m
  obtain ⟨k2, n2, D2, dc2, d2s, A2, ac2, a2s⟩ := m2
  have hc : decide ((⟨k1, n1, D1, dc1, d1s, A1, ac1, a1s⟩ : MsgR).con = (⟨k2, n2, D2, dc2, d2s, A2, ac2, a2s⟩ : MsgR).con) = (decide (k1 = k2) && (decide (n1 = n2) && (decide (d1s = d2s) && decide (a1s.map RouteR.con = a2s.map RouteR.con)))) := msg_eqs ..
  rw [hc]
  clear hc
  obtain ⟨R, hR⟩ : ∃ R, R = (decide (k1 = k2) && (decide (n1 = n2) && (decide (d1s = d2s) && decide (a1s.map RouteR.con = a2s.map RouteR.con)))) := ⟨_, rfl⟩
  rw [← hR]
  have HR := hide hR
  clear hR
  unfold MsgR.cells at *
  go_enter Tryz.func10, Tryz.ntmps10
  go_upto_region 1 with (fail)
  generalize ((w.alloc (.cells #[.string k1, .int .i64 n1, .slice D1 d1s.length dc1, .slice A1 a1s.length ac1] TM)).alloc (.cells #[.string k2, .int .i64 n2, .slice D2 d2s.length dc2, .slice A2 a2s.length ac2] TM)) = W at *
  have c0 := Hb0.out.cell 0
  have c1 := Hb0.out.cell 1
  have c2 := Hb0.out.cell 2
  have c3 := Hb0.out.cell 3
  have d0 := Hb1.out.cell 0
  have d1 := Hb1.out.cell 1
  have d2 := Hb1.out.cell 2
  have d3 := Hb1.out.cell 3
  have z0 := Hb0.out.lt
  have z1 := Hb1.out.lt
  simp only [List.getElem?_toArray, List.getElem?_cons_zero, List.getElem?_cons_succ] at c0 c1 c2 c3 d0 d1 d2 d3
  have Hp := hide (fun w' (nw : New W w') => samePfs_any D1 D2 _ _ dc1 dc2 d1s d2s w' (HA.out.drops.new_ nw) (HB.out.drops.new_ nw) rfl rfl (by have := HL.out.1; dsimp only at this; omega) (by have := HL.out.2.1; dsimp only at this; omega))
  have Hr := hide (fun w' (nw : New W w') => sameRoutes_any A1 A2 _ _ ac1 ac2 a1s a2s w' (HA.out.adds.new_ nw) (HB.out.adds.new_ nw) rfl rfl (by have := HL.out.2.2.1; dsimp only at this; omega) (by have := HL.out.2.2.2; dsimp only at this; omega) Hs.out Hs2.out)
  have hkk : (k1.toList == k2.toList) = decide (k1 = k2) := by
    have tl : ∀ x : List UInt8, (⟨x.toArray⟩ : ByteArray).toList = x := fun x => by simp
    have e : ∀ k : ByteArray, k.toList = k.data.toList := fun k => by
      have h := tl k.data.toList
      rwa [ba_eta] at h
    rw [Bool.eq_iff_iff, beq_iff_eq, decide_eq_true_eq, e, e]
    exact ⟨fun h => by rw [← ba_eta k1, ← ba_eta k2, h], fun h => by rw [h]⟩
  by_cases hk : k1 = k2
  rotate_left
  · rw [decide_eq_false hk] at hkk HR
    clear hk
    refine wp_region_seq W (Upd.refl _ _) ?_
    repeat (go_big_quiet_step (fail))
    refine wpQuiet_nil ?_
    rintro _ ⟨nq, rfl⟩
    go_wp2_with fail
    go_ret
    exact ⟨ret_bool HR.out.symm, Hu.out.trans_new nq.h⟩
  rw [decide_eq_true hk] at hkk HR
  clear hk
  by_cases hn : n1 = n2
  rotate_left
  · rw [decide_eq_false hn] at HR
    have hn2 : (n1 == n2) = false := beq_eq_false_iff_ne.2 hn
    clear hn
    refine wp_region_seq W (Upd.refl _ _) ?_
    repeat (go_big_quiet_step (fail))
    refine wpQuiet_nil ?_
    rintro _ ⟨nq, rfl⟩
    go_wp2_with fail
    go_ret
    exact ⟨ret_bool HR.out.symm, Hu.out.trans_new nq.h⟩
  subst hn
  rw [decide_eq_true rfl] at HR
  obtain ⟨bp, hbp⟩ : ∃ b, b = decide (d1s = d2s) := ⟨_, rfl⟩
  obtain ⟨br, hbr⟩ : ∃ b, b = decide (a1s.map RouteR.con = a2s.map RouteR.con) := ⟨_, rfl⟩
  rw [← hbp] at Hp HR
  rw [← hbr] at Hr HR
  clear hbp hbr
  cases bp with
  | false =>
    refine wp_region_seq W (Upd.refl _ _) ?_
    repeat (go_big_quiet_step ((go_at_call 29; exact new_call (Hp.out _ (NewW.h _)))))
    refine wpQuiet_nil ?_
    rintro _ ⟨nq, rfl⟩
    go_wp2_with fail
    go_ret
    exact ⟨ret_bool HR.out.symm, Hu.out.trans_new nq.h⟩
  | true =>
    refine wp_region_seq W (Upd.refl _ _) ?_
    repeat (go_big_quiet_step (first
      | (go_at_call 29; exact new_call (Hp.out _ (NewW.h _)))
      | (go_at_call 30; exact new_call (Hr.out _ (NewW.h _)))))
    refine wpQuiet_nil ?_
    rintro _ ⟨nq, rfl⟩
    go_wp2_with fail
    go_ret
    exact ⟨ret_bool HR.out.symm, Hu.out.trans_new nq.h⟩
end Go.Proofs.YtjgecmkfgeajiaaGreatDoor
