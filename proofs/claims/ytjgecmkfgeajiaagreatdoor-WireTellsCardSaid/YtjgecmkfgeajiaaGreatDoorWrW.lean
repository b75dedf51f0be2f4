/- Package herepathlaw2: wired, a closed fact; what a message that is not too long is bound by. No condition but those that stand in each theorem. -/
import Derived.Test.YtjgecmkfgeajiaaGreatDoorWrR
import Derived.Test.YtjgecmkfgeajiaaGreatDoorLv1
import Derived.Test.YtjgecmkfgeajiaaGreatDoorSmC
import Derived.Test.YtjgecmkfgeajiaaGreatDoorRs1
import Derived.Test.YtjgecmkfgeajiaaGreatDoorWi3
import Derived.Test.YtjgecmkfgeajiaaGreatDoorEq
import Derived.Test.YtjgecmkfgeajiaaGreatDoorWr1
namespace Go.Proofs.YtjgecmkfgeajiaaGreatDoor
open Go.RowKit

theorem longM_no {m : MsgR} (h : longM m = false) : m.drops.length ≤ 61 ∧ m.adds.length ≤ 61 ∧ Short m := by
  unfold longM at h
  simp only [Bool.or_eq_false_iff, decide_eq_false_iff_not, List.any_eq_false] at h
  obtain ⟨_, h2, h3, h4⟩ := h
  refine ⟨by omega, by omega, fun i r hr => ?_⟩
  have := h4 r (List.mem_of_getElem? hr)
  unfold longA at this
  simp only [decide_eq_true_eq] at this
  omega
theorem short_con {m m' : MsgR} (e : m'.adds.map RouteR.con = m.adds.map RouteR.con) (h : Short m) : Short m' := fun i r hr => by
  have h1 : (m'.adds.map RouteR.con)[i]? = some r.con := by rw [List.getElem?_map, hr]; rfl
  rw [e, List.getElem?_map] at h1
  obtain ⟨x, hx, hc⟩ := Option.map_eq_some_iff.1 h1
  have h2 := h i x hx
  have e1 : x.at_.path = r.at_.path := congrArg (fun y : RtC => y.at_.path) hc
  have e2 : x.at_.tags = r.at_.tags := congrArg (fun y : RtC => y.at_.tags) hc
  rw [← e1, ← e2]
  exact h2
theorem sameM_con {m m' : MsgR} (h : SameM m m') : m'.con = m.con := by
  obtain ⟨h1, h2, h3, h4⟩ := h
  unfold MsgR.con
  rw [h1, h2, h3, h4]
theorem wTextT_con {m m' : MsgR} (h : SameM m m') : wTextT m' = wTextT m := by
  unfold wTextT
  rw [check_same h, sameM_con h]
def wiredM : MsgR := ⟨⟨kNews.toArray⟩, 0, none, 0, [⟨167772160, 8⟩], none, 0, [⟨184549376, 8, ⟨none, 0, [1], 100, 0, 0, none, 0, []⟩, 0⟩]⟩
def wiredL : List UInt8 := [110, 101, 119, 115, 10, 45, 32, 49, 48, 46, 48, 46, 48, 46, 48, 47, 56, 10, 43, 32, 49, 49, 46, 48, 46, 48, 46, 48, 47, 56, 32, 49, 32, 49, 48, 48, 32, 48, 32, 48, 32, 45, 10]
theorem wired_c : (checkC wiredM).1 = 0 := by kernel_rfl
theorem wired_t : msgT wiredM.con = wiredL := by kernel_rfl
theorem wired_r : readM wiredL = ((0, -1), wiredM.con) := by
  rw [← wired_t]
  exact readM_msgT wired_c (by rw [wired_t]; decide)
def openM : MsgR := ⟨⟨kOpen.toArray⟩, 5, none, 0, [], none, 0, []⟩
theorem open_c : (checkC openM).1 = 0 := by kernel_rfl
theorem open_t : wTextT openM = [111, 112, 101, 110, 32, 53, 10] := by
  unfold wTextT
  rw [if_pos open_c]
  kernel_rfl
theorem open_ok (w : World) : MsgOk w openM := ⟨fun h => by simp [openM] at h, ⟨fun h => by simp [openM] at h, fun i r h => by simp [openM] at h⟩, Nat.le_refl _, Nat.le_refl _⟩

set_option maxRecDepth 20000 in
set_option maxHeartbeats 2000000 in
theorem wired_any (E : Nat → Addr) (w : World) (ht : TxtOk w) (he : WEs w E) :
    Calls Tryz.prog 5 #[] w fun e w1 => e = .returned (.bool true) ∧ New w w1 := by
  have hr := wireRead_any ⟨wiredL.toArray⟩ E w ht he (by decide)
  have hr : Calls Tryz.prog 9 #[.string ⟨wiredL.toArray⟩] w (MReadPost E (readM wiredL) w) := hr
  rw [wired_r] at hr
  have Hr : Hid (Calls Tryz.prog 9 #[.string ⟨#[110, 101, 119, 115, 10, 45, 32, 49, 48, 46, 48, 46, 48, 46, 48, 47, 56, 10, 43, 32, 49, 49, 46, 48, 46, 48, 46, 48, 47, 56, 32, 49, 32, 49, 48, 48, 32, 48, 32, 48, 32, 45, 10]⟩] w (MReadPost E ((0, -1), wiredM.con) w)) := hide hr
  have HT := hide ht
  have HE := hide he
  clear hr ht he
  go_enter Tryz.func5, Tryz.ntmps5
  go_wp2_with fail
  refine Hr.out.mono ?_
  rintro e w1 ⟨m', v, rfl, hv, hc, hok, hu⟩
  obtain rfl : v = .nilIface := errV_nil9 hv rfl
  obtain ⟨kd, nn, D, dc, ds, A, ac, rs⟩ := m'
  have hd : ds = [⟨167772160, 8⟩] := congrArg MsgC.drops hc
  have ha : rs.length = 1 := by
    have := congrArg (fun x : MsgC => x.adds.length) hc
    simpa [MsgR.con, wiredM] using this
  obtain ⟨r, rfl⟩ := List.length_eq_one_iff.1 ha
  subst hd
  have hb := Blk.new w1 TM #[.string kd, .int .i64 nn, .slice D 1 dc, .slice A 1 ac]
  have ua := (Upd.refl (fun _ => False) w1).alloc (.cells #[.string kd, .int .i64 nn, .slice D 1 dc, .slice A 1 ac] TM)
  have N := hide (hu.trans_new ua)
  have HB := hide hb
  have ht := wireText_any openM E (w1.alloc (.cells #[.string kd, .int .i64 nn, .slice D 1 dc, .slice A 1 ac] TM)) (HT.out.new N.out) (HE.out.new N.out) (open_ok _) (fun i r h => by simp [openM] at h) (by decide) (by decide)
  rw [open_t] at ht
  have Ht : Hid (Calls Tryz.prog 7 #[.agg #[.string ⟨#[111, 112, 101, 110]⟩, .int .i64 5, .slice none 0 0, .slice none 0 0]] (w1.alloc (.cells #[.string kd, .int .i64 nn, .slice D 1 dc, .slice A 1 ac] TM)) fun e w2 => ∃ v, e = .returned (.tuple #[.string ⟨#[111, 112, 101, 110, 32, 53, 10]⟩, v]) ∧ ErrV w2 E v (checkC openM).1 (checkC openM).2 ∧ New (w1.alloc (.cells #[.string kd, .int .i64 nn, .slice D 1 dc, .slice A 1 ac] TM)) w2) := hide ht
  clear hv hc hok hu ha ua hb ht
  unfold MsgR.cells
  dsimp only [List.length_cons, List.length_nil]
  go_upto_region 2 with (fail)
  generalize w1.alloc (.cells #[.string kd, .int .i64 nn, .slice D 1 dc, .slice A 1 ac] TM) = W at *
  generalize w1.heap.size = X at *
  go_wp2_with fail
  refine Ht.out.mono ?_
  rintro e w2 ⟨v, rfl, hv, hu⟩
  obtain rfl : v = .nilIface := errV_nil9 hv open_c
  have bq := HB.out.new_ hu
  have c2 := bq.cell 2
  have c3 := bq.cell 3
  have zz := bq.lt
  simp only [List.getElem?_toArray, List.getElem?_cons_zero, List.getElem?_cons_succ] at c2 c3
  have N := hide (N.out.trans_new hu)
  clear bq hu hv
  go_wp2_with fail
  go_ret
  exact ⟨rfl, N.out⟩
end Go.Proofs.YtjgecmkfgeajiaaGreatDoor

namespace Go.Proofs.YtjgecmkfgeajiaaGreatDoor
open Go.RowKit

theorem pfs_ne {ps qs : List Pf} {j : Nat} {p q : Pf} (hp : ps[j]? = some p) (hq : qs[j]? = some q) (h : (p.a == q.a && p.n == q.n) = false) : decide (ps = qs) = false := by
  refine decide_eq_false fun hs => ?_
  subst hs
  rw [hp] at hq
  injection hq with hq
  subst hq
  simp at h
theorem pfs_eq {ps qs : List Pf} (hl : ps.length = qs.length) (h : ∀ (i : Nat) p q, i < ps.length → ps[i]? = some p → qs[i]? = some q → p = q) : decide (ps = qs) = true := by
  refine decide_eq_true (List.ext_getElem? fun i => ?_)
  by_cases hi : i < ps.length
  · have h1 : ps[i]? = some ps[i] := List.getElem?_eq_getElem hi
    have h2 : qs[i]? = some (qs[i]'(by omega)) := List.getElem?_eq_getElem (by omega)
    rw [h1, h2, h i _ _ hi h1 h2]
  · rw [List.getElem?_eq_none (by omega), List.getElem?_eq_none (by omega)]

set_option maxRecDepth 8000 in
set_option maxHeartbeats 1000000 in
theorem samePfs_any (A B : Option Addr) (n m c d : Nat) (ps qs : List Pf) (w : World) (hx : Pfs w A ps) (hy : Pfs w B qs) (hn : ps.length = n) (hm : qs.length = m) (hl : n ≤ 4294967296) (hl2 : m ≤ 4294967296) :
    Calls Tryz.prog 29 #[.slice A n c, .slice B m d] w fun e w1 => e = .returned (.bool (decide (ps = qs))) ∧ New w w1 := by
  have Hx := hide hx
  have Hy := hide hy
  have Hn := hide hn
  have Hm := hide hm
  clear hx hy hn hm
  by_cases hnm : n = m
  · subst hnm
    have g1 := guard_pfx
    have g3 := neq_pfx
    go_enter Tryz.func29, Tryz.ntmps29
    go_wp2_with fail
    go_loopw [5] (fun i wr => ∃ k : Nat, k ≤ n ∧ i = .int .i64 k ∧ New w wr ∧ ∀ (i : Nat) r s, i < k → ps[i]? = some r → qs[i]? = some s → r = s) (fun i _ => n - (intOf i).toNat)
    case atStart => exact ⟨0, by omega, rfl, Upd.refl _ _, fun j r s h => absurd h (by omega)⟩
    case round =>
      obtain ⟨k, hk, rfl, hnew, hz⟩ := hrel
      have Hz := hide hz
      have Hnew := hide hnew
      clear hz
      by_cases hlt : k < n
      · obtain ⟨b, o, r, hA, hb, hr, q0, q1⟩ := (Hx.out.new_ hnew).at_ (k := k) (by have := Hn.out; omega)
        obtain ⟨b2, o2, s, hB, hb2, hs, p0, p1⟩ := (Hy.out.new_ hnew).at_ (k := k) (by have := Hm.out; omega)
        subst hA; subst hB
        have Hr := hide hr
        have Hs2 := hide hs
        have i1 : (k : Int) < (n : Int) := by omega
        clear hr hs hnew
        obtain ⟨wo, rfl⟩ : ∃ wo : World, wo = wr := ⟨_, rfl⟩
        cases h1 : (r.a == s.a && r.n == s.n) with
        | false =>
          have Hne := hide (pfs_ne Hr.out Hs2.out h1)
          go_upto_region 6 with (fail)
          refine wp_region_new wo (Upd.refl _ _) (by kernel_rfl) (by kernel_rfl) ?_
          repeat (go_big_quiet_step (fail))
          refine wpQuiet_nil ?_
          rintro _ ⟨nq2, rfl⟩
          go_wp2_with fail
          go_ret
          exact ⟨ret_bool Hne.out.symm, Hnew.out.trans_new nq2.h⟩
        | true =>
          have He := hide (show r = s by
            simp at h1
            obtain ⟨a, n⟩ := r
            obtain ⟨b, m⟩ := s
            obtain ⟨rfl, rfl⟩ := h1
            rfl)
          go_upto_region 6 with (fail)
          refine wp_region_new wo (Upd.refl _ _) (by kernel_rfl) (by kernel_rfl) ?_
          repeat (go_big_quiet_step (fail))
          refine wpQuiet_nil ?_
          rintro _ ⟨nq2, rfl⟩
          go_wp2_with fail
          refine ⟨⟨k + 1, by omega, by go_num, Hnew.out.trans_new nq2.h, fun i x y hi hx hy => ?_⟩, by simp [intOf]; omega⟩
          by_cases hij : i < k
          · exact Hz.out i x y hij hx hy
          · obtain rfl : i = k := by omega
            rw [Hr.out] at hx; injection hx with hx; subst hx
            rw [Hs2.out] at hy; injection hy with hy; subst hy
            exact He.out
      · have i1 : ¬ (k : Int) < (n : Int) := by omega
        have He := hide (pfs_eq (ps := ps) (qs := qs) (by have := Hn.out; have := Hm.out; omega) fun i r s hi hr hs => Hz.out i r s (by have := Hn.out; omega) hr hs)
        go_wp2_with fail
        go_ret
        exact ⟨ret_bool He.out.symm, Hnew.out⟩
  · have He : Hid (decide (ps = qs) = false) := hide (decide_eq_false fun hs => by
      have := congrArg List.length hs
      have h1 := Hn.out
      have h2 := Hm.out
      exact absurd (by omega) hnm)
    have i1 : ((n : Int) != (m : Int)) = true := by simp; omega
    go_enter Tryz.func29, Tryz.ntmps29
    go_wp2_with fail
    go_ret
    exact ⟨ret_bool He.out.symm, Upd.refl _ _⟩
noncomputable instance msgDec (a b : MsgC) : Decidable (a = b) := Classical.propDecidable _
theorem msg_eqs (k1 k2 : ByteArray) (n1 n2 : Int) (D1 D2 A1 A2 : Option Addr) (dc1 dc2 ac1 ac2 : Nat) (d1 d2 : List Pf) (a1 a2 : List RouteR) :
    decide ((⟨k1, n1, D1, dc1, d1, A1, ac1, a1⟩ : MsgR).con = (⟨k2, n2, D2, dc2, d2, A2, ac2, a2⟩ : MsgR).con) = (decide (k1 = k2) && (decide (n1 = n2) && (decide (d1 = d2) && decide (a1.map RouteR.con = a2.map RouteR.con)))) := by
  have hk : (k1.data.toList = k2.data.toList) ↔ k1 = k2 := ⟨fun h => by rw [← ba_eta k1, ← ba_eta k2, h], fun h => by rw [h]⟩
  rw [Bool.eq_iff_iff]
  simp only [MsgR.con, decide_eq_true_eq, Bool.and_eq_true, MsgC.mk.injEq, hk]

set_option maxRecDepth 8000 in
set_option maxHeartbeats 2000000 in
theorem sameMsg_any (m m2 : MsgR) (w : World) (hm : MsgOk w m) (h2 : MsgOk w m2) (hs : Short m) (hs2 : Short m2) (hl : m.drops.length ≤ 100000) (hl2 : m2.drops.length ≤ 100000) (hl3 : m.adds.length ≤ 100000) (hl4 : m2.adds.length ≤ 100000) :
    Calls Tryz.prog 10 #[.agg m.cells, .agg m2.cells] w fun e w1 => e = .returned (.bool (decide (m.con = m2.con))) ∧ New w w1 := by
  have u := ((Upd.refl (fun _ => False) w).alloc (.cells m.cells TM)).alloc (.cells m2.cells TM)
  have b0 := (Blk.new w TM m.cells).alloc (.cells m2.cells TM)
  have b1 := Blk.at_ (w.alloc (.cells m.cells TM)) TM m2.cells (w.heap.size + 1) (by simp)
  have Hu := hide u
  have HA := hide (hm.new_ u)
  have HB := hide (h2.new_ u)
  have Hb0 := hide b0
  have Hb1 := hide b1
  have Hs := hide hs
  have Hs2 := hide hs2
  have HL := hide (And.intro hl (And.intro hl2 (And.intro hl3 hl4)))
  clear u b0 b1 hm h2 hs hs2 hl hl2 hl3 hl4
  obtain ⟨k1, n1, D1, dc1, d1s, A1, ac1, a1s⟩ := m
  obtain ⟨k2, n2, D2, dc2, d2s, A2, ac2, a2s⟩ := m2
  have hc : decide ((⟨k1, n1, D1, dc1, d1s, A1, ac1, a1s⟩ : MsgR).con = (⟨k2, n2, D2, dc2, d2s, A2, ac2, a2s⟩ : MsgR).con) = (decide (k1 = k2) && (decide (n1 = n2) && (decide (d1s = d2s) && decide (a1s.map RouteR.con = a2s.map RouteR.con)))) := msg_eqs ..
  rw [hc]
  clear hc
  obtain ⟨R, hR⟩ : ∃ R, R = (decide (k1 = k2) && (decide (n1 = n2) && (decide (d1s = d2s) && decide (a1s.map RouteR.con = a2s.map RouteR.con)))) := ⟨_, rfl⟩
  rw [← hR]
  have HR := hide hR
  clear hR
  unfold MsgR.cells at *
  go_enter Tryz.func10, Tryz.ntmps10
  go_upto_region 1 with (fail)
  generalize ((w.alloc (.cells #[.string k1, .int .i64 n1, .slice D1 d1s.length dc1, .slice A1 a1s.length ac1] TM)).alloc (.cells #[.string k2, .int .i64 n2, .slice D2 d2s.length dc2, .slice A2 a2s.length ac2] TM)) = W at *
  have c0 := Hb0.out.cell 0
  have c1 := Hb0.out.cell 1
  have c2 := Hb0.out.cell 2
  have c3 := Hb0.out.cell 3
  have d0 := Hb1.out.cell 0
  have d1 := Hb1.out.cell 1
  have d2 := Hb1.out.cell 2
  have d3 := Hb1.out.cell 3
  have z0 := Hb0.out.lt
  have z1 := Hb1.out.lt
  simp only [List.getElem?_toArray, List.getElem?_cons_zero, List.getElem?_cons_succ] at c0 c1 c2 c3 d0 d1 d2 d3
  have Hp := hide (fun w' (nw : New W w') => samePfs_any D1 D2 _ _ dc1 dc2 d1s d2s w' (HA.out.drops.new_ nw) (HB.out.drops.new_ nw) rfl rfl (by have := HL.out.1; dsimp only at this; omega) (by have := HL.out.2.1; dsimp only at this; omega))
  have Hr := hide (fun w' (nw : New W w') => sameRoutes_any A1 A2 _ _ ac1 ac2 a1s a2s w' (HA.out.adds.new_ nw) (HB.out.adds.new_ nw) rfl rfl (by have := HL.out.2.2.1; dsimp only at this; omega) (by have := HL.out.2.2.2; dsimp only at this; omega) Hs.out Hs2.out)
  have hkk : (k1.toList == k2.toList) = decide (k1 = k2) := by
    have tl : ∀ x : List UInt8, (⟨x.toArray⟩ : ByteArray).toList = x := fun x => by simp
    have e : ∀ k : ByteArray, k.toList = k.data.toList := fun k => by
      have h := tl k.data.toList
      rwa [ba_eta] at h
    rw [Bool.eq_iff_iff, beq_iff_eq, decide_eq_true_eq, e, e]
    exact ⟨fun h => by rw [← ba_eta k1, ← ba_eta k2, h], fun h => by rw [h]⟩
  by_cases hk : k1 = k2
  rotate_left
  · rw [decide_eq_false hk] at hkk HR
    clear hk
    refine wp_region_seq W (Upd.refl _ _) ?_
    repeat (go_big_quiet_step (fail))
    refine wpQuiet_nil ?_
    rintro _ ⟨nq, rfl⟩
    go_wp2_with fail
    go_ret
    exact ⟨ret_bool HR.out.symm, Hu.out.trans_new nq.h⟩
  rw [decide_eq_true hk] at hkk HR
  clear hk
  by_cases hn : n1 = n2
  rotate_left
  · rw [decide_eq_false hn] at HR
    have hn2 : (n1 == n2) = false := beq_eq_false_iff_ne.2 hn
    clear hn
    refine wp_region_seq W (Upd.refl _ _) ?_
    repeat (go_big_quiet_step (fail))
    refine wpQuiet_nil ?_
    rintro _ ⟨nq, rfl⟩
    go_wp2_with fail
    go_ret
    exact ⟨ret_bool HR.out.symm, Hu.out.trans_new nq.h⟩
  subst hn
  rw [decide_eq_true rfl] at HR
  obtain ⟨bp, hbp⟩ : ∃ b, b = decide (d1s = d2s) := ⟨_, rfl⟩
  obtain ⟨br, hbr⟩ : ∃ b, b = decide (a1s.map RouteR.con = a2s.map RouteR.con) := ⟨_, rfl⟩
  rw [← hbp] at Hp HR
  rw [← hbr] at Hr HR
  clear hbp hbr
  cases bp with
  | false =>
    refine wp_region_seq W (Upd.refl _ _) ?_
    repeat (go_big_quiet_step ((go_at_call 29; exact new_call (Hp.out _ (NewW.h _)))))
    refine wpQuiet_nil ?_
    rintro _ ⟨nq, rfl⟩
    go_wp2_with fail
    go_ret
    exact ⟨ret_bool HR.out.symm, Hu.out.trans_new nq.h⟩
  | true =>
    refine wp_region_seq W (Upd.refl _ _) ?_
    repeat (go_big_quiet_step (first
      | (go_at_call 29; exact new_call (Hp.out _ (NewW.h _)))
      | (go_at_call 30; exact new_call (Hr.out _ (NewW.h _)))))
    refine wpQuiet_nil ?_
    rintro _ ⟨nq, rfl⟩
    go_wp2_with fail
    go_ret
    exact ⟨ret_bool HR.out.symm, Hu.out.trans_new nq.h⟩
end Go.Proofs.YtjgecmkfgeajiaaGreatDoor
