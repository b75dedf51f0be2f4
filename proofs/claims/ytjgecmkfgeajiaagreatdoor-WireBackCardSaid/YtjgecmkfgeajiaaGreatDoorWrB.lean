/- The law WireBack walked: what is right is read as it was written; a route that is told wrongly is lost. No condition but those that stand in each theorem. -/
import Derived.Test.YtjgecmkfgeajiaaGreatDoorWrW
import Derived.Test.YtjgecmkfgeajiaaGreatDoorSm3
import Derived.Test.YtjgecmkfgeajiaaGreatDoorRuC
namespace Go.Proofs.YtjgecmkfgeajiaaGreatDoor
open Go.RowKit

theorem split_at_ {α : Type} {l : List α} {a : Nat} (h : a < l.length) : ∃ l1 r l2, l = l1 ++ r :: l2 ∧ l1.length = a ∧ l[a]? = some r := by
  refine ⟨l.take a, l[a], l.drop (a + 1), ?_, by rw [List.length_take]; omega, List.getElem?_eq_getElem h⟩
  have e := List.drop_eq_getElem_cons h
  rw [← e, List.take_append_drop]
theorem altT_two (ds : List Pf) (k : Nat) (z : List UInt8) (l : List RtC) : altT ds k z l = ((kNews ++ [10]) ++ dropsT ds) ++ altA k z l := rfl
theorem kind_news {m : MsgR} (h : (checkC m).1 = 0) (ha : 0 < m.adds.length) : m.kind.data.toList = kNews := by
  have h3 : kindN m.kind = 3 := by
    unfold checkC at h
    split at h
    · cases h
    · split at h
      · cases h
      · split at h
        · cases h
        · split at h
          · cases h
          · rename_i h5
            exact Classical.byContradiction fun hn => h5 ⟨hn, by omega⟩
  exact (kind_word (s := m.kind)).2.2.1 h3
theorem altA_len (k : Nat) (z : List UInt8) : ∀ n : Nat, ∀ l : List RtC, l.length = n → (∀ r ∈ l, chk r.a r.n = 0) → (altA k z l).length ≤ (2000 + z.length) * n
  | 0, l, h, _ => by rw [List.length_eq_zero_iff.1 h]; simp [altA]
  | n + 1, l, h, hc => by
    obtain ⟨l', x, rfl⟩ : ∃ l' x, l = l' ++ [x] := ⟨l.dropLast, l.getLast (by intro e; rw [e] at h; cases h), (List.dropLast_concat_getLast _).symm⟩
    rw [List.length_append, List.length_singleton] at h
    have ih := altA_len k z n l' (by omega) fun r hr => hc r (by simp [hr])
    have pl := prefT_len x.a x.n (hc x (by simp))
    have al := attrX_len x.at_
    have e3 : (badL x z).length = (prefT x.a x.n).length + z.length + 3 := by
      unfold badL
      simp
      omega
    have e4 : (addL x).length = (prefT x.a x.n).length + (attrX x.at_).length + 3 := by
      unfold addL
      simp
      omega
    rw [altA_snoc, List.length_append, List.length_append, List.length_singleton, Nat.mul_succ]
    split <;> omega
theorem skip_at {α : Type} {l1 l2 : List α} {r : α} (k : Nat) : (l1 ++ l2)[k]? = (l1 ++ r :: l2)[if k < l1.length then k else k + 1]? := by
  split
  · rename_i h
    rw [List.getElem?_append_left h, List.getElem?_append_left h]
  · rename_i h
    rw [List.getElem?_append_right (by omega), List.getElem?_append_right (by omega), show k + 1 - l1.length = (k - l1.length) + 1 by omega, List.getElem?_cons_succ]
theorem pf_same {x y : RouteR} (h : x.con = y.con) : (y.a == x.a && y.n == x.n) = true := by
  have e1 : x.a = y.a := congrArg RtC.a h
  have e2 : x.n = y.n := congrArg RtC.n h
  rw [e1, e2]
  simp
theorem at_con_len {x y : RouteR} (h : x.con = y.con) (hg : (attrC x.at_).1 = 0) : y.at_.path.length ≤ 1000 ∧ y.at_.tags.length ≤ 1000 := by
  have e1 : x.at_.path = y.at_.path := congrArg (fun z : RtC => z.at_.path) h
  have e2 : x.at_.tags = y.at_.tags := congrArg (fun z : RtC => z.at_.tags) h
  rw [← e1, ← e2]
  exact goodA_short hg
theorem lost_step (l : List Pf) (x : RouteR) (p : Pf) : decide (rcPf x.con ∈ l ++ (some p).toList) = (decide (rcPf x.con ∈ l) || (p.a == x.a && p.n == x.n)) := by
  have e : (p.a == x.a && p.n == x.n) = decide (rcPf x.con = p) := by
    rw [Bool.eq_iff_iff, Bool.and_eq_true, beq_iff_eq, beq_iff_eq, decide_eq_true_eq]
    exact ⟨fun h => by
      obtain ⟨a, n⟩ := p
      obtain ⟨h1, h2⟩ := h
      have h1 : a = x.a := h1
      have h2 : n = x.n := h2
      rw [h1, h2]
      rfl, fun h => ⟨(congrArg Pf.a h).symm, (congrArg Pf.n h).symm⟩⟩
  rw [e, Bool.eq_iff_iff]
  simp
theorem drop_app2 (x y : List UInt8) : ((((⟨x.toArray⟩ : ByteArray) ++ ⟨#[45, 32]⟩) ++ ⟨y.toArray⟩) ++ ⟨#[10]⟩) = ⟨(x ++ (45 :: 32 :: (y ++ [10]))).toArray⟩ := by
  rw [← drop_app]
  apply ByteArray.ext
  simp
theorem bad_app2 (x y z : List UInt8) : ((((((⟨x.toArray⟩ : ByteArray) ++ ⟨#[43, 32]⟩) ++ ⟨y.toArray⟩) ++ ⟨#[32]⟩) ++ ⟨z.toArray⟩) ++ ⟨#[10]⟩) = ⟨(x ++ ((43 :: 32 :: (y ++ 32 :: z)) ++ [10])).toArray⟩ := by
  have e := add_app x y z
  rw [show x ++ ((43 :: 32 :: (y ++ 32 :: z)) ++ [10]) = x ++ (43 :: 32 :: (y ++ 32 :: (z ++ [10]))) by simp, ← e]
  apply ByteArray.ext
  simp

set_option maxRecDepth 20000 in
set_option maxHeartbeats 20000000 in
theorem wireBack_any (m : MsgR) (j : Int) (bad : ByteArray) (E : Nat → Addr) (w : World) (ht : TxtOk w) (he : WEs w E) (hm : MsgOk w m) :
    Calls Tryz.prog 3 #[.agg m.cells, .int .i64 j, .string bad] w fun e w1 => e = .returned (.bool true) ∧ New w w1 := by
  have u := (Upd.refl (fun _ => False) w).alloc (.cells m.cells TM)
  have HT := hide (ht.new u)
  have HE := hide (he.new u)
  have HM := hide (hm.new_ u)
  have HX := hide (Blk.new w TM m.cells)
  have N := hide u
  obtain ⟨M, hMd⟩ : ∃ M, M = m := ⟨_, rfl⟩
  have HMd := hide hMd
  have HM : Hid (MsgOk (w.alloc (.cells m.cells TM)) M) := hide (by rw [hMd]; exact hm.new_ u)
  have Hlm := hide (fun w' (hu : New (w.alloc (.cells m.cells TM)) w') => longMsg_any M w' (HM.out.new_ hu))
  have Hno := hide (fun h => longM_no (m := M) h)
  have Hl1 := hide (fun h => longMN_1 (m := M) h)
  have Hl0 := hide (fun h => longMN_0 (m := M) h)
  clear ht he hm u hMd
  obtain ⟨kd, nn, D, dc, ds, A, ac, rs⟩ := m
  have Hlm : Hid (∀ w', New (w.alloc (.cells #[.string kd, .int .i64 nn, .slice D ds.length dc, .slice A rs.length ac] TM)) w' → Calls Tryz.prog 6 #[.agg #[.string kd, .int .i64 nn, .slice D ds.length dc, .slice A rs.length ac]] w' fun e w1 => e = .returned (.int .i64 (longMN M)) ∧ New w' w1) := by
    have h := Hlm.out
    rw [HMd.out] at h ⊢
    exact h
  unfold MsgR.cells at *
  dsimp only at *
  go_enter Tryz.func3, Tryz.ntmps3
  go_upto_region 1 with (fail)
  have U := hide (Upd.refl (fun _ => False) (w.alloc (.cells #[.string kd, .int .i64 nn, .slice D ds.length dc, .slice A rs.length ac] TM)))
  generalize w.alloc (.cells #[.string kd, .int .i64 nn, .slice D ds.length dc, .slice A rs.length ac] TM) = W at *
  generalize w.heap.size = X at *
  have Hwd := hide (wired_any E W HT.out HE.out)
  go_wp2_with fail
  refine Hwd.out.mono ?_
  rintro e w1 ⟨rfl, hu⟩
  have U := hide (U.out.trans_new hu)
  clear hu Hwd
  have bq := HX.out.new_ U.out
  have x0 := bq.cell 0
  have x1 := bq.cell 1
  have x2 := bq.cell 2
  have x3 := bq.cell 3
  have xz := bq.lt
  simp only [List.getElem?_toArray, List.getElem?_cons_zero, List.getElem?_cons_succ] at x0 x1 x2 x3
  clear bq
  have Hlw := hide (Hlm.out w1 U.out)
  obtain ⟨Z, hZ⟩ : ∃ Z, Z = longMN M := ⟨_, rfl⟩
  rw [← hZ] at Hlw Hl1 Hl0
  clear hZ Hlm
  go_upto_region 2 with (fail)
  cases hL : longM M with
  | true =>
    obtain rfl : Z = 1 := Hl1.out hL
    clear hL
    go_wp2_with fail
    refine Hlw.out.mono ?_
    rintro e w2 ⟨rfl, hu⟩
    have U := hide (U.out.trans_new hu)
    clear hu
    go_wp2_with fail
    go_ret
    exact ⟨rfl, N.out.trans_new U.out⟩
  | false =>
  obtain rfl : Z = 0 := Hl0.out hL
  have Hno := hide (Hno.out hL)
  clear hL Hl1 Hl0
  by_cases h40 : 40 < bad.size
  · have i40 : (40 : Int) < (bad.size : Int) := by omega
    clear h40
    go_wp2_with fail
    refine Hlw.out.mono ?_
    rintro e w2 ⟨rfl, hu⟩
    have U := hide (U.out.trans_new hu)
    clear hu
    go_wp2_with fail
    go_ret
    exact ⟨rfl, N.out.trans_new U.out⟩
  have i40 : ¬ (40 : Int) < (bad.size : Int) := by omega
  by_cases hj : j < 0
  · clear h40
    go_wp2_with fail
    refine Hlw.out.mono ?_
    rintro e w2 ⟨rfl, hu⟩
    have U := hide (U.out.trans_new hu)
    clear hu
    go_wp2_with fail
    go_ret
    exact ⟨rfl, N.out.trans_new U.out⟩
  have H40 := hide (show bad.size ≤ 40 by omega)
  have Hj := hide (show 0 ≤ j by omega)
  clear h40
  go_wp2_with fail
  refine Hlw.out.mono ?_
  rintro e w2 ⟨rfl, hu⟩
  have U := hide (U.out.trans_new hu)
  clear hu Hlw x0 x1 x2 x3 xz
  have bq := HX.out.new_ U.out
  have x0 := bq.cell 0
  have x1 := bq.cell 1
  have x2 := bq.cell 2
  have x3 := bq.cell 3
  have xz := bq.lt
  simp only [List.getElem?_toArray, List.getElem?_cons_zero, List.getElem?_cons_succ] at x0 x1 x2 x3
  clear bq
  go_upto_region 4 with (fail)
  clear hj i40
  have Hown := hide (ownMsg_any M w2 (HM.out.new_ U.out) Hno.out.2.2 (by have := Hno.out.1; omega) (by have := Hno.out.2.1; omega))
  have Hown : Hid (Calls Tryz.prog 8 #[.agg #[.string kd, .int .i64 nn, .slice D ds.length dc, .slice A rs.length ac]] w2 fun e w1 => ∃ m' : MsgR, e = .returned (.agg m'.cells) ∧ SameM M m' ∧ MsgOk w1 m' ∧ New w2 w1) := by
    have h := Hown.out
    rw [HMd.out] at h ⊢
    exact h
  go_wp2_with fail
  refine Hown.out.mono ?_
  rintro e w3 ⟨m', rfl, hsm, hok', hu⟩
  have U := hide (U.out.trans_new hu)
  have Hwt := wireText_any m' E w3 (HT.out.new U.out) (HE.out.new U.out) hok' (short_con hsm.2.2.2 Hno.out.2.2) (by rw [hsm.2.2.1]; have := Hno.out.1; omega) (by have e := congrArg List.length hsm.2.2.2; rw [List.length_map, List.length_map] at e; rw [e]; have := Hno.out.2.1; omega)
  rw [wTextT_con hsm, check_same hsm] at Hwt
  have Hwt := hide Hwt
  clear hu Hown hok' hsm
  have Hg := hide (fun h => check_good (m := M) h)
  have Hbk := hide (fun h => readM_msgT (m := M) h)
  have Hal := hide (fun h h60 => @readM_alt M h h60)
  have Hwt2 := hide (show wTextT M = if (checkC M).1 = 0 then msgT M.con else [] from rfl)
  obtain ⟨C, hC⟩ : ∃ C, C = checkC M := ⟨_, rfl⟩
  obtain ⟨T, hT⟩ : ∃ T, T = wTextT M := ⟨_, rfl⟩
  rw [← hC, ← hT] at Hwt2 Hwt
  simp only [← hC] at Hg Hbk Hal
  have HC3 := hide hC
  clear hC hT
  unfold MsgR.cells
  obtain ⟨k1, n1, D1, dc1, ds1, A1, ac1, rs1⟩ := m'
  have Hwt : Hid (Calls Tryz.prog 7 #[.agg #[.string k1, .int .i64 n1, .slice D1 ds1.length dc1, .slice A1 rs1.length ac1]] w3 fun e w1 => ∃ v, e = .returned (.tuple #[.string ⟨T.toArray⟩, v]) ∧ ErrV w1 E v C.1 C.2 ∧ New w3 w1) := Hwt
  dsimp only
  clear x0 x1 x2 x3 xz
  go_wp2_with fail
  refine Hwt.out.mono ?_
  rintro e w4 ⟨v, rfl, hv, hu⟩
  have U := hide (U.out.trans_new hu)
  clear hu Hwt
  rcases hv.form with ⟨hk, hk2, rfl⟩ | ⟨hk, tv, pv, rfl⟩
  rotate_left
  · have hw := Hwt2.out
    rw [if_neg hk] at hw
    subst hw
    clear hk hv
    go_wp2_with fail
    go_ret
    exact ⟨rfl, N.out.trans_new U.out⟩
  have hw := Hwt2.out
  rw [if_pos hk] at hw
  have Hw := hide hw
  have HK := hide hk
  clear hk hk2 hv hw Hwt2
  by_cases hl : 7800 < T.length
  · have il : (7800 : Int) < (T.length : Int) := by omega
    clear hl
    go_wp2_with fail
    go_ret
    exact ⟨rfl, N.out.trans_new U.out⟩
  have il : ¬ (7800 : Int) < (T.length : Int) := by omega
  have HTl := hide (show T.length ≤ 7800 by omega)
  have Hrd := wireRead_any ⟨T.toArray⟩ E w4 (HT.out.new U.out) (HE.out.new U.out) (by show T.toArray.size ≤ _; simp; omega)
  have Hrd : Calls Tryz.prog 9 #[.string ⟨T.toArray⟩] w4 (MReadPost E (readM T) w4) := Hrd
  rw [show readM T = ((0, -1), M.con) by rw [Hw.out]; exact Hbk.out HK.out (by rw [← Hw.out]; omega)] at Hrd
  have Hrd := hide Hrd
  clear hl Hbk
  go_wp2_with fail
  refine Hrd.out.mono ?_
  rintro e w5 ⟨m2, v2, rfl, hv2, hc2, hok2, hu⟩
  obtain rfl : v2 = .nilIface := errV_nil9 hv2 rfl
  have hc2 : m2.con = M.con := hc2
  have U := hide (U.out.trans_new hu)
  have hsh2 := short_con (m := M) (m' := m2) (congrArg MsgC.adds hc2) Hno.out.2.2
  obtain ⟨k2, n2, D2, dc2, ds2, A2, ac2, rs2⟩ := m2
  have hd2 : ds2 = M.drops := congrArg MsgC.drops hc2
  have hr2 : rs2.length = M.adds.length := by
    have := congrArg (fun x : MsgC => x.adds.length) hc2
    simpa [MsgR.con] using this
  have ua := (Upd.refl (fun _ => False) w5).alloc (.cells #[.string k2, .int .i64 n2, .slice D2 ds2.length dc2, .slice A2 rs2.length ac2] TM)
  have HY := hide (Blk.new w5 TM #[.string k2, .int .i64 n2, .slice D2 ds2.length dc2, .slice A2 rs2.length ac2])
  have U := hide (U.out.trans_new ua)
  have Hsm := sameMsg_any ⟨k2, n2, D2, dc2, ds2, A2, ac2, rs2⟩ M _ (hok2.new_ ua) (HM.out.new_ U.out) hsh2 Hno.out.2.2 (by show ds2.length ≤ _; rw [hd2]; have := Hno.out.1; omega) (by have := Hno.out.1; omega) (by show rs2.length ≤ _; rw [hr2]; have := Hno.out.2.1; omega) (by have := Hno.out.2.1; omega)
  rw [decide_eq_true hc2] at Hsm
  have Hsm := hide Hsm
  have Hsm : Hid (Calls Tryz.prog 10 #[.agg #[.string k2, .int .i64 n2, .slice D2 ds2.length dc2, .slice A2 rs2.length ac2], .agg #[.string kd, .int .i64 nn, .slice D ds.length dc, .slice A rs.length ac]] (w5.alloc (.cells #[.string k2, .int .i64 n2, .slice D2 ds2.length dc2, .slice A2 rs2.length ac2] TM)) fun e w1 => e = .returned (.bool true) ∧ New (w5.alloc (.cells #[.string k2, .int .i64 n2, .slice D2 ds2.length dc2, .slice A2 rs2.length ac2] TM)) w1) := by
    have h := Hsm.out
    rw [HMd.out] at h
    exact h
  clear hv2 hc2 hok2 hu hsh2 hd2 hr2 ua Hrd
  unfold MsgR.cells
  dsimp only
  go_upto_region 8 with (fail)
  generalize w5.alloc (.cells #[.string k2, .int .i64 n2, .slice D2 ds2.length dc2, .slice A2 rs2.length ac2] TM) = w6 at *
  generalize w5.heap.size = Y at *
  have bq := HX.out.new_ U.out
  have x0 := bq.cell 0
  have x1 := bq.cell 1
  have x2 := bq.cell 2
  have x3 := bq.cell 3
  have xz := bq.lt
  simp only [List.getElem?_toArray, List.getElem?_cons_zero, List.getElem?_cons_succ] at x0 x1 x2 x3
  clear bq
  have bq := HY.out
  have y0 := bq.cell 0
  have y1 := bq.cell 1
  have y2 := bq.cell 2
  have y3 := bq.cell 3
  have yz := bq.lt
  simp only [List.getElem?_toArray, List.getElem?_cons_zero, List.getElem?_cons_succ] at y0 y1 y2 y3
  clear bq
  go_wp2_with fail
  refine Hsm.out.mono ?_
  rintro e w7 ⟨rfl, hu⟩
  have U := hide (U.out.trans_new hu)
  clear hu Hsm x0 x1 x2 x3 xz y0 y1 y2 y3 yz HY
  go_wp2_with fail
  go_loopw [12] (fun iv wz => ∃ k : Nat, k ≤ bad.size ∧ iv = .int .i64 k ∧ w7 = wz ∧ ∀ i c, i < k → bad.data.toList[i]? = some c → c ≠ 10) (fun iv _ => bad.size - (intOf iv).toNat)
  case atStart => exact ⟨0, by omega, rfl, rfl, fun i c h => absurd h (by omega)⟩
  case round =>
  obtain ⟨k, hk, rfl, rfl, hno⟩ := hrel
  have Hk := hide hno
  clear hno
  by_cases hlt : k < bad.size
  · have i6 : (k : Int) < (bad.size : Int) := by omega
    obtain ⟨c, hc, hc1⟩ := byte_at bad k hlt
    by_cases hq : c.toNat = 10
    · have j1 : ((c.toNat : Int) == 10) = true := by rw [beq_iff_eq]; omega
      clear hc1 hq
      go_wp2_with fail
      go_ret
      exact ⟨rfl, N.out.trans_new U.out⟩
    · have j1 : ((c.toNat : Int) == 10) = false := by rw [beq_eq_false_iff_ne]; omega
      have Hc1 := hide (And.intro hc1 hq)
      clear hc1 hq
      go_wp2_with fail
      refine ⟨⟨k + 1, by omega, by go_num, trivial, fun i x hi hx => ?_⟩, by simp [intOf]; omega⟩
      by_cases hik : i < k
      · exact Hk.out i x hik hx
      · obtain rfl : i = k := by omega
        rw [Hc1.out.1] at hx
        injection hx with hx
        subst hx
        intro e
        exact Hc1.out.2 (by rw [e]; rfl)
  obtain rfl : k = bad.size := by omega
  have i6 : ¬ (bad.size : Int) < (bad.size : Int) := by omega
  have H10 := hide (show (10 : UInt8) ∉ bad.data.toList from fun hm => by
    obtain ⟨i, hi, he⟩ := List.getElem_of_mem hm
    have hi2 : i < bad.size := by simpa using hi
    exact Hk.out i _ hi2 (List.getElem?_eq_getElem hi) he)
  clear Hk hlt hk
  have Har := attrRead_any bad E w7 (HT.out.new U.out) (HE.out.new U.out).s1 (HE.out.new U.out).s2 (HE.out.new U.out).s7 (HE.out.new U.out).s8 (by have := H40.out; omega)
  obtain ⟨K, hK⟩ : ∃ K, K = (readT bad.data.toList).1 := ⟨_, rfl⟩
  have Har : Calls Tryz.prog 11 #[.string bad] w7 fun e w1 => ∃ a' : AttrR, e = .returned (.tuple #[.agg a'.cells, errc E K]) ∧ New w7 w1 := by
    rw [hK]
    exact Har.mono fun e w1 ⟨a', he, _, _, _, hu⟩ => ⟨a', he, hu⟩
  have Har := hide Har
  have HK2 := hide hK
  clear hK
  go_wp2_with fail
  refine Har.out.mono ?_
  rintro e w8 ⟨a', rfl, hu⟩
  have U := hide (U.out.trans_new hu)
  clear hu Har i6
  unfold AttrR.cells
  go_upto_region 17 with (fail)
  have U := hide (U.out.trans_new ((Upd.refl (fun _ => False) w8).alloc (.cells #[.slice a'.P a'.path.length a'.pc, .int .i64 a'.pref, .int .i64 a'.med, .int .i64 a'.origin, .slice a'.T a'.tags.length a'.tc] TA)))
  generalize w8.alloc (.cells #[.slice a'.P a'.path.length a'.pc, .int .i64 a'.pref, .int .i64 a'.med, .int .i64 a'.origin, .slice a'.T a'.tags.length a'.tc] TA) = w9 at *
  generalize w8.heap.size = Z9 at *
  have bq := HX.out.new_ U.out
  have x0 := bq.cell 0
  have x1 := bq.cell 1
  have x2 := bq.cell 2
  have x3 := bq.cell 3
  have xz := bq.lt
  simp only [List.getElem?_toArray, List.getElem?_cons_zero, List.getElem?_cons_succ] at x0 x1 x2 x3
  clear bq
  by_cases hK0 : K = 0
  · have hx : errc E K = .nilIface := by rw [hK0]; rfl
    rw [hx]
    clear hx hK0
    by_cases hat : (rs.length : Int) ≤ j
    · go_wp2_with fail
      go_ret
      exact ⟨rfl, N.out.trans_new U.out⟩
    · go_wp2_with fail
      go_ret
      exact ⟨rfl, N.out.trans_new U.out⟩
  have hx : errc E K = errv (E K) := if_neg hK0
  rw [hx]
  unfold errv
  have HK0 := hide (show (readT bad.data.toList).1 ≠ 0 by rw [← HK2.out]; exact hK0)
  clear hx hK0
  by_cases hat : (rs.length : Int) ≤ j
  · go_wp2_with fail
    go_ret
    exact ⟨rfl, N.out.trans_new U.out⟩
  by_cases h60 : 60 ≤ ds.length
  · have i60 : (60 : Int) ≤ (ds.length : Int) := by omega
    go_wp2_with fail
    go_ret
    exact ⟨rfl, N.out.trans_new U.out⟩
  have i60 : ¬ (60 : Int) ≤ (ds.length : Int) := by omega
  have H60 := hide (show ds.length < 60 by omega)
  have hMd2 := HMd.out
  have HP : Hid (Pfs W D ds) := hide (by have := HM.out.drops; rw [hMd2] at this; exact this)
  have HA : Hid (Rts W A rs) := hide (by have := HM.out.adds; rw [hMd2] at this; exact this)
  have HG := hide (Hg.out HK.out)
  have HG : Hid ((∀ p ∈ ds, chk p.a p.n = 0) ∧ (∀ r ∈ rs, chk r.a r.n = 0 ∧ (attrC r.at_).1 = 0) ∧ ds.length ≤ 60 ∧ rs.length ≤ 60) := hide (by
    have g := HG.out
    rw [hMd2] at g
    exact ⟨g.drops, fun r hr => ⟨(g.adds r hr).1, (g.adds r hr).2.1⟩, g.dl, g.al⟩)
  obtain ⟨a, ha⟩ : ∃ a : Nat, (a : Int) = j := ⟨j.toNat, by have := Hj.out; omega⟩
  obtain ⟨l1, r0, l2, hsp, hla, hga⟩ := split_at_ (l := rs.map RouteR.con) (a := a) (by rw [List.length_map]; omega)
  have Ha := hide ha
  have Hsp := hide hsp
  have Hga := hide hga
  have Hla := hide hla
  have HAl := hide (fun hl => Hal.out HK.out (by rw [hMd2]; exact H60.out) (l1 := l1) (l2 := l2) (r := r0) (by rw [hMd2]; exact hsp) HK0.out H10.out hl)
  have Htl := hide (fun hk => altT_len (m := M) hk (k := l1.length) (z := bad.data.toList) (by have := H40.out; simpa using this))
  clear hMd2 h60 ha hsp hla hga Hal Hg
  go_wp2_with fail
  clear i60 hat x0 x1 x2 x3 xz
  go_loopw [15, 16] (fun ov iv wz => ∃ (k : Nat) (S : List UInt8), k ≤ ds.length ∧ iv = .int .i64 k ∧ ov = .string ⟨S.toArray⟩ ∧ S = (kNews ++ [10]) ++ dropsT (ds.take k) ∧ New W wz) (fun _ iv _ => ds.length - (intOf iv).toNat)
  case atStart => exact ⟨0, kNews ++ [10], by omega, rfl, rfl, by simp [dropsT], U.out⟩
  case round =>
  obtain ⟨k, S, hk, rfl, rfl, hS, hu⟩ := hrel
  have HU := hide hu
  have dlen := dropsT_len (ds.take k) (fun q hq => HG.out.1 q (List.mem_of_mem_take hq))
  have hd9 := HG.out.2.2.1
  have hSl : S.length ≤ 31 + 100 * ds.length := by
    rw [hS, List.length_append, List.length_append]
    rw [List.length_take] at dlen
    show 4 + 1 + _ ≤ _
    omega
  have HS := hide hS
  clear hu dlen hS
  by_cases hlt : k < ds.length
  · obtain ⟨b, o, p, hA, hb, hpk, q0, q1⟩ := (HP.out.new_ HU.out).at_ hlt
    subst hA
    have i1 : (k : Int) < (ds.length : Int) := by omega
    have pl := prefT_len p.a p.n (HG.out.1 p (List.mem_of_getElem? hpk))
    have Htk := hide (show dropsT (ds.take (k + 1)) = dropsT (ds.take k) ++ dropT p by
      rw [List.take_add_one, hpk]; exact dropsT_snoc _ _)
    have Htx := hide (text_any p.a p.n E wr (HT.out.new HU.out) (HE.out.new HU.out).s2 (HE.out.new HU.out).s3)
    have Hdr := hide (show dropT p = 45 :: 32 :: (prefT p.a p.n ++ [10]) from rfl)
    generalize prefT p.a p.n = Q at *
    clear hpk
    have b1 : ¬ 9223372036854775807 < S.length + 2 := by omega
    have b2 : ¬ 9223372036854775807 < S.length + 2 + Q.length := by omega
    have b3 : ¬ 9223372036854775807 < S.length + 2 + Q.length + 1 := by omega
    clear pl hSl
    have bq := HX.out.new_ HU.out
    have x0 := bq.cell 0
    have x1 := bq.cell 1
    have x2 := bq.cell 2
    have x3 := bq.cell 3
    have xz := bq.lt
    simp only [List.getElem?_toArray, List.getElem?_cons_zero, List.getElem?_cons_succ] at x0 x1 x2 x3
    clear bq
    go_wp2_with fail
    refine Htx.out.mono ?_
    rintro e w2 ⟨rfl, hu⟩
    have HU := hide (HU.out.trans_new hu)
    clear hu
    go_wp2_with fail
    exact ⟨⟨k + 1, S ++ dropT p, by omega, by go_num, by rw [Hdr.out, drop_app2], by rw [HS.out, Htk.out]; simp only [List.append_assoc], HU.out⟩, by simp [intOf]; omega⟩
  obtain rfl : k = ds.length := by omega
  have i1 : ¬ (ds.length : Int) < (ds.length : Int) := by omega
  have hS := HS.out
  rw [List.take_length] at hS
  have HS := hide hS
  have HSl := hide (show S.length ≤ 7000 by omega)
  clear hd9 hSl hS hk hlt
  have bq := HX.out.new_ HU.out
  have x0 := bq.cell 0
  have x1 := bq.cell 1
  have x2 := bq.cell 2
  have x3 := bq.cell 3
  have xz := bq.lt
  simp only [List.getElem?_toArray, List.getElem?_cons_zero, List.getElem?_cons_succ] at x0 x1 x2 x3
  clear bq
  go_wp2_with fail
  clear x0 x1 x2 x3 xz i1
  obtain ⟨wo, rfl⟩ : ∃ wo : World, wo = wr := ⟨_, rfl⟩
  go_loopw [15, 17] (fun ov iv wz => ∃ (k : Nat) (V : List UInt8), k ≤ rs.length ∧ iv = .int .i64 k ∧ ov = .string ⟨V.toArray⟩ ∧ V = S ++ altA l1.length bad.data.toList ((rs.take k).map RouteR.con) ∧ New W wz) (fun _ iv _ => rs.length - (intOf iv).toNat)
  case atStart => exact ⟨0, S, by omega, rfl, rfl, by simp [altA], HU.out⟩
  case round =>
  obtain ⟨k, V, hk, rfl, rfl, hV, hu⟩ := hrel
  have HU := hide hu
  have alen := altA_len l1.length bad.data.toList k ((rs.take k).map RouteR.con) (by rw [List.length_map, List.length_take]; omega) (fun q hq => by
    obtain ⟨r, hr, rfl⟩ := List.mem_map.1 hq
    exact (HG.out.2.1 r (List.mem_of_mem_take hr)).1)
  have hd9 := HG.out.2.2.2
  have hbs : bad.data.toList.length = bad.size := by simp
  have h40 := H40.out
  have hVl : V.length ≤ 200000 := by
    rw [hV, List.length_append]
    have := HSl.out
    have : (2000 + bad.data.toList.length) * k ≤ 2040 * 60 := Nat.mul_le_mul (by omega) (by omega)
    omega
  have HV := hide hV
  clear hu alen hV
  by_cases hlt : k < rs.length
  · obtain ⟨b, o, r, hA, hb, hrk, hok, q0, q1, q2, q3, q4, q5, q6, q7⟩ := (HA.out.new_ HU.out).at_ hlt
    subst hA
    have i1 : (k : Int) < (rs.length : Int) := by omega
    have hgr := HG.out.2.1 r (List.mem_of_getElem? hrk)
    have pl := prefT_len r.a r.n hgr.1
    have al := attrX_len r.con.at_
    have hax : attrX r.con.at_ = attrT r.at_ := (attrT_con r.at_).symm
    have Htk := hide (show altA l1.length bad.data.toList ((rs.take (k + 1)).map RouteR.con) = altA l1.length bad.data.toList ((rs.take k).map RouteR.con) ++ ((if k = l1.length then badL r.con bad.data.toList else addL r.con) ++ [10]) by
      rw [List.take_add_one, hrk, List.map_append]
      show altA _ _ (_ ++ [r.con]) = _
      rw [altA_snoc, List.length_map, List.length_take, Nat.min_eq_left (by omega)])
    have hsh := goodA_short (a := r.at_) hgr.2
    have Hat := hide (attrText_any r.at_ E wr (HT.out.new HU.out) (HE.out.new HU.out).s2 (HE.out.new HU.out).s7 (HE.out.new HU.out).s8 hok hsh.1 hsh.2)
    have Hat : Hid (Calls Tryz.prog 13 #[.agg #[.slice r.at_.P r.at_.path.length r.at_.pc, .int .i64 r.at_.pref, .int .i64 r.at_.med, .int .i64 r.at_.origin, .slice r.at_.T r.at_.tags.length r.at_.tc]] wr fun e w1 => e = .returned (.string ⟨(attrT r.at_).toArray⟩) ∧ New wr w1) := Hat
    have Htx := hide (fun w' (hu : New wr w') => text_any r.a r.n E w' (HT.out.new (HU.out.trans_new hu)) (HE.out.new (HU.out.trans_new hu)).s2 (HE.out.new (HU.out.trans_new hu)).s3)
    have Hdr := hide (show addL r.con = 43 :: 32 :: (prefT r.a r.n ++ 32 :: attrT r.at_) from by rw [← hax]; rfl)
    have Hbd := hide (show badL r.con bad.data.toList = 43 :: 32 :: (prefT r.a r.n ++ 32 :: bad.data.toList) from rfl)
    rw [hax] at al
    generalize prefT r.a r.n = Q at *
    generalize attrT r.at_ = Z at *
    have HK0 := hide (And.intro q0 (And.intro q1 hb))
    clear hrk hok hgr hax hsh
    have b1 : ¬ 9223372036854775807 < V.length + 2 := by omega
    have b2 : ¬ 9223372036854775807 < V.length + 2 + Q.length := by omega
    have b3 : ¬ 9223372036854775807 < V.length + 2 + Q.length + 1 := by omega
    have b4 : ¬ 9223372036854775807 < V.length + 2 + Q.length + 1 + Z.length := by omega
    have b5 : ¬ 9223372036854775807 < V.length + 2 + Q.length + 1 + Z.length + 1 := by omega
    have b6 : ¬ 9223372036854775807 < V.length + 2 + Q.length + 1 + bad.size := by omega
    have b7 : ¬ 9223372036854775807 < V.length + 2 + Q.length + 1 + bad.size + 1 := by omega
    clear pl hVl al hbs h40
    have bq := HX.out.new_ HU.out
    have x0 := bq.cell 0
    have x1 := bq.cell 1
    have x2 := bq.cell 2
    have x3 := bq.cell 3
    have xz := bq.lt
    simp only [List.getElem?_toArray, List.getElem?_cons_zero, List.getElem?_cons_succ] at x0 x1 x2 x3
    clear bq
    go_wp2_with fail
    refine Hat.out.mono ?_
    rintro e w2 ⟨rfl, hu⟩
    have HU := hide (HU.out.trans_new hu)
    have q0 := (hu.cell HK0.out.2.2 (fun x => x)).trans HK0.out.1
    have q1 := (hu.cell HK0.out.2.2 (fun x => x)).trans HK0.out.2.1
    have Htx := hide (Htx.out w2 hu)
    have hb2 := Nat.lt_of_lt_of_le HK0.out.2.2 hu.size
    clear hu hb q2 q3 q4 q5 q6 q7 x0 x1 x2 x3 xz Hat
    have bq := HX.out.new_ HU.out
    have x0 := bq.cell 0
    have x1 := bq.cell 1
    have x2 := bq.cell 2
    have x3 := bq.cell 3
    have xz := bq.lt
    simp only [List.getElem?_toArray, List.getElem?_cons_zero, List.getElem?_cons_succ] at x0 x1 x2 x3
    clear bq
    by_cases hka : k = l1.length
    · have j1 : ((k : Int) == j) = true := by rw [beq_iff_eq, ← Ha.out, ← Hla.out]; omega
      have HB := hide (show altA l1.length bad.data.toList ((rs.take (k + 1)).map RouteR.con) = altA l1.length bad.data.toList ((rs.take k).map RouteR.con) ++ ((43 :: 32 :: (Q ++ 32 :: bad.data.toList)) ++ [10]) by rw [Htk.out, if_pos hka, Hbd.out])
      clear hka
      go_wp2_with fail
      refine Htx.out.mono ?_
      rintro e w3 ⟨rfl, hu⟩
      have HU := hide (HU.out.trans_new hu)
      clear hu
      go_wp2_with fail
      exact ⟨⟨k + 1, V ++ ((43 :: 32 :: (Q ++ 32 :: bad.data.toList)) ++ [10]), by omega, by go_num, by rw [← bad_app2, ba_eta], by rw [HB.out, HV.out]; simp only [List.append_assoc], HU.out⟩, by simp [intOf]; omega⟩
    · have j1 : ((k : Int) == j) = false := by rw [beq_eq_false_iff_ne, ← Ha.out, ← Hla.out]; omega
      have HB := hide (show altA l1.length bad.data.toList ((rs.take (k + 1)).map RouteR.con) = altA l1.length bad.data.toList ((rs.take k).map RouteR.con) ++ ((43 :: 32 :: (Q ++ 32 :: Z)) ++ [10]) by rw [Htk.out, if_neg hka, Hdr.out])
      clear hka
      go_wp2_with fail
      refine Htx.out.mono ?_
      rintro e w3 ⟨rfl, hu⟩
      have HU := hide (HU.out.trans_new hu)
      clear hu
      go_wp2_with fail
      exact ⟨⟨k + 1, V ++ ((43 :: 32 :: (Q ++ 32 :: Z)) ++ [10]), by omega, by go_num, by rw [← bad_app2], by rw [HB.out, HV.out]; simp only [List.append_assoc], HU.out⟩, by simp [intOf]; omega⟩
  obtain rfl : k = rs.length := by omega
  have i1 : ¬ (rs.length : Int) < (rs.length : Int) := by omega
  have hV := HV.out
  rw [List.take_length] at hV
  have hV2 : V = altT ds l1.length bad.data.toList (rs.map RouteR.con) := by rw [hV, HS.out, altT_two]
  have hMd2 := HMd.out
  have ha1 : 0 < M.adds.length := by
    have := congrArg List.length Hsp.out
    rw [List.length_map, List.length_append, List.length_cons] at this
    rw [hMd2]
    show 0 < rs.length
    omega
  have hl8 : (altT M.drops l1.length bad.data.toList M.con.adds).length ≤ 8000 := by
    have h1 := Htl.out (kind_news (by rw [← HC3.out]; exact HK.out) ha1)
    have h2 := HTl.out
    rw [Hw.out] at h2
    omega
  have hrd := HAl.out hl8
  have hrl := congrArg List.length Hsp.out
  rw [List.length_map, List.length_append, List.length_cons] at hrl
  have Hrl := hide hrl
  have hVs : V.length ≤ 8000 := by rw [hV2]; rw [hMd2] at hl8; exact hl8
  rw [hMd2] at hrd
  have hrd : readM (altT ds l1.length bad.data.toList (rs.map RouteR.con)) = ((0, -1), ⟨kNews, 0, dropIn ds (rcPf r0), l1 ++ l2⟩) ∧ (dropIn ds (rcPf r0)).length = ds.length + 1 ∧ rcPf r0 ∈ dropIn ds (rcPf r0) := hrd
  rw [← hV2] at hrd
  have Hrd := wireRead_any ⟨V.toArray⟩ E wr (HT.out.new HU.out) (HE.out.new HU.out) (by show V.toArray.size ≤ _; simp; omega)
  have Hrd : Calls Tryz.prog 9 #[.string ⟨V.toArray⟩] wr (MReadPost E (readM V) wr) := Hrd
  rw [hrd.1] at Hrd
  have Hrd := hide Hrd
  have Hdi := hide hrd.2
  clear hrd hVs hl8 ha1 hMd2 hV2 hV hVl hd9 h40 hbs hk hlt hrl
  have bq := HX.out.new_ HU.out
  have x0 := bq.cell 0
  have x1 := bq.cell 1
  have x2 := bq.cell 2
  have x3 := bq.cell 3
  have xz := bq.lt
  simp only [List.getElem?_toArray, List.getElem?_cons_zero, List.getElem?_cons_succ] at x0 x1 x2 x3
  clear bq
  go_wp2_with fail
  refine Hrd.out.mono ?_
  rintro e w10 ⟨m3, v3, rfl, hv3, hc3, hok3, hu⟩
  obtain rfl : v3 = .nilIface := errV_nil9 hv3 rfl
  have HU := hide (HU.out.trans_new hu)
  obtain ⟨k3, n3, D3, dc3, ds3, A3, ac3, rs3⟩ := m3
  have hd3 : ds3 = dropIn ds (rcPf r0) := congrArg MsgC.drops hc3
  have hr3 : rs3.map RouteR.con = l1 ++ l2 := congrArg MsgC.adds hc3
  have hl3 : rs3.length + 1 = rs.length := by
    have := congrArg List.length hr3
    rw [List.length_map, List.length_append] at this
    have := Hrl.out
    omega
  have hl4 : ds3.length = ds.length + 1 := by rw [hd3]; exact Hdi.out.1
  have ua := (Upd.refl (fun _ => False) w10).alloc (.cells #[.string k3, .int .i64 n3, .slice D3 ds3.length dc3, .slice A3 rs3.length ac3] TM)
  have HY := hide (Blk.new w10 TM #[.string k3, .int .i64 n3, .slice D3 ds3.length dc3, .slice A3 rs3.length ac3])
  have HU := hide (HU.out.trans_new ua)
  have Hok3 := hide (hok3.new_ ua)
  have Hin := hide (show rcPf r0 ∈ ds3 by rw [hd3]; exact Hdi.out.2)
  have Hr3 := hide hr3
  have Hl3 := hide (And.intro hl3 hl4)
  clear hl3 hl4 hv3 hc3 hok3 hu hd3 hr3 ua Hrd Hdi x0 x1 x2 x3 xz i1
  unfold MsgR.cells
  dsimp only
  go_upto_region 32 with (fail)
  have U := hide (Upd.refl (fun _ => False) (w10.alloc (.cells #[.string k3, .int .i64 n3, .slice D3 ds3.length dc3, .slice A3 rs3.length ac3] TM)))
  generalize w10.alloc (.cells #[.string k3, .int .i64 n3, .slice D3 ds3.length dc3, .slice A3 rs3.length ac3] TM) = w11 at *
  generalize w10.heap.size = Y3 at *
  have g60 := HG.out.2.2.2
  have g61 := HG.out.2.2.1
  have g1 : ((rs3.length : Int) != (rs.length : Int) - 1) = false := by have := Hl3.out.1; simp; omega
  have g2 : ((ds3.length : Int) != (ds.length : Int) + 1) = false := by have := Hl3.out.2; simp; omega
  have bq := HX.out.new_ HU.out
  have x0 := bq.cell 0
  have x1 := bq.cell 1
  have x2 := bq.cell 2
  have x3 := bq.cell 3
  have xz := bq.lt
  simp only [List.getElem?_toArray, List.getElem?_cons_zero, List.getElem?_cons_succ] at x0 x1 x2 x3
  clear bq
  have bq := HY.out
  have y0 := bq.cell 0
  have y1 := bq.cell 1
  have y2 := bq.cell 2
  have y3 := bq.cell 3
  have yz := bq.lt
  simp only [List.getElem?_toArray, List.getElem?_cons_zero, List.getElem?_cons_succ] at y0 y1 y2 y3
  clear bq
  go_wp2_with fail
  clear x0 x1 x2 x3 xz y0 y1 y2 y3 yz g1 g2 g60 g61
  go_loopw [20] (fun iv wz => ∃ k : Nat, k ≤ rs3.length ∧ iv = .int .i64 k ∧ New w11 wz) (fun iv _ => rs3.length - (intOf iv).toNat)
  case atStart => exact ⟨0, by omega, rfl, Upd.refl _ _⟩
  case round =>
  obtain ⟨k, hk, rfl, hu⟩ := hrel
  have HV2 := hide hu
  have HU2 := hide (HU.out.trans_new hu)
  have h60 := HG.out.2.2.2
  have h61 := Hl3.out.1
  clear hu
  by_cases hlt : k < rs3.length
  · have i1 : (k : Int) < (rs3.length : Int) := by omega
    obtain ⟨b3, o3, x3, hA3, hb3, hr3, hok4, p0, p1, p2, p3, p4, p5, p6, p7⟩ := (Hok3.out.adds.new_ HV2.out).at_ hlt
    have hA3 : A3 = some ⟨b3, o3, none⟩ := hA3
    have hr3 : rs3[k]? = some x3 := hr3
    subst hA3
    have hidx := skip_at (l1 := l1) (l2 := l2) (r := r0) k
    rw [← Hr3.out, ← Hsp.out, List.getElem?_map, List.getElem?_map, hr3] at hidx
    obtain ⟨x, hx, hxc⟩ := Option.map_eq_some_iff.1 hidx.symm
    have hxk := (List.getElem?_eq_some_iff.1 hx).1
    by_cases hka : k < l1.length
    · have j1 : ¬ j ≤ (k : Int) := by rw [← Ha.out, ← Hla.out]; omega
      rw [if_pos hka] at hx hxk
      obtain ⟨b, o, y, hA, hb, hry, hoky, q0, q1, q2, q3, q4, q5, q6, q7⟩ := (HA.out.new_ HU2.out).at_ hxk
      obtain rfl : x = y := by rw [hx] at hry; injection hry
      subst hA
      have he := pf_same hxc
      have hsm := fun w' (nw : New wr w') => attrSame_any x3.at_ x.at_ w' (hok4.new_ nw) (hoky.new_ nw) (at_con_len hxc (HG.out.2.1 x (List.mem_of_getElem? hx)).2).1 (at_con_len hxc (HG.out.2.1 x (List.mem_of_getElem? hx)).2).2 (goodA_short (HG.out.2.1 x (List.mem_of_getElem? hx)).2).1 (goodA_short (HG.out.2.1 x (List.mem_of_getElem? hx)).2).2
      rw [decide_eq_true (show x3.at_.con = x.at_.con from (congrArg RtC.at_ hxc).symm)] at hsm
      have Hsm := hide hsm
      have Hsm : Hid (∀ w', New wr w' → Calls Tryz.prog 14 #[.agg #[.slice x3.at_.P x3.at_.path.length x3.at_.pc, .int .i64 x3.at_.pref, .int .i64 x3.at_.med, .int .i64 x3.at_.origin, .slice x3.at_.T x3.at_.tags.length x3.at_.tc], .agg #[.slice x.at_.P x.at_.path.length x.at_.pc, .int .i64 x.at_.pref, .int .i64 x.at_.med, .int .i64 x.at_.origin, .slice x.at_.T x.at_.tags.length x.at_.tc]] w' fun e w1 => e = .returned (.bool true) ∧ New w' w1) := Hsm
      clear hsm hx hidx hxc hry hoky hok4 hr3 hka
      have bq := HX.out.new_ HU2.out
      have x0 := bq.cell 0
      have x1 := bq.cell 1
      have x2 := bq.cell 2
      have x3 := bq.cell 3
      have xz := bq.lt
      simp only [List.getElem?_toArray, List.getElem?_cons_zero, List.getElem?_cons_succ] at x0 x1 x2 x3
      clear bq
      have bq := HY.out.new_ HV2.out
      have y0 := bq.cell 0
      have y1 := bq.cell 1
      have y2 := bq.cell 2
      have y3 := bq.cell 3
      have yz := bq.lt
      simp only [List.getElem?_toArray, List.getElem?_cons_zero, List.getElem?_cons_succ] at y0 y1 y2 y3
      clear bq
      have g1 := guard_pfx
      have g3 := neq_pfx
      go_upto_region 40 with (fail)
      refine wp_region_new wr (Upd.refl _ _) (by kernel_rfl) (by kernel_rfl) ?_
      repeat (go_big_quiet_step ((go_at_call 14; exact new_call (Hsm.out _ (NewW.h _)))))
      refine wpQuiet_nil ?_
      rintro _ ⟨nq, rfl⟩
      go_wp2_with fail
      exact ⟨⟨k + 1, by omega, by go_num, HV2.out.trans_new nq.h⟩, by simp [intOf]; omega⟩
    · have j1 : j ≤ (k : Int) := by rw [← Ha.out, ← Hla.out]; omega
      rw [if_neg hka] at hx hxk
      obtain ⟨b, o, y, hA, hb, hry, hoky, q0, q1, q2, q3, q4, q5, q6, q7⟩ := (HA.out.new_ HU2.out).at_ hxk
      obtain rfl : x = y := by rw [hx] at hry; injection hry
      subst hA
      have he := pf_same hxc
      have hsm := fun w' (nw : New wr w') => attrSame_any x3.at_ x.at_ w' (hok4.new_ nw) (hoky.new_ nw) (at_con_len hxc (HG.out.2.1 x (List.mem_of_getElem? hx)).2).1 (at_con_len hxc (HG.out.2.1 x (List.mem_of_getElem? hx)).2).2 (goodA_short (HG.out.2.1 x (List.mem_of_getElem? hx)).2).1 (goodA_short (HG.out.2.1 x (List.mem_of_getElem? hx)).2).2
      rw [decide_eq_true (show x3.at_.con = x.at_.con from (congrArg RtC.at_ hxc).symm)] at hsm
      have Hsm := hide hsm
      have Hsm : Hid (∀ w', New wr w' → Calls Tryz.prog 14 #[.agg #[.slice x3.at_.P x3.at_.path.length x3.at_.pc, .int .i64 x3.at_.pref, .int .i64 x3.at_.med, .int .i64 x3.at_.origin, .slice x3.at_.T x3.at_.tags.length x3.at_.tc], .agg #[.slice x.at_.P x.at_.path.length x.at_.pc, .int .i64 x.at_.pref, .int .i64 x.at_.med, .int .i64 x.at_.origin, .slice x.at_.T x.at_.tags.length x.at_.tc]] w' fun e w1 => e = .returned (.bool true) ∧ New w' w1) := Hsm
      clear hsm hx hidx hxc hry hoky hok4 hr3 hka
      have bq := HX.out.new_ HU2.out
      have x0 := bq.cell 0
      have x1 := bq.cell 1
      have x2 := bq.cell 2
      have x3 := bq.cell 3
      have xz := bq.lt
      simp only [List.getElem?_toArray, List.getElem?_cons_zero, List.getElem?_cons_succ] at x0 x1 x2 x3
      clear bq
      have bq := HY.out.new_ HV2.out
      have y0 := bq.cell 0
      have y1 := bq.cell 1
      have y2 := bq.cell 2
      have y3 := bq.cell 3
      have yz := bq.lt
      simp only [List.getElem?_toArray, List.getElem?_cons_zero, List.getElem?_cons_succ] at y0 y1 y2 y3
      clear bq
      have g1 := guard_pfx
      have g3 := neq_pfx
      go_upto_region 40 with (fail)
      refine wp_region_new wr (Upd.refl _ _) (by kernel_rfl) (by kernel_rfl) ?_
      repeat (go_big_quiet_step ((go_at_call 14; exact new_call (Hsm.out _ (NewW.h _)))))
      refine wpQuiet_nil ?_
      rintro _ ⟨nq, rfl⟩
      go_wp2_with fail
      exact ⟨⟨k + 1, by omega, by go_num, HV2.out.trans_new nq.h⟩, by simp [intOf]; omega⟩
  obtain rfl : k = rs3.length := by omega
  have i1 : ¬ (rs3.length : Int) < (rs3.length : Int) := by omega
  have hj := Ha.out
  subst hj
  clear hk hlt h61
  have bq := HX.out.new_ HU2.out
  have x0 := bq.cell 0
  have x1 := bq.cell 1
  have x2 := bq.cell 2
  have x3 := bq.cell 3
  have xz := bq.lt
  simp only [List.getElem?_toArray, List.getElem?_cons_zero, List.getElem?_cons_succ] at x0 x1 x2 x3
  clear bq
  have bq := HY.out.new_ HV2.out
  have y0 := bq.cell 0
  have y1 := bq.cell 1
  have y2 := bq.cell 2
  have y3 := bq.cell 3
  have yz := bq.lt
  simp only [List.getElem?_toArray, List.getElem?_cons_zero, List.getElem?_cons_succ] at y0 y1 y2 y3
  clear bq
  go_wp2_with fail
  clear x0 x1 x2 x3 xz y0 y1 y2 y3 yz i1
  obtain ⟨wo, rfl⟩ : ∃ wo : World, wo = wr := ⟨_, rfl⟩
  go_loopw [22, 23] (fun lv iv wz => ∃ (k : Nat) (b : Bool), k ≤ ds3.length ∧ iv = .int .i64 k ∧ lv = .bool b ∧ b = decide (rcPf r0 ∈ ds3.take k) ∧ New wo wz) (fun _ iv _ => ds3.length - (intOf iv).toNat)
  case atStart => exact ⟨0, false, by omega, rfl, rfl, by simp, Upd.refl _ _⟩
  case round =>
  obtain ⟨k, b, hk, rfl, rfl, hbv, hu⟩ := hrel
  have HV3 := hide (HV2.out.trans_new hu)
  have HU3 := hide (HU2.out.trans_new hu)
  have HW := hide hu
  have Hb := hide hbv
  clear hu hbv
  by_cases hlt : k < ds3.length
  · have i1 : (k : Int) < (ds3.length : Int) := by omega
    obtain ⟨b3, o3, p, hA3, hb3, hp, p0, p1⟩ := (Hok3.out.drops.new_ HV3.out).at_ hlt
    have hA3 : D3 = some ⟨b3, o3, none⟩ := hA3
    have hp : ds3[k]? = some p := hp
    subst hA3
    have hga := Hga.out
    rw [List.getElem?_map] at hga
    obtain ⟨x, hx, hxc⟩ := Option.map_eq_some_iff.1 hga
    have hxk := (List.getElem?_eq_some_iff.1 hx).1
    obtain ⟨ba, oa, y, hA, hba, hry, hoky, q0, q1, q2, q3, q4, q5, q6, q7⟩ := (HA.out.new_ HU3.out).at_ hxk
    obtain rfl : x = y := by rw [hx] at hry; injection hry
    subst hA
    have htk : decide (rcPf r0 ∈ ds3.take (k + 1)) = (b || (p.a == x.a && p.n == x.n)) := by
      rw [Hb.out, List.take_add_one, hp, ← hxc]
      exact lost_step _ _ _
    have h63 : ds3.length ≤ 100 := by have := Hl3.out.2; have := HG.out.2.2.1; omega
    have Htk := hide htk
    have Hxk := hide hxk
    clear hp hga hx hxc hry hoky q2 q3 q4 q5 q6 q7 htk
    have bq := HX.out.new_ HU3.out
    have x0 := bq.cell 0
    have x1 := bq.cell 1
    have x2 := bq.cell 2
    have x3 := bq.cell 3
    have xz := bq.lt
    simp only [List.getElem?_toArray, List.getElem?_cons_zero, List.getElem?_cons_succ] at x0 x1 x2 x3
    clear bq
    have bq := HY.out.new_ HV3.out
    have y0 := bq.cell 0
    have y1 := bq.cell 1
    have y2 := bq.cell 2
    have y3 := bq.cell 3
    have yz := bq.lt
    simp only [List.getElem?_toArray, List.getElem?_cons_zero, List.getElem?_cons_succ] at y0 y1 y2 y3
    clear bq
    have g1 := guard_pfx
    have g3 := eql_pfx
    have i2 : (a : Int) < (rs.length : Int) := by omega
    cases b with
    | true =>
      go_upto_region 46 with (fail)
      refine wp_region_new wr (Upd.refl _ _) (by kernel_rfl) (by kernel_rfl) ?_
      repeat (go_big_quiet_step (fail))
      refine wpQuiet_nil ?_
      rintro _ ⟨nq, rfl⟩
      go_wp2_with fail
      exact ⟨⟨k + 1, true, by omega, by go_num, rfl, by rw [Htk.out, Bool.true_or], HW.out.trans_new nq.h⟩, by simp [intOf]; omega⟩
    | false =>
      obtain ⟨q, hq⟩ : ∃ q, q = (p.a == x.a && p.n == x.n) := ⟨_, rfl⟩
      have Hq := hide hq
      clear hq
      go_upto_region 46 with (fail)
      refine wp_region_new wr (Upd.refl _ _) (by kernel_rfl) (by kernel_rfl) ?_
      repeat (go_big_quiet_step (fail))
      refine wpQuiet_nil ?_
      rintro _ ⟨nq, rfl⟩
      go_wp2_with fail
      exact ⟨⟨k + 1, _, by omega, by go_num, rfl, by rw [Htk.out, Bool.false_or], HW.out.trans_new nq.h⟩, by simp [intOf]; omega⟩
  obtain rfl : k = ds3.length := by omega
  have i1 : ¬ (ds3.length : Int) < (ds3.length : Int) := by omega
  have hbt : b = true := by rw [Hb.out, List.take_length, decide_eq_true Hin.out]
  subst hbt
  clear hk hlt
  have bq := HX.out.new_ HU3.out
  have x0 := bq.cell 0
  have x1 := bq.cell 1
  have x2 := bq.cell 2
  have x3 := bq.cell 3
  have xz := bq.lt
  simp only [List.getElem?_toArray, List.getElem?_cons_zero, List.getElem?_cons_succ] at x0 x1 x2 x3
  clear bq
  have bq := HY.out.new_ HV3.out
  have y0 := bq.cell 0
  have y1 := bq.cell 1
  have y2 := bq.cell 2
  have y3 := bq.cell 3
  have yz := bq.lt
  simp only [List.getElem?_toArray, List.getElem?_cons_zero, List.getElem?_cons_succ] at y0 y1 y2 y3
  clear bq
  go_wp2_with fail
  go_ret
  exact ⟨rfl, N.out.trans_new HU3.out⟩
end Go.Proofs.YtjgecmkfgeajiaaGreatDoor
