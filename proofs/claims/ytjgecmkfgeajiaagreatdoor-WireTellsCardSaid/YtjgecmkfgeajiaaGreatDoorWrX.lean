/- The law WireTells walked: what package wire says is what the document says. No condition but those that stand in each theorem. -/
import Derived.Test.YtjgecmkfgeajiaaGreatDoorWrW
import Derived.Test.YtjgecmkfgeajiaaGreatDoorRm4
import Derived.Test.YtjgecmkfgeajiaaGreatDoorPc1
import Derived.Deep.RegionHeld3
namespace Go.Proofs.YtjgecmkfgeajiaaGreatDoor
open Go.RowKit

theorem errs_wes {w : World} {E : Nat → Addr} (h : Errs w E) : WEs w E := ⟨h.s1, h.s2, h.s3, h.s4, h.s6, h.s7, h.s8⟩
theorem errV_store9 {w w1 : World} {E : Nat → Addr} {v : Value} {k : Nat} {i : Int} {X : Nat} {cs : Array Value} (h : ErrV w E v k i) (hb : Blk w X TRF cs) (hu : Upd (fun z => z = X) w w1) : ErrV w1 E v k i := by
  rcases h with h | h | ⟨h1, h9, p, hv, hp⟩
  · exact .inl h
  · exact .inr (.inl h)
  · exact .inr (.inr ⟨h1, h9, p, hv, hp.upd hu fun e => Blk.ne_ hp hb (by decide) e⟩)
/-- What is read is not too long. -/
theorem readM_bound (l : List UInt8) : (∀ x ∈ (readM l).2.adds, x.at_.path.length ≤ 1000 ∧ x.at_.tags.length ≤ 1000) ∧ (readM l).2.drops.length ≤ 100000 ∧ (readM l).2.adds.length ≤ 100000 := by
  have hz : (∀ x ∈ zeroM.adds, x.at_.path.length ≤ 1000 ∧ x.at_.tags.length ≤ 1000) ∧ zeroM.drops.length ≤ 100000 ∧ zeroM.adds.length ≤ 100000 := ⟨fun x h => by simp [zeroM] at h, by simp [zeroM], by simp [zeroM]⟩
  have he : ∀ k n st, (∀ x ∈ (endP k n st).2.adds, x.at_.path.length ≤ 1000 ∧ x.at_.tags.length ≤ 1000) ∧ (endP k n st).2.drops.length ≤ 100000 ∧ (endP k n st).2.adds.length ≤ 100000 := fun k n st => by
    unfold endP
    split
    · rename_i h
      have g := check_good h
      refine ⟨fun x hx => ?_, by have := g.dl; show (dropAll st.drops st.more).length ≤ _; exact Nat.le_trans this (by omega), by have g2 : (st.adds.map rtR).length ≤ 60 := g.al; rw [List.length_map] at g2; show st.adds.length ≤ _; omega⟩
      have h1 := (g.adds (rtR x) (List.mem_map_of_mem hx)).2.1
      exact goodA_short h1
    · exact hz
  unfold readM
  split
  · exact hz
  · split
    · split
      · split
        · exact he _ _ _
        · exact hz
      · exact hz
    · exact hz
theorem msg_bound {m : MsgR} {c : MsgC} (hb : (∀ x ∈ c.adds, x.at_.path.length ≤ 1000 ∧ x.at_.tags.length ≤ 1000) ∧ c.drops.length ≤ 100000 ∧ c.adds.length ≤ 100000) (h : m.con = c) : Short m ∧ m.drops.length ≤ 100000 ∧ m.adds.length ≤ 100000 := by
  obtain ⟨h1, h2, h3⟩ := hb
  rw [← h] at h1 h2 h3
  refine ⟨fun i r hr => h1 r.con (List.mem_map_of_mem (List.mem_of_getElem? hr)), h2, ?_⟩
  have : (m.adds.map RouteR.con).length ≤ 100000 := h3
  rw [List.length_map] at this
  exact this

set_option maxRecDepth 20000 in
set_option maxHeartbeats 20000000 in
theorem wireTells_any (m : MsgR) (s : ByteArray) (E : Nat → Addr) (w : World) (ht : TxtOk w) (he : Errs w E) (hm : MsgOk w m) :
    Calls Tryz.prog 4 #[.agg m.cells, .string s] w fun e w1 => e = .returned (.bool true) ∧ New w w1 := by
  have u := (Upd.refl (fun _ => False) w).alloc (.cells m.cells TM)
  have HT := hide (ht.new u)
  have HE := hide (he.new u)
  have HX := hide (Blk.new w TM m.cells)
  have N := hide u
  obtain ⟨M, hMd⟩ : ∃ M, M = m := ⟨_, rfl⟩
  have HMd := hide hMd
  have HM : Hid (MsgOk (w.alloc (.cells m.cells TM)) M) := hide (by rw [hMd]; exact hm.new_ u)
  have Hlm := hide (fun w' (hu : New (w.alloc (.cells m.cells TM)) w') => longMsg_any M w' (HM.out.new_ hu))
  have Hno := hide (fun h => longM_no (m := M) h)
  have Hl1 := hide (fun h => longMN_1 (m := M) h)
  have Hl0 := hide (fun h => longMN_0 (m := M) h)
  clear ht he hm u hMd
  obtain ⟨kd, nn, D, dc, ds, A, ac, rs⟩ := m
  have Hlm : Hid (∀ w', New (w.alloc (.cells #[.string kd, .int .i64 nn, .slice D ds.length dc, .slice A rs.length ac] TM)) w' → Calls Tryz.prog 6 #[.agg #[.string kd, .int .i64 nn, .slice D ds.length dc, .slice A rs.length ac]] w' fun e w1 => e = .returned (.int .i64 (longMN M)) ∧ New w' w1) := by
    have h := Hlm.out
    rw [HMd.out] at h ⊢
    exact h
  unfold MsgR.cells at *
  dsimp only at *
  go_enter Tryz.func4, Tryz.ntmps4
  go_upto_region 1 with (fail)
  have U := hide (Upd.refl (fun _ => False) (w.alloc (.cells #[.string kd, .int .i64 nn, .slice D ds.length dc, .slice A rs.length ac] TM)))
  generalize w.alloc (.cells #[.string kd, .int .i64 nn, .slice D ds.length dc, .slice A rs.length ac] TM) = W at *
  generalize w.heap.size = X at *
  have Hwd := hide (wired_any E W HT.out (errs_wes HE.out))
  go_wp2_with fail
  refine Hwd.out.mono ?_
  rintro e w1 ⟨rfl, hu⟩
  have U := hide (U.out.trans_new hu)
  clear hu Hwd
  have bq := HX.out.new_ U.out
  have x0 := bq.cell 0
  have x1 := bq.cell 1
  have x2 := bq.cell 2
  have x3 := bq.cell 3
  have xz := bq.lt
  simp only [List.getElem?_toArray, List.getElem?_cons_zero, List.getElem?_cons_succ] at x0 x1 x2 x3
  clear bq
  have Hlw := hide (Hlm.out w1 U.out)
  obtain ⟨Z, hZ⟩ : ∃ Z, Z = longMN M := ⟨_, rfl⟩
  rw [← hZ] at Hlw Hl1 Hl0
  clear hZ Hlm
  go_upto_region 2 with (fail)
  cases hL : longM M with
  | true =>
    obtain rfl : Z = 1 := Hl1.out hL
    clear hL
    go_wp2_with fail
    refine Hlw.out.mono ?_
    rintro e w2 ⟨rfl, hu⟩
    have U := hide (U.out.trans_new hu)
    clear hu
    go_wp2_with fail
    go_ret
    exact ⟨rfl, N.out.trans_new U.out⟩
  | false =>
  obtain rfl : Z = 0 := Hl0.out hL
  have Hno := hide (Hno.out hL)
  clear hL Hl1 Hl0
  by_cases hbig : 1500 < s.size ∧ s.size ≠ 8001
  · have i1 : (1500 : Int) < (s.size : Int) := by omega
    have i2 : ((s.size : Int) != 8001) = true := by rw [bne_iff_ne]; omega
    clear hbig
    go_wp2_with fail
    refine Hlw.out.mono ?_
    rintro e w2 ⟨rfl, hu⟩
    have U := hide (U.out.trans_new hu)
    clear hu
    go_wp2_with fail
    go_ret
    exact ⟨rfl, N.out.trans_new U.out⟩
  have Hsz := hide (show s.size ≤ 8001 by omega)
  go_cut [30] (fun v30_ wc => v30_ = .bool false ∧ New w1 wc)
  case first =>
    by_cases h15 : 1500 < s.size
    · have i1 : (1500 : Int) < (s.size : Int) := by omega
      have i2 : ((s.size : Int) != 8001) = false := by rw [bne_eq_false_iff_eq]; omega
      clear hbig h15
      go_wp2_with fail
      refine Hlw.out.mono ?_
      rintro e w2 ⟨rfl, hu⟩
      have U2 := hide hu
      clear hu
      go_wp2_with fail
      go_meet
      case rel => exact ⟨rfl, U2.out⟩
    · have i1 : ¬ (1500 : Int) < (s.size : Int) := by omega
      clear hbig h15
      go_wp2_with fail
      refine Hlw.out.mono ?_
      rintro e w2 ⟨rfl, hu⟩
      have U2 := hide hu
      clear hu
      go_wp2_with fail
      go_meet
      case rel => exact ⟨rfl, U2.out⟩
  obtain ⟨rfl, hu⟩ := hcut
  have U := hide (U.out.trans_new hu)
  clear hu Hlw x0 x1 x2 x3 xz hbig
  have bq := HX.out.new_ U.out
  have x0 := bq.cell 0
  have x1 := bq.cell 1
  have x2 := bq.cell 2
  have x3 := bq.cell 3
  have xz := bq.lt
  simp only [List.getElem?_toArray, List.getElem?_cons_zero, List.getElem?_cons_succ] at x0 x1 x2 x3
  clear bq
  have Hown := hide (ownMsg_any M wc (HM.out.new_ U.out) Hno.out.2.2 (by have := Hno.out.1; omega) (by have := Hno.out.2.1; omega))
  have Hown : Hid (Calls Tryz.prog 8 #[.agg #[.string kd, .int .i64 nn, .slice D ds.length dc, .slice A rs.length ac]] wc fun e w1 => ∃ m' : MsgR, e = .returned (.agg m'.cells) ∧ SameM M m' ∧ MsgOk w1 m' ∧ New wc w1) := by
    have h := Hown.out
    rw [HMd.out] at h ⊢
    exact h
  go_wp2_with fail
  refine Hown.out.mono ?_
  rintro e w3 ⟨m', rfl, hsm, hok', hu⟩
  have Hsm := hide hsm
  obtain ⟨k1, n1, D1, dc1, ds1, A1, ac1, rs1⟩ := m'
  unfold MsgR.cells
  dsimp only
  have ua := (Upd.refl (fun _ => False) w3).alloc (.cells #[.string k1, .int .i64 n1, .slice D1 ds1.length dc1, .slice A1 rs1.length ac1] TM)
  have U := hide (U.out.trans_new (hu.trans_new ua))
  have Hok1 := hide (hok'.new_ ua)
  have HO := hide (Blk.new w3 TM #[.string k1, .int .i64 n1, .slice D1 ds1.length dc1, .slice A1 rs1.length ac1])
  clear hu ua hok' hsm x0 x1 x2 x3 xz Hown
  go_upto_region 5 with (fail)
  generalize w3.alloc (.cells #[.string k1, .int .i64 n1, .slice D1 ds1.length dc1, .slice A1 rs1.length ac1] TM) = w4 at *
  generalize w3.heap.size = Y at *
  obtain ⟨C, hC⟩ : ∃ C, C = checkC M := ⟨_, rfl⟩
  have Hmf := msgFault_any M w4 (HM.out.new_ U.out) Hno.out.2.2 (by have := Hno.out.1; omega) (by have := Hno.out.2.1; omega)
  rw [← hC] at Hmf
  have Hg := hide (fun h => check_good (m := M) (hC ▸ h))
  have Hwq := hide (show wTextT M = if C.1 = 0 then msgT M.con else [] by rw [hC]; rfl)
  have HC3 := hide hC
  clear hC
  obtain ⟨c1, c2⟩ := C
  have Hmf : Hid (Calls Tryz.prog 15 #[.agg #[.string kd, .int .i64 nn, .slice D ds.length dc, .slice A rs.length ac]] w4 fun e w1 => e = .returned (.agg #[.int .i64 (c1 : Nat), .int .i64 c2]) ∧ New w4 w1) := hide (by
    rw [HMd.out] at Hmf
    exact Hmf)
  have Hg : Hid (c1 = 0 → GoodM M) := Hg
  have Hwq : Hid (wTextT M = if c1 = 0 then msgT M.con else []) := Hwq
  have bq := HX.out.new_ U.out
  have x0 := bq.cell 0
  have x1 := bq.cell 1
  have x2 := bq.cell 2
  have x3 := bq.cell 3
  have xz := bq.lt
  simp only [List.getElem?_toArray, List.getElem?_cons_zero, List.getElem?_cons_succ] at x0 x1 x2 x3
  clear bq
  go_wp2_with fail
  refine Hmf.out.mono ?_
  rintro e w5 ⟨rfl, hu⟩
  have HPl := hide (show W.heap.size ≤ w5.heap.size from (U.out.trans_new hu).size)
  have ua := hu.trans_new ((Upd.refl (fun _ => False) w5).alloc (.cells #[.int .i64 (c1 : Nat), .int .i64 c2] TRF))
  have HF := hide (Blk.new w5 TRF #[.int .i64 (c1 : Nat), .int .i64 c2])
  have U := hide (U.out.trans_new ua)
  have Hok1 := hide (Hok1.out.new_ ua)
  have HO := hide (HO.out.new_ ua)
  clear hu ua Hmf x0 x1 x2 x3 xz
  go_upto_region 6 with (fail)
  generalize w5.alloc (.cells #[.int .i64 (c1 : Nat), .int .i64 c2] TRF) = w6 at *
  generalize w5.heap.size = P at *
  have hrl : rs1.length = M.adds.length := by
    have e := congrArg List.length Hsm.out.2.2.2
    rw [List.length_map, List.length_map] at e
    exact e
  have hdl : ds1 = M.drops := Hsm.out.2.2.1
  have hsh1 : Short ⟨k1, n1, D1, dc1, ds1, A1, ac1, rs1⟩ := short_con Hsm.out.2.2.2 Hno.out.2.2
  have HEw := hide (HE.out.new U.out)
  have HTw := hide (HT.out.new U.out)
  have hEw := errs_wes HEw.out
  have Hwt := wireText_any ⟨k1, n1, D1, dc1, ds1, A1, ac1, rs1⟩ E w6 HTw.out hEw Hok1.out hsh1 (by show ds1.length ≤ _; rw [hdl]; have := Hno.out.1; omega) (by show rs1.length ≤ _; rw [hrl]; have := Hno.out.2.1; omega)
  rw [wTextT_con Hsm.out, check_same Hsm.out, ← HC3.out] at Hwt
  have Hck := hide (fun w' (nw : New w6 w') => (by
    have hE' := errs_wes (HEw.out.new nw)
    have h := wireCheck_any ⟨k1, n1, D1, dc1, ds1, A1, ac1, rs1⟩ E w' hE'.s2 hE'.s3 hE'.s4 hE'.s6 hE'.s7 hE'.s8 (Hok1.out.new_ nw) hsh1 (by show ds1.length ≤ _; rw [hdl]; have := Hno.out.1; omega) (by show rs1.length ≤ _; rw [hrl]; have := Hno.out.2.1; omega)
    rw [check_same Hsm.out, ← HC3.out] at h
    exact h : Calls Tryz.prog 17 #[.agg #[.string k1, .int .i64 n1, .slice D1 ds1.length dc1, .slice A1 rs1.length ac1]] w' (ErrPost E c1 c2 w')))
  obtain ⟨T, hT⟩ : ∃ T, T = wTextT M := ⟨_, rfl⟩
  rw [← hT] at Hwt Hwq
  have Hwt := hide Hwt
  have Hwt : Hid (Calls Tryz.prog 7 #[.agg #[.string k1, .int .i64 n1, .slice D1 ds1.length dc1, .slice A1 rs1.length ac1]] w6 fun e w1 => ∃ v, e = .returned (.tuple #[.string ⟨T.toArray⟩, v]) ∧ ErrV w1 E v c1 c2 ∧ New w6 w1) := Hwt
  clear hT hrl hdl hsh1 hEw
  have bq := HO.out
  have o0 := bq.cell 0
  have o1 := bq.cell 1
  have o2 := bq.cell 2
  have o3 := bq.cell 3
  have oz := bq.lt
  simp only [List.getElem?_toArray, List.getElem?_cons_zero, List.getElem?_cons_succ] at o0 o1 o2 o3
  clear bq
  go_wp2_with fail
  refine Hwt.out.mono ?_
  rintro e w7 ⟨v7, rfl, hv7, hu⟩
  have HV7 := hide hv7
  have HU7 := hide hu
  have U := hide (U.out.trans_new hu)
  have HO := hide (HO.out.new_ hu)
  have HF := hide (HF.out.new_ hu)
  clear hu hv7 Hwt o0 o1 o2 o3 oz
  have Hft := hide (fun w' (nw : New w7 w') v (hv : ErrV w' E v c1 c2) => (by
    have h := faulted2_any v c1 c2 (c1 : Int) c2 w' E (HEw.out.new (HU7.out.trans_new nw)) hv
    rw [decide_eq_true ⟨rfl, Or.inr rfl⟩] at h
    exact h : Calls Tryz.prog 16 #[v, .agg #[.int .i64 (c1 : Nat), .int .i64 c2]] w' fun e w1 => e = .returned (.bool true) ∧ New w' w1))
  have bq := HO.out
  have o0 := bq.cell 0
  have o1 := bq.cell 1
  have o2 := bq.cell 2
  have o3 := bq.cell 3
  have oz := bq.lt
  simp only [List.getElem?_toArray, List.getElem?_cons_zero, List.getElem?_cons_succ] at o0 o1 o2 o3
  clear bq
  have bq := HF.out
  have p0 := bq.cell 0
  have p1 := bq.cell 1
  have pz := bq.lt
  simp only [List.getElem?_toArray, List.getElem?_cons_zero, List.getElem?_cons_succ] at p0 p1
  clear bq
  have Kp := hide (fun w' (hu : New w7 w') => (show w'.cell? ⟨Y, 0, none⟩ = some (.string k1) ∧ w'.cell? ⟨Y, 1, none⟩ = some (.int .i64 n1) ∧ w'.cell? ⟨Y, 2, none⟩ = some (.slice D1 ds1.length dc1) ∧ w'.cell? ⟨Y, 3, none⟩ = some (.slice A1 rs1.length ac1) ∧ w'.cell? ⟨P, 0, none⟩ = some (.int .i64 (c1 : Nat)) ∧ w'.cell? ⟨P, 1, none⟩ = some (.int .i64 c2) from ⟨(hu.cell oz (fun x => x)).trans o0, (hu.cell oz (fun x => x)).trans o1, (hu.cell oz (fun x => x)).trans o2, (hu.cell oz (fun x => x)).trans o3, (hu.cell pz (fun x => x)).trans p0, (hu.cell pz (fun x => x)).trans p1⟩))
  have Wd := hide (show New w7 w7.drew from (Upd.refl _ w7).drew)
  go_upto_region 7 with (fail)
  go_cut [60] (fun v60_ wx => v60_ = .bool false ∧ New w7 wx)
  case first =>
    by_cases hc : c1 = 0
    rotate_left
    · have i3 : (0 : Int) < (c1 : Int) := by omega
      have i4 : 0 < c1 := by omega
      have hw := Hwq.out
      rw [if_neg hc] at hw
      subst hw
      clear hc
      go_region_held3 (fun w' => w'.cell? ⟨Y, 0, none⟩ = some (.string k1) ∧ w'.cell? ⟨Y, 1, none⟩ = some (.int .i64 n1) ∧ w'.cell? ⟨Y, 2, none⟩ = some (.slice D1 ds1.length dc1) ∧ w'.cell? ⟨Y, 3, none⟩ = some (.slice A1 rs1.length ac1) ∧ w'.cell? ⟨P, 0, none⟩ = some (.int .i64 (c1 : Nat)) ∧ w'.cell? ⟨P, 1, none⟩ = some (.int .i64 c2))
        (first | go_keep | exact Kp.out _ U10.out | exact Kp.out _ U9.out | exact Kp.out _ U8.out | exact Kp.out _ Wd.out)
        (first
          | (go_at_call 17; refine (Hck.out _ (HU7.out.trans_new Wd.out)).mono ?_; rintro e w8 ⟨v8, rfl, hv8, hu8⟩; have U8 := hide (Wd.out.trans_new hu8); have V8 := hide hv8; clear hu8 hv8)
          | (go_at_call 16; refine (Hft.out _ U9.out v7 (HV7.out.new U9.out)).mono ?_; rintro e w10 ⟨rfl, hu10⟩; have U10 := hide (U9.out.trans_new hu10); clear hu10)
          | (go_at_call 16; refine (Hft.out _ U8.out v8 V8.out).mono ?_; rintro e w9 ⟨rfl, hu9⟩; have U9 := hide (U8.out.trans_new hu9); clear hu9))
      all_goals
        go_wp2_with fail
        go_meet
        case rel => exact ⟨by first | rfl | simp, U10.out⟩
    subst hc
    obtain rfl : v7 = .nilIface := errV_nil9 HV7.out rfl
    have Hck0 := hide (fun w' (nw : New w7 w') => ((Hck.out w' (HU7.out.trans_new nw)).mono fun e w1 ⟨v, he, hv, hu⟩ => ⟨by rw [he, errV_nil9 hv rfl], hu⟩ : Calls Tryz.prog 17 #[.agg #[.string k1, .int .i64 n1, .slice D1 ds1.length dc1, .slice A1 rs1.length ac1]] w' fun e w1 => e = .returned .nilIface ∧ New w' w1))
    have Hft0 : Hid (∀ w', New w7 w' → Calls Tryz.prog 16 #[.nilIface, .agg #[.int .i64 ((0 : Nat) : Int), .int .i64 c2]] w' fun e w1 => e = .returned (.bool true) ∧ New w' w1) := hide (fun w' nw => Hft.out w' nw .nilIface (HV7.out.new nw))
    refine wp_region_new w7 (Upd.refl _ _) (by kernel_rfl) (by kernel_rfl) ?_
    repeat (go_big_quiet_step (first
      | (go_at_call 17; exact new_call (Hck0.out _ (NewW.h _)))
      | (go_at_call 16; exact new_call (Hft0.out _ (NewW.h _)))))
    refine wpQuiet_nil ?_
    rintro _ ⟨nq, rfl⟩
    go_wp2_with fail
    go_meet
    case rel => exact ⟨by first | rfl | simp, nq.h⟩
  obtain ⟨rfl, hu⟩ := hcut
  have U := hide (U.out.trans_new hu)
  have HO := hide (HO.out.new_ hu)
  have HF := hide (HF.out.new_ hu)
  clear hu Kp Hck Hft o0 o1 o2 o3 oz p0 p1 pz
  have bq := HF.out
  have p0 := bq.cell 0
  have p1 := bq.cell 1
  have pz := bq.lt
  simp only [List.getElem?_toArray, List.getElem?_cons_zero, List.getElem?_cons_succ] at p0 p1
  clear bq
  have bq := HX.out.new_ U.out
  have x0 := bq.cell 0
  have x1 := bq.cell 1
  have x2 := bq.cell 2
  have x3 := bq.cell 3
  have xz := bq.lt
  simp only [List.getElem?_toArray, List.getElem?_cons_zero, List.getElem?_cons_succ] at x0 x1 x2 x3
  clear bq
  obtain ⟨wx, rfl⟩ : ∃ wx : World, wx = wc := ⟨_, rfl⟩
  go_upto_region 9 with (fail)
  go_cut [69] (fun v69_ wc => v69_ = .bool false ∧ New wx wc)
  case first =>
    by_cases hc : c1 = 0
    rotate_left
    · have i3 : ((c1 : Int) == 0) = false := by rw [beq_eq_false_iff_ne]; omega
      have i4 : ¬ c1 = 0 := hc
      have i5 : (c1 == 0) = false := beq_eq_false_iff_ne.2 hc
      clear hc
      go_wp2_with fail
      go_meet
      case rel => exact ⟨by first | rfl | simp, Upd.refl _ _⟩
    have hw := Hwq.out
    rw [if_pos hc] at hw
    have hg := Hg.out hc
    have Hmt := msgTextRef_any M wx (HM.out.new_ U.out) hg Hno.out.2.2
    rw [← hw] at Hmt
    have Hmt : Hid (Calls Tryz.prog 18 #[.agg #[.string kd, .int .i64 nn, .slice D ds.length dc, .slice A rs.length ac]] wx fun e w1 => e = .returned (.string ⟨T.toArray⟩) ∧ New wx w1) := hide (by
      rw [HMd.out] at Hmt
      exact Hmt)
    clear hw hg
    subst hc
    go_wp2_with fail
    refine Hmt.out.mono ?_
    rintro e w8 ⟨rfl, hu⟩
    have U8 := hide hu
    clear hu
    go_wp2_with fail
    go_meet
    case rel => exact ⟨by first | rfl | simp, U8.out⟩
  obtain ⟨rfl, hu⟩ := hcut
  have U := hide (U.out.trans_new hu)
  have HF := hide (HF.out.new_ hu)
  clear hu p0 p1 pz x0 x1 x2 x3 xz
  have HPw := hide HF.out.lt
  have hrd := wireRead_far s E wc (HT.out.new U.out) (errs_wes (HE.out.new U.out)) (by have := Hsz.out; omega)
  have hrf := fun w' => readRef_any s w' (by have := Hsz.out; omega)
  have hbd := readM_bound s.data.toList
  generalize readM s.data.toList = R at hrd hrf hbd
  obtain ⟨⟨e1, e2⟩, RC⟩ := R
  have Hrd := hide hrd
  have Hrf := hide hrf
  have Hbd := hide hbd
  clear hrd hrf hbd
  go_wp2_with fail
  refine Hrd.out.mono ?_
  rintro e w10 ⟨m2, v2, rfl, hv2, hc2, hok2, hf2, hu⟩
  obtain ⟨hs2, hd2, ha2⟩ := msg_bound Hbd.out hc2
  obtain ⟨k2, n2, D2, dc2, ds2, A2, ac2, rs2⟩ := m2
  unfold MsgR.cells
  dsimp only
  have ua := (Upd.refl (fun _ => False) w10).alloc (.cells #[.string k2, .int .i64 n2, .slice D2 ds2.length dc2, .slice A2 rs2.length ac2] TM)
  have U := hide (U.out.trans_new (hu.trans_new ua))
  have HF := hide (HF.out.new_ (hu.trans_new ua))
  have HA2 := hide (hok2.new_ ua)
  have H2 := hide (Blk.new w10 TM #[.string k2, .int .i64 n2, .slice D2 ds2.length dc2, .slice A2 rs2.length ac2])
  have HV2 := hide (hv2.new ua)
  have HB2 := hide (And.intro hs2 (And.intro hd2 ha2))
  have HC2 := hide hc2
  have HF2 := hide (hf2.mono (T := fun q => q = P) fun q hq => by rw [hq]; exact HPw.out)
  have HPw := hide (show P < (w10.alloc (.cells #[.string k2, .int .i64 n2, .slice D2 ds2.length dc2, .slice A2 rs2.length ac2] TM)).heap.size from Nat.lt_of_lt_of_le HPw.out (hu.trans_new ua).size)
  clear hu ua hv2 hc2 hok2 hs2 hd2 ha2 hf2 Hrd
  go_upto_region 12 with (fail)
  generalize w10.alloc (.cells #[.string k2, .int .i64 n2, .slice D2 ds2.length dc2, .slice A2 rs2.length ac2] TM) = w11 at *
  generalize w10.heap.size = Y2 at *
  go_wp2_with fail
  refine (Hrf.out _).mono ?_
  rintro e w12 ⟨m3, rfl, hc3, hok3, hf3, hu⟩
  obtain ⟨hs3, hd3, ha3⟩ := msg_bound Hbd.out hc3
  obtain ⟨k3, n3, D3, dc3, ds3, A3, ac3, rs3⟩ := m3
  unfold MsgR.cells faultV
  dsimp only
  have ua := hu.trans_new ((Upd.refl (fun _ => False) w12).alloc (.cells #[.string k3, .int .i64 n3, .slice D3 ds3.length dc3, .slice A3 rs3.length ac3] TM))
  have U := hide (U.out.trans_new ua)
  have HF := hide (HF.out.new_ ua)
  have HA2 := hide (HA2.out.new_ ua)
  have H2 := hide (H2.out.new_ ua)
  have HV2 := hide (HV2.out.new ua)
  have HA3 := hide (hok3.new_ ((Upd.refl (fun _ => False) w12).alloc (.cells #[.string k3, .int .i64 n3, .slice D3 ds3.length dc3, .slice A3 rs3.length ac3] TM)))
  have H3 := hide (Blk.new w12 TM #[.string k3, .int .i64 n3, .slice D3 ds3.length dc3, .slice A3 rs3.length ac3])
  have HB3 := hide (And.intro hs3 (And.intro hd3 ha3))
  have HC3 := hide hc3
  have HF3 := hide (hf3.mono (T := fun q => q = P) fun q hq => by rw [hq]; exact HPw.out)
  clear hu ua hc3 hok3 hs3 hd3 ha3 hf3 Hrf
  have bq := HF.out
  have p0 := bq.cell 0
  have p1 := bq.cell 1
  have g0 := bq.frozen 0
  have g1 := bq.frozen 1
  have pz := bq.lt
  simp only [List.getElem?_toArray, List.getElem?_cons_zero, List.getElem?_cons_succ] at p0 p1
  clear bq
  go_upto_region 13 with (fail)
  clear p0 p1 g0 g1 pz
  have us : Upd (fun q => q = P) (w12.alloc (.cells #[.string k3, .int .i64 n3, .slice D3 ds3.length dc3, .slice A3 rs3.length ac3] TM)) (((w12.alloc (.cells #[.string k3, .int .i64 n3, .slice D3 ds3.length dc3, .slice A3 rs3.length ac3] TM)).setCell ⟨P, 0, none⟩ (.int .i64 (e1 : Nat))).setCell ⟨P, 1, none⟩ (.int .i64 e2)) := ((Upd.refl (fun q => q = P) _).setCell (p := ⟨P, 0, none⟩) (.inl rfl) _).setCell (p := ⟨P, 1, none⟩) (.inl rfl) _
  have HA2 := hide (HA2.out.upd_far us HF2.out)
  have HA3 := hide (HA3.out.upd_far us HF3.out)
  have hne2 : Y2 ≠ P := Blk.ne_ H2.out HF.out (by decide)
  have hne3 : w12.heap.size ≠ P := Blk.ne_ H3.out HF.out (by decide)
  have H2 := hide (H2.out.upd us hne2)
  have H3 := hide (H3.out.upd us hne3)
  have HV2 := hide (errV_store9 HV2.out HF.out us)
  have HF := hide (show Blk (((w12.alloc (.cells #[.string k3, .int .i64 n3, .slice D3 ds3.length dc3, .slice A3 rs3.length ac3] TM)).setCell ⟨P, 0, none⟩ (.int .i64 (e1 : Nat))).setCell ⟨P, 1, none⟩ (.int .i64 e2)) P TRF #[.int .i64 (e1 : Nat), .int .i64 e2] by simpa using (HF.out.set_ 0 (.int .i64 (e1 : Nat))).set_ 1 (.int .i64 e2))
  have U := hide (U.out.trans us fun q hq e => by have := HPl.out; omega)
  clear us hne2 hne3
  generalize ((w12.alloc (.cells #[.string k3, .int .i64 n3, .slice D3 ds3.length dc3, .slice A3 rs3.length ac3] TM)).setCell ⟨P, 0, none⟩ (.int .i64 (e1 : Nat))).setCell ⟨P, 1, none⟩ (.int .i64 e2) = w13 at *
  generalize w12.heap.size = Y3 at *
  have hsame := sameMsg_any ⟨k2, n2, D2, dc2, ds2, A2, ac2, rs2⟩ ⟨k3, n3, D3, dc3, ds3, A3, ac3, rs3⟩ w13 HA2.out HA3.out HB2.out.1 HB3.out.1 HB2.out.2.1 HB3.out.2.1 HB2.out.2.2 HB3.out.2.2
  rw [decide_eq_true (HC2.out.trans HC3.out.symm)] at hsame
  have Hsame : Hid (Calls Tryz.prog 10 #[.agg #[.string k2, .int .i64 n2, .slice D2 ds2.length dc2, .slice A2 rs2.length ac2], .agg #[.string k3, .int .i64 n3, .slice D3 ds3.length dc3, .slice A3 rs3.length ac3]] w13 fun e w1 => e = .returned (.bool true) ∧ New w13 w1) := hide hsame
  clear hsame
  have bq := H2.out
  have y0 := bq.cell 0
  have y1 := bq.cell 1
  have y2 := bq.cell 2
  have y3 := bq.cell 3
  have yz := bq.lt
  simp only [List.getElem?_toArray, List.getElem?_cons_zero, List.getElem?_cons_succ] at y0 y1 y2 y3
  clear bq
  have bq := H3.out
  have z0 := bq.cell 0
  have z1 := bq.cell 1
  have z2 := bq.cell 2
  have z3 := bq.cell 3
  have zz := bq.lt
  simp only [List.getElem?_toArray, List.getElem?_cons_zero, List.getElem?_cons_succ] at z0 z1 z2 z3
  clear bq
  go_wp2_with fail
  refine Hsame.out.mono ?_
  rintro e w14 ⟨rfl, hu⟩
  have HF := hide (HF.out.new_ hu)
  have HV2 := hide (HV2.out.new hu)
  have U := hide (U.out.trans_new hu)
  have hft := faulted2_any v2 e1 e2 (e1 : Int) e2 w14 E (HE.out.new U.out) HV2.out
  rw [decide_eq_true ⟨rfl, Or.inr rfl⟩] at hft
  have Hft : Hid (Calls Tryz.prog 16 #[v2, .agg #[.int .i64 (e1 : Nat), .int .i64 e2]] w14 fun e w1 => e = .returned (.bool true) ∧ New w14 w1) := hide hft
  clear hu hft y0 y1 y2 y3 yz z0 z1 z2 z3 zz Hsame
  have bq := HF.out
  have p0 := bq.cell 0
  have p1 := bq.cell 1
  have pz := bq.lt
  simp only [List.getElem?_toArray, List.getElem?_cons_zero, List.getElem?_cons_succ] at p0 p1
  clear bq
  go_wp2_with fail
  refine Hft.out.mono ?_
  rintro e w15 ⟨rfl, hu⟩
  have U := hide (U.out.trans_new hu)
  clear hu
  go_wp2_with fail
  go_ret
  exact ⟨rfl, N.out.trans_new U.out⟩
end Go.Proofs.YtjgecmkfgeajiaaGreatDoor
