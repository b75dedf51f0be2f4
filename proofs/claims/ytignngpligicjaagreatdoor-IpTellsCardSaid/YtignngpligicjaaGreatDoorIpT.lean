/- The law IpTells: its walk. No condition but those that stand in each theorem. -/
import Derived.Test.YtignngpligicjaaGreatDoorDd9
import Derived.Test.YtignngpligicjaaGreatDoorTx6
import Derived.Test.YtignngpligicjaaGreatDoorHa
import Derived.Test.YtignngpligicjaaGreatDoorRq0
import Derived.Test.YtignngpligicjaaGreatDoorIp4
import Derived.Test.YtignngpligicjaaGreatDoorCd1
import Derived.Deep.DeepCutAuto
namespace Go.Proofs.YtignngpligicjaaGreatDoor
open Go.RowKit

/-- What is cut, and the error's number. -/
def cutU (a n : Int) : Int × Int × Nat := if (0 ≤ a ∧ a < 4294967296) ∧ 0 ≤ n ∧ n ≤ 32 then (a - (low a.toNat n.toNat : Int), n, 0) else (0, 0, 2)
theorem cutV_U (a n : Int) : cutV a n = .tuple #[.agg #[.int .i64 (cutU a n).1, .int .i64 (cutU a n).2.1], .int .i64 ((cutU a n).2.2 : Nat)] := by
  unfold cutV cutU
  split <;> rfl
theorem cut_anyU (a n : Int) (E : Nat → Addr) (w : World) (h2 : Sen w gBound (E 2)) : Calls Tryz.prog 18 #[.int .i64 a, .int .i64 n] w fun e w1 => e = .returned (.tuple #[.agg #[.int .i64 (cutU a n).1, .int .i64 (cutU a n).2.1], errc E (cutU a n).2.2]) ∧ New w w1 := by
  by_cases h : (0 ≤ a ∧ a < 4294967296) ∧ 0 ≤ n ∧ n ≤ 32
  · have e : cutU a n = (a - (low a.toNat n.toNat : Int), n, 0) := if_pos h
    rw [e]
    exact cut_yes a n h.1 h.2 w
  · have e : cutU a n = (0, 0, 2) := if_neg h
    rw [e]
    exact cut_no a n E (fun x => h ⟨⟨x.1, x.2.1⟩, x.2.2⟩) w h2
theorem cutU_le (a n : Int) : (cutU a n).2.2 ≤ 9 := by unfold cutU; split <;> simp
theorem chk_le9 (a n : Int) : chk a n ≤ 9 := by unfold chk; split <;> (try split) <;> omega
theorem ite_le9 {c : Prop} [Decidable c] {x y : Nat × Int × Int} (hx : x.1 ≤ 9) (hy : y.1 ≤ 9) : (if c then x else y).1 ≤ 9 := by split <;> assumption
theorem readP_le (s : ByteArray) : (readP s).1 ≤ 9 := by
  unfold readP
  generalize numV (Lib.cut s.data.toList [47]).2.1 999999999 = v
  split
  · exact ite_le9 (Nat.zero_le _) (by dsimp only; exact chk_le9 _ _)
  · exact (by omega : 1 ≤ 9)

theorem readAddr_uni (s : ByteArray) (E : Nat → Addr) (w : World) (h : TxtOk w) (h1 : Sen w gText1 (E 1)) (hs : s.size ≤ 1000000) :
    Calls Tryz.prog 7 #[.string s] w fun e w1 => ∃ ev, e = .returned (.tuple #[.int .i64 (((readA s).getD 0 : Nat) : Int), ev]) ∧ ((readA s).isSome = true ∧ ev = .nilIface ∨ (readA s).isSome = false ∧ ev = errv (E 1)) ∧ New w w1 :=
  (readAddr_any s E w h h1 hs).mono fun e w1 ⟨hv, hu⟩ => by
    rcases hv with ⟨v, hv, _, rfl⟩ | ⟨hv, rfl⟩
    · exact ⟨_, by rw [hv]; rfl, .inl ⟨by rw [hv]; rfl, rfl⟩, hu⟩
    · exact ⟨_, by rw [hv]; rfl, .inr ⟨by rw [hv]; rfl, rfl⟩, hu⟩

set_option maxRecDepth 20000 in
set_option maxHeartbeats 4000000 in
theorem ipTells_any (a n b m : Int) (s : ByteArray) (x k : Int) (E : Nat → Addr) (w : World) (ht : TxtOk w) (he : Errs w E) :
    Calls Tryz.prog 3 #[.agg #[.int .i64 a, .int .i64 n], .agg #[.int .i64 b, .int .i64 m], .string s, .int .i64 x, .int .i64 k] w fun e w1 => e = .returned (.bool true) ∧ New w w1 := by
  have u := ((Upd.refl (fun _ => False) w).alloc (.cells #[.int .i64 a, .int .i64 n] TPf)).alloc (.cells #[.int .i64 b, .int .i64 m] TPf)
  have b0 := (Blk.new w TPf #[.int .i64 a, .int .i64 n]).alloc (.cells #[.int .i64 b, .int .i64 m] TPf)
  have b1 := Blk.at_ (w.alloc (.cells #[.int .i64 a, .int .i64 n] TPf)) TPf #[.int .i64 b, .int .i64 m] (w.heap.size + 1) (by simp)
  have N := hide u
  have HP := hide b0
  have HQ := hide b1
  have HT := hide (ht.new u)
  have HE := hide (he.new u)
  clear u b0 b1 ht he
  go_enter Tryz.func3, Tryz.ntmps3
  go_upto_region 1 with (fail)
  generalize ((w.alloc (.cells #[.int .i64 a, .int .i64 n] TPf)).alloc (.cells #[.int .i64 b, .int .i64 m] TPf)) = W at *
  have Had := hide (addressed_any E W HT.out HE.out.s1 HE.out.s2 HE.out.s3)
  go_wp2_with fail
  refine Had.out.mono ?_
  rintro e w0 ⟨rfl, hu⟩
  have HP := hide (HP.out.new_ hu)
  have HQ := hide (HQ.out.new_ hu)
  have HT := hide (HT.out.new hu)
  have HE := hide (HE.out.new hu)
  have N := hide (N.out.trans_new hu)
  clear hu Had
  by_cases hl : s.size ≤ 60
  rotate_left
  · have i0 : (60 : Int) < (s.size : Int) := by omega
    go_wp2_with fail
    go_ret
    exact ⟨rfl, N.out⟩
  have i0 : ¬ (60 : Int) < (s.size : Int) := by omega
  have Hra := hide (readAddr_uni s E w0 HT.out HE.out.s1 (by omega))
  have Hrr := hide (fun w' => readAddrRef_any s w' (by omega))
  have Hrp := hide (fun w' => readPrefRef_any s w' (by omega))
  have Hpr := hide (fun w' (ht : TxtOk w') (he : Errs w' E) => read_any s E w' ht he.s1 he.s2 he.s3 (by omega))
  have Hat := hide (fun w' (h : TxtOk w') => addrText_any x w' h)
  have Hatr := hide (fun w' => addrTextRef_any x w')
  have Hrp2 := hide (readP_le s)
  have Hcd := hide (fun w' (h : Errs w' E) (v : Value) (c : Nat) (hv : ErrV w' E v c (-1)) => (coded1_any v c (-1) c w' E h hv).mono (R' := fun e w1 => e = .returned (.bool true) ∧ New w' w1) fun e w1 hh => ⟨by rw [hh.1]; simp, hh.2⟩)
  generalize readA s = ra at *
  generalize readP s = R at *
  generalize addrT x = T at *
  obtain ⟨rc, r1, r2⟩ := R
  unfold addrV at Hrr
  unfold readV at Hrp
  dsimp only at Hrp Hpr Hrp2
  go_wp2_with fail
  refine Hra.out.mono ?_
  rintro e w1 ⟨ev, rfl, hev, hu⟩
  have HP := hide (HP.out.new_ hu)
  have HQ := hide (HQ.out.new_ hu)
  have HT := hide (HT.out.new hu)
  have HE := hide (HE.out.new hu)
  have N := hide (N.out.trans_new hu)
  have Hev := hide hev
  clear hu hev Hra
  go_wp2_with fail
  refine (Hrr.out _).mono ?_
  rintro e w2 ⟨rfl, hu⟩
  have HP := hide (HP.out.new_ hu)
  have HQ := hide (HQ.out.new_ hu)
  have HT := hide (HT.out.new hu)
  have HE := hide (HE.out.new hu)
  have N := hide (N.out.trans_new hu)
  clear hu Hrr
  generalize ra.isSome = is at *
  generalize ra.getD 0 = A at *
  go_upto_region 6 with (fail)
  go_cut [66] (fun v66_ wc => v66_ = .bool false ∧ New w2 wc)
  case first =>
    have i1 : ((A : Int) != (A : Int)) = false := by simp
    rcases Hev.out with ⟨rfl, rfl⟩ | ⟨rfl, rfl⟩
    · go_wp2_with fail
      refine (Hat.out _ HT.out).mono ?_
      rintro e w3 ⟨rfl, hu⟩
      have U := hide hu
      clear hu
      go_wp2_with fail
      refine (Hatr.out _).mono ?_
      rintro e w4 ⟨rfl, hu⟩
      have U := hide (U.out.trans_new hu)
      clear hu
      go_wp2_with fail
      go_meet
      case rel => exact ⟨rfl, U.out⟩
    · unfold errv
      have Hc1 := hide (Hcd.out w2 HE.out (errv (E 1)) 1 (ErrV.sent (by omega) (by omega)))
      unfold errv at Hc1
      go_wp2_with fail
      refine (Hc1.out).mono ?_
      rintro e w25 ⟨rfl, hu⟩
      have HT := hide (HT.out.new hu)
      have U := hide hu
      clear hu Hc1
      go_wp2_with fail
      refine (Hat.out _ HT.out).mono ?_
      rintro e w3 ⟨rfl, hu⟩
      have U := hide (U.out.trans_new hu)
      clear hu
      go_wp2_with fail
      refine (Hatr.out _).mono ?_
      rintro e w4 ⟨rfl, hu⟩
      have U := hide (U.out.trans_new hu)
      clear hu
      go_wp2_with fail
      go_meet
      case rel => exact ⟨rfl, U.out⟩
  obtain ⟨rfl, hu⟩ := hcut
  have HP := hide (HP.out.new_ hu)
  have HQ := hide (HQ.out.new_ hu)
  have HT := hide (HT.out.new hu)
  have HE := hide (HE.out.new hu)
  have N := hide (N.out.trans_new hu)
  clear hu Hev Hat Hatr
  go_wp2_with fail
  refine (Hpr.out _ HT.out HE.out).mono ?_
  rintro e w7 ⟨rfl, hu⟩
  have e8 : ∀ w', ErrV w' E (errc E rc) rc (-1) := fun w' => ErrV.errc Hrp2.out
  generalize errc E rc = ev8 at *
  have E8 := hide e8
  have HP := hide (HP.out.new_ hu)
  have HQ := hide (HQ.out.new_ hu)
  have HT := hide (HT.out.new hu)
  have HE := hide (HE.out.new hu)
  have N := hide (N.out.trans_new hu)
  clear hu Hpr e8
  go_upto_region 9 with (fail)
  have M := hide ((Upd.refl (fun _ => False) w7).alloc (.cells #[.int .i64 r1, .int .i64 r2] TPf))
  have HY := hide (Blk.new w7 TPf #[.int .i64 r1, .int .i64 r2])
  have HXy := hide (Nat.le_refl w7.heap.size)
  generalize w7.alloc (.cells #[.int .i64 r1, .int .i64 r2] TPf) = W7 at *
  generalize hY : w7.heap.size = Y at HY HXy ⊢
  have HXy := hide (show w7.heap.size ≤ Y by omega)
  clear hY
  go_wp2_with fail
  refine (Hrp.out _).mono ?_
  rintro e w8 ⟨rfl, hu⟩
  have HY := hide (HY.out.new_ hu)
  have M := hide (M.out.trans_new hu)
  clear hu Hrp
  go_upto_region 10 with (fail)
  have u := (Upd.refl (fun _ => False) w8).alloc (.cells #[.int .i64 r1, .int .i64 r2] TPf)
  have HZ := hide (Blk.new w8 TPf #[.int .i64 r1, .int .i64 r2])
  have hxz := M.out.size
  have hyz := HY.out.lt
  have HY := hide (HY.out.new_ u)
  have M := hide (M.out.trans_new u)
  clear u
  generalize w8.alloc (.cells #[.int .i64 r1, .int .i64 r2] TPf) = W8 at *
  generalize w8.heap.size = Z at *
  have HXz := hide hxz
  have HYZ := hide hyz
  clear hxz hyz
  have hck := fun w' (h : Errs w' E) => check_any a n E w' h.s2 h.s3
  have hpe := fun w' => prefixError_any a n w'
  have htx := fun w' (ht : TxtOk w') (h : Errs w' E) => text_any a n E w' ht h.s2 h.s3
  have htr := fun w' => prefTextRef_any a n w'
  have hkc : ∀ w', ErrV w' E (errc E (chk a n)) (chk a n) (-1) := fun w' => ErrV.errc (chk_le9 a n)
  generalize prefT a n = PT at *
  generalize errc E (chk a n) = ev9 at *
  obtain ⟨kc, hkc2⟩ : ∃ kc, kc = chk a n := ⟨_, rfl⟩
  rw [← hkc2] at hkc
  simp only [← hkc2] at hpe
  have Hck := hide hck
  have Hpe := hide hpe
  have Htx := hide htx
  have Htr := hide htr
  have Hkc := hide hkc
  have Hkc2 := hide hkc2
  clear hck hpe htx htr hkc hkc2
  have bq := HP.out.new_ M.out
  have p0 := bq.cell 0
  have p1 := bq.cell 1
  have pz := bq.lt
  simp only [List.getElem?_toArray, List.getElem?_cons_zero, List.getElem?_cons_succ] at p0 p1
  clear bq
  have bq := HY.out
  have y0 := bq.cell 0
  have y1 := bq.cell 1
  have yz := bq.lt
  simp only [List.getElem?_toArray, List.getElem?_cons_zero, List.getElem?_cons_succ] at y0 y1
  clear bq
  have bq := HZ.out
  have z0 := bq.cell 0
  have z1 := bq.cell 1
  have zz := bq.lt
  simp only [List.getElem?_toArray, List.getElem?_cons_zero, List.getElem?_cons_succ] at z0 z1
  clear bq
  refine wp_region_new W8 (Upd.refl _ _) (by kernel_rfl) (by kernel_rfl) ?_
  repeat (go_big_quiet_step (first | (go_at_call 9; first | exact new_call (Hcd.out _ (HE.out.new (M.out.trans_new (NewW.h _))) _ _ (E8.out _)) | exact new_call (Hcd.out _ (HE.out.new (M.out.trans_new (NewW.h _))) _ _ (Hkc.out _))) | (go_at_call 14; exact new_call (Hck.out _ (HE.out.new (M.out.trans_new (NewW.h _))))) | (go_at_call 15; exact new_call (Hpe.out _)) | (go_at_call 16; exact new_call (Htx.out _ (HT.out.new (M.out.trans_new (NewW.h _))) (HE.out.new (M.out.trans_new (NewW.h _))))) | (go_at_call 17; exact new_call (Htr.out _))))
  refine wpQuiet_nil ?_
  rintro _ ⟨nq, rfl⟩
  clear p0 p1 pz y0 y1 yz z0 z1 zz
  have hu := nq.h
  have HY := hide (HY.out.new_ hu)
  have HZ := hide (HZ.out.new_ hu)
  have M := hide (M.out.trans_new hu)
  clear hu Hck Htx Htr
  generalize nq.w = w9 at *
  clear nq
  go_upto_region 12 with (fail)
  have Hcu := hide (fun w' (h : Errs w' E) => cut_anyU x k E w' h.s2)
  have hcr := fun w' => cutOf_any x k w'
  rw [cutV_U] at hcr
  have Hcr := hide hcr
  have Hcl := hide (cutU_le x k)
  clear hcr
  generalize cutU x k = C at *
  obtain ⟨c1, c2, cc⟩ := C
  dsimp only at Hcu Hcr Hcl
  go_wp2_with fail
  refine (Hcu.out _ (HE.out.new M.out)).mono ?_
  rintro e w10 ⟨rfl, hu⟩
  have e12 : ∀ w', ErrV w' E (errc E cc) cc (-1) := fun w' => ErrV.errc Hcl.out
  generalize errc E cc = ev12 at *
  have E12 := hide e12
  have HY := hide (HY.out.new_ hu)
  have HZ := hide (HZ.out.new_ hu)
  have M := hide (M.out.trans_new hu)
  clear hu e12 Hcu
  have bq := HY.out
  have y0 := bq.cell 0
  have y1 := bq.cell 1
  have yz := bq.lt
  simp only [List.getElem?_toArray, List.getElem?_cons_zero, List.getElem?_cons_succ] at y0 y1
  clear bq
  have fy0 := HY.out.frozen 0
  have fy1 := HY.out.frozen 1
  go_upto_region 13 with (fail)
  have hs : Upd (fun z => z = Y) w10 ((w10.setCell ⟨Y, 0, none⟩ (.int .i64 c1)).setCell ⟨Y, 1, none⟩ (.int .i64 c2)) := ((Upd.refl (fun z => z = Y) w10).setCell (p := ⟨Y, 0, none⟩) (.inl rfl) _).setCell (p := ⟨Y, 1, none⟩) (.inl rfl) _
  have HZ := hide (HZ.out.upd hs (by have := HYZ.out; omega))
  have M := hide (new_set2 (u := .int .i64 c1) (v := .int .i64 c2) M.out HXy.out)
  have HY := hide (pref_set (u := .int .i64 c1) (v := .int .i64 c2) HY.out)
  clear hs y0 y1 yz fy0 fy1
  generalize (w10.setCell ⟨Y, 0, none⟩ (.int .i64 c1)).setCell ⟨Y, 1, none⟩ (.int .i64 c2) = W10 at *
  go_wp2_with fail
  refine (Hcr.out _).mono ?_
  rintro e w11 ⟨rfl, hu⟩
  have HY := hide (HY.out.new_ hu)
  have HZ := hide (HZ.out.new_ hu)
  have M := hide (M.out.trans_new hu)
  clear hu Hcr
  have bq := HZ.out
  have z0 := bq.cell 0
  have z1 := bq.cell 1
  have zz := bq.lt
  simp only [List.getElem?_toArray, List.getElem?_cons_zero, List.getElem?_cons_succ] at z0 z1
  clear bq
  have fz0 := HZ.out.frozen 0
  have fz1 := HZ.out.frozen 1
  go_upto_region 14 with (fail)
  have hs : Upd (fun z => z = Z) w11 ((w11.setCell ⟨Z, 0, none⟩ (.int .i64 c1)).setCell ⟨Z, 1, none⟩ (.int .i64 c2)) := ((Upd.refl (fun z => z = Z) w11).setCell (p := ⟨Z, 0, none⟩) (.inl rfl) _).setCell (p := ⟨Z, 1, none⟩) (.inl rfl) _
  have HY := hide (HY.out.upd hs (by have := HYZ.out; omega))
  have M := hide (new_set2 (u := .int .i64 c1) (v := .int .i64 c2) M.out HXz.out)
  have HZ := hide (pref_set (u := .int .i64 c1) (v := .int .i64 c2) HZ.out)
  clear hs z0 z1 zz fz0 fz1
  generalize (w11.setCell ⟨Z, 0, none⟩ (.int .i64 c1)).setCell ⟨Z, 1, none⟩ (.int .i64 c2) = W11 at *
  have bq := HY.out
  have y0 := bq.cell 0
  have y1 := bq.cell 1
  have yz := bq.lt
  simp only [List.getElem?_toArray, List.getElem?_cons_zero, List.getElem?_cons_succ] at y0 y1
  clear bq
  have bq := HZ.out
  have z0 := bq.cell 0
  have z1 := bq.cell 1
  have zz := bq.lt
  simp only [List.getElem?_toArray, List.getElem?_cons_zero, List.getElem?_cons_succ] at z0 z1
  clear bq
  have Hc14 := hide (Hcd.out W11 (HE.out.new M.out) ev12 cc (E12.out _))
  go_wp2_with fail
  refine Hc14.out.mono ?_
  rintro e w12 ⟨rfl, hu⟩
  have HY := hide (HY.out.new_ hu)
  have HZ := hide (HZ.out.new_ hu)
  have M := hide (M.out.trans_new hu)
  clear hu Hc14 y0 y1 yz z0 z1 zz
  have bq := HY.out
  have y0 := bq.cell 0
  have y1 := bq.cell 1
  have yz := bq.lt
  simp only [List.getElem?_toArray, List.getElem?_cons_zero, List.getElem?_cons_succ] at y0 y1
  clear bq
  have bq := HZ.out
  have z0 := bq.cell 0
  have z1 := bq.cell 1
  have zz := bq.lt
  simp only [List.getElem?_toArray, List.getElem?_cons_zero, List.getElem?_cons_succ] at z0 z1
  clear bq
  go_upto_region 16 with (fail)
  clear y0 y1 yz z0 z1 zz
  have bq := HP.out.new_ M.out
  have p0 := bq.cell 0
  have p1 := bq.cell 1
  have pz := bq.lt
  simp only [List.getElem?_toArray, List.getElem?_cons_zero, List.getElem?_cons_succ] at p0 p1
  clear bq
  have bq := HQ.out.new_ M.out
  have q0 := bq.cell 0
  have q1 := bq.cell 1
  have qz := bq.lt
  simp only [List.getElem?_toArray, List.getElem?_cons_zero, List.getElem?_cons_succ] at q0 q1
  clear bq
  have hha := fun w' => hasAddr_any a n x w'
  have hin := fun w' => isIn_any b m a n w'
  have hls := fun w' => isLess_any a n b m w'
  have gha := fun w' (h : Errs w' E) => has_any a n x E w' h.s2 h.s3
  have gin := fun w' (h : Errs w' E) => in_any b m a n E w' h.s2 h.s3
  have gls := fun w' (h : Errs w' E) => less_any a n b m E w' h.s2 h.s3
  have gsz := fun w' (h : Errs w' E) => size_any a n E w' h.s2 h.s3
  have hsz := fun w' (h : chk a n = 0) => sizeOf_any n (chk_zero h).2.1 w'
  simp only [← Hkc2.out] at gsz hsz
  generalize hasB a n x = t1 at *
  generalize inB b m a n = t2 at *
  generalize lessB a n b m = t3 at *
  generalize 2 ^ (32 - n.toNat) = S at *
  have Hha := hide hha
  have Hin := hide hin
  have Hls := hide hls
  have Gha := hide gha
  have Gin := hide gin
  have Gls := hide gls
  have Gsz := hide gsz
  have Hsz := hide hsz
  have j1 : (t1 != t1) = false := by cases t1 <;> rfl
  have j2 : (t2 != t2) = false := by cases t2 <;> rfl
  have j3 : (t3 != t3) = false := by cases t3 <;> rfl
  clear hha hin hls gha gin gls gsz hsz
  go_wp2_with fail
  refine (Hha.out _).mono ?_
  rintro e w13 ⟨rfl, hu⟩
  have M := hide (M.out.trans_new hu)
  clear hu p0 p1 pz q0 q1 qz Hha
  have bq := HP.out.new_ M.out
  have p0 := bq.cell 0
  have p1 := bq.cell 1
  have pz := bq.lt
  simp only [List.getElem?_toArray, List.getElem?_cons_zero, List.getElem?_cons_succ] at p0 p1
  clear bq
  have bq := HQ.out.new_ M.out
  have q0 := bq.cell 0
  have q1 := bq.cell 1
  have qz := bq.lt
  simp only [List.getElem?_toArray, List.getElem?_cons_zero, List.getElem?_cons_succ] at q0 q1
  clear bq
  go_wp2_with fail
  refine (Hin.out _).mono ?_
  rintro e w14 ⟨rfl, hu⟩
  have M := hide (M.out.trans_new hu)
  clear hu p0 p1 pz q0 q1 qz Hin
  have bq := HP.out.new_ M.out
  have p0 := bq.cell 0
  have p1 := bq.cell 1
  have pz := bq.lt
  simp only [List.getElem?_toArray, List.getElem?_cons_zero, List.getElem?_cons_succ] at p0 p1
  clear bq
  have bq := HQ.out.new_ M.out
  have q0 := bq.cell 0
  have q1 := bq.cell 1
  have qz := bq.lt
  simp only [List.getElem?_toArray, List.getElem?_cons_zero, List.getElem?_cons_succ] at q0 q1
  clear bq
  go_wp2_with fail
  refine (Hls.out _).mono ?_
  rintro e w15 ⟨rfl, hu⟩
  have M := hide (M.out.trans_new hu)
  clear hu p0 p1 pz q0 q1 qz Hls
  have bq := HP.out.new_ M.out
  have p0 := bq.cell 0
  have p1 := bq.cell 1
  have pz := bq.lt
  simp only [List.getElem?_toArray, List.getElem?_cons_zero, List.getElem?_cons_succ] at p0 p1
  clear bq
  have bq := HQ.out.new_ M.out
  have q0 := bq.cell 0
  have q1 := bq.cell 1
  have qz := bq.lt
  simp only [List.getElem?_toArray, List.getElem?_cons_zero, List.getElem?_cons_succ] at q0 q1
  clear bq
  go_wp2_with fail
  refine (Gha.out _ (HE.out.new M.out)).mono ?_
  rintro e w16 ⟨rfl, hu⟩
  have M := hide (M.out.trans_new hu)
  clear hu p0 p1 pz q0 q1 qz Gha
  have bq := HP.out.new_ M.out
  have p0 := bq.cell 0
  have p1 := bq.cell 1
  have pz := bq.lt
  simp only [List.getElem?_toArray, List.getElem?_cons_zero, List.getElem?_cons_succ] at p0 p1
  clear bq
  have bq := HQ.out.new_ M.out
  have q0 := bq.cell 0
  have q1 := bq.cell 1
  have qz := bq.lt
  simp only [List.getElem?_toArray, List.getElem?_cons_zero, List.getElem?_cons_succ] at q0 q1
  clear bq
  go_wp2_with fail
  refine (Gin.out _ (HE.out.new M.out)).mono ?_
  rintro e w17 ⟨rfl, hu⟩
  have M := hide (M.out.trans_new hu)
  clear hu p0 p1 pz q0 q1 qz Gin
  have bq := HP.out.new_ M.out
  have p0 := bq.cell 0
  have p1 := bq.cell 1
  have pz := bq.lt
  simp only [List.getElem?_toArray, List.getElem?_cons_zero, List.getElem?_cons_succ] at p0 p1
  clear bq
  have bq := HQ.out.new_ M.out
  have q0 := bq.cell 0
  have q1 := bq.cell 1
  have qz := bq.lt
  simp only [List.getElem?_toArray, List.getElem?_cons_zero, List.getElem?_cons_succ] at q0 q1
  clear bq
  go_wp2_with fail
  refine (Gls.out _ (HE.out.new M.out)).mono ?_
  rintro e w18 ⟨rfl, hu⟩
  have M := hide (M.out.trans_new hu)
  clear hu p0 p1 pz q0 q1 qz Gls
  have bq := HP.out.new_ M.out
  have p0 := bq.cell 0
  have p1 := bq.cell 1
  have pz := bq.lt
  simp only [List.getElem?_toArray, List.getElem?_cons_zero, List.getElem?_cons_succ] at p0 p1
  clear bq
  have bq := HQ.out.new_ M.out
  have q0 := bq.cell 0
  have q1 := bq.cell 1
  have qz := bq.lt
  simp only [List.getElem?_toArray, List.getElem?_cons_zero, List.getElem?_cons_succ] at q0 q1
  clear bq
  go_wp2_with fail
  refine (Hpe.out _).mono ?_
  rintro e w19 ⟨rfl, hu⟩
  have M := hide (M.out.trans_new hu)
  clear hu p0 p1 pz q0 q1 qz Hpe
  have bq := HP.out.new_ M.out
  have p0 := bq.cell 0
  have p1 := bq.cell 1
  have pz := bq.lt
  simp only [List.getElem?_toArray, List.getElem?_cons_zero, List.getElem?_cons_succ] at p0 p1
  clear bq
  have bq := HQ.out.new_ M.out
  have q0 := bq.cell 0
  have q1 := bq.cell 1
  have qz := bq.lt
  simp only [List.getElem?_toArray, List.getElem?_cons_zero, List.getElem?_cons_succ] at q0 q1
  clear bq
  by_cases hk : kc = 0
  · subst hk
    have hs9 := fun w' => Hsz.out w' rfl
    have gs9 := fun w' (h : Errs w' E) => Gsz.out w' h
    rw [if_pos rfl] at gs9
    have Hs9 := hide hs9
    have Gs9 := hide gs9
    clear hs9 gs9
    go_wp2_with fail
    refine (Hs9.out _).mono ?_
    rintro e w20 ⟨rfl, rfl⟩
    go_wp2_with fail
    refine (Gs9.out _ (HE.out.new M.out)).mono ?_
    rintro e w21 ⟨rfl, hu⟩
    go_wp2_with fail
    go_ret
    exact ⟨ret_bool (by simp), N.out.trans_new (M.out.trans_new hu)⟩
  · have gs9 := fun w' (h : Errs w' E) => Gsz.out w' h
    rw [if_neg hk] at gs9
    have Gs9 := hide gs9
    have k9 : ¬ (kc : Int) = 0 := by omega
    clear gs9 hk
    go_wp2_with fail
    refine (Gs9.out _ (HE.out.new M.out)).mono ?_
    rintro e w21 ⟨rfl, hu⟩
    go_wp2_with fail
    go_ret
    exact ⟨rfl, N.out.trans_new (M.out.trans_new hu)⟩
end Go.Proofs.YtignngpligicjaaGreatDoor
