/- Package wire: Read. No condition but those that stand in each theorem. -/
import Derived.Test.YtjgecmkfgeajiaaGreatDoorWrI
import Derived.Test.YtjgecmkfgeajiaaGreatDoorWrL
import Derived.Test.YtjgecmkfgeajiaaGreatDoorWrS
namespace Go.Proofs.YtjgecmkfgeajiaaGreatDoor
open Go.RowKit

/-- What Read leaves. -/
def MReadPost (E : Nat → Addr) (r : (Nat × Int) × MsgC) (w : World) (e : Ending) (w1 : World) : Prop :=
  ∃ (m' : MsgR) (v : Value), e = .returned (.tuple #[.agg m'.cells, v]) ∧ ErrV w1 E v r.1.1 r.1.2 ∧ m'.con = r.2 ∧ MsgOk w1 m' ∧ New w w1
/-- A message whose rows lie outside. -/
def MsgFar (S : Nat → Prop) (m : MsgR) : Prop := (∀ b o, m.D = some ⟨b, o, none⟩ → ¬ S b) ∧ (∀ b o, m.A = some ⟨b, o, none⟩ → ¬ S b) ∧ ∀ r ∈ m.adds, AttrFar S r.at_
/-- What Read leaves: its rows are new. -/
def MReadFar (E : Nat → Addr) (r : (Nat × Int) × MsgC) (w : World) (e : Ending) (w1 : World) : Prop :=
  ∃ (m' : MsgR) (v : Value), e = .returned (.tuple #[.agg m'.cells, v]) ∧ ErrV w1 E v r.1.1 r.1.2 ∧ m'.con = r.2 ∧ MsgOk w1 m' ∧ MsgFar (fun q => q < w.heap.size) m' ∧ New w w1
def zeroMR : MsgR := ⟨⟨#[]⟩, 0, none, 0, [], none, 0, []⟩
theorem zeroMR_ok (w : World) : MsgOk w zeroMR := ⟨fun h => by simp [zeroMR] at h, ⟨fun h => by simp [zeroMR] at h, fun i r h => by simp [zeroMR] at h⟩, Nat.le_refl _, Nat.le_refl _⟩

theorem zeroMR_far (S : Nat → Prop) : MsgFar S zeroMR := ⟨fun b o h => by simp [zeroMR] at h, fun b o h => by simp [zeroMR] at h, fun r h => by simp [zeroMR] at h⟩
theorem MsgOk.upd_far {S : Nat → Prop} {w w1 : World} {m : MsgR} (h : MsgOk w m) (hu : Upd S w w1) (hf : MsgFar S m) : MsgOk w1 m :=
  ⟨h.drops.upd hu hf.1, ⟨h.adds.rows.upd hu hf.2.1, fun i r hr => (h.adds.attr i r hr).upd2 hu (hf.2.2 r (List.mem_of_getElem? hr))⟩, h.dl, h.al⟩
theorem MsgFar.mono {S T : Nat → Prop} {m : MsgR} (h : MsgFar S m) (hT : ∀ q, T q → S q) : MsgFar T m :=
  ⟨fun b o e ht => h.1 b o e (hT b ht), fun b o e ht => h.2.1 b o e (hT b ht), fun r hr => ⟨fun h0 b o e ht => (h.2.2 r hr).1 h0 b o e (hT b ht), fun h0 b o e ht => (h.2.2 r hr).2 h0 b o e (hT b ht)⟩⟩
theorem ss_new_ {w w1 : World} {g : Nat} {ps : List (List UInt8)} (h : Ss w (some ⟨g, 0, none⟩) ps) (hu : New w w1) : Ss w1 (some ⟨g, 0, none⟩) ps := h.upd2 hu (fun x => x)
theorem rdI_zero (W : World) (base : Nat) (hb : base ≤ W.heap.size) : RdI base W.heap.size ⟨#[]⟩ 0 ⟨[], [], []⟩ (W.alloc (.cells #[.string ⟨#[]⟩, .int .i64 0, .slice none 0 0, .slice none 0 0, .slice none 0 0] TRd)) (.slice none 0 0) (.slice none 0 0) (.slice none 0 0) [] :=
  ⟨hb, Blk.new W TRd _, World.ownsRow_nil _ _ _ _, World.ownsRow_nil _ _ _ _, World.ownsRow_nil _ _ _ _, rfl, fun r h => by simp at h, fun r h => by simp at h, fun g h => by simp [Value.ownBlock] at h, fun r h => by simp at h⟩

theorem rdI_msg {base Y : Nat} {kd : ByteArray} {nn : Int} {st : RdS} {w : World} {D A : Option Addr} {nd na dc ac : Nat} {vm : Value} {rs : List RouteR} (h : RdI base Y kd nn st w (.slice D nd dc) (.slice A na ac) vm rs) : nd = st.drops.length ∧ na = rs.length ∧ MsgOk w ⟨kd, nn, D, dc, st.drops, A, ac, rs⟩ := by
  obtain ⟨D', dc', e1, l1, c1, r1, _⟩ := rws_of_own (by omega) h.drops (wpf_size _)
  obtain ⟨A', ac', e2, l2, c2, r2, _⟩ := rws_of_own (by omega) h.adds (fun r hr => by obtain ⟨x, _, rfl⟩ := List.mem_map.1 hr; rfl)
  injection e1 with a1 a2 a3
  injection e2 with b1 b2 b3
  subst a1; subst a2; subst a3; subst b1; subst b2; subst b3
  exact ⟨rfl, rfl, r1, ⟨r2, fun i r hr => h.ok r (List.mem_of_getElem? hr)⟩, c1, c2⟩
/-- A message survives stores into a block that holds neither its rows nor what they lead to. -/
theorem msgOk_far {base Y X : Nat} {kd : ByteArray} {nn : Int} {st : RdS} {w : World} {D A : Option Addr} {dc ac : Nat} {vm : Value} {rs : List RouteR} {cs : Array Value} (hm : MsgOk w ⟨kd, nn, D, dc, st.drops, A, ac, rs⟩) (h : RdI base Y kd nn st w (.slice D st.drops.length dc) (.slice A rs.length ac) vm rs) (hx : Blk w X TM cs) (hX : X < base) {y0 y1 y2 y3 : Value} :
    MsgOk ((((w.setCell ⟨X, 0, none⟩ y0).setCell ⟨X, 1, none⟩ y1).setCell ⟨X, 2, none⟩ y2).setCell ⟨X, 3, none⟩ y3) ⟨kd, nn, D, dc, st.drops, A, ac, rs⟩ := by
  have u : Upd (fun q => q = X) w ((((w.setCell ⟨X, 0, none⟩ y0).setCell ⟨X, 1, none⟩ y1).setCell ⟨X, 2, none⟩ y2).setCell ⟨X, 3, none⟩ y3) := head_cells_upd
  have hD : ∀ b o, D = some ⟨b, o, none⟩ → ¬ b = X := fun b o e hb => rown_ne h.drops hx (by decide) (by rw [e, hb]; rfl)
  have hA : ∀ b o, A = some ⟨b, o, none⟩ → ¬ b = X := fun b o e hb => rown_ne h.adds hx (by decide) (by rw [e, hb]; rfl)
  exact ⟨hm.drops.upd u hD, ⟨hm.adds.rows.upd u hA, fun i r hr => (hm.adds.attr i r hr).upd2 u (by
    have hl := h.low r (List.mem_of_getElem? hr)
    exact ⟨fun h0 b o e hb => hl.1 h0 b o e (by omega), fun h0 b o e hb => hl.2 h0 b o e (by omega)⟩)⟩, hm.dl, hm.al⟩
theorem errV_nil9 {w : World} {E : Nat → Addr} {v : Value} {k : Nat} {i : Int} (h : ErrV w E v k i) (hk : k = 0) : v = .nilIface := by
  rcases h.form with ⟨_, _, h⟩ | ⟨h, _⟩
  · exact h
  · exact absurd hk h
theorem errV_ptr9 {w : World} {E : Nat → Addr} {v : Value} {k : Nat} {i : Int} (h : ErrV w E v k i) (hk : k ≠ 0) : ∃ t p, v = .iface t (.pointer (some p)) := by
  rcases h.form with ⟨h, _⟩ | ⟨_, h⟩
  · exact absurd h hk
  · exact h
theorem kd_test (kd : ByteArray) : (kd.toList == [110, 101, 119, 115]) = decide (kd.data.toList = kNews) := by
  have e := toL_eq kd.data.toList kNews
  rw [ba_eta kd] at e
  exact e

set_option maxRecDepth 20000 in
set_option maxHeartbeats 20000000 in
theorem wireRead_far (s : ByteArray) (E : Nat → Addr) (w : World) (ht : TxtOk w) (he : WEs w E) (hs : s.size ≤ 1000000) :
    Calls Tryz.prog 9 #[.string s] w (MReadFar E (readM s.data.toList) w) := by
  have u := (Upd.refl (fun _ => False) w).alloc (.cells #[.string ⟨#[]⟩, .int .i64 0, .slice none 0 0, .slice none 0 0] TM)
  have N := hide u
  have HR := hide (Blk.new w TM #[.string ⟨#[]⟩, .int .i64 0, .slice none 0 0, .slice none 0 0])
  have HT0 := hide ht
  have HE0 := hide he
  have HT := hide (ht.new u)
  have HE := hide (he.new u)
  have hll : s.data.toList.length = s.size := by simp
  have HQ := hide (show 0 < w.heap.size ∧ 1 < w.heap.size from ⟨he.s2.lt, he.s1.lt⟩)
  obtain ⟨R, hR⟩ : ∃ R, R = readM s.data.toList := ⟨_, rfl⟩
  rw [← hR]
  have HRd := hide hR
  clear ht he u hR
  unfold MReadFar
  go_enter Tryz.func9, Tryz.ntmps9
  go_upto_region 1 with (fail)
  generalize w.alloc (.cells #[.string ⟨#[]⟩, .int .i64 0, .slice none 0 0, .slice none 0 0] TM) = W at *
  obtain ⟨X, hX⟩ : ∃ X, X = w.heap.size := ⟨_, rfl⟩
  rw [← hX] at HR HQ ⊢
  have HX := hide hX
  clear hX
  by_cases hbig : 8000 < s.size
  · have i1 : (8000 : Int) < (s.size : Int) := by omega
    have hr : readM s.data.toList = ((2, -1), zeroM) := by
      unfold readM
      rw [if_pos (by omega)]
    have He := hide (HRd.out.trans hr)
    have bq := HR.out
    have r0 := bq.cell 0
    have r1 := bq.cell 1
    have r2 := bq.cell 2
    have r3 := bq.cell 3
    have s0 := bq.frozen 0
    have s1 := bq.frozen 1
    have s2 := bq.frozen 2
    have s3 := bq.frozen 3
    have rz := bq.lt
    simp only [List.getElem?_toArray, List.getElem?_cons_zero, List.getElem?_cons_succ] at r0 r1 r2 r3
    clear bq hr hbig
    have e2 : W.cell? ⟨0, 0, none⟩ = some (errv (E 2)) := HE.out.s2
    have q7 : ¬ (X = 0) := by have := HQ.out.1; omega
    have q71 : ¬ (0 = X) := by have := HQ.out.1; omega
    have z2 : 0 < W.heap.size := HE.out.s2.lt
    unfold errv at e2
    go_wp2_with fail
    all_goals
      go_region
      all_goals
        go_wp2_with fail
        refine bodyPost_ret (msg_out2 Tryz.results9 rfl (set4 HR.out).drew) rfl ?_
        exact ⟨zeroMR, _, rfl, by rw [He.out]; exact ErrV.errc (E := E) (k := 2) (by omega), by rw [He.out]; rfl, zeroMR_ok _, zeroMR_far _, (set4_new N.out (by rw [HX.out]; exact Nat.le_refl _)).drew⟩
  have i1 : ¬ (8000 : Int) < (s.size : Int) := by omega
  have uY := (Upd.refl (fun _ => False) W).alloc (.cells #[.string ⟨#[]⟩, .int .i64 0, .slice none 0 0, .slice none 0 0, .slice none 0 0] TRd)
  have HI := hide (rdI_zero W (w.heap.size + 1) (by rw [← HX.out] at *; exact HR.out.lt))
  have HR := hide (HR.out.new_ uY)
  have HT := hide (HT.out.new uY)
  have HE := hide (HE.out.new uY)
  have N := hide (N.out.trans_new uY)
  have Hsp := hide (split_ss s 10 _ HT.out (by omega))
  have HL := hide (And.intro (cutR_piece 10 s.data.toList) (cutR_len 10 s.data.toList))
  have HW := hide (show (W.alloc (.cells #[.string ⟨#[]⟩, .int .i64 0, .slice none 0 0, .slice none 0 0, .slice none 0 0] TRd)).heap.size = W.heap.size + 1 by simp)
  have H8 := hide (show ¬ 8000 < s.data.toList.length by omega)
  clear uY hbig
  go_wp2_with fail
  generalize W.alloc (.cells #[.string ⟨#[]⟩, .int .i64 0, .slice none 0 0, .slice none 0 0, .slice none 0 0] TRd) = W2 at *
  generalize W.heap.size = Y at *
  refine Hsp.out.mono ?_
  rintro e w3 ⟨g, rfl, hss, hg, hu⟩
  have HS := hide hss
  have HY := hide (show Y < g by have := HW.out; omega)
  have HI := hide (HI.out.new_ hu)
  have HR := hide (HR.out.new_ hu)
  have HT := hide (HT.out.new hu)
  have HE := hide (HE.out.new hu)
  have N := hide (N.out.trans_new hu)
  clear hss hg hu Hsp
  go_wp2_with fail
  obtain ⟨ls, hls⟩ : ∃ ls, ls = cutR 10 s.data.toList := ⟨_, rfl⟩
  rw [← hls] at HS HL ⊢
  have HLs := hide hls
  clear hls
  obtain ⟨n, hn⟩ : ∃ n, n = ls.length := ⟨_, rfl⟩
  rw [← hn]
  have Hn := hide hn
  have bn : n ≤ 8001 := by have := HL.out.2; have := H8.out; omega
  clear hn
  go_loopw [21] (fun iv wz => ∃ k : Nat, k < n ∧ iv = .int .i64 k ∧ New w wz ∧ Blk wz X TM #[.string ⟨#[]⟩, .int .i64 0, .slice none 0 0, .slice none 0 0] ∧ Ss wz (some ⟨g, 0, none⟩) ls ∧
    ∃ (kd : ByteArray) (nn : Int) (st : RdS) (vd va vm : Value) (rs : List RouteR), RdI (w.heap.size + 1) Y kd nn st wz vd va vm rs ∧ RdB k st ∧ (∀ z, OwnB Y vd va vm z → z = Y ∨ g < z) ∧
      ((k = 0 ∧ st = ⟨[], [], []⟩) ∨ (1 ≤ k ∧ ∃ x, ls[0]? = some x ∧ headP x = some (kd.data.toList, nn) ∧ restP (decide (kd.data.toList = kNews)) (ls.drop 1) 1 ⟨[], [], []⟩ = restP (decide (kd.data.toList = kNews)) (ls.drop k) k st))) (fun iv _ => n - (intOf iv).toNat)
  case atStart => exact ⟨0, by have := cutR_ne 10 s.data.toList; rw [← HLs.out, ← List.length_pos_iff] at this; rw [Hn.out]; exact this, rfl, N.out, HR.out, HS.out, _, _, _, _, _, _, _, HI.out, RdB.zero, fun z hz => by rcases hz with hz | hz | hz | hz <;> first | exact .inl hz | simp [Value.ownBlock] at hz, .inl ⟨rfl, rfl⟩⟩
  case round =>
    obtain ⟨k, hk, rfl, hN, hR, hS, kd, nn, st, vd, va, vm, rs, hI, hB, hO, hC⟩ := hrel
    have HN := hide hN
    have HR := hide hR
    have HS := hide hS
    have HT := hide (HT0.out.new hN)
    have HE := hide (HE0.out.new hN)
    have HI := hide hI
    have HB := hide hB
    have HO := hide hO
    have HC := hide hC
    clear hN hR hS hI hB hO hC
    obtain ⟨x, hx⟩ : ∃ x, ls[k]? = some x := ⟨_, List.getElem?_eq_getElem (by rw [← Hn.out]; exact hk)⟩
    obtain ⟨bb, oo, hA, hb, hcc⟩ := HS.out (by rw [← Hn.out]; omega)
    injection hA with hA
    injection hA with hA1 hA2 _
    subst hA1; subst hA2
    have q0 : wr.cell? ⟨g, k, none⟩ = some (.string ⟨x.toArray⟩) := by have := hcc k x hx; rwa [Nat.zero_add] at this
    have Hx := hide hx
    have Hxl := hide (HL.out.1 x (List.mem_of_getElem? hx))
    clear hcc hx
    have i2 : (k : Int) < (n : Int) := by omega
    go_upto_region 8 with (fail)
    by_cases hend : 1 ≤ k ∧ k + 1 = n ∧ x = []
    · obtain ⟨h1k, hl, rfl⟩ := hend
      obtain ⟨x0, hx0, hh0, hre⟩ : ∃ x, ls[0]? = some x ∧ headP x = some (kd.data.toList, nn) ∧ restP (decide (kd.data.toList = kNews)) (ls.drop 1) 1 ⟨[], [], []⟩ = restP (decide (kd.data.toList = kNews)) (ls.drop k) k st := by
        rcases HC.out with h | h
        · omega
        · exact h.2
      have hR : R = endP kd.data.toList nn st := by
        obtain ⟨x2, y2, r2, hc⟩ : ∃ x2 y2 r2, ls = x2 :: y2 :: r2 := by
          match ls, Hn.out with
          | [], e => simp at e; omega
          | [a], e => simp at e; omega
          | a :: b :: r, _ => exact ⟨a, b, r, rfl⟩
        have hx := hx0
        rw [hc] at hx
        injection hx with hx
        rw [HRd.out, readM_rest (HLs.out.symm.trans hc) H8.out (by rw [hx]; exact hh0), ← HLs.out, hre, restP_last Hx.out (by rw [hl]; exact Hn.out), if_pos rfl]
      have HRe := hide hR
      have j0 : (0 : Int) < (k : Int) := by omega
      have j1 : (k : Int) = (n : Int) - 1 := by omega
      have Hd := hide (drops_any (w.heap.size + 1) Y kd nn st vd va vm rs wr HI.out (by have := HR.out.lt; have := HX.out; omega) (by have := HB.out.dl; omega) (by have := HB.out.ml; omega))
      clear hx0 hh0 hre hR hl hb
      go_wp2_with fail
      refine Hd.out.mono ?_
      rintro e w4 ⟨⟨v0, rfl⟩, vd1, hI4, hU4, hO4⟩
      have hXY : X ≠ Y := Blk.ne_ HR.out HI.out.blk (by decide)
      have hlo := HI.out.lo
      have HR := hide (HR.out.upd hU4 fun hz => by
        have := HX.out
        have := HY.out
        rcases HO.out X hz with h | h
        · exact hXY h
        · omega)
      have HN := hide (HN.out.trans hU4 fun q hq hz => by
        have := HY.out
        rcases HO.out q hz with h | h <;> omega)
      have HT := hide (HT0.out.new HN.out)
      have HE := hide (HE0.out.new HN.out)
      obtain ⟨D, dc, rfl⟩ := own_form hI4.drops (by omega)
      obtain ⟨A, ac, rfl⟩ := own_form hI4.adds (by omega)
      obtain ⟨_, _, hok4⟩ := rdI_msg hI4
      have Hok := hide hok4
      have HI4 := hide hI4
      obtain ⟨dr, hdr⟩ : ∃ dr, dr = dropAll st.drops st.more := ⟨_, rfl⟩
      have hdl := dropAll_len st.more st.drops
      rw [← hdr] at HI4 Hok hdl
      have Hdr := hide hdr
      have HI4 : Hid (RdI (w.heap.size + 1) Y kd nn { st with drops := dr } w4 (.slice D dr.length dc) (.slice A rs.length ac) vm rs) := HI4
      have hcon : (⟨kd, nn, D, dc, dr, A, ac, rs⟩ : MsgR).con = ⟨kd.data.toList, nn, dropAll st.drops st.more, st.adds⟩ := by
        rw [← hdr]
        show (⟨kd.data.toList, nn, dr, rs.map RouteR.con⟩ : MsgC) = _
        rw [HI.out.con]
      have hck : endP kd.data.toList nn st = if (checkC ⟨kd, nn, D, dc, dr, A, ac, rs⟩).1 = 0 then ((0, -1), (⟨kd, nn, D, dc, dr, A, ac, rs⟩ : MsgR).con) else (((checkC ⟨kd, nn, D, dc, dr, A, ac, rs⟩).1, -1), zeroM) := by
        rw [← checkX_con, hcon]
        rfl
      have Hck := hide hck
      have hal : rs.length ≤ 8001 := by
        have := HB.out.al
        rw [← HI.out.con, List.length_map] at this
        omega
      have Hc := hide (wireCheck_big ⟨kd, nn, D, dc, dr, A, ac, rs⟩ E w4 HE.out.s2 HE.out.s3 HE.out.s4 HE.out.s6 HE.out.s7 HE.out.s8 Hok.out (fun i r hr => by
        have h1 := HB.out.short r.con (by rw [← HI.out.con]; exact List.mem_map_of_mem (List.mem_of_getElem? hr))
        exact h1) (by have := HB.out.dl; have := HB.out.ml; show dr.length ≤ _; omega) (by show rs.length ≤ _; omega))
      have Hc : Hid (Calls Tryz.prog 17 #[.agg #[.string kd, .int .i64 nn, .slice D dr.length dc, .slice A rs.length ac]] w4 (ErrPost E (checkC ⟨kd, nn, D, dc, dr, A, ac, rs⟩).1 (checkC ⟨kd, nn, D, dc, dr, A, ac, rs⟩).2 w4)) := Hc
      generalize hcc : checkC ⟨kd, nn, D, dc, dr, A, ac, rs⟩ = cc at *
      obtain ⟨c1, c2⟩ := cc
      dsimp only at *
      clear hcc
      have bq := HI4.out.blk
      have y0 := bq.cell 0
      have y1 := bq.cell 1
      have y2 := bq.cell 2
      have y3 := bq.cell 3
      have yz := bq.lt
      simp only [List.getElem?_toArray, List.getElem?_cons_zero, List.getElem?_cons_succ] at y0 y1 y2 y3
      clear bq hI4 hU4 hO4 hok4 hdr hcon hck hdl hXY hal q0
      have y0 : w4.cell? ⟨Y, 0, none⟩ = some (.string kd) := y0
      have y1 : w4.cell? ⟨Y, 1, none⟩ = some (.int .i64 nn) := y1
      have y2 : w4.cell? ⟨Y, 2, none⟩ = some (.slice D dr.length dc) := y2
      have y3 : w4.cell? ⟨Y, 3, none⟩ = some (.slice A rs.length ac) := y3
      go_wp2_with fail
      refine Hc.out.mono ?_
      rintro e w5 ⟨v, rfl, hv, hu5⟩
      have HV := hide hv
      have HR := hide (HR.out.new_ hu5)
      have HN := hide (HN.out.trans_new hu5)
      have HI4 := hide (HI4.out.new_ hu5)
      have Hok := hide (Hok.out.new_ hu5)
      clear hv hu5 y0 y1 y2 y3 yz Hc
      by_cases hc1 : c1 = 0
      · subst hc1
        obtain rfl : v = .nilIface := errV_nil9 HV.out rfl
        have He := hide (show R = ((0, -1), (⟨kd, nn, D, dc, dr, A, ac, rs⟩ : MsgR).con) from by rw [HRe.out, Hck.out, if_pos rfl])
        have bq := HI4.out.blk
        have y0 := bq.cell 0
        have y1 := bq.cell 1
        have y2 := bq.cell 2
        have y3 := bq.cell 3
        have yz := bq.lt
        simp only [List.getElem?_toArray, List.getElem?_cons_zero, List.getElem?_cons_succ] at y0 y1 y2 y3
        clear bq
        have y0 : w5.cell? ⟨Y, 0, none⟩ = some (.string kd) := y0
        have y1 : w5.cell? ⟨Y, 1, none⟩ = some (.int .i64 nn) := y1
        have y2 : w5.cell? ⟨Y, 2, none⟩ = some (.slice D dr.length dc) := y2
        have y3 : w5.cell? ⟨Y, 3, none⟩ = some (.slice A rs.length ac) := y3
        have bq := HR.out
        have r0 := bq.cell 0
        have r1 := bq.cell 1
        have r2 := bq.cell 2
        have r3 := bq.cell 3
        have s0 := bq.frozen 0
        have s1 := bq.frozen 1
        have s2 := bq.frozen 2
        have s3 := bq.frozen 3
        have rz := bq.lt
        simp only [List.getElem?_toArray, List.getElem?_cons_zero, List.getElem?_cons_succ] at r0 r1 r2 r3
        clear bq
        go_wp2_with fail
        refine bodyPost_ret (msg_out2 Tryz.results9 rfl (set4 HR.out)) rfl ?_
        refine ⟨⟨kd, nn, D, dc, dr, A, ac, rs⟩, _, rfl, by rw [He.out]; exact ErrV.nil, by rw [He.out], ?_, ?_, set4_new HN.out (by rw [HX.out]; exact Nat.le_refl _)⟩
        · exact msgOk_far Hok.out HI4.out HR.out (by have := HX.out; omega)
        · exact ⟨fun b o e hq => by
            have e : D = some ⟨b, o, none⟩ := e
            have := (HI4.out.drops.lt b (by rw [e]; rfl)).1
            omega, fun b o e hq => by
            have e : A = some ⟨b, o, none⟩ := e
            have := (HI4.out.adds.lt b (by rw [e]; rfl)).1
            omega, fun r hr => ⟨fun h0 b o e hq => (HI4.out.low r hr).1 h0 b o e (by omega), fun h0 b o e hq => (HI4.out.low r hr).2 h0 b o e (by omega)⟩⟩
      · have hv9 := errV_ptr9 HV.out hc1
        obtain ⟨t9, p9, rfl⟩ := hv9
        have He := hide (show R = ((c1, -1), zeroM) from by rw [HRe.out, Hck.out, if_neg hc1])
        have Hb := hide (bare_any _ _ _ _ E HV.out)
        have Hc1 := hide hc1
        have hc9 := HV.out.le
        clear hc1
        have bq := HR.out
        have r0 := bq.cell 0
        have r1 := bq.cell 1
        have r2 := bq.cell 2
        have r3 := bq.cell 3
        have s0 := bq.frozen 0
        have s1 := bq.frozen 1
        have s2 := bq.frozen 2
        have s3 := bq.frozen 3
        have rz := bq.lt
        simp only [List.getElem?_toArray, List.getElem?_cons_zero, List.getElem?_cons_succ] at r0 r1 r2 r3
        clear bq
        go_wp2_with fail
        refine Hb.out.mono ?_
        rintro e w6 ⟨rfl, rfl⟩
        go_wp2_with fail
        refine bodyPost_ret (msg_out2 Tryz.results9 rfl (set4 HR.out)) rfl ?_
        exact ⟨zeroMR, _, rfl, by rw [He.out]; exact ErrV.errc (E := E) hc9, by rw [He.out]; rfl, zeroMR_ok _, zeroMR_far _, set4_new HN.out (by rw [HX.out]; exact Nat.le_refl _)⟩
    have hw1 : IntKind.i64.wrap ((n : Int) - 1) = (n : Int) - 1 := by rw [IntKind.wrap_i64]; omega
    by_cases hk0 : k = 0
    · obtain rfl := hk0
      by_cases hn1 : n = 1
      · obtain rfl := hn1
        have hcut : cutR 10 s.data.toList = [x] := by
          rw [← HLs.out]
          obtain ⟨y, hy⟩ := List.length_eq_one_iff.1 Hn.out.symm
          have := Hx.out
          rw [hy] at this ⊢
          injection this with this
          rw [this]
        have He := hide (show R = ((1, ((0 : Nat) : Int)), zeroM) from by rw [HRd.out, readM_one hcut, if_neg H8.out]; rfl)
        clear hcut
        go_wp2_with fail
        have e1 : wr.cell? ⟨1, 0, none⟩ = some (errv (E 1)) := HE.out.s1
        have z1 : 1 < wr.heap.size := HE.out.s1.lt
        unfold errv at e1
        have q7 : ¬ (X = 1) := by have := HQ.out.2; have := HX.out; omega
        have q71 : ¬ (1 = X) := by have := HQ.out.2; have := HX.out; omega
        have bq := HR.out
        have r0 := bq.cell 0
        have r1 := bq.cell 1
        have r2 := bq.cell 2
        have r3 := bq.cell 3
        have s0 := bq.frozen 0
        have s1 := bq.frozen 1
        have s2 := bq.frozen 2
        have s3 := bq.frozen 3
        have rz := bq.lt
        simp only [List.getElem?_toArray, List.getElem?_cons_zero, List.getElem?_cons_succ] at r0 r1 r2 r3
        clear bq
        go_region
        all_goals
          go_wp2_with fail
          refine bodyPost_ret (msg_out2 Tryz.results9 rfl ((set4 HR.out).alloc _)) rfl ?_
          exact ⟨zeroMR, _, rfl, by rw [He.out]; exact ErrV.fault (E := E) (k := 1) (by omega) (by omega) (Blk.at_ _ TF _ wr.heap.size (by simp)), by rw [He.out]; rfl, zeroMR_ok _, zeroMR_far _, ((set4_new HN.out (by rw [HX.out]; exact Nat.le_refl _)).alloc _).drew⟩
      · have i3 : (0 : Int) < (n : Int) - 1 := by omega
        obtain ⟨hC0, rfl⟩ : (0 : Nat) = 0 ∧ st = ⟨[], [], []⟩ := by
          rcases HC.out with h | h
          · exact h
          · omega
        clear hC0
        have Hhd := hide (head_any ⟨x.toArray⟩ wr HT.out (by show x.toArray.size ≤ _; have := Hxl.out; have := H8.out; simp; omega))
        have Hhd : Hid (Calls Tryz.prog 25 #[.string ⟨x.toArray⟩] wr fun e w1 => ∃ (k : List UInt8) (n : Int), e = .returned (.tuple #[.agg #[.string ⟨k.toArray⟩, .int .i64 n, .slice none 0 0, .slice none 0 0], .bool (headP x).isSome]) ∧ (∀ y, headP x = some y → y = (k, n)) ∧ New wr w1) := Hhd
        go_wp2_with fail
        refine Hhd.out.mono ?_
        rintro e w4 ⟨kk, n1, rfl, hq, hu⟩
        have Hq := hide hq
        have HI := hide (HI.out.new_ hu)
        have HR := hide (HR.out.new_ hu)
        have HS := hide (ss_new_ HS.out hu)
        have HN := hide (HN.out.trans_new hu)
        clear hu hq Hhd q0 hb
        have bq := HI.out.blk
        have y0 := bq.cell 0
        have y1 := bq.cell 1
        have y2 := bq.cell 2
        have y3 := bq.cell 3
        have f0 := bq.frozen 0
        have f1 := bq.frozen 1
        have f2 := bq.frozen 2
        have f3 := bq.frozen 3
        have yz := bq.lt
        simp only [List.getElem?_toArray, List.getElem?_cons_zero, List.getElem?_cons_succ] at y0 y1 y2 y3
        clear bq
        cases hh : headP x with
        | none =>
          dsimp only [Option.isSome]
          have He := hide (show R = ((1, ((0 : Nat) : Int)), zeroM) from by
            obtain ⟨x2, y2, r2, hc⟩ : ∃ x2 y2 r2, ls = x2 :: y2 :: r2 := by
              match ls, Hn.out with
              | [], e => simp at e; omega
              | [a], e => simp at e; omega
              | a :: b :: r, _ => exact ⟨a, b, r, rfl⟩
            have hx := Hx.out
            rw [hc] at hx
            injection hx with hx
            rw [HRd.out]
            exact readM_bad (HLs.out.symm.trans hc) H8.out (by rw [hx]; exact hh))
          have HR := hide (HR.out.upd (head_cells_upd (a := .string ⟨kk.toArray⟩) (b := .int .i64 n1) (c := .slice none 0 0) (d := .slice none 0 0)) (Blk.ne_ HR.out HI.out.blk (by decide)))
          have HN := hide (head_cells_new (a := .string ⟨kk.toArray⟩) (b := .int .i64 n1) (c := .slice none 0 0) (d := .slice none 0 0) HN.out (show w.heap.size ≤ Y by have := HI.out.lo; omega))
          go_wp2_with fail
          clear y0 y1 y2 y3 f0 f1 f2 f3 yz
          generalize ((((w4.setCell ⟨Y, 0, none⟩ (.string ⟨kk.toArray⟩)).setCell ⟨Y, 1, none⟩ (.int .i64 n1)).setCell ⟨Y, 2, none⟩ (.slice none 0 0)).setCell ⟨Y, 3, none⟩ (.slice none 0 0)) = w5 at *
          have e1 : w5.cell? ⟨1, 0, none⟩ = some (errv (E 1)) := (HE0.out.new HN.out).s1
          have z1 : 1 < w5.heap.size := (HE0.out.new HN.out).s1.lt
          unfold errv at e1
          have q7 : ¬ (X = 1) := by have := HQ.out.2; have := HX.out; omega
          have q71 : ¬ (1 = X) := by have := HQ.out.2; have := HX.out; omega
          have bq := HR.out
          have r0 := bq.cell 0
          have r1 := bq.cell 1
          have r2 := bq.cell 2
          have r3 := bq.cell 3
          have s0 := bq.frozen 0
          have s1 := bq.frozen 1
          have s2 := bq.frozen 2
          have s3 := bq.frozen 3
          have rz := bq.lt
          simp only [List.getElem?_toArray, List.getElem?_cons_zero, List.getElem?_cons_succ] at r0 r1 r2 r3
          clear bq
          go_region
          all_goals
            go_wp2_with fail
            refine bodyPost_ret (msg_out2 Tryz.results9 rfl ((set4 HR.out).alloc _)) rfl ?_
            exact ⟨zeroMR, _, rfl, by rw [He.out]; exact ErrV.fault (E := E) (k := 1) (by omega) (by omega) (Blk.at_ _ TF _ w5.heap.size (by simp)), by rw [He.out]; rfl, zeroMR_ok _, zeroMR_far _, ((set4_new HN.out (by rw [HX.out]; exact Nat.le_refl _)).alloc _).drew⟩
        | some y =>
          dsimp only [Option.isSome]
          have hy := Hq.out y hh
          go_wp2_with fail
          refine ⟨⟨1, by omega, rfl, head_cells_new HN.out (show w.heap.size ≤ Y by have := HI.out.lo; omega), HR.out.upd head_cells_upd (Blk.ne_ HR.out HI.out.blk (by decide)), HS.out.upd2 head_cells_upd (fun e => by have := HY.out; omega), ⟨kk.toArray⟩, n1, ⟨[], [], []⟩, _, _, vm, [], rdI_head HI.out, RdB.zero.up, fun z hz => ?_, .inr ⟨Nat.le_refl _, x, Hx.out, by rw [hh, hy], rfl⟩⟩, by simp [intOf]; omega⟩
          rcases hz with hz | hz | hz | hz
          · exact .inl hz
          · simp [Value.ownBlock] at hz
          · simp [Value.ownBlock] at hz
          · exact HO.out z (.inr (.inr (.inr hz)))
    · obtain ⟨h1k, x0, hx0, hh0, hre⟩ : 1 ≤ k ∧ ∃ x, ls[0]? = some x ∧ headP x = some (kd.data.toList, nn) ∧ restP (decide (kd.data.toList = kNews)) (ls.drop 1) 1 ⟨[], [], []⟩ = restP (decide (kd.data.toList = kNews)) (ls.drop k) k st := by
        rcases HC.out with h | h
        · exact absurd h.1 hk0
        · exact h
      have hRest : R = match restP (decide (kd.data.toList = kNews)) (ls.drop k) k st with | .inl st => endP kd.data.toList nn st | .inr i => ((1, (i : Int)), zeroM) := by
        obtain ⟨x2, y2, r2, hc⟩ : ∃ x2 y2 r2, ls = x2 :: y2 :: r2 := by
          match ls, Hn.out with
          | [], e => simp at e; omega
          | [a], e => simp at e; omega
          | a :: b :: r, _ => exact ⟨a, b, r, rfl⟩
        have hx := hx0
        rw [hc] at hx
        injection hx with hx
        rw [HRd.out, readM_rest (HLs.out.symm.trans hc) H8.out (by rw [hx]; exact hh0), ← HLs.out, hre]
        generalize restP (decide (kd.data.toList = kNews)) (ls.drop k) k st = q
        cases q <;> rfl
      have HRe := hide hRest
      have j0 : (0 : Int) < (k : Int) := by omega
      clear hRest
      by_cases hl : k + 1 = n
      · have hxe : ¬ x = [] := fun e => hend ⟨h1k, hl, e⟩
        have hxe2 : (x == []) = false := beq_eq_false_iff_ne.2 hxe
        have j1 : (k : Int) = (n : Int) - 1 := by omega
        have He := hide (show R = ((1, (n : Int) - 1), zeroM) from by
          rw [HRe.out, restP_last Hx.out (by rw [hl]; exact Hn.out), if_neg hxe, ← j1])
        have j2 : ¬ ((k : Int) < (n : Int) - 1) := by omega
        clear hh0 hx0 hre
        go_wp2_with fail
        have e1 : wr.cell? ⟨1, 0, none⟩ = some (errv (E 1)) := (HE0.out.new HN.out).s1
        have z1 : 1 < wr.heap.size := (HE0.out.new HN.out).s1.lt
        unfold errv at e1
        have q7 : ¬ (X = 1) := by have := HQ.out.2; have := HX.out; omega
        have q71 : ¬ (1 = X) := by have := HQ.out.2; have := HX.out; omega
        have bq := HR.out
        have r0 := bq.cell 0
        have r1 := bq.cell 1
        have r2 := bq.cell 2
        have r3 := bq.cell 3
        have s0 := bq.frozen 0
        have s1 := bq.frozen 1
        have s2 := bq.frozen 2
        have s3 := bq.frozen 3
        have rz := bq.lt
        simp only [List.getElem?_toArray, List.getElem?_cons_zero, List.getElem?_cons_succ] at r0 r1 r2 r3
        clear bq
        go_region
        all_goals
          go_wp2_with fail
          refine bodyPost_ret (msg_out2 Tryz.results9 rfl ((set4 HR.out).alloc _)) rfl ?_
          exact ⟨zeroMR, _, rfl, by rw [He.out]; exact ErrV.fault (E := E) (k := 1) (by omega) (by omega) (Blk.at_ ((((wr.setCell ⟨X, 0, none⟩ (.string ⟨#[]⟩)).setCell ⟨X, 1, none⟩ (.int .i64 0)).setCell ⟨X, 2, none⟩ (.slice none 0 0)).setCell ⟨X, 3, none⟩ (.slice none 0 0)) TF #[.int .i64 ((n : Int) - 1), errv (E 1)] wr.heap.size (by simp)), by rw [He.out]; rfl, zeroMR_ok _, zeroMR_far _, ((set4_new HN.out (by rw [HX.out]; exact Nat.le_refl _)).alloc _).drew⟩
      · have j1 : ¬ ((k : Int) = (n : Int) - 1) := by omega
        have j2 : (k : Int) < (n : Int) - 1 := by omega
        have HX0 := hide hx0
        have HH0 := hide hh0
        have HG := hide hb
        have hkt := kd_test kd
        have hst := restP_step (news := decide (kd.data.toList = kNews)) (st := st) Hx.out (by rw [← Hn.out]; omega)
        have Hst := hide hst
        have bq := HI.out.blk
        have y0 := bq.cell 0
        have yz := bq.lt
        simp only [List.getElem?_toArray, List.getElem?_cons_zero, List.getElem?_cons_succ] at y0
        clear bq hst hh0 hx0 hend
        by_cases hnews : kd.data.toList = kNews
        rotate_left
        · rw [decide_eq_false hnews] at hkt
          have He := hide (show R = ((1, (k : Int)), zeroM) from by
            rw [HRe.out, Hst.out, decide_eq_false hnews]
            rfl)
          clear hnews hre
          go_wp2_with fail
          clear y0 yz
          have e1 : wr.cell? ⟨1, 0, none⟩ = some (errv (E 1)) := (HE0.out.new HN.out).s1
          have z1 : 1 < wr.heap.size := (HE0.out.new HN.out).s1.lt
          unfold errv at e1
          have q7 : ¬ (X = 1) := by have := HQ.out.2; have := HX.out; omega
          have q71 : ¬ (1 = X) := by have := HQ.out.2; have := HX.out; omega
          have bq := HR.out
          have r0 := bq.cell 0
          have r1 := bq.cell 1
          have r2 := bq.cell 2
          have r3 := bq.cell 3
          have s0 := bq.frozen 0
          have s1 := bq.frozen 1
          have s2 := bq.frozen 2
          have s3 := bq.frozen 3
          have rz := bq.lt
          simp only [List.getElem?_toArray, List.getElem?_cons_zero, List.getElem?_cons_succ] at r0 r1 r2 r3
          clear bq
          go_region
          all_goals
            go_wp2_with fail
            refine bodyPost_ret (msg_out2 Tryz.results9 rfl ((set4 HR.out).alloc _)) rfl ?_
            exact ⟨zeroMR, _, rfl, by rw [He.out]; exact ErrV.fault (E := E) (k := 1) (by omega) (by omega) (Blk.at_ ((((wr.setCell ⟨X, 0, none⟩ (.string ⟨#[]⟩)).setCell ⟨X, 1, none⟩ (.int .i64 0)).setCell ⟨X, 2, none⟩ (.slice none 0 0)).setCell ⟨X, 3, none⟩ (.slice none 0 0)) TF #[.int .i64 (k : Int), errv (E 1)] wr.heap.size (by simp)), by rw [He.out]; rfl, zeroMR_ok _, zeroMR_far _, ((set4_new HN.out (by rw [HX.out]; exact Nat.le_refl _)).alloc _).drew⟩
        · rw [decide_eq_true hnews] at hkt
          have Hln := hide (line_any ⟨x.toArray⟩ (w.heap.size + 1) Y kd nn st vd va vm rs E wr HT.out HE.out HI.out (by have := HR.out.lt; have := HX.out; omega) (by show x.toArray.size ≤ _; have := Hxl.out; have := H8.out; simp; omega) (by have := HB.out.dl; omega) (by have := HB.out.al; rw [← HI.out.con, List.length_map] at this; omega) (by have := HB.out.ml; omega))
          have Hln : Hid (Calls Tryz.prog 26 #[.pointer (some ⟨Y, 0, none⟩), .string ⟨x.toArray⟩] wr (LinePost (w.heap.size + 1) Y kd nn (lineP st x) wr vd va vm)) := Hln
          have Hre := hide hre
          have Hnews := hide hnews
          clear hre hnews q0 hb
          go_wp2_with fail
          refine Hln.out.mono ?_
          rintro e w4 ⟨rfl, hU4, hn4⟩
          have hXY : X ≠ Y := Blk.ne_ HR.out HI.out.blk (by decide)
          have hlo := HI.out.lo
          have hYg := HY.out
          have hXw := HX.out
          have hgz : g < wr.heap.size := HG.out
          have HR := hide (HR.out.upd hU4 fun hz => by
            rcases HO.out X hz with h | h
            · exact hXY h
            · omega)
          have HS := hide (HS.out.upd2 hU4 fun hz => by
            rcases HO.out g hz with h | h <;> omega)
          have HsN := hide hU4.size
          have HN := hide (HN.out.trans hU4 fun q hq hz => by
            rcases HO.out q hz with h | h <;> omega)
          have Hn4 := hide hn4
          clear hU4 hn4 Hln y0 yz hXY hlo hYg hXw
          cases ho : lineP st x with
          | none =>
            dsimp only [Option.isSome]
            have He := hide (show R = ((1, (k : Int)), zeroM) from by
              rw [HRe.out, Hst.out, decide_eq_true Hnews.out, if_pos rfl, ho])
            clear ho hgz
            go_wp2_with fail
            have e1 : w4.cell? ⟨1, 0, none⟩ = some (errv (E 1)) := (HE0.out.new HN.out).s1
            have z1 : 1 < w4.heap.size := (HE0.out.new HN.out).s1.lt
            unfold errv at e1
            have q7 : ¬ (X = 1) := by have := HQ.out.2; have := HX.out; omega
            have q71 : ¬ (1 = X) := by have := HQ.out.2; have := HX.out; omega
            have bq := HR.out
            have r0 := bq.cell 0
            have r1 := bq.cell 1
            have r2 := bq.cell 2
            have r3 := bq.cell 3
            have s0 := bq.frozen 0
            have s1 := bq.frozen 1
            have s2 := bq.frozen 2
            have s3 := bq.frozen 3
            have rz := bq.lt
            simp only [List.getElem?_toArray, List.getElem?_cons_zero, List.getElem?_cons_succ] at r0 r1 r2 r3
            clear bq
            go_region
            all_goals
              go_wp2_with fail
              refine bodyPost_ret (msg_out2 Tryz.results9 rfl ((set4 HR.out).alloc _)) rfl ?_
              exact ⟨zeroMR, _, rfl, by rw [He.out]; exact ErrV.fault (E := E) (k := 1) (by omega) (by omega) (Blk.at_ ((((w4.setCell ⟨X, 0, none⟩ (.string ⟨#[]⟩)).setCell ⟨X, 1, none⟩ (.int .i64 0)).setCell ⟨X, 2, none⟩ (.slice none 0 0)).setCell ⟨X, 3, none⟩ (.slice none 0 0)) TF #[.int .i64 (k : Int), errv (E 1)] w4.heap.size (by simp)), by rw [He.out]; rfl, zeroMR_ok _, zeroMR_far _, ((set4_new HN.out (by rw [HX.out]; exact Nat.le_refl _)).alloc _).drew⟩
          | some st1 =>
            dsimp only [Option.isSome]
            obtain ⟨vd1, va1, vm1, rs1, hI1, hO1⟩ := Hn4.out st1 ho
            have Hst1 := hide (Hst.out.trans (by rw [decide_eq_true Hnews.out, if_pos rfl, ho]))
            have HI1 := hide hI1
            have HO1 := hide hO1
            have HB1 := hide (HB.out.line readT_short ho)
            clear ho hI1 hO1
            go_wp2_with fail
            refine ⟨⟨k + 1, by omega, by go_num, HN.out, HR.out, HS.out, kd, nn, st1, vd1, va1, vm1, rs1, HI1.out, HB1.out, fun z hz => ?_, .inr ⟨by omega, x0, HX0.out, HH0.out, ?_⟩⟩, by simp [intOf]; omega⟩
            · rcases HO1.out z hz with h | h
              · exact HO.out z h
              · exact .inr (by omega)
            · rw [Hre.out]
              exact Hst1.out.trans (by rw [decide_eq_true Hnews.out])
theorem wireRead_any (s : ByteArray) (E : Nat → Addr) (w : World) (ht : TxtOk w) (he : WEs w E) (hs : s.size ≤ 1000000) :
    Calls Tryz.prog 9 #[.string s] w (MReadPost E (readM s.data.toList) w) :=
  (wireRead_far s E w ht he hs).mono fun _ _ ⟨m', v, h1, h2, h3, h4, _, h6⟩ => ⟨m', v, h1, h2, h3, h4, h6⟩
end Go.Proofs.YtjgecmkfgeajiaaGreatDoor
