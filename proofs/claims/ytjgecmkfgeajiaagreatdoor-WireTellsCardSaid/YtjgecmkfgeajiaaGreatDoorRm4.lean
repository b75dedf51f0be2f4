/- The document's ReadMsg is the plain reading. No condition but those that stand in each theorem. -/
import Derived.Test.YtjgecmkfgeajiaaGreatDoorRm1
namespace Go.Proofs.YtjgecmkfgeajiaaGreatDoor
open Go.RowKit

theorem lineP_lt2 {st : RdS} {l : List UInt8} (h : (cutR 32 l).length < 2) : lineP st l = none := by
  unfold lineP
  match cutR 32 l, h with
  | [], _ => rfl
  | [x], _ => rfl
theorem lineP_cons {st : RdS} {l w0 w1 : List UInt8} {r : List (List UInt8)} (h : cutR 32 l = w0 :: w1 :: r) : lineP st l = if (readP ⟨w1.toArray⟩).1 = 0 then lineQ st w0 ⟨(readP ⟨w1.toArray⟩).2.1, (readP ⟨w1.toArray⟩).2.2⟩ r else none := by
  unfold lineP
  rw [h]
theorem rdJ_more {base Y : Nat} {kd : ByteArray} {nn : Int} {st : RdS} {w : World} {vd va : Value} {V : Option Addr} {nm cm : Nat} {rs : List RouteR} (h : RdJ base Y kd nn st w vd va (.slice V nm cm) rs) : nm = st.more.length ∧ Pfs w V st.more ∧ Typed w V TPf := by
  obtain ⟨V', cm', e1, l1, c1, r1, _, t1⟩ := rws_of_own (by omega) h.more (wpf_size _)
  injection e1 with a1 a2 a3
  subst a1; subst a2; subst a3
  exact ⟨rfl, r1, t1⟩
/-- The drops as they grow. -/
structure DropSt (B Y : Nat) (kd : ByteArray) (nn : Int) (L : List Pf) (D : Option Addr) (dc : Nat) (va : Value) (wo w : World) : Prop where
  upd : Upd (fun q => q = Y) wo w
  blk : Blk w Y TM #[.string kd, .int .i64 nn, .slice D L.length dc, va]
  rows : Pfs w D L
  le : L.length ≤ dc
  typ : Typed w D TPf
  form : FormA D dc
  low : ∀ b o, D = some ⟨b, o, none⟩ → B ≤ b
theorem typed_far {w : World} {D : Option Addr} {t : TypeId} {Y : Nat} {cs : Array Value} (h : Typed w D t) (hb : Blk w Y TM cs) (hne : t ≠ TM) : ∀ b o, D = some ⟨b, o, none⟩ → ¬ b = Y := fun b o e hY => by
  obtain ⟨cs2, h2⟩ := h b o e
  exact Blk.ne_ h2 hb hne hY
theorem DropSt.step {B Y : Nat} {kd : ByteArray} {nn : Int} {L L' : List Pf} {D D' : Option Addr} {dc dc' : Nat} {va : Value} {wo w w1 : World} (h : DropSt B Y kd nn L D dc va wo w) (hu : New w w1) (hP : Pfs w1 D' L') (hle : L'.length ≤ dc') (hT : Typed w1 D' TPf) (hF : FormA D' dc') (hlo : ∀ b o, D' = some ⟨b, o, none⟩ → B ≤ b) :
    DropSt B Y kd nn L' D' dc' va wo (w1.setCell ⟨Y, 2, none⟩ (.slice D' L'.length dc')) := by
  have b1 := h.blk.new_ hu
  have u2 : Upd (fun q => q = Y) w1 (w1.setCell ⟨Y, 2, none⟩ (.slice D' L'.length dc')) := (Upd.refl (fun q => q = Y) w1).setCell (p := ⟨Y, 2, none⟩) (.inl rfl) _
  have hf := typed_far hT b1 (by decide)
  exact ⟨(h.upd.trans_new hu).trans' u2, by simpa using b1.set_ 2 _, hP.upd u2 hf, hle, hT.upd u2 hf, hF, hlo⟩
/-- A message survives stores into the results. -/
theorem msgOk_farM {w : World} {kd : ByteArray} {nn : Int} {D A : Option Addr} {dc ac X X1 Y : Nat} {L : List Pf} {rs : List RouteR} {cs ds : Array Value} (hm : MsgOk w ⟨kd, nn, D, dc, L, A, ac, rs⟩) (hx : Blk w X TM cs) (hf : Blk w X1 TRF ds) (htD : Typed w D TPf) (htA : Typed w A TRt) (hlow : ∀ r ∈ rs, AttrFar (fun q => q < Y) r.at_) (hX : X < Y ∧ X1 < Y) {y0 y1 y2 y3 u v : Value} :
    MsgOk ((((((w.setCell ⟨X, 0, none⟩ y0).setCell ⟨X, 1, none⟩ y1).setCell ⟨X, 2, none⟩ y2).setCell ⟨X, 3, none⟩ y3).setCell ⟨X1, 0, none⟩ u).setCell ⟨X1, 1, none⟩ v) ⟨kd, nn, D, dc, L, A, ac, rs⟩ := by
  have up : Upd (fun q => q = X ∨ q = X1) w ((((((w.setCell ⟨X, 0, none⟩ y0).setCell ⟨X, 1, none⟩ y1).setCell ⟨X, 2, none⟩ y2).setCell ⟨X, 3, none⟩ y3).setCell ⟨X1, 0, none⟩ u).setCell ⟨X1, 1, none⟩ v) := updM
  have hD : ∀ b o, D = some ⟨b, o, none⟩ → ¬ (b = X ∨ b = X1) := fun b o e h => by
    obtain ⟨c, hc⟩ := htD b o e
    rcases h with h | h
    · exact Blk.ne_ hc hx (by decide) h
    · exact Blk.ne_ hc hf (by decide) h
  have hA : ∀ b o, A = some ⟨b, o, none⟩ → ¬ (b = X ∨ b = X1) := fun b o e h => by
    obtain ⟨c, hc⟩ := htA b o e
    rcases h with h | h
    · exact Blk.ne_ hc hx (by decide) h
    · exact Blk.ne_ hc hf (by decide) h
  exact ⟨hm.drops.upd up hD, ⟨hm.adds.rows.upd up hA, fun i r hr => (hm.adds.attr i r hr).upd2 up (by
    have hl := hlow r (List.mem_of_getElem? hr)
    exact ⟨fun h0 b o e hb => hl.1 h0 b o e (by omega), fun h0 b o e hb => hl.2 h0 b o e (by omega)⟩)⟩, hm.dl, hm.al⟩
theorem set5_updN {w w7 : World} {Q : Nat} {a b c d e : Value} (h : New w w7) (hQ : w.heap.size ≤ Q := by exact Nat.le_refl _) : New w (((((w7.setCell ⟨Q, 0, none⟩ a).setCell ⟨Q, 1, none⟩ b).setCell ⟨Q, 2, none⟩ c).setCell ⟨Q, 3, none⟩ d).setCell ⟨Q, 4, none⟩ e) :=
  ((((h.setCell (p := ⟨Q, 0, none⟩) (.inr hQ) a).setCell (p := ⟨Q, 1, none⟩) (.inr hQ) b).setCell (p := ⟨Q, 2, none⟩) (.inr hQ) c).setCell (p := ⟨Q, 3, none⟩) (.inr hQ) d).setCell (p := ⟨Q, 4, none⟩) (.inr hQ) e
theorem set5_updQ {w7 : World} {Q : Nat} {a b c d e : Value} : Upd (fun q => q = Q) w7 (((((w7.setCell ⟨Q, 0, none⟩ a).setCell ⟨Q, 1, none⟩ b).setCell ⟨Q, 2, none⟩ c).setCell ⟨Q, 3, none⟩ d).setCell ⟨Q, 4, none⟩ e) :=
  (((((Upd.refl (fun q => q = Q) w7).setCell (p := ⟨Q, 0, none⟩) (.inl rfl) a).setCell (p := ⟨Q, 1, none⟩) (.inl rfl) b).setCell (p := ⟨Q, 2, none⟩) (.inl rfl) c).setCell (p := ⟨Q, 3, none⟩) (.inl rfl) d).setCell (p := ⟨Q, 4, none⟩) (.inl rfl) e
theorem rest_eq {R : (Nat × Int) × MsgC} {l : List UInt8} {ls : List (List UInt8)} {k : Nat} {kd : ByteArray} {nn : Int} {st : RdS} {x0 : List UInt8} (hR : R = readM l) (hls : ls = cutR 10 l) (hn : 2 ≤ ls.length) (h8 : ¬ 8000 < l.length) (hx : ls[0]? = some x0) (hh : headP x0 = some (kd.data.toList, nn))
    (hre : restP (decide (kd.data.toList = kNews)) (ls.drop 1) 1 ⟨[], [], []⟩ = restP (decide (kd.data.toList = kNews)) (ls.drop k) k st) :
    R = match restP (decide (kd.data.toList = kNews)) (ls.drop k) k st with | .inl st => endP kd.data.toList nn st | .inr i => ((1, (i : Int)), zeroM) := by
  obtain ⟨x2, y2, r2, hc⟩ : ∃ x2 y2 r2, ls = x2 :: y2 :: r2 := by
    match ls, hn with
    | a :: b :: r, _ => exact ⟨a, b, r, rfl⟩
  rw [hc] at hx
  injection hx with hx
  rw [hR, readM_rest (hls.symm.trans hc) h8 (by rw [hx]; exact hh), ← hls, hre]
  generalize restP (decide (kd.data.toList = kNews)) (ls.drop k) k st = q
  cases q <;> rfl

set_option maxRecDepth 20000 in
set_option maxHeartbeats 20000000 in
theorem readRef_any (s : ByteArray) (w : World) (hs : s.size ≤ 1000000) :
    Calls Tryz.prog 19 #[.string s] w (RefPost (readM s.data.toList) w) := by
  have u := ((Upd.refl (fun _ => False) w).alloc (.cells #[.string ⟨#[]⟩, .int .i64 0, .slice none 0 0, .slice none 0 0] TM)).alloc (.cells #[.int .i64 0, .int .i64 0] TRF)
  have HN := hide u
  have HR := hide ((Blk.new w TM #[.string ⟨#[]⟩, .int .i64 0, .slice none 0 0, .slice none 0 0]).alloc (.cells #[.int .i64 0, .int .i64 0] TRF))
  have HF := hide (Blk.at_ (w.alloc (.cells #[.string ⟨#[]⟩, .int .i64 0, .slice none 0 0, .slice none 0 0] TM)) TRF #[.int .i64 0, .int .i64 0] (w.heap.size + 1) (by simp))
  have hll : s.data.toList.length = s.size := by simp
  obtain ⟨R, hR⟩ : ∃ R, R = readM s.data.toList := ⟨_, rfl⟩
  rw [← hR]
  have HRd := hide hR
  clear u hR
  unfold RefPost
  go_enter Tryz.func19, Tryz.ntmps19
  go_upto_region 1 with (fail)
  have HWs := hide (show ((w.alloc (.cells #[.string ⟨#[]⟩, .int .i64 0, .slice none 0 0, .slice none 0 0] TM)).alloc (.cells #[.int .i64 0, .int .i64 0] TRF)).heap.size = w.heap.size + 2 by simp)
  generalize (w.alloc (.cells #[.string ⟨#[]⟩, .int .i64 0, .slice none 0 0, .slice none 0 0] TM)).alloc (.cells #[.int .i64 0, .int .i64 0] TRF) = W at *
  obtain ⟨X, hX⟩ : ∃ X, X = w.heap.size := ⟨_, rfl⟩
  rw [← hX] at HR HF HWs ⊢
  have HX := hide hX
  clear hX
  by_cases hbig : 8000 < s.size
  · have i1 : (8000 : Int) < (s.size : Int) := by omega
    have He := hide (show R = ((2, -1), zeroM) from HRd.out.trans (by unfold readM; rw [if_pos (by omega)]))
    have Hb : Hid (Calls Tryz.prog 38 #[.int .i64 2] W fun e w1 => e = .returned (.agg #[.int .i64 2, .int .i64 (-1)]) ∧ New W w1) := hide (bareF_any 2 W)
    clear hbig
    go_wp2_with fail
    refine Hb.out.mono ?_
    rintro e w1 ⟨rfl, hu⟩
    have HR := hide (HR.out.new_ hu)
    have HF := hide (HF.out.new_ hu)
    have HN := hide (HN.out.trans_new hu)
    clear hu
    have bq := HR.out
    have r0 := bq.cell 0
    have r1 := bq.cell 1
    have r2 := bq.cell 2
    have r3 := bq.cell 3
    have s0 := bq.frozen 0
    have s1 := bq.frozen 1
    have s2 := bq.frozen 2
    have s3 := bq.frozen 3
    have rz := bq.lt
    simp only [List.getElem?_toArray, List.getElem?_cons_zero, List.getElem?_cons_succ] at r0 r1 r2 r3
    clear bq
    have bq := HF.out
    have f0 := bq.cell 0
    have f1 := bq.cell 1
    have g0 := bq.frozen 0
    have g1 := bq.frozen 1
    have fz := bq.lt
    simp only [List.getElem?_toArray, List.getElem?_cons_zero, List.getElem?_cons_succ] at f0 f1
    clear bq
    go_wp2_with fail
    refine bodyPost_ret (msgf_out Tryz.results19 rfl rfl (endM HR.out HF.out).1 (endM HR.out HF.out).2) rfl ?_
    exact ⟨zeroMR, by rw [He.out]; rfl, by rw [He.out]; rfl, zeroMR_ok _, zeroMR_far _, newM HN.out (by have := HX.out; omega) (by have := HX.out; omega)⟩
  have i1 : ¬ (8000 : Int) < (s.size : Int) := by omega
  have Hsp := hide (cutRef_any s 10 W (by omega))
  have HL := hide (And.intro (cutR_piece 10 s.data.toList) (cutR_len 10 s.data.toList))
  have H8 := hide (show ¬ 8000 < s.data.toList.length by omega)
  clear hbig
  go_wp2_with fail
  refine Hsp.out.mono ?_
  rintro e w3 ⟨v, rfl, ho, hu⟩
  obtain ⟨A, cap, rfl, _, _, hS⟩ := ss_of_own ho
  have HS := hide hS
  have HR := hide (HR.out.new_ hu)
  have HF := hide (HF.out.new_ hu)
  have HN := hide (HN.out.trans_new hu)
  have HWz := hide hu.size
  clear hu ho hS Hsp
  obtain ⟨ls, hls⟩ : ∃ ls, ls = cutR 10 s.data.toList := ⟨_, rfl⟩
  rw [← hls] at HS HL ⊢
  have hlp : 0 < ls.length := by rw [hls]; exact List.length_pos_iff.2 (cutR_ne 10 _)
  have HLs := hide hls
  clear hls
  obtain ⟨bl, ol, hA, hbl, _⟩ := HS.out hlp
  subst hA
  have HSN := hide (rdJ_zero w3 ⟨#[]⟩ 0)
  have u5 := (Upd.refl (fun _ => False) w3).alloc (.cells #[.string ⟨#[]⟩, .int .i64 0, .slice none 0 0, .slice none 0 0] TM)
  have HR := hide (HR.out.new_ u5)
  have HF := hide (HF.out.new_ u5)
  have HN := hide (HN.out.trans_new u5)
  have HS := hide (HS.out.upd u5 fun _ _ _ x => x)
  have HY := hide (show bl < w3.heap.size ∧ X + 2 ≤ w3.heap.size from ⟨hbl, by have := HWz.out; have := HWs.out; omega⟩)
  obtain ⟨n, hn⟩ : ∃ n, n = ls.length := ⟨_, rfl⟩
  rw [← hn]
  have Hn := hide hn
  have bn : n ≤ 8001 := by have := HL.out.2; have := H8.out; omega
  have Hlp := hide hlp
  clear u5 hbl i1 hn hlp
  go_upto_region 5 with (fail)
  generalize w3.alloc (.cells #[.string ⟨#[]⟩, .int .i64 0, .slice none 0 0, .slice none 0 0] TM) = W5 at *
  generalize w3.heap.size = Y at *
  go_wp2_with fail
  go_loopw [6, 7] (fun mv iv wz => ∃ k : Nat, k < n ∧ iv = .int .i64 k ∧ New w wz ∧ Blk wz X TM #[.string ⟨#[]⟩, .int .i64 0, .slice none 0 0, .slice none 0 0] ∧ Blk wz (X + 1) TRF #[.int .i64 0, .int .i64 0] ∧ Ss wz (some ⟨bl, ol, none⟩) ls ∧
    ∃ (kd : ByteArray) (nn : Int) (st : RdS) (vd va : Value) (rs : List RouteR), RdJ Y Y kd nn st wz vd va mv rs ∧ RdB k st ∧
      ((k = 0 ∧ st = ⟨[], [], []⟩) ∨ (1 ≤ k ∧ ∃ x, ls[0]? = some x ∧ headP x = some (kd.data.toList, nn) ∧ restP (decide (kd.data.toList = kNews)) (ls.drop 1) 1 ⟨[], [], []⟩ = restP (decide (kd.data.toList = kNews)) (ls.drop k) k st))) (fun _ iv _ => n - (intOf iv).toNat)
  case atStart => exact ⟨0, by rw [Hn.out]; exact Hlp.out, rfl, HN.out, HR.out, HF.out, HS.out, ⟨#[]⟩, 0, ⟨[], [], []⟩, _, _, [], HSN.out, RdB.zero, .inl ⟨rfl, rfl⟩⟩
  case round =>
  clear HN HR HF HS HSN
  obtain ⟨k, hk, rfl, hN, hR, hF, hS, kd, nn, st, vd, va, rs, hJ, hB, hC⟩ := hrel
  obtain ⟨VM, cm, hVM⟩ := own_form hJ.more (by omega)
  subst hVM
  have HN := hide hN
  have HR := hide hR
  have HF := hide hF
  have HS := hide hS
  have HJ := hide hJ
  have HB := hide hB
  have HC := hide hC
  clear hN hR hF hS hJ hB hC
  obtain ⟨x, hx⟩ : ∃ x, ls[k]? = some x := ⟨_, List.getElem?_eq_getElem (by rw [← Hn.out]; exact hk)⟩
  obtain ⟨bb, oo, hA, hb, hcc⟩ := HS.out Hlp.out
  injection hA with hA
  injection hA with hA1 hA2 _
  subst hA1; subst hA2
  have q0 : wr.cell? ⟨bl, ol + k, none⟩ = some (.string ⟨x.toArray⟩) := hcc k x hx
  have Hx := hide hx
  have Hxl := hide (HL.out.1 x (List.mem_of_getElem? hx))
  clear hcc hx
  have i2 : (k : Int) < (n : Int) := by omega
  have hw1 : IntKind.i64.wrap ((n : Int) - 1) = (n : Int) - 1 := by rw [IntKind.wrap_i64]; omega
  by_cases hend : 1 ≤ k ∧ k + 1 = n ∧ x = []
  · as_aux_lemma =>
      obtain ⟨h1k, hl, rfl⟩ := hend
      obtain ⟨x0, hx0, hh0, hre⟩ : ∃ x, ls[0]? = some x ∧ headP x = some (kd.data.toList, nn) ∧ restP (decide (kd.data.toList = kNews)) (ls.drop 1) 1 ⟨[], [], []⟩ = restP (decide (kd.data.toList = kNews)) (ls.drop k) k st := by
        rcases HC.out with h | h
        · omega
        · exact h.2
      have HRe := hide ((rest_eq HRd.out HLs.out (by rw [← Hn.out]; omega) H8.out hx0 hh0 hre).trans (by rw [restP_last Hx.out (by rw [hl]; exact Hn.out), if_pos rfl]))
      have HRe : Hid (R = endP kd.data.toList nn st) := HRe
      have j0 : (0 : Int) < (k : Int) := by omega
      have j1 : ((k : Int) == (n : Int) - 1) = true := by rw [beq_iff_eq]; omega
      clear hx0 hh0 hre
      go_wp2_with fail
      clear q0 hb j1 hw1
      obtain ⟨wo, rfl⟩ : ∃ wo : World, wo = wr := ⟨_, rfl⟩
      obtain ⟨D, dc, rfl⟩ := own_form HJ.out.drops (by omega)
      obtain ⟨A, ac, rfl⟩ := own_form HJ.out.adds (by omega)
      have Hok := hide (rdJ_msg HJ.out).2.2
      have Hm := hide (rdJ_more HJ.out)
      go_loopw [17] (fun iv wz => ∃ (j : Nat) (D1 : Option Addr) (dc1 : Nat), j ≤ st.more.length ∧ iv = .int .i64 j ∧ DropSt Y Y kd nn (dropAll st.drops (st.more.take j)) D1 dc1 (.slice A rs.length ac) wo wz) (fun iv _ => st.more.length - (intOf iv).toNat)
      case atStart => exact ⟨0, D, dc, Nat.zero_le _, rfl, ⟨Upd.refl _ _, HJ.out.blk, Hok.out.1.drops, Hok.out.1.dl, Hok.out.2.1, Hok.out.2.2.2, fun b o e => (HJ.out.drops.lt b (by rw [e]; rfl)).1⟩⟩
      case round =>
      obtain ⟨j, D1, dc1, hj, rfl, hD⟩ := hrel
      have hll := dropAll_len (st.more.take j) st.drops
      have hld := HB.out.dl
      have hlm := HB.out.ml
      have hml : st.more.length ≤ 8001 := by omega
      have hLl : (dropAll st.drops (st.more.take j)).length ≤ 20000 := by
        rw [List.length_take] at hll
        omega
      obtain ⟨L, hL⟩ : ∃ L, L = dropAll st.drops (st.more.take j) := ⟨_, rfl⟩
      rw [← hL] at hD hLl
      have HD := hide hD
      have HLq := hide hL
      have HLl := hide hLl
      clear hD hL hll hld hlm hLl
      by_cases hlt : j < st.more.length
      · have hPm := Hm.out.2.1.upd HD.out.upd (typed_far Hm.out.2.2 HJ.out.blk (by decide))
        obtain ⟨b, o, p, hA, hb, hpj, p0, p1⟩ := Pfs.at_ hPm hlt
        subst hA
        have i5 : (j : Int) < (st.more.length : Int) := by omega
        have Htk := hide (show dropAll st.drops (st.more.take (j + 1)) = dropIn L p by
          rw [List.take_add_one, hpj, HLq.out]
          exact dropAll_snoc _ _ _)
        have Hdr := hide (fun w' (nw : New wr w') => droppedRef_any Y D1 L.length dc1 L p w' (HD.out.rows.new_ nw) (HD.out.typ.new_ nw) rfl HD.out.le HD.out.form HD.out.low (by have := HJ.out.blk.lt; have := HD.out.upd.size; have := nw.size; omega) (by have := HLl.out; omega))
        clear hPm hpj
        have bq := HD.out.blk
        have y2 := bq.cell 2
        have yz := bq.lt
        simp only [List.getElem?_toArray, List.getElem?_cons_zero, List.getElem?_cons_succ] at y2
        clear bq
        go_upto_region 37 with (fail)
        go_region_with ((go_at_call 54; refine (Hdr.out _ (Upd.refl _ _).drew).mono ?_; rintro e w5 ⟨A5, c5, rfl, hle5, hP5, hT5, hF5, hL5, hu5⟩; have ub : New wr w5 := (Upd.refl (fun _ => False) wr).drew.trans_new hu5))
        all_goals
          have HU := hide ub
          have H5 := hide (And.intro hle5 (And.intro hP5 (And.intro hT5 (And.intro hF5 hL5))))
          clear hle5 hP5 hT5 hF5 hL5 hu5 ub y2 yz p0 p1 hb
          have bq := HD.out.blk.new_ HU.out
          have y2 := bq.cell 2
          have t2 := bq.frozen 2
          have yz := bq.lt
          simp only [List.getElem?_toArray, List.getElem?_cons_zero, List.getElem?_cons_succ] at y2
          clear bq
          go_wp2_with fail
          refine ⟨⟨j + 1, A5, c5, by omega, by go_num, ?_⟩, by simp [intOf]; omega⟩
          rw [Htk.out]
          exact HD.out.step HU.out H5.out.2.1 H5.out.1 H5.out.2.2.1 H5.out.2.2.2.1 H5.out.2.2.2.2
      obtain rfl : j = st.more.length := by omega
      have i5 : ¬ (st.more.length : Int) < (st.more.length : Int) := by omega
      have hL := HLq.out
      rw [List.take_length] at hL
      have HLq := hide hL
      clear hL hj hlt
      have hadds : wr.ownsRow Y TRt 8 (.slice A rs.length ac) rs.length (flat (rs.map RouteR.cells)) := rown_upd HJ.out.adds HD.out.upd fun q hq e => rown_ne HJ.out.adds HJ.out.blk (by decide) (e ▸ hq)
      obtain ⟨A', ac', e2, _, hac, hrA, _, htA⟩ := rws_of_own (by omega) hadds (fun r hr => by obtain ⟨x, _, rfl⟩ := List.mem_map.1 hr; rfl)
      injection e2 with b1 b2 b3
      subst b1; subst b3
      have hmok : MsgOk wr ⟨kd, nn, D1, dc1, L, A, ac, rs⟩ := ⟨HD.out.rows, ⟨hrA, fun i r hr => (HJ.out.ok r (List.mem_of_getElem? hr)).upd2 HD.out.upd (by
        have hf := HJ.out.far r (List.mem_of_getElem? hr)
        exact ⟨fun h0 b o e hb => hf.1 h0 b o e (.inl hb), fun h0 b o e hb => hf.2 h0 b o e (.inl hb)⟩)⟩, HD.out.le, hac⟩
      have hsh : Short ⟨kd, nn, D1, dc1, L, A, ac, rs⟩ := fun i r hr => HB.out.short r.con (by rw [← HJ.out.con]; exact List.mem_map_of_mem (List.mem_of_getElem? hr))
      have hal : rs.length ≤ 8001 := by
        have := HB.out.al
        rw [← HJ.out.con, List.length_map] at this
        omega
      have hYX := HY.out
      have HR := hide (HR.out.upd HD.out.upd (by omega))
      have HF := hide (HF.out.upd HD.out.upd (by omega))
      have HN := hide (HN.out.trans HD.out.upd fun q hq e => by have := HX.out; omega)
      have Hmok := hide hmok
      have HtA := hide htA
      have Hmf := hide (msgFault_big _ wr hmok hsh (by show L.length ≤ _; have := HLl.out; omega) (by show rs.length ≤ _; omega))
      have Hmf : Hid (Calls Tryz.prog 15 #[.agg #[.string kd, .int .i64 nn, .slice D1 L.length dc1, .slice A rs.length ac]] wr fun e w1 => e = .returned (faultV (checkC ⟨kd, nn, D1, dc1, L, A, ac, rs⟩)) ∧ New wr w1) := Hmf
      have hcon : (⟨kd, nn, D1, dc1, L, A, ac, rs⟩ : MsgR).con = ⟨kd.data.toList, nn, dropAll st.drops st.more, st.adds⟩ := by
        rw [← HLq.out, ← HJ.out.con]
        rfl
      have Hck := hide (show endP kd.data.toList nn st = if (checkC ⟨kd, nn, D1, dc1, L, A, ac, rs⟩).1 = 0 then ((0, -1), (⟨kd, nn, D1, dc1, L, A, ac, rs⟩ : MsgR).con) else (((checkC ⟨kd, nn, D1, dc1, L, A, ac, rs⟩).1, -1), zeroM) by
        rw [← checkX_con, hcon]
        rfl)
      generalize hcc : checkC ⟨kd, nn, D1, dc1, L, A, ac, rs⟩ = cc at *
      obtain ⟨c1, c2⟩ := cc
      have Hmf : Hid (Calls Tryz.prog 15 #[.agg #[.string kd, .int .i64 nn, .slice D1 L.length dc1, .slice A rs.length ac]] wr fun e w1 => e = .returned (.agg #[.int .i64 (c1 : Nat), .int .i64 c2]) ∧ New wr w1) := Hmf
      dsimp only at Hck
      have HBk := hide HD.out.blk
      clear hcc hmok hsh hal hYX hadds htA hac hrA hcon
      have bq := HBk.out
      have y0 := bq.cell 0
      have y1 := bq.cell 1
      have y2 := bq.cell 2
      have y3 := bq.cell 3
      have yz := bq.lt
      simp only [List.getElem?_toArray, List.getElem?_cons_zero, List.getElem?_cons_succ] at y0 y1 y2 y3
      clear bq
      go_wp2_with fail
      refine Hmf.out.mono ?_
      rintro e w8 ⟨rfl, hu⟩
      have ua := hu.trans_new ((Upd.refl (fun _ => False) w8).alloc (.cells #[.int .i64 (c1 : Nat), .int .i64 c2] TRF))
      have HV := hide (Blk.new w8 TRF #[.int .i64 (c1 : Nat), .int .i64 c2])
      have HR := hide (HR.out.new_ ua)
      have HF := hide (HF.out.new_ ua)
      have HN := hide (HN.out.trans_new ua)
      have HBk := hide (HBk.out.new_ ua)
      have Hmok := hide (Hmok.out.new_ ua)
      have HtA := hide (HtA.out.new_ ua)
      have HtD := hide ((HD.out.typ.new_ ua))
      clear hu ua y0 y1 y2 y3 yz i5 Hmf
      go_upto_region 40 with (fail)
      generalize w8.alloc (.cells #[.int .i64 (c1 : Nat), .int .i64 c2] TRF) = w9 at *
      generalize w8.heap.size = V at *
      have bq := HV.out
      have v0 := bq.cell 0
      have v1 := bq.cell 1
      have vz := bq.lt
      simp only [List.getElem?_toArray, List.getElem?_cons_zero, List.getElem?_cons_succ] at v0 v1
      clear bq
      by_cases hc1 : c1 = 0
      rotate_left
      · have i6 : (0 : Int) < (c1 : Int) := by omega
        have He := hide (show R = ((c1, -1), zeroM) from by rw [HRe.out, Hck.out, if_neg hc1])
        have Hbf : Hid (Calls Tryz.prog 38 #[.int .i64 (c1 : Nat)] w9 fun e w1 => e = .returned (.agg #[.int .i64 (c1 : Nat), .int .i64 (-1)]) ∧ New w9 w1) := hide (bareF_any c1 w9)
        clear hc1
        go_wp2_with fail
        refine Hbf.out.mono ?_
        rintro e w10 ⟨rfl, hu⟩
        have HR := hide (HR.out.new_ hu)
        have HF := hide (HF.out.new_ hu)
        have HN := hide (HN.out.trans_new hu)
        clear hu v0 v1 vz
        have bq := HR.out
        have r0 := bq.cell 0
        have r1 := bq.cell 1
        have r2 := bq.cell 2
        have r3 := bq.cell 3
        have s0 := bq.frozen 0
        have s1 := bq.frozen 1
        have s2 := bq.frozen 2
        have s3 := bq.frozen 3
        have rz := bq.lt
        simp only [List.getElem?_toArray, List.getElem?_cons_zero, List.getElem?_cons_succ] at r0 r1 r2 r3
        clear bq
        have bq := HF.out
        have f0 := bq.cell 0
        have f1 := bq.cell 1
        have g0 := bq.frozen 0
        have g1 := bq.frozen 1
        have fz := bq.lt
        simp only [List.getElem?_toArray, List.getElem?_cons_zero, List.getElem?_cons_succ] at f0 f1
        clear bq
        go_wp2_with fail
        refine bodyPost_ret (msgf_out Tryz.results19 rfl rfl (endM HR.out HF.out).1 (endM HR.out HF.out).2) rfl ?_
        exact ⟨zeroMR, by rw [He.out]; rfl, by rw [He.out]; rfl, zeroMR_ok _, zeroMR_far _, newM HN.out (by have := HX.out; omega) (by have := HX.out; omega)⟩
      subst hc1
      have He := hide (show R = ((0, -1), (⟨kd, nn, D1, dc1, L, A, ac, rs⟩ : MsgR).con) from by rw [HRe.out, Hck.out, if_pos rfl])
      have Hfi : Hid (∀ w', Calls Tryz.prog 39 #[] w' fun e w1 => e = .returned (.agg #[.int .i64 0, .int .i64 (-1)]) ∧ New w' w1) := hide (fun w' => fineF_any w')
      have bq := HBk.out
      have y0 := bq.cell 0
      have y1 := bq.cell 1
      have y2 := bq.cell 2
      have y3 := bq.cell 3
      have yz := bq.lt
      simp only [List.getElem?_toArray, List.getElem?_cons_zero, List.getElem?_cons_succ] at y0 y1 y2 y3
      clear bq
      go_upto_region 42 with (fail)
      have Wd := hide (show New w9 w9.drew from (Upd.refl _ w9).drew)
      have Hfar9 := hide (show MsgFar (fun q => q < w.heap.size) ⟨kd, nn, D1, dc1, L, A, ac, rs⟩ from ⟨fun b o e hq => by
        have e : D1 = some ⟨b, o, none⟩ := e
        have := HD.out.low b o e
        have := HX.out
        have := HY.out
        omega, fun b o e hq => by
        have e : A = some ⟨b, o, none⟩ := e
        have := (HJ.out.adds.lt b (by rw [e]; rfl)).1
        have := HX.out
        have := HY.out
        omega, fun r hr => ⟨fun h0 b o e hq => (HJ.out.low r hr).1 h0 b o e (by have := HX.out; have := HY.out; omega), fun h0 b o e hq => (HJ.out.low r hr).2 h0 b o e (by have := HX.out; have := HY.out; omega)⟩⟩)
      clear v0 v1 vz
      go_region_with ((go_at_call 39; refine (Hfi.out _).mono ?_; rintro e w10 ⟨rfl, hu10⟩; have U9 := hide (Wd.out.trans_new hu10); have bR := HR.out.new_ U9.out; have bF := HF.out.new_ U9.out; have bM := HBk.out.new_ U9.out; have r0 := bR.cell 0; have r1 := bR.cell 1; have r2 := bR.cell 2; have r3 := bR.cell 3; have s0 := bR.frozen 0; have s1 := bR.frozen 1; have s2 := bR.frozen 2; have s3 := bR.frozen 3; have zR := bR.lt; simp only [List.getElem?_toArray, List.getElem?_cons_zero, List.getElem?_cons_succ] at r0 r1 r2 r3; have h0 := bF.cell 0; have h1 := bF.cell 1; have j0 := bF.frozen 0; have j1 := bF.frozen 1; have zF := bF.lt; simp only [List.getElem?_toArray, List.getElem?_cons_zero, List.getElem?_cons_succ] at h0 h1; have n0 := bM.cell 0; have n1 := bM.cell 1; have n2 := bM.cell 2; have n3 := bM.cell 3; have zN := bM.lt; simp only [List.getElem?_toArray, List.getElem?_cons_zero, List.getElem?_cons_succ] at n0 n1 n2 n3; clear bR bF bM hu10))
      all_goals
        go_wp2_with fail
        refine bodyPost_ret (msgf_out Tryz.results19 rfl rfl (endM (HR.out.new_ U9.out) (HF.out.new_ U9.out)).1 (endM (HR.out.new_ U9.out) (HF.out.new_ U9.out)).2) rfl ?_
        refine ⟨⟨kd, nn, D1, dc1, L, A, ac, rs⟩, by rw [He.out]; rfl, by rw [He.out], ?_, Hfar9.out, newM (HN.out.trans_new U9.out) (by have := HX.out; omega) (by have := HX.out; omega)⟩
        exact msgOk_farM (Hmok.out.new_ U9.out) (HR.out.new_ U9.out) (HF.out.new_ U9.out) (HtD.out.new_ U9.out) (HtA.out.new_ U9.out) (fun r hr => HJ.out.low r hr) (by have := HY.out; omega)
  by_cases hk0 : k = 0
  · obtain rfl := hk0
    by_cases hn1 : n = 1
    · obtain rfl := hn1
      have hcut : cutR 10 s.data.toList = [x] := by
        rw [← HLs.out]
        obtain ⟨y, hy⟩ := List.length_eq_one_iff.1 Hn.out.symm
        have := Hx.out
        rw [hy] at this ⊢
        injection this with this
        rw [this]
      have He := hide (show R = ((1, ((0 : Nat) : Int)), zeroM) from by rw [HRd.out, readM_one hcut, if_neg H8.out]; rfl)
      clear hcut
      have bq := HR.out
      have r0 := bq.cell 0
      have r1 := bq.cell 1
      have r2 := bq.cell 2
      have r3 := bq.cell 3
      have s0 := bq.frozen 0
      have s1 := bq.frozen 1
      have s2 := bq.frozen 2
      have s3 := bq.frozen 3
      have rz := bq.lt
      simp only [List.getElem?_toArray, List.getElem?_cons_zero, List.getElem?_cons_succ] at r0 r1 r2 r3
      clear bq
      have bq := HF.out
      have f0 := bq.cell 0
      have f1 := bq.cell 1
      have g0 := bq.frozen 0
      have g1 := bq.frozen 1
      have fz := bq.lt
      simp only [List.getElem?_toArray, List.getElem?_cons_zero, List.getElem?_cons_succ] at f0 f1
      clear bq
      go_wp2_with fail
      refine bodyPost_ret (msgf_out Tryz.results19 rfl rfl (endM HR.out HF.out).1 (endM HR.out HF.out).2) rfl ?_
      exact ⟨zeroMR, by rw [He.out]; rfl, by rw [He.out]; rfl, zeroMR_ok _, zeroMR_far _, newM HN.out (by have := HX.out; omega) (by have := HX.out; omega)⟩
    · have i3 : ((0 : Int) == (n : Int) - 1) = false := by rw [beq_eq_false_iff_ne]; omega
      have Hhd := hide (headRef_any ⟨x.toArray⟩ wr (by show x.toArray.size ≤ _; have := Hxl.out; have := H8.out; simp; omega))
      have Hhd : Hid (Calls Tryz.prog 51 #[.string ⟨x.toArray⟩] wr fun e w1 => ∃ (k : List UInt8) (n : Int), e = .returned (.tuple #[.agg #[.string ⟨k.toArray⟩, .int .i64 n, .slice none 0 0, .slice none 0 0], .bool (headP x).isSome]) ∧ (∀ y, headP x = some y → y = (k, n)) ∧ New wr w1) := Hhd
      obtain ⟨hC0, rfl⟩ : (0 : Nat) = 0 ∧ st = ⟨[], [], []⟩ := by
        rcases HC.out with h | h
        · exact h
        · omega
      clear hC0
      have q00 : wr.cell? ⟨bl, ol, none⟩ = some (.string ⟨x.toArray⟩) := q0
      go_wp2_with fail
      refine Hhd.out.mono ?_
      rintro e w4 ⟨kk, n1, rfl, hq, hu⟩
      have Hq := hide hq
      have ua := hu.trans_new ((Upd.refl (fun _ => False) w4).alloc (.cells #[.string ⟨kk.toArray⟩, .int .i64 n1, .slice none 0 0, .slice none 0 0] TM))
      have HZ := hide (Blk.new w4 TM #[.string ⟨kk.toArray⟩, .int .i64 n1, .slice none 0 0, .slice none 0 0])
      have HJ := hide (HJ.out.new_ ua)
      have HR := hide (HR.out.new_ ua)
      have HF := hide (HF.out.new_ ua)
      have HS := hide (HS.out.upd ua fun _ _ _ x => x)
      have HN := hide (HN.out.trans_new ua)
      clear hu ua hq Hhd q0 q00 hb
      go_upto_region 15 with (fail)
      generalize w4.alloc (.cells #[.string ⟨kk.toArray⟩, .int .i64 n1, .slice none 0 0, .slice none 0 0] TM) = w5 at *
      generalize w4.heap.size = Z at *
      cases hh : headP x with
      | none =>
        dsimp only [Option.isSome]
        have He := hide (show R = ((1, ((0 : Nat) : Int)), zeroM) from by
          obtain ⟨x2, y2, r2, hc⟩ : ∃ x2 y2 r2, ls = x2 :: y2 :: r2 := by
            match ls, Hn.out with
            | [], e => simp at e; omega
            | [a], e => simp at e; omega
            | a :: b :: r, _ => exact ⟨a, b, r, rfl⟩
          have hx := Hx.out
          rw [hc] at hx
          injection hx with hx
          rw [HRd.out]
          exact readM_bad (HLs.out.symm.trans hc) H8.out (by rw [hx]; exact hh))
        have bq := HR.out
        have r0 := bq.cell 0
        have r1 := bq.cell 1
        have r2 := bq.cell 2
        have r3 := bq.cell 3
        have s0 := bq.frozen 0
        have s1 := bq.frozen 1
        have s2 := bq.frozen 2
        have s3 := bq.frozen 3
        have rz := bq.lt
        simp only [List.getElem?_toArray, List.getElem?_cons_zero, List.getElem?_cons_succ] at r0 r1 r2 r3
        clear bq
        have bq := HF.out
        have f0 := bq.cell 0
        have f1 := bq.cell 1
        have g0 := bq.frozen 0
        have g1 := bq.frozen 1
        have fz := bq.lt
        simp only [List.getElem?_toArray, List.getElem?_cons_zero, List.getElem?_cons_succ] at f0 f1
        clear bq
        go_wp2_with fail
        refine bodyPost_ret (msgf_out Tryz.results19 rfl rfl (endM HR.out HF.out).1 (endM HR.out HF.out).2) rfl ?_
        exact ⟨zeroMR, by rw [He.out]; rfl, by rw [He.out]; rfl, zeroMR_ok _, zeroMR_far _, newM HN.out (by have := HX.out; omega) (by have := HX.out; omega)⟩
      | some y =>
        dsimp only [Option.isSome]
        have hy := Hq.out y hh
        have bq := HZ.out
        have z0 := bq.cell 0
        have z1 := bq.cell 1
        have z2 := bq.cell 2
        have z3 := bq.cell 3
        have zz := bq.lt
        simp only [List.getElem?_toArray, List.getElem?_cons_zero, List.getElem?_cons_succ] at z0 z1 z2 z3
        clear bq
        have bq := HJ.out.blk
        have y0 := bq.cell 0
        have y1 := bq.cell 1
        have y2 := bq.cell 2
        have y3 := bq.cell 3
        have t0 := bq.frozen 0
        have t1 := bq.frozen 1
        have t2 := bq.frozen 2
        have t3 := bq.frozen 3
        have yz := bq.lt
        simp only [List.getElem?_toArray, List.getElem?_cons_zero, List.getElem?_cons_succ] at y0 y1 y2 y3
        clear bq
        have h1n : 1 < n := by omega
        go_wp2_with fail
        refine ⟨⟨1, h1n, rfl, head_cells_new HN.out (by have := HX.out; have := HY.out.2; omega), HR.out.upd head_cells_upd (by have := HY.out.2; omega), HF.out.upd head_cells_upd (by have := HY.out.2; omega), HS.out.upd head_cells_upd (fun b o e h => by injection e with e; injection e with e; have := HY.out.1; omega), ⟨kk.toArray⟩, n1, ⟨[], [], []⟩, _, _, [], rdJ_head HJ.out, RdB.zero.up, .inr ⟨Nat.le_refl _, x, Hx.out, by rw [hh, hy], rfl⟩⟩, by simp [intOf]; omega⟩
  obtain ⟨h1k, x0, hx0, hh0, hre⟩ : 1 ≤ k ∧ ∃ x, ls[0]? = some x ∧ headP x = some (kd.data.toList, nn) ∧ restP (decide (kd.data.toList = kNews)) (ls.drop 1) 1 ⟨[], [], []⟩ = restP (decide (kd.data.toList = kNews)) (ls.drop k) k st := by
    rcases HC.out with h | h
    · exact absurd h.1 hk0
    · exact h
  have HRe := hide (rest_eq HRd.out HLs.out (by rw [← Hn.out]; omega) H8.out hx0 hh0 hre)
  have HX0 := hide hx0
  have HH0 := hide hh0
  have HRR := hide hre
  have j0 : (0 : Int) < (k : Int) := by omega
  clear hx0 hh0 hre
  by_cases hl : k + 1 = n
  · have hxe : ¬ x = [] := fun e => hend ⟨h1k, hl, e⟩
    have hxe2 : (x == []) = false := beq_eq_false_iff_ne.2 hxe
    have j1 : ((k : Int) == (n : Int) - 1) = true := by rw [beq_iff_eq]; omega
    have He := hide (show R = ((1, (k : Int)), zeroM) from by
      rw [HRe.out, restP_last Hx.out (by rw [hl]; exact Hn.out), if_neg hxe])
    clear hend hl
    have bq := HR.out
    have r0 := bq.cell 0
    have r1 := bq.cell 1
    have r2 := bq.cell 2
    have r3 := bq.cell 3
    have s0 := bq.frozen 0
    have s1 := bq.frozen 1
    have s2 := bq.frozen 2
    have s3 := bq.frozen 3
    have rz := bq.lt
    simp only [List.getElem?_toArray, List.getElem?_cons_zero, List.getElem?_cons_succ] at r0 r1 r2 r3
    clear bq
    have bq := HF.out
    have f0 := bq.cell 0
    have f1 := bq.cell 1
    have g0 := bq.frozen 0
    have g1 := bq.frozen 1
    have fz := bq.lt
    simp only [List.getElem?_toArray, List.getElem?_cons_zero, List.getElem?_cons_succ] at f0 f1
    clear bq
    go_wp2_with fail
    refine bodyPost_ret (msgf_out Tryz.results19 rfl rfl (endM HR.out HF.out).1 (endM HR.out HF.out).2) rfl ?_
    exact ⟨zeroMR, by rw [He.out]; rfl, by rw [He.out]; rfl, zeroMR_ok _, zeroMR_far _, newM HN.out (by have := HX.out; omega) (by have := HX.out; omega)⟩
  have j1 : ((k : Int) == (n : Int) - 1) = false := by rw [beq_eq_false_iff_ne]; omega
  have Hst := hide (restP_step (news := decide (kd.data.toList = kNews)) (st := st) Hx.out (by rw [← Hn.out]; omega))
  have hkt := kd_test kd
  have HxC := hide (cutRef_any ⟨x.toArray⟩ 32 wr (by show x.toArray.size ≤ _; have := Hxl.out; have := H8.out; simp; omega))
  have HxC : Hid (Calls Tryz.prog 50 #[.string ⟨x.toArray⟩, .int .u8 32] wr fun e w1 => ∃ v, e = .returned v ∧ OwnT w1 wr.heap.size v (cutR 32 x) ∧ New wr w1) := HxC
  have Hkn := hide hkt
  clear hend hkt
  go_wp2_with fail
  refine HxC.out.mono ?_
  rintro e w4 ⟨v, rfl, ho, hu⟩
  obtain ⟨A4, c4, rfl, _, _, hS4⟩ := ss_of_own ho
  have HS4 := hide hS4
  have HU4 := hide hu
  have HJ := hide (HJ.out.new_ hu)
  have HR := hide (HR.out.new_ hu)
  have HF := hide (HF.out.new_ hu)
  have HS := hide (HS.out.upd hu fun _ _ _ x => x)
  have HN := hide (HN.out.trans_new hu)
  have q0 : w4.cell? ⟨bl, ol + k, none⟩ = some (.string ⟨x.toArray⟩) := (hu.cell hb (fun x => x)).trans q0
  have hb4 : bl < w4.heap.size := Nat.lt_of_lt_of_le hb hu.size
  have Q0 := hide (And.intro q0 hb4)
  clear hu ho hS4 HxC q0 hb hb4
  obtain ⟨nw, hnw⟩ : ∃ nw, nw = (cutR 32 x).length := ⟨_, rfl⟩
  rw [← hnw]
  have Hnw := hide hnw
  clear hnw
  have hkt := Hkn.out
  have bq := HJ.out.blk
  have y0 := bq.cell 0
  have yz := bq.lt
  simp only [List.getElem?_toArray, List.getElem?_cons_zero, List.getElem?_cons_succ] at y0
  clear bq
  by_cases hnews : kd.data.toList = kNews
  rotate_left
  · rw [decide_eq_false hnews] at hkt
    have He := hide (show R = ((1, (k : Int)), zeroM) from by
      rw [HRe.out, Hst.out, decide_eq_false hnews]
      rfl)
    clear hnews
    have bq := HR.out
    have r0 := bq.cell 0
    have r1 := bq.cell 1
    have r2 := bq.cell 2
    have r3 := bq.cell 3
    have s0 := bq.frozen 0
    have s1 := bq.frozen 1
    have s2 := bq.frozen 2
    have s3 := bq.frozen 3
    have rz := bq.lt
    simp only [List.getElem?_toArray, List.getElem?_cons_zero, List.getElem?_cons_succ] at r0 r1 r2 r3
    clear bq
    have bq := HF.out
    have f0 := bq.cell 0
    have f1 := bq.cell 1
    have g0 := bq.frozen 0
    have g1 := bq.frozen 1
    have fz := bq.lt
    simp only [List.getElem?_toArray, List.getElem?_cons_zero, List.getElem?_cons_succ] at f0 f1
    clear bq
    go_wp2_with fail
    refine bodyPost_ret (msgf_out Tryz.results19 rfl rfl (endM HR.out HF.out).1 (endM HR.out HF.out).2) rfl ?_
    exact ⟨zeroMR, by rw [He.out]; rfl, by rw [He.out]; rfl, zeroMR_ok _, zeroMR_far _, newM HN.out (by have := HX.out; omega) (by have := HX.out; omega)⟩
  rw [decide_eq_true hnews] at hkt
  have Hst := hide (show restP true (ls.drop k) k st = match lineP st x with | some s => restP true (ls.drop (k + 1)) (k + 1) s | none => .inr k by
    have := Hst.out
    rw [decide_eq_true hnews, if_pos rfl] at this
    exact this)
  have HRe := hide HRe.out
  have HRe : Hid (R = match restP true (ls.drop k) k st with | .inl st => endP kd.data.toList nn st | .inr i => ((1, (i : Int)), zeroM)) := by
    have := HRe.out
    rw [decide_eq_true hnews] at this
    exact this
  have Hbad := hide (fun (h : lineP st x = none) => (show R = ((1, (k : Int)), zeroM) by rw [HRe.out, Hst.out, h]))
  have Hnews := hide hnews
  clear hnews
  by_cases hs2 : nw < 2
  · have i5 : (nw : Int) < 2 := by omega
    have He := hide (Hbad.out (lineP_lt2 (by rw [← Hnw.out]; exact hs2)))
    clear hs2
    have bq := HR.out
    have r0 := bq.cell 0
    have r1 := bq.cell 1
    have r2 := bq.cell 2
    have r3 := bq.cell 3
    have s0 := bq.frozen 0
    have s1 := bq.frozen 1
    have s2 := bq.frozen 2
    have s3 := bq.frozen 3
    have rz := bq.lt
    simp only [List.getElem?_toArray, List.getElem?_cons_zero, List.getElem?_cons_succ] at r0 r1 r2 r3
    clear bq
    have bq := HF.out
    have f0 := bq.cell 0
    have f1 := bq.cell 1
    have g0 := bq.frozen 0
    have g1 := bq.frozen 1
    have fz := bq.lt
    simp only [List.getElem?_toArray, List.getElem?_cons_zero, List.getElem?_cons_succ] at f0 f1
    clear bq
    go_wp2_with fail
    refine bodyPost_ret (msgf_out Tryz.results19 rfl rfl (endM HR.out HF.out).1 (endM HR.out HF.out).2) rfl ?_
    exact ⟨zeroMR, by rw [He.out]; rfl, by rw [He.out]; rfl, zeroMR_ok _, zeroMR_far _, newM HN.out (by have := HX.out; omega) (by have := HX.out; omega)⟩
  have i5 : ¬ (nw : Int) < 2 := by omega
  obtain ⟨w0, w1, r, hw⟩ : ∃ w0 w1 r, cutR 32 x = w0 :: w1 :: r := by
    have h := Hnw.out
    match cutR 32 x, h with
    | [], h => simp at h; omega
    | [a], h => simp at h; omega
    | a :: b :: r, _ => exact ⟨a, b, r, rfl⟩
  have Hln := hide (lineP_cons (st := st) hw)
  have Hcr := hide (fun hr => cut_rest hw hr)
  have hS4 := HS4.out
  rw [hw] at hS4
  obtain ⟨b4, o4, hA4, hb4, hc4⟩ := hS4 (by simp)
  subst hA4
  have c0 : w4.cell? ⟨b4, o4, none⟩ = some (.string ⟨w0.toArray⟩) := hc4 0 w0 rfl
  have c1 : w4.cell? ⟨b4, o4 + 1, none⟩ = some (.string ⟨w1.toArray⟩) := hc4 1 w1 rfl
  have hnr : nw = r.length + 2 := by rw [Hnw.out, hw]; rfl
  have hwl : w0.length ≤ 8000 ∧ w1.length ≤ 8000 := by
    have h := cutR_piece 32 x
    rw [hw] at h
    have h0 := h w0 (by simp)
    have h1 := h w1 (by simp)
    have := Hxl.out
    have := H8.out
    omega
  have HrP := readPrefRef_any ⟨w1.toArray⟩ w4 (by show w1.toArray.size ≤ _; simp; omega)
  obtain ⟨rp, hrp⟩ : ∃ rp, rp = readP ⟨w1.toArray⟩ := ⟨_, rfl⟩
  rw [← hrp] at HrP Hln
  obtain ⟨kc, pa, pn⟩ := rp
  have HrP : Hid (Calls Tryz.prog 52 #[.string ⟨w1.toArray⟩] w4 fun e w1 => e = .returned (.tuple #[.agg #[.int .i64 pa, .int .i64 pn], .int .i64 (kc : Nat)]) ∧ New w4 w1) := hide HrP
  have Hln : Hid (lineP st x = if kc = 0 then lineQ st w0 ⟨pa, pn⟩ r else none) := Hln
  have Hnr := hide hnr
  have Hwl := hide hwl
  have Hc4 := hide (And.intro c0 (And.intro c1 hb4))
  clear hrp hnr hwl hw hS4 hc4 HS4 hs2
  go_wp2_with fail
  refine HrP.out.mono ?_
  rintro e w5 ⟨rfl, hu⟩
  have ua := hu.trans_new ((Upd.refl (fun _ => False) w5).alloc (.cells #[.int .i64 pa, .int .i64 pn] TPf))
  have HP := hide (Blk.new w5 TPf #[.int .i64 pa, .int .i64 pn])
  have HJ := hide (HJ.out.new_ ua)
  have HR := hide (HR.out.new_ ua)
  have HF := hide (HF.out.new_ ua)
  have HS := hide (HS.out.upd ua fun _ _ _ x => x)
  have HN := hide (HN.out.trans_new ua)
  have HZP := hide (And.intro hu.size ua.size)
  have q0 := (ua.cell Q0.out.2 (fun x => x)).trans Q0.out.1
  have c0 := (ua.cell Hc4.out.2.2 (fun x => x)).trans Hc4.out.1
  have c1 := (ua.cell Hc4.out.2.2 (fun x => x)).trans Hc4.out.2.1
  have hbl5 := Nat.lt_of_lt_of_le Q0.out.2 ua.size
  have hb45 := Nat.lt_of_lt_of_le Hc4.out.2.2 ua.size
  clear hu ua HrP y0 yz hb4
  go_upto_region 22 with (fail)
  generalize w5.alloc (.cells #[.int .i64 pa, .int .i64 pn] TPf) = w6 at *
  generalize w5.heap.size = P at *
  by_cases hkc : kc = 0
  rotate_left
  · have i6 : (0 : Int) < (kc : Int) := by omega
    have He := hide (Hbad.out (by rw [Hln.out, if_neg hkc]))
    clear hkc
    have bq := HR.out
    have r0 := bq.cell 0
    have r1 := bq.cell 1
    have r2 := bq.cell 2
    have r3 := bq.cell 3
    have s0 := bq.frozen 0
    have s1 := bq.frozen 1
    have s2 := bq.frozen 2
    have s3 := bq.frozen 3
    have rz := bq.lt
    simp only [List.getElem?_toArray, List.getElem?_cons_zero, List.getElem?_cons_succ] at r0 r1 r2 r3
    clear bq
    have bq := HF.out
    have f0 := bq.cell 0
    have f1 := bq.cell 1
    have g0 := bq.frozen 0
    have g1 := bq.frozen 1
    have fz := bq.lt
    simp only [List.getElem?_toArray, List.getElem?_cons_zero, List.getElem?_cons_succ] at f0 f1
    clear bq
    go_wp2_with fail
    refine bodyPost_ret (msgf_out Tryz.results19 rfl rfl (endM HR.out HF.out).1 (endM HR.out HF.out).2) rfl ?_
    exact ⟨zeroMR, by rw [He.out]; rfl, by rw [He.out]; rfl, zeroMR_ok _, zeroMR_far _, newM HN.out (by have := HX.out; omega) (by have := HX.out; omega)⟩
  subst hkc
  have Hln : Hid (lineP st x = lineQ st w0 ⟨pa, pn⟩ r) := Hln
  go_upto_region 24 with (fail)
  obtain ⟨VA, ca, rfl⟩ := own_form HJ.out.adds (by omega)
  obtain ⟨VD, cd, rfl⟩ := own_form HJ.out.drops (by omega)
  have Hra := hide (show st.adds = [] ↔ rs = [] by rw [← HJ.out.con, List.map_eq_nil_iff])
  have bq := HJ.out.blk
  have y3 := bq.cell 3
  have yz := bq.lt
  simp only [List.getElem?_toArray, List.getElem?_cons_zero, List.getElem?_cons_succ] at y3
  clear bq
  go_cut [117] (fun v117_ wc => v117_ = .bool (decide (w0 = [45] ∧ r = [] ∧ st.adds = [] ∧ st.more = [])) ∧ w6 = wc)
  case first =>
    by_cases h1 : w0 = [45]
    rotate_left
    · have j1 : (w0 == [45]) = false := beq_eq_false_iff_ne.2 h1
      have Hf := hide (decide_eq_false (p := w0 = [45] ∧ r = [] ∧ st.adds = [] ∧ st.more = []) fun h => h1 h.1)
      clear h1
      go_wp2_with fail
      go_meet
      case rel => exact ⟨by rw [Hf.out], rfl⟩
    by_cases h2 : r = []
    rotate_left
    · have j2 : ((nw : Int) == 2) = false := by
        rw [beq_eq_false_iff_ne, Hnr.out]
        have := List.length_pos_iff.2 h2
        omega
      have Hf := hide (decide_eq_false (p := w0 = [45] ∧ r = [] ∧ st.adds = [] ∧ st.more = []) fun h => h2 h.2.1)
      clear h2
      subst h1
      go_wp2_with fail
      go_meet
      case rel => exact ⟨by rw [Hf.out], rfl⟩
    have j2 : ((nw : Int) == 2) = true := by rw [beq_iff_eq, Hnr.out, h2]; rfl
    by_cases h3 : st.adds = []
    rotate_left
    · have j3 : ((rs.length : Int) == 0) = false := by
        rw [beq_eq_false_iff_ne]
        have := List.length_pos_iff.2 (fun e => h3 (Hra.out.2 e))
        omega
      have Hf := hide (decide_eq_false (p := w0 = [45] ∧ r = [] ∧ st.adds = [] ∧ st.more = []) fun h => h3 h.2.2.1)
      clear h2 h3
      subst h1
      go_wp2_with fail
      go_meet
      case rel => exact ⟨by rw [Hf.out], rfl⟩
    have j3 : ((rs.length : Int) == 0) = true := by rw [beq_iff_eq, Hra.out.1 h3]; rfl
    by_cases h4 : st.more = []
    rotate_left
    · have j4 : ((st.more.length : Int) == 0) = false := by
        rw [beq_eq_false_iff_ne]
        have := List.length_pos_iff.2 h4
        omega
      have Hf := hide (decide_eq_false (p := w0 = [45] ∧ r = [] ∧ st.adds = [] ∧ st.more = []) fun h => h4 h.2.2.2)
      clear h2 h3 h4
      subst h1
      go_wp2_with fail
      go_meet
      case rel => exact ⟨by rw [Hf.out], rfl⟩
    have j4 : ((st.more.length : Int) == 0) = true := by rw [beq_iff_eq, h4]; rfl
    have Hf := hide (decide_eq_true (p := w0 = [45] ∧ r = [] ∧ st.adds = [] ∧ st.more = []) ⟨h1, h2, h3, h4⟩)
    clear h2 h3 h4
    subst h1
    go_wp2_with fail
    go_meet
    case rel => exact ⟨by rw [Hf.out], rfl⟩
  obtain ⟨rfl, rfl⟩ := hcut
  clear y3 yz
  go_upto_if 117 with (fail)
  have hd9 := HB.out.dl
  have ha9 := HB.out.al
  have hm9 := HB.out.ml
  rw [← HJ.out.con, List.length_map] at ha9
  have hYw : Y ≤ w6.heap.size := Nat.le_of_lt HJ.out.blk.lt
  have HYw := hide hYw
  by_cases hd : w0 = [45] ∧ r = [] ∧ st.adds = [] ∧ st.more = []
  · rw [decide_eq_true hd]
    have Hlx := hide (show lineP st x = some { st with drops := st.drops ++ [⟨pa, pn⟩] } by rw [Hln.out]; unfold lineQ; rw [if_pos hd])
    obtain ⟨i0, hi0, hz0, hz1, hz2⟩ := info_parts info_TPf
    clear hd q0 c0 c1 hbl5 hb45
    have bq := HP.out
    have p0 := bq.cell 0
    have p1 := bq.cell 1
    have pz := bq.lt
    simp only [List.getElem?_toArray, List.getElem?_cons_zero, List.getElem?_cons_succ] at p0 p1
    clear bq
    have bq := HJ.out.blk
    have y2 := bq.cell 2
    have yz := bq.lt
    simp only [List.getElem?_toArray, List.getElem?_cons_zero, List.getElem?_cons_succ] at y2
    clear bq
    go_wp2_with (at_builtin; (refine wpList_append_lies _ rfl (.tmp 119) (.tmp 121) 22 rfl Y TPf i0 _ 2 16 Tryz.underlying22 hi0 hz0 hz1 hz2 rfl (by omega) (.slice VD st.drops.length cd) st.drops.length _ rfl (rown_upd HJ.out.drops ((Upd.refl (fun _ => False) w6).alloc _) (fun _ _ x => x)) ⟨w6.heap.size, 0, none⟩ 1 1 [.int .i64 pa, .int .i64 pn] rfl rfl (World.news_of_block (cs := #[.int .i64 pa, .int .i64 pn]) (t := TPf) (fr := (0, 0)) (heap_alloc_new w6 _)) (by simp [Value.oneCell']) (by omega) (by unfold maxLen; omega) (by omega) (by simp; omega) (w6.heap.size + 1) (by simp) ?_))
    intro g cap w7 hown hgrow hat hlt7
    have u7 : Upd (fun q => (Value.slice VD st.drops.length cd).ownBlock = some q) w6 w7 := ((Upd.refl _ w6).alloc _).trans' (Upd.of_grown hgrow fun q _ hq => hq)
    have HJ8 := hide (HJ.out.drop (p := ⟨pa, pn⟩) hown u7 (hat.imp id fun e => by omega))
    have U8 : Upd (OwnB Y (.slice VD st.drops.length cd) (.slice VA rs.length ca) (.slice VM st.more.length cm)) w6 (w7.setCell ⟨Y, 2, none⟩ (.slice (some ⟨g, 0, none⟩) (st.drops.length + 1) cap)) := (u7.mono fun q _ hq => .inr (.inl hq)).setCell (.inl (.inl rfl)) _
    have HU8 := hide U8
    have hb7 := HJ.out.blk.upd u7 (rown_ne HJ.out.drops HJ.out.blk (by decide))
    clear y2 yz p0 p1 pz hown hgrow hat hlt7 u7 U8
    have bq := hb7
    have y2 := bq.cell 2
    have t2 := bq.frozen 2
    have yz := bq.lt
    simp only [List.getElem?_toArray, List.getElem?_cons_zero, List.getElem?_cons_succ] at y2
    clear bq
    clear hb7
    go_wp2_with fail
    have U8 := HU8.out
    have HN8 := hide (HN.out.trans U8 fun q hq e => by have := HJ.out.ge e; have := HX.out; have := HY.out; omega)
    have HR8 := hide (HR.out.upd U8 fun e => by have := HJ.out.ge e; have := HY.out; omega)
    have HF8 := hide (HF.out.upd U8 fun e => by have := HJ.out.ge e; have := HY.out; omega)
    have HS8 := hide (HS.out.upd U8 fun b o e h => by injection e with e; injection e with e; have := HJ.out.ge h; have := HY.out; omega)
    have HB8 := hide (HB.out.line readT_short Hlx.out)
    refine ⟨⟨k + 1, by omega, by go_num, HN8.out, HR8.out, HF8.out, HS8.out, kd, nn, { st with drops := st.drops ++ [⟨pa, pn⟩] }, _, _, rs, HJ8.out, HB8.out, .inr ⟨by omega, x0, HX0.out, HH0.out, ?_⟩⟩, by simp [intOf]; omega⟩
    rw [HRR.out, decide_eq_true Hnews.out, Hst.out, Hlx.out]
  rw [decide_eq_false hd]
  have Hln := hide (show lineP st x = if w0 = [43] ∧ r ≠ [] then (if (readT (joinC 32 r)).1 = 0 then some { st with adds := st.adds ++ [⟨pa, pn, (readT (joinC 32 r)).2, 0⟩] } else some { st with more := st.more ++ [⟨pa, pn⟩] }) else none by
    rw [Hln.out]
    unfold lineQ
    rw [if_neg hd])
  clear hd
  by_cases h1 : w0 = [43]
  rotate_left
  · have j1 : (w0 == [43]) = false := beq_eq_false_iff_ne.2 h1
    have He := hide (Hbad.out (by rw [Hln.out, if_neg (fun h => h1 h.1)]))
    clear h1
    have bq := HR.out
    have r0 := bq.cell 0
    have r1 := bq.cell 1
    have r2 := bq.cell 2
    have r3 := bq.cell 3
    have s0 := bq.frozen 0
    have s1 := bq.frozen 1
    have s2 := bq.frozen 2
    have s3 := bq.frozen 3
    have rz := bq.lt
    simp only [List.getElem?_toArray, List.getElem?_cons_zero, List.getElem?_cons_succ] at r0 r1 r2 r3
    clear bq
    have bq := HF.out
    have f0 := bq.cell 0
    have f1 := bq.cell 1
    have g0 := bq.frozen 0
    have g1 := bq.frozen 1
    have fz := bq.lt
    simp only [List.getElem?_toArray, List.getElem?_cons_zero, List.getElem?_cons_succ] at f0 f1
    clear bq
    go_wp2_with fail
    refine bodyPost_ret (msgf_out Tryz.results19 rfl rfl (endM HR.out HF.out).1 (endM HR.out HF.out).2) rfl ?_
    exact ⟨zeroMR, by rw [He.out]; rfl, by rw [He.out]; rfl, zeroMR_ok _, zeroMR_far _, newM HN.out (by have := HX.out; omega) (by have := HX.out; omega)⟩
  by_cases h2 : r = []
  · have j2 : (nw : Int) < 3 := by rw [Hnr.out, h2]; decide
    have He := hide (Hbad.out (by rw [Hln.out, if_neg (fun h => h.2 h2)]))
    clear h2
    obtain rfl : w0 = [43] := h1
    have bq := HR.out
    have r0 := bq.cell 0
    have r1 := bq.cell 1
    have r2 := bq.cell 2
    have r3 := bq.cell 3
    have s0 := bq.frozen 0
    have s1 := bq.frozen 1
    have s2 := bq.frozen 2
    have s3 := bq.frozen 3
    have rz := bq.lt
    simp only [List.getElem?_toArray, List.getElem?_cons_zero, List.getElem?_cons_succ] at r0 r1 r2 r3
    clear bq
    have bq := HF.out
    have f0 := bq.cell 0
    have f1 := bq.cell 1
    have g0 := bq.frozen 0
    have g1 := bq.frozen 1
    have fz := bq.lt
    simp only [List.getElem?_toArray, List.getElem?_cons_zero, List.getElem?_cons_succ] at f0 f1
    clear bq
    go_wp2_with fail
    refine bodyPost_ret (msgf_out Tryz.results19 rfl rfl (endM HR.out HF.out).1 (endM HR.out HF.out).2) rfl ?_
    exact ⟨zeroMR, by rw [He.out]; rfl, by rw [He.out]; rfl, zeroMR_ok _, zeroMR_far _, newM HN.out (by have := HX.out; omega) (by have := HX.out; omega)⟩
  have j2 : ¬ (nw : Int) < 3 := by
    rw [Hnr.out]
    have := List.length_pos_iff.2 h2
    omega
  have Hln9 := hide (show lineP st x = (if (readT (joinC 32 r)).1 = 0 then some { st with adds := st.adds ++ [⟨pa, pn, (readT (joinC 32 r)).2, 0⟩] } else some { st with more := st.more ++ [⟨pa, pn⟩] }) by rw [Hln.out, if_pos ⟨h1, h2⟩])
  obtain ⟨hz, hzl⟩ := Hcr.out h2
  obtain ⟨z, hzz⟩ : ∃ z, z = joinC 32 r := ⟨_, rfl⟩
  rw [← hzz] at hz Hln9
  have hxl : x.length ≤ 8000 := by have := Hxl.out; have := H8.out; omega
  have hzs : z.length ≤ 8000 := by rw [← hz, List.length_drop]; omega
  have hex : (⟨x.toArray⟩ : ByteArray).extract (w0.length + w1.length + 2) x.length = ⟨z.toArray⟩ := by
    rw [extract_list, ← hz]
    show (⟨((x.drop (w0.length + w1.length + 2)).take (x.length - (w0.length + w1.length + 2))).toArray⟩ : ByteArray) = _
    rw [List.take_of_length_le (by rw [List.length_drop]; exact Nat.le_refl _)]
  have Har := hide (fun w' => attrReadRef_any ⟨z.toArray⟩ w' (by show z.toArray.size ≤ _; simp; omega))
  obtain ⟨T, hT⟩ : ∃ T, T = readT z := ⟨_, rfl⟩
  rw [← hT] at Hln9
  have Har : Hid (∀ w', Calls Tryz.prog 53 #[.string ⟨z.toArray⟩] w' fun e w1 => ∃ a' : AttrR, e = .returned (.tuple #[.agg #[.slice a'.P a'.path.length a'.pc, .int .i64 a'.pref, .int .i64 a'.med, .int .i64 a'.origin, .slice a'.T a'.tags.length a'.tc], .int .i64 (T.1 : Nat)]) ∧ a'.con = T.2 ∧ AttrOk w1 a' ∧ Fresh w' a' ∧ New w' w1) := by
    rw [hT]
    exact Har
  obtain rfl : w0 = [43] := h1
  have hex : (⟨x.toArray⟩ : ByteArray).extract (1 + w1.length + 2) x.length = ⟨z.toArray⟩ := hex
  have hzl : 1 + w1.length + 2 ≤ x.length := hzl
  have hwl := Hwl.out.2
  have i7 : (k : Int) < (n : Int) := i2
  clear hz hzz hT h2 hzs
  have g1 : IntKind.i64.wrap (1 + (w1.length : Int)) = 1 + (w1.length : Int) := by rw [IntKind.wrap_i64]; omega
  have g2 : IntKind.i64.wrap (1 + (w1.length : Int) + 2) = 1 + (w1.length : Int) + 2 := by rw [IntKind.wrap_i64]; omega
  have g3 : (1 + (w1.length : Int) + 2).toNat = 1 + w1.length + 2 := by omega
  have g4 : 0 ≤ 1 + (w1.length : Int) + 2 := by omega
  have g5 : ¬ 1 + (w1.length : Int) + 2 < 0 := by omega
  have g6 : 1 + (w1.length : Int) + 2 ≤ (x.length : Int) := by omega
  have m0 : 0 < nw := by omega
  have m1 : 1 < nw := by omega
  have m2 : (0 : Int) < (nw : Int) := by omega
  have m3 : (1 : Int) < (nw : Int) := by omega
  clear hd9 ha9 hm9 hYw hxl hwl
  go_upto_region 29 with (fail)
  go_cut [13, 15] (fun v13_ v15_ wc => ∃ (a' : AttrR) (Q : Nat), v13_ = .int .i64 (T.1 : Nat) ∧ v15_ = .pointer (some ⟨Q, 0, none⟩) ∧ a'.con = T.2 ∧ AttrOk wc a' ∧ Fresh w6 a' ∧ Blk wc Q TA #[.slice a'.P a'.path.length a'.pc, .int .i64 a'.pref, .int .i64 a'.med, .int .i64 a'.origin, .slice a'.T a'.tags.length a'.tc] ∧ New w6 wc)
  case first =>
    have HQ0 := hide (Blk.new w6 TA #[.slice none 0 0, .int .i64 0, .int .i64 0, .int .i64 0, .slice none 0 0])
    have W0 := hide (((Upd.refl (fun _ => False) w6).alloc (.cells #[.slice none 0 0, .int .i64 0, .int .i64 0, .int .i64 0, .slice none 0 0] TA)).drew)
    have Kp := hide (fun w' (hu : New w6 w') => (show w'.cell? ⟨bl, ol + k, none⟩ = some (.string ⟨x.toArray⟩) ∧ w'.cell? ⟨b4, o4, none⟩ = some (.string ⟨[43].toArray⟩) ∧ w'.cell? ⟨b4, o4 + 1, none⟩ = some (.string ⟨w1.toArray⟩) from ⟨(hu.cell hbl5 (fun x => x)).trans q0, (hu.cell hb45 (fun x => x)).trans c0, (hu.cell hb45 (fun x => x)).trans c1⟩))
    go_region_held3 (fun w' => w'.cell? ⟨bl, ol + k, none⟩ = some (.string ⟨x.toArray⟩) ∧ w'.cell? ⟨b4, o4, none⟩ = some (.string ⟨[43].toArray⟩) ∧ w'.cell? ⟨b4, o4 + 1, none⟩ = some (.string ⟨w1.toArray⟩))
      (first | go_keep | exact Kp.out _ U7.out | exact Kp.out _ (U7.out.alloc _) | exact Kp.out _ (set5_updN U7.out) | exact Kp.out _ ((Upd.refl _ _).alloc _).drew | exact Kp.out _ ((Upd.refl _ _).alloc _) | exact Kp.out _ (Upd.refl _ _).drew)
      (first
        | (go_at_call 53; refine (Har.out (w6.alloc (.cells #[.slice none 0 0, .int .i64 0, .int .i64 0, .int .i64 0, .slice none 0 0] TA)).drew).mono ?_; rintro e w7 ⟨a', rfl, hcon, hok, hfr, hu⟩; have U7 := hide (W0.out.trans_new hu); have hQ7 := (HQ0.out.drew).new_ hu; have t0 := hQ7.cell 0; have t1 := hQ7.cell 1; have t2 := hQ7.cell 2; have t3 := hQ7.cell 3; have t4 := hQ7.cell 4; have t5 := hQ7.frozen 0; have t6 := hQ7.frozen 1; have t7 := hQ7.frozen 2; have t8 := hQ7.frozen 3; have t9 := hQ7.frozen 4; have tz := hQ7.lt; simp only [List.getElem?_toArray, List.getElem?_cons_zero, List.getElem?_cons_succ] at t0 t1 t2 t3 t4)
        | (go_at_call 53; refine (Har.out w6.drew).mono ?_; rintro e w7 ⟨a', rfl, hcon, hok, hfr, hu⟩; have U7 := hide ((Upd.refl (fun _ => False) w6).drew.trans_new hu)))
    all_goals
      go_wp2_with fail
      go_meet
      case rel =>
        first
        | exact ⟨a', w7.heap.size, rfl, rfl, hcon, hok.new_ ((Upd.refl (fun _ => False) w7).alloc _), hfr.low (Nat.le_refl _), Blk.new w7 TA _, U7.out.alloc _⟩
        | exact ⟨a', w6.heap.size, rfl, rfl, hcon, hok.upd2 set5_updQ ⟨fun _ b o e h => by have := hfr.1 b o e; simp at this; omega, fun _ b o e h => by have := hfr.2 b o e; simp at this; omega⟩, hfr.low (by simp), set5 hQ7, set5_updN U7.out⟩
  obtain ⟨a', Q, rfl, rfl, hcon, hok, hfr, hQ, ua⟩ := hcut
  have Hfr := hide hfr
  have Hok := hide hok
  have Hcon := hide hcon
  have HQ := hide hQ
  have HJ6 := hide HJ.out
  have HJ := hide (HJ.out.new_ ua)
  have HP := hide (HP.out.new_ ua)
  have HR := hide (HR.out.new_ ua)
  have HF := hide (HF.out.new_ ua)
  have HS := hide (HS.out.upd ua fun _ _ _ x => x)
  have HN := hide (HN.out.trans_new ua)
  have Hsz := hide ua.size
  clear g1 g2 g3 g4 g5 g6 m0 m1 m2 m3 hex hzl i7 ua hcon hok hfr hQ q0 c0 c1 hbl5 hb45
  have hd9 := HB.out.dl
  have ha9 := HB.out.al
  have hm9 := HB.out.ml
  rw [← HJ.out.con, List.length_map] at ha9
  have hYw : Y ≤ wc.heap.size := Nat.le_of_lt HJ.out.blk.lt
  clear i2 j0 j1 j2
  by_cases hT0 : T.1 = 0
  rotate_left
  · have i6 : (0 : Int) < ((T.1 : Nat) : Int) := by omega
    have Hlx := hide (show lineP st x = some { st with more := st.more ++ [⟨pa, pn⟩] } by rw [Hln9.out, if_neg hT0])
    obtain ⟨i0, hi0, hz0, hz1, hz2⟩ := info_parts info_TPf
    clear hT0
    have bq := HP.out
    have p0 := bq.cell 0
    have p1 := bq.cell 1
    have pz := bq.lt
    simp only [List.getElem?_toArray, List.getElem?_cons_zero, List.getElem?_cons_succ] at p0 p1
    clear bq
    go_wp2_with (at_builtin; (refine wpList_append_lies _ rfl (.tmp 158) (.tmp 160) 22 rfl Y TPf i0 _ 2 16 Tryz.underlying22 hi0 hz0 hz1 hz2 rfl (by omega) (.slice VM st.more.length cm) st.more.length _ rfl (rown_upd HJ.out.more ((Upd.refl (fun _ => False) wc).alloc _) (fun _ _ x => x)) ⟨wc.heap.size, 0, none⟩ 1 1 [.int .i64 pa, .int .i64 pn] rfl rfl (World.news_of_block (cs := #[.int .i64 pa, .int .i64 pn]) (t := TPf) (fr := (0, 0)) (heap_alloc_new wc _)) (by simp [Value.oneCell']) (by omega) (by unfold maxLen; omega) (by omega) (by simp; omega) (wc.heap.size + 1) (by simp) ?_))
    intro g cap w7 hown hgrow hat hlt7
    have u7 : Upd (fun q => (Value.slice VM st.more.length cm).ownBlock = some q) wc w7 := ((Upd.refl _ wc).alloc _).trans' (Upd.of_grown hgrow fun q _ hq => hq)
    have HJ8 := hide (HJ.out.more_ (p := ⟨pa, pn⟩) hown u7 (hat.imp id fun e => by omega))
    have U8 : Upd (OwnB Y (.slice VD st.drops.length cd) (.slice VA rs.length ca) (.slice VM st.more.length cm)) wc w7 := u7.mono fun q _ hq => .inr (.inr (.inr hq))
    have HU8 := hide U8
    clear p0 p1 pz hown hgrow hat hlt7 u7 U8
    go_wp2_with fail
    have U8 := HU8.out
    have HN8 := hide (HN.out.trans U8 fun q hq e => by have := HJ.out.ge e; have := HX.out; have := HY.out; omega)
    have HR8 := hide (HR.out.upd U8 fun e => by have := HJ.out.ge e; have := HY.out; omega)
    have HF8 := hide (HF.out.upd U8 fun e => by have := HJ.out.ge e; have := HY.out; omega)
    have HS8 := hide (HS.out.upd U8 fun b o e h => by injection e with e; injection e with e; have := HJ.out.ge h; have := HY.out; omega)
    have HB8 := hide (HB.out.line readT_short Hlx.out)
    refine ⟨⟨k + 1, by omega, by go_num, HN8.out, HR8.out, HF8.out, HS8.out, kd, nn, { st with more := st.more ++ [⟨pa, pn⟩] }, _, _, rs, HJ8.out, HB8.out, .inr ⟨by omega, x0, HX0.out, HH0.out, ?_⟩⟩, by simp [intOf]; omega⟩
    rw [HRR.out, decide_eq_true Hnews.out, Hst.out, Hlx.out]
  · have i6 : ¬ (0 : Int) < ((T.1 : Nat) : Int) := by omega
    have Hlx := hide (show lineP st x = some { st with adds := st.adds ++ [(⟨pa, pn, a', 0⟩ : RouteR).con] } by
      rw [Hln9.out, if_pos hT0]
      unfold RouteR.con
      rw [Hcon.out])
    have hlow6 : ∀ q, OwnB Y (.slice VD st.drops.length cd) (.slice VA rs.length ca) (.slice VM st.more.length cm) q → q < w6.heap.size := fun q hq => by
      rcases hq with rfl | hq | hq | hq
      · exact HJ6.out.blk.lt
      · exact (HJ6.out.drops.lt q hq).2
      · exact (HJ6.out.adds.lt q hq).2
      · exact (HJ6.out.more.lt q hq).2
    have Hfar := hide (show AttrFar (OwnB Y (.slice VD st.drops.length cd) (.slice VA rs.length ca) (.slice VM st.more.length cm)) a' from ⟨fun _ b o e hq => by have := hlow6 b hq; have := Hfr.out.1 b o e; omega, fun _ b o e hq => by have := hlow6 b hq; have := Hfr.out.2 b o e; omega⟩)
    have Hlow := hide (show AttrFar (fun q => q < Y) a' from ⟨fun _ b o e hq => by have := HYw.out; have := Hfr.out.1 b o e; omega, fun _ b o e hq => by have := HYw.out; have := Hfr.out.2 b o e; omega⟩)
    obtain ⟨i0, hi0, hz0, hz1, hz2⟩ := info_parts info_TRt
    clear hT0 hlow6
    have bq := HP.out
    have p0 := bq.cell 0
    have p1 := bq.cell 1
    have pz := bq.lt
    simp only [List.getElem?_toArray, List.getElem?_cons_zero, List.getElem?_cons_succ] at p0 p1
    clear bq
    have bq := HQ.out
    have q0 := bq.cell 0
    have q1 := bq.cell 1
    have q2 := bq.cell 2
    have q3 := bq.cell 3
    have q4 := bq.cell 4
    have qz := bq.lt
    simp only [List.getElem?_toArray, List.getElem?_cons_zero, List.getElem?_cons_succ] at q0 q1 q2 q3 q4
    clear bq
    have bq := HJ.out.blk
    have y3 := bq.cell 3
    have yz := bq.lt
    simp only [List.getElem?_toArray, List.getElem?_cons_zero, List.getElem?_cons_succ] at y3
    clear bq
    go_wp2_with (at_builtin; (refine wpList_append_lies _ rfl (.tmp 163) (.tmp 167) 23 rfl Y TRt i0 _ 8 96 Tryz.underlying23 hi0 hz0 hz1 hz2 rfl (by omega) (.slice VA rs.length ca) rs.length _ rfl (rown_upd HJ.out.adds ((Upd.refl (fun _ => False) wc).alloc _) (fun _ _ x => x)) ⟨wc.heap.size, 0, none⟩ 1 1 [.int .i64 pa, .int .i64 pn, .slice a'.P a'.path.length a'.pc, .int .i64 a'.pref, .int .i64 a'.med, .int .i64 a'.origin, .slice a'.T a'.tags.length a'.tc, .int .i64 0] rfl rfl (World.news_of_block (cs := #[.int .i64 pa, .int .i64 pn, .slice a'.P a'.path.length a'.pc, .int .i64 a'.pref, .int .i64 a'.med, .int .i64 a'.origin, .slice a'.T a'.tags.length a'.tc, .int .i64 0]) (t := TRt) (fr := (0, 0)) (heap_alloc_new wc _)) (by simp [Value.oneCell']) (by omega) (by unfold maxLen; omega) (by omega) (by simp; omega) (wc.heap.size + 1) (by simp) ?_))
    intro g cap w7 hown hgrow hat hlt7
    have u7 : Upd (fun q => (Value.slice VA rs.length ca).ownBlock = some q) wc w7 := ((Upd.refl _ wc).alloc _).trans' (Upd.of_grown hgrow fun q _ hq => hq)
    have HJ8 := hide (HJ.out.add (r := ⟨pa, pn, a', 0⟩) rfl Hok.out Hfar.out Hlow.out hown u7 (hat.imp id fun e => by omega))
    have U8 : Upd (OwnB Y (.slice VD st.drops.length cd) (.slice VA rs.length ca) (.slice VM st.more.length cm)) wc (w7.setCell ⟨Y, 3, none⟩ (.slice (some ⟨g, 0, none⟩) (rs.length + 1) cap)) := (u7.mono fun q _ hq => .inr (.inr (.inl hq))).setCell (.inl (.inl rfl)) _
    have HU8 := hide U8
    have hb7 := HJ.out.blk.upd u7 (rown_ne HJ.out.adds HJ.out.blk (by decide))
    clear y3 yz p0 p1 pz q0 q1 q2 q3 q4 qz hown hgrow hat hlt7 u7 U8
    have bq := hb7
    have y3 := bq.cell 3
    have t3 := bq.frozen 3
    have yz := bq.lt
    simp only [List.getElem?_toArray, List.getElem?_cons_zero, List.getElem?_cons_succ] at y3
    clear bq
    clear hb7
    go_wp2_with fail
    have U8 := HU8.out
    have HN8 := hide (HN.out.trans U8 fun q hq e => by have := HJ.out.ge e; have := HX.out; have := HY.out; omega)
    have HR8 := hide (HR.out.upd U8 fun e => by have := HJ.out.ge e; have := HY.out; omega)
    have HF8 := hide (HF.out.upd U8 fun e => by have := HJ.out.ge e; have := HY.out; omega)
    have HS8 := hide (HS.out.upd U8 fun b o e h => by injection e with e; injection e with e; have := HJ.out.ge h; have := HY.out; omega)
    have HB8 := hide (HB.out.line readT_short Hlx.out)
    refine ⟨⟨k + 1, by omega, by go_num, HN8.out, HR8.out, HF8.out, HS8.out, kd, nn, { st with adds := st.adds ++ [(⟨pa, pn, a', 0⟩ : RouteR).con] }, _, _, rs ++ [⟨pa, pn, a', 0⟩], HJ8.out, HB8.out, .inr ⟨by omega, x0, HX0.out, HH0.out, ?_⟩⟩, by simp [intOf]; omega⟩
    rw [HRR.out, decide_eq_true Hnews.out, Hst.out, Hlx.out]
end Go.Proofs.YtjgecmkfgeajiaaGreatDoor
