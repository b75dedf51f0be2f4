/- Package attr: Lead. No condition but those that stand in each theorem. -/
import Derived.Test.YtignngpligicjaaDoorRu7
import Derived.BigRegion
namespace Go.Proofs.YtignngpligicjaaDoor
open Go.RowKit

/-- Its rows are new. -/
def Fresh (w : World) (a : AttrR) : Prop := (∀ b o, a.P = some ⟨b, o, none⟩ → w.heap.size ≤ b) ∧ (∀ b o, a.T = some ⟨b, o, none⟩ → w.heap.size ≤ b)
theorem zeroR_fresh (w : World) : Fresh w zeroR := ⟨fun b o e => by simp [zeroR] at e, fun b o e => by simp [zeroR] at e⟩
theorem Fresh.low {w w1 : World} {a : AttrR} (h : Fresh w1 a) (hs : w.heap.size ≤ w1.heap.size) : Fresh w a := ⟨fun b o e => Nat.le_trans hs (h.1 b o e), fun b o e => Nat.le_trans hs (h.2 b o e)⟩
theorem lead_end {w W : World} {x : AtC} {E : Nat → Addr} {k : Nat} {K : Nat} (hn : New w W) (hk : K = k) (hx : x = zeroC) :
    ∃ a' : AttrR, Ending.returned (.tuple #[.agg #[.slice none 0 0, .int .i64 0, .int .i64 0, .int .i64 0, .slice none 0 0], errc E k]) = .returned (.tuple #[.agg a'.cells, errc E K]) ∧ a'.con = x ∧ AttrOk W a' ∧ Fresh w a' ∧ New w W := by
  subst hk; subst hx
  exact ⟨zeroR, rfl, rfl, zeroR_ok _, zeroR_fresh _, hn⟩

theorem set5_one (w : World) (M : Nat) (y0 y1 y2 y3 y4 : Value) : Upd (fun b => b = M) w (((((w.setCell ⟨M, 0, none⟩ y0).setCell ⟨M, 1, none⟩ y1).setCell ⟨M, 2, none⟩ y2).setCell ⟨M, 3, none⟩ y3).setCell ⟨M, 4, none⟩ y4) :=
  (((((Upd.refl (fun b => b = M) w).setCell (p := ⟨M, 0, none⟩) (.inl rfl) y0).setCell (p := ⟨M, 1, none⟩) (.inl rfl) y1).setCell (p := ⟨M, 2, none⟩) (.inl rfl) y2).setCell (p := ⟨M, 3, none⟩) (.inl rfl) y3).setCell (p := ⟨M, 4, none⟩) (.inl rfl) y4
theorem own_of_blk {base : Nat} {w : World} {g n : Nat} {t : TypeId} {cs : List Value} (h : Blk w g t cs.toArray) (hl : cs.length = n) (hb : base ≤ g) (hn : n ≤ maxLen) : w.ownsRow base t 1 (.slice (some ⟨g, 0, none⟩) n n) n cs :=
  ⟨by omega, .inr ⟨g, n, cs.toArray, rfl, hb, h, Nat.le_refl _, hn, by simp [hl], by simp [← hl]⟩⟩
theorem drew_alloc_size (W : World) (o : Obj) : ((W.alloc o).drew).heap.size = W.heap.size + 1 := by
  show (W.alloc o).heap.size = _
  simp
theorem rep_path (s : Int) (N : Nat) (l : List Int) : rep s N N ++ l.map (Value.int .i64) = (List.replicate N s ++ l).map (.int .i64) := by simp [rep]

set_option maxRecDepth 20000 in
set_option maxHeartbeats 4000000 in
theorem lead_any (a : AttrR) (s n : Int) (E : Nat → Addr) (w : World) (h2 : Sen w gBound (E 2)) (h7 : Sen w gFull_ (E 7)) (h8 : Sen w gOrder (E 8)) (ha : AttrOk w a) (hl : a.path.length ≤ 1000) (hl2 : a.tags.length ≤ 1000) :
    Calls Tryd.prog 25 #[.agg a.cells, .int .i64 s, .int .i64 n] w fun e w1 => ∃ a' : AttrR, e = .returned (.tuple #[.agg a'.cells, errc E (leadK a.con s n)]) ∧ a'.con = leadX a.con s n ∧ AttrOk w1 a' ∧ Fresh w a' ∧ New w w1 := by
  have u := ((Upd.refl (fun _ => False) w).alloc (.cells a.cells TA)).alloc (.cells #[.slice none 0 0, .int .i64 0, .int .i64 0, .int .i64 0, .slice none 0 0] TA)
  have b0 := (Blk.new w TA a.cells).alloc (.cells #[.slice none 0 0, .int .i64 0, .int .i64 0, .int .i64 0, .slice none 0 0] TA)
  have b1 := Blk.at_ (w.alloc (.cells a.cells TA)) TA #[.slice none 0 0, .int .i64 0, .int .i64 0, .int .i64 0, .slice none 0 0] (w.heap.size + 1) (by simp)
  have hz7 : 1 < w.heap.size := h7.lt
  have q7 : ¬ (w.heap.size + 1 = 1) := by omega
  have q71 : ¬ (1 = w.heap.size + 1) := by omega
  have Hck := hide (attrCheck_any a E _ (h2.new u) (h7.new u) (h8.new u) (ha.new_ u) hl hl2)
  have Ha := hide (ha.new_ u)
  have H2 := hide (h2.new u)
  have H7 := hide (h7.new u)
  have Hu := hide u
  have HM := hide b0
  have HR := hide b1
  obtain ⟨i0, hi0, hz0, hz1, hz2⟩ := info_parts info_TI
  clear ha u b0 b1 h2 h7 h8
  obtain ⟨x, hx⟩ : ∃ x, x = a.con := ⟨_, rfl⟩
  rw [← hx]
  have HX := hide hx
  clear hx
  unfold AttrR.cells at *
  go_enter Tryd.func25, Tryd.ntmps25
  go_upto_region 1 with (fail)
  generalize ((w.alloc (.cells #[.slice a.P a.path.length a.pc, .int .i64 a.pref, .int .i64 a.med, .int .i64 a.origin, .slice a.T a.tags.length a.tc] TA)).alloc (.cells #[.slice none 0 0, .int .i64 0, .int .i64 0, .int .i64 0, .slice none 0 0] TA)) = W at *
  have bq := HM.out
  have m0 := bq.cell 0
  have m1 := bq.cell 1
  have m2 := bq.cell 2
  have m3 := bq.cell 3
  have m4 := bq.cell 4
  have zM := bq.lt
  simp only [List.getElem?_toArray, List.getElem?_cons_zero, List.getElem?_cons_succ] at m0 m1 m2 m3 m4
  clear bq
  go_wp2_with fail
  refine Hck.out.mono ?_
  rintro e w2 ⟨v, rfl, hv, hu2⟩
  have N2 := hide (Hu.out.trans_new hu2)
  have U2 := hide hu2
  clear m0 m1 m2 m3 m4 zM hu2 Hck
  have HM2 := hide (HM.out.new_ U2.out)
  have HR2 := hide (HR.out.new_ U2.out)
  have hMR : w.heap.size ≠ w.heap.size + 1 := by omega
  have hMR2 : w.heap.size + 1 ≠ w.heap.size := by omega
  have bq := HR2.out
  have r0 := bq.cell 0
  have r1 := bq.cell 1
  have r2 := bq.cell 2
  have r3 := bq.cell 3
  have r4 := bq.cell 4
  have s0 := bq.frozen 0
  have s1 := bq.frozen 1
  have s2 := bq.frozen 2
  have s3 := bq.frozen 3
  have s4 := bq.frozen 4
  have zR := bq.lt
  simp only [List.getElem?_toArray, List.getElem?_cons_zero, List.getElem?_cons_succ] at r0 r1 r2 r3 r4
  clear bq
  rw [attrC_con] at hv
  rw [← HX.out] at hv
  rcases hv.form with ⟨hk, _, rfl⟩ | ⟨hk, t, p, rfl⟩
  · have Hk := hide hk
    clear hv hk
    have z2 : 2 < w2.heap.size := (H2.out.new U2.out).lt
    have c2 : w2.cell? ⟨2, 0, none⟩ = some (errv (E 2)) := H2.out.new U2.out
    have z7 : 1 < w2.heap.size := (H7.out.new U2.out).lt
    have c7 : w2.cell? ⟨1, 0, none⟩ = some (errv (E 7)) := H7.out.new U2.out
    unfold errv at c2 c7
    cases h1 : inR s 1 1000 with
    | false =>
      have HK := hide (leadK_bound Hk.out (n := n) (.inl h1))
      have H1 := hide h1
      clear h1
      go_upto_region 4 with (fail)
      go_wp2_with (go_at_call 44; refine (attrIn_any _ _ _ _).mono ?_; rintro e w' ⟨rfl, rfl⟩; rw [H1.out])
      go_region
      all_goals
        go_wp2_with fail
        refine bodyPost_ret (attr_err_out Tryd.results25 rfl (set5 HR2.out).drew) rfl ?_
        exact lead_end (k := 2) (set5_new N2.out (Nat.le_succ _)).drew HK.out (leadX_err (by rw [HK.out]; omega))
    | true =>
      have H1 := hide h1
      cases h3 : inR n 0 12 with
      | false =>
        have HK := hide (leadK_bound Hk.out (s := s) (.inr h3))
        have H3 := hide h3
        clear h1 h3
        go_upto_region 4 with (fail)
        go_wp2_with (go_at_call 44; refine (attrIn_any _ _ _ _).mono ?_; rintro e w' ⟨rfl, rfl⟩; first | rw [H1.out] | rw [H3.out])
        go_region
        all_goals
          go_wp2_with fail
          refine bodyPost_ret (attr_err_out Tryd.results25 rfl (set5 HR2.out).drew) rfl ?_
          exact lead_end (k := 2) (set5_new N2.out (Nat.le_succ _)).drew HK.out (leadX_err (by rw [HK.out]; omega))
      | true =>
        have H3 := hide h3
        obtain ⟨N, rfl⟩ : ∃ N : Nat, n = N := ⟨n.toNat, by have := of_decide_eq_true h3; omega⟩
        have hN : N ≤ 12 := by have := of_decide_eq_true h3; omega
        have hpl : x.path.length = a.path.length := by rw [HX.out]; rfl
        have bq := HM2.out
        have m0 := bq.cell 0
        have m1 := bq.cell 1
        have m2 := bq.cell 2
        have m3 := bq.cell 3
        have m4 := bq.cell 4
        have e0 := bq.frozen 0
        have e1 := bq.frozen 1
        have e2 := bq.frozen 2
        have e3 := bq.frozen 3
        have e4 := bq.frozen 4
        have zM := bq.lt
        simp only [List.getElem?_toArray, List.getElem?_cons_zero, List.getElem?_cons_succ] at m0 m1 m2 m3 m4
        clear bq
        by_cases h4 : 12 < (a.path.length : Int) + (N : Int)
        · have HK := hide (leadK_full Hk.out h1 h3 (by rw [hpl]; exact h4))
          clear h1 h3
          go_upto_region 4 with (fail)
          go_wp2_with (go_at_call 44; refine (attrIn_any _ _ _ _).mono ?_; rintro e w' ⟨rfl, rfl⟩; first | rw [H1.out] | rw [H3.out])
          go_region
          all_goals
            go_wp2_with fail
            refine bodyPost_ret (attr_err_out Tryd.results25 rfl (set5 HR2.out).drew) rfl ?_
            exact lead_end (k := 7) (set5_new N2.out (Nat.le_succ _)).drew HK.out (leadX_err (by rw [HK.out]; omega))
        · have HK := hide (leadK_ok Hk.out h1 h3 (by rw [hpl]; exact h4))
          have Hcp := hide (copy_any a w2 (Ha.out.new_ U2.out) hl hl2)
          unfold AttrR.cells at Hcp
          clear h1 h3
          go_upto_region 4 with (fail)
          go_wp2_with (go_at_call 44; refine (attrIn_any _ _ _ _).mono ?_; rintro e w' ⟨rfl, rfl⟩; first | rw [H1.out] | rw [H3.out])
          refine Hcp.out.mono ?_
          rintro e w3 ⟨⟨P1, pc1, p1, f1, d1, o1, T1, tc1, t1⟩, z, rfl, hcon, hok, hown, hPz, hz, hu3⟩
          obtain ⟨rfl, rfl, rfl, rfl, rfl⟩ : p1 = a.path ∧ f1 = a.pref ∧ d1 = a.med ∧ o1 = a.origin ∧ t1 = a.tags := by
            unfold AttrR.con at hcon
            injection hcon with h1 h2 h3 h4 h5
            exact ⟨h1, h2, h3, h4, h5⟩
          dsimp only at hown hPz ⊢
          obtain ⟨T9, k9, hT9, _, hct, hTi, hTz, _⟩ := ints_of_own hown
          injection hT9 with q1 q2 q3
          subst q1; subst q3
          have zM2 := HM2.out.lt
          have zR2 := HR2.out.lt
          have hTlt : ∀ b o, T1 = some ⟨b, o, none⟩ → b < w3.heap.size := fun b o e => ownLt hown (by rw [e]; rfl)
          have uS := set5_one w3 w.heap.size (.slice P1 a.path.length pc1) (.int .i64 a.pref) (.int .i64 a.med) (.int .i64 a.origin) (.slice T1 a.tags.length tc1)
          have HM3 := hide (set5 (y0 := .slice P1 a.path.length pc1) (y1 := .int .i64 a.pref) (y2 := .int .i64 a.med) (y3 := .int .i64 a.origin) (y4 := .slice T1 a.tags.length tc1) (HM2.out.new_ hu3))
          have HR3 := hide ((HR2.out.new_ hu3).upd uS (by omega))
          have HP3 := hide (hok.path.upd uS fun b o e => by have := hPz b o e; omega)
          have HT3 := hide (hTi.upd uS fun b o e => by have := hTz b o e; omega)
          have HTz := hide (show ∀ b o, T1 = some ⟨b, o, none⟩ → w2.heap.size ≤ b from fun b o e => by have := hTz b o e; omega)
          have N3 := hide (set5_new (y0 := .slice P1 a.path.length pc1) (y1 := .int .i64 a.pref) (y2 := .int .i64 a.med) (y3 := .int .i64 a.origin) (y4 := .slice T1 a.tags.length tc1) (N2.out.trans_new hu3) (Nat.le_refl w.heap.size))
          have HTl := hide (show ∀ b o, T1 = some ⟨b, o, none⟩ → b < (((((w3.setCell ⟨w.heap.size, 0, none⟩ (.slice P1 a.path.length pc1)).setCell ⟨w.heap.size, 1, none⟩ (.int .i64 a.pref)).setCell ⟨w.heap.size, 2, none⟩ (.int .i64 a.med)).setCell ⟨w.heap.size, 3, none⟩ (.int .i64 a.origin)).setCell ⟨w.heap.size, 4, none⟩ (.slice T1 a.tags.length tc1)).heap.size from fun b o e => Nat.lt_of_lt_of_le (hTlt b o e) uS.size)
          have bq := (HM2.out.new_ hu3)
          have m0 := bq.cell 0
          have m1 := bq.cell 1
          have m2 := bq.cell 2
          have m3 := bq.cell 3
          have m4 := bq.cell 4
          have e0 := bq.frozen 0
          have e1 := bq.frozen 1
          have e2 := bq.frozen 2
          have e3 := bq.frozen 3
          have e4 := bq.frozen 4
          have zM := bq.lt
          simp only [List.getElem?_toArray, List.getElem?_cons_zero, List.getElem?_cons_succ] at m0 m1 m2 m3 m4
          clear bq
          clear hown hPz hTi hTz hTlt hok uS hz hcon z
          go_upto_region 9 with (fail)
          clear m0 m1 m2 m3 m4 e0 e1 e2 e3 e4 zM r0 r1 r2 r3 r4 s0 s1 s2 s3 s4 zR hu3
          generalize ((((w3.setCell ⟨w.heap.size, 0, none⟩ (.slice P1 a.path.length pc1)).setCell ⟨w.heap.size, 1, none⟩ (.int .i64 a.pref)).setCell ⟨w.heap.size, 2, none⟩ (.int .i64 a.med)).setCell ⟨w.heap.size, 3, none⟩ (.int .i64 a.origin)).setCell ⟨w.heap.size, 4, none⟩ (.slice T1 a.tags.length tc1) = W3 at *
          have bq := HM3.out
          have m0 := bq.cell 0
          have m1 := bq.cell 1
          have m2 := bq.cell 2
          have m3 := bq.cell 3
          have m4 := bq.cell 4
          have e0 := bq.frozen 0
          have e1 := bq.frozen 1
          have e2 := bq.frozen 2
          have e3 := bq.frozen 3
          have e4 := bq.frozen 4
          have zM := bq.lt
          simp only [List.getElem?_toArray, List.getElem?_cons_zero, List.getElem?_cons_succ] at m0 m1 m2 m3 m4
          clear bq
          have zR3 := HR3.out.lt
          have zM3 := HM3.out.lt
          have sN := N3.out.size
          go_region_law (first
            | (refine step_append_src rfl (.tmp 41) (.tmp 43) 42 rfl W3.heap.size 3 i0 (.int .i64 0) 1 8 Tryd.underlying42 hi0 hz0 hz1 hz2 rfl (by omega) (.slice (some ⟨g1, 0, none⟩) N N) N (rep s N N) (by simp [Act.eval, Act.put]) OW.out P1 a.path.length pc1 (a.path.map (.int .i64)) (by simp [Act.eval, Act.put]) (by simp) (HP4.out) (ints_one _) (by unfold maxLen; omega) (by omega) (by omega) ?_; intro v5 w5 ho5 hg5; obtain ⟨P5, pc5, rfl, _, hc5, hP5, hz5, _⟩ := ints_of_own (by rw [rep_path] at ho5; exact ho5); have U5 := hide (grown_upd (S := fun k => k = g1) hg5 (fun g hg => by simpa [Value.ownBlock] using hg.symm)); have HM5 := hide (HM4.out.upd U5.out (by omega)); have n0 := HM5.out.cell 0; have y0 := HM5.out.frozen 0; have zn := HM5.out.lt; simp only [List.getElem?_toArray, List.getElem?_cons_zero, List.getElem?_cons_succ] at n0; have HP5 := hide hP5; have HC5 := hide hc5; have HZ5 := hide hz5; clear ho5 hg5 hP5 hc5 hz5)
            | (go_simp; go_at_call 52; refine (repeat_any s N _ _ (Blk.new _ _ _).drew (by omega)).mono ?_; rintro e w4 ⟨g1, rfl, hb4, hg1, hu4⟩; have U4 := hide ((((Upd.refl (fun _ => False) W3).alloc _).drew).trans_new hu4); have hg2 := Nat.le_trans (Nat.le_of_eq (drew_alloc_size W3 _).symm) hg1; have OW := hide (own_of_blk (base := W3.heap.size) hb4 (rep_len s (Nat.le_refl N)) (by omega) (by unfold maxLen; omega)); have HP4 := hide (HP3.out.new_ U4.out).cells; have HM4 := hide (HM3.out.new_ U4.out); have k0 := HM4.out.cell 0; have zk := HM4.out.lt; simp only [List.getElem?_toArray, List.getElem?_cons_zero, List.getElem?_cons_succ] at k0; have sU := U4.out.size; clear hb4 hu4))
          all_goals
            have HR5 := hide (Blk.far ((HR3.out.new_ U4.out).upd U5.out (by omega)) (p := ⟨w.heap.size, 0, none⟩) (fun e : w.heap.size + 1 = w.heap.size => absurd e (Nat.succ_ne_self _)) (.slice P5 (N + a.path.length) pc5))
            have bq := HR5.out
            have r0 := bq.cell 0
            have r1 := bq.cell 1
            have r2 := bq.cell 2
            have r3 := bq.cell 3
            have r4 := bq.cell 4
            have s0 := bq.frozen 0
            have s1 := bq.frozen 1
            have s2 := bq.frozen 2
            have s3 := bq.frozen 3
            have s4 := bq.frozen 4
            have zR := bq.lt
            simp only [List.getElem?_toArray, List.getElem?_cons_zero, List.getElem?_cons_succ] at r0 r1 r2 r3 r4
            clear bq
            have bq := HM5.out
            have n0 := bq.cell 0
            have n1 := bq.cell 1
            have n2 := bq.cell 2
            have n3 := bq.cell 3
            have n4 := bq.cell 4
            have y0 := bq.frozen 0
            have y1 := bq.frozen 1
            have y2 := bq.frozen 2
            have y3 := bq.frozen 3
            have y4 := bq.frozen 4
            have zn := bq.lt
            simp only [List.getElem?_toArray, List.getElem?_cons_zero, List.getElem?_cons_succ] at n0 n1 n2 n3 n4
            clear bq
            go_wp2_with fail
            refine bodyPost_ret (attr_err_out Tryd.results25 rfl (set5 HR5.out)) rfl ?_
            have uF := set5_upd (y0 := .slice P5 (N + a.path.length) pc5) (y1 := .int .i64 a.pref) (y2 := .int .i64 a.med) (y3 := .int .i64 a.origin) (y4 := .slice T1 a.tags.length tc1) w5 w.heap.size (w.heap.size + 1) 0 (.slice P5 (N + a.path.length) pc5)
            have nB : New w w5 := (N3.out.trans_new U4.out).trans U5.out (fun q hq hx => absurd hx (by show ¬ q = g1; omega))
            have nF := nB.trans uF (fun q hq hx => absurd hx (by show ¬ (q = w.heap.size ∨ q = w.heap.size + 1); omega))
            have hlen : (List.replicate N s ++ a.path).length = N + a.path.length := by simp
            refine ⟨⟨P5, pc5, List.replicate N s ++ a.path, a.pref, a.med, a.origin, T1, tc1, a.tags⟩, ?_, ?_, ⟨?_, ?_, ?_, ?_⟩, ⟨fun b o e => Nat.le_trans N3.out.size (HZ5.out b o e), fun b o e => Nat.le_trans N2.out.size (HTz.out b o e)⟩, nF⟩
            · rw [HK.out]
              show Ending.returned (.tuple #[.agg #[.slice P5 (N + a.path.length) pc5, .int .i64 a.pref, .int .i64 a.med, .int .i64 a.origin, .slice T1 a.tags.length tc1], .nilIface]) = .returned (.tuple #[.agg #[.slice P5 (List.replicate N s ++ a.path).length pc5, .int .i64 a.pref, .int .i64 a.med, .int .i64 a.origin, .slice T1 a.tags.length tc1], .nilIface])
              rw [hlen]
            · rw [leadX_ok HK.out, HX.out]; rfl
            · exact HP5.out.upd uF fun b o e => by have := HZ5.out b o e; omega
            · exact ((HT3.out.new_ U4.out).upd U5.out fun b o e => by have := HTl.out b o e; omega).upd uF fun b o e => by have := HTz.out b o e; omega
            · show (List.replicate N s ++ a.path).length ≤ pc5
              rw [hlen]; exact HC5.out
            · exact hct
  · have Hb := hide (bare_any _ _ _ w2 E hv)
    have HK := hide (leadK_con hk (s := s) (n := n))
    have Hk := hide hk
    clear hv hk
    go_wp2_with fail
    refine Hb.out.mono ?_
    rintro e w3 ⟨rfl, rfl⟩
    go_wp2_with fail
    refine bodyPost_ret (attr_err_out Tryd.results25 rfl (set5 HR2.out)) rfl ?_
    exact lead_end (set5_new N2.out (Nat.le_succ _)) HK.out (leadX_err (by rw [HK.out]; exact Hk.out))
end Go.Proofs.YtignngpligicjaaDoor
