/- Package attr: Tag. No condition but those that stand in each theorem. -/
import Derived.Test.YtignngpligicjaaDoorRu8
import Derived.Test.YtignngpligicjaaDoorShl
namespace Go.Proofs.YtignngpligicjaaDoor
open Go.RowKit

theorem ins_len (l : List Int) (t : Int) : (l.take (l.countP (· < t)) ++ t :: l.drop (l.countP (· < t))).length = l.length + 1 := by
  have := List.countP_le_length (p := fun v => decide (v < t)) (l := l)
  rw [List.length_append, List.length_cons, List.length_take, List.length_drop]
  omega
theorem tagsX_in {l : List Int} {t : Int} (h : l.contains t = true) : tagsX l t = l := by unfold tagsX; rw [if_pos h]
theorem tagsX_new {l : List Int} {t : Int} (h : l.contains t = false) : tagsX l t = l.take (l.countP (· < t)) ++ t :: l.drop (l.countP (· < t)) := by unfold tagsX; rw [if_neg (by rw [h]; simp)]
theorem own_mono {w : World} {base base1 : Nat} {e : TypeId} {size n : Nat} {v : Value} {xs : List Value} (h : w.ownsRow base e size v n xs) (hb : base1 ≤ base) : w.ownsRow base1 e size v n xs := by
  refine ⟨h.1, ?_⟩
  rcases h.2 with h2 | ⟨g, cap, cur, h1, h2, r⟩
  · exact .inl h2
  · exact .inr ⟨g, cap, cur, h1, Nat.le_trans hb h2, r⟩

set_option maxRecDepth 20000 in
set_option maxHeartbeats 4000000 in
theorem tag_any (a : AttrR) (t : Int) (E : Nat → Addr) (w : World) (h2 : Sen w gBound (E 2)) (h7 : Sen w gFull_ (E 7)) (h8 : Sen w gOrder (E 8)) (ha : AttrOk w a) (hl : a.path.length ≤ 1000) (hl2 : a.tags.length ≤ 1000) :
    Calls Tryd.prog 28 #[.agg a.cells, .int .i64 t] w fun e w1 => ∃ a' : AttrR, e = .returned (.tuple #[.agg a'.cells, errc E (tagK a.con t)]) ∧ a'.con = tagX a.con t ∧ AttrOk w1 a' ∧ Fresh w a' ∧ New w w1 := by
  have u := ((Upd.refl (fun _ => False) w).alloc (.cells a.cells TA)).alloc (.cells #[.slice none 0 0, .int .i64 0, .int .i64 0, .int .i64 0, .slice none 0 0] TA)
  have b0 := (Blk.new w TA a.cells).alloc (.cells #[.slice none 0 0, .int .i64 0, .int .i64 0, .int .i64 0, .slice none 0 0] TA)
  have b1 := Blk.at_ (w.alloc (.cells a.cells TA)) TA #[.slice none 0 0, .int .i64 0, .int .i64 0, .int .i64 0, .slice none 0 0] (w.heap.size + 1) (by simp)
  have hz7 : 1 < w.heap.size := h7.lt
  have q7 : ¬ (w.heap.size + 1 = 1) := by omega
  have q71 : ¬ (1 = w.heap.size + 1) := by omega
  have Hck := hide (attrCheck_any a E _ (h2.new u) (h7.new u) (h8.new u) (ha.new_ u) hl hl2)
  have Ha := hide (ha.new_ u)
  have H2 := hide (h2.new u)
  have H7 := hide (h7.new u)
  have Hu := hide u
  have HM := hide b0
  have HR := hide b1
  clear ha u b0 b1 h2 h7 h8
  obtain ⟨x, hx⟩ : ∃ x, x = a.con := ⟨_, rfl⟩
  rw [← hx]
  have HX := hide hx
  clear hx
  unfold AttrR.cells at *
  go_enter Tryd.func28, Tryd.ntmps28
  go_upto_region 1 with (fail)
  generalize ((w.alloc (.cells #[.slice a.P a.path.length a.pc, .int .i64 a.pref, .int .i64 a.med, .int .i64 a.origin, .slice a.T a.tags.length a.tc] TA)).alloc (.cells #[.slice none 0 0, .int .i64 0, .int .i64 0, .int .i64 0, .slice none 0 0] TA)) = W at *
  have bq := HM.out
  have m0 := bq.cell 0
  have m1 := bq.cell 1
  have m2 := bq.cell 2
  have m3 := bq.cell 3
  have m4 := bq.cell 4
  have zM := bq.lt
  simp only [List.getElem?_toArray, List.getElem?_cons_zero, List.getElem?_cons_succ] at m0 m1 m2 m3 m4
  clear bq
  go_wp2_with fail
  refine Hck.out.mono ?_
  rintro e w2 ⟨v, rfl, hv, hu2⟩
  have N2 := hide (Hu.out.trans_new hu2)
  have U2 := hide hu2
  clear m0 m1 m2 m3 m4 zM hu2 Hck
  have HM2 := hide (HM.out.new_ U2.out)
  have HR2 := hide (HR.out.new_ U2.out)
  have hMR : w.heap.size ≠ w.heap.size + 1 := by omega
  have hMR2 : w.heap.size + 1 ≠ w.heap.size := by omega
  have bq := HR2.out
  have r0 := bq.cell 0
  have r1 := bq.cell 1
  have r2 := bq.cell 2
  have r3 := bq.cell 3
  have r4 := bq.cell 4
  have s0 := bq.frozen 0
  have s1 := bq.frozen 1
  have s2 := bq.frozen 2
  have s3 := bq.frozen 3
  have s4 := bq.frozen 4
  have zR := bq.lt
  simp only [List.getElem?_toArray, List.getElem?_cons_zero, List.getElem?_cons_succ] at r0 r1 r2 r3 r4
  clear bq
  have bq := HM2.out
  have m0 := bq.cell 0
  have m1 := bq.cell 1
  have m2 := bq.cell 2
  have m3 := bq.cell 3
  have m4 := bq.cell 4
  have e0 := bq.frozen 0
  have e1 := bq.frozen 1
  have e2 := bq.frozen 2
  have e3 := bq.frozen 3
  have e4 := bq.frozen 4
  have zM := bq.lt
  simp only [List.getElem?_toArray, List.getElem?_cons_zero, List.getElem?_cons_succ] at m0 m1 m2 m3 m4
  clear bq
  rw [attrC_con] at hv
  rw [← HX.out] at hv
  rcases hv.form with ⟨hk, _, rfl⟩ | ⟨hk, tv, p, rfl⟩
  · have Hk := hide hk
    have hs := conC_zero hk
    have hxt : x.tags = a.tags := by rw [HX.out]; rfl
    rw [hxt] at hs
    have Hbs := hide (bsearch_any a.T a.tags.length a.tc a.tags t w2 (Ha.out.new_ U2.out).tags rfl hl2 (hs.2.2.imp (fun h => Int.le_of_lt h)))
    have h88 : a.tags.length ≤ 8 := hs.2.1
    obtain ⟨i, hi⟩ : ∃ i, a.tags.countP (· < t) = i := ⟨_, rfl⟩
    have hin : i ≤ a.tags.length := by rw [← hi]; exact List.countP_le_length
    have Hi := hide hi
    clear hv hk hs hi
    cases h1 : inR t 1 9999 with
    | false =>
      have HK := hide (tagK_bound Hk.out h1)
      have H1 := hide h1
      clear h1
      go_upto_region 4 with (fail)
      go_wp2_with fail
      refine Hbs.out.mono ?_
      rintro e w3 ⟨rfl, hu3⟩
      rw [Hi.out]
      have N3 := hide (N2.out.trans_new hu3)
      have U3 := hide hu3
      have HM3 := hide (HM2.out.new_ hu3)
      have HR3 := hide (HR2.out.new_ hu3)
      have z2 : 2 < w3.heap.size := ((H2.out.new U2.out).new hu3).lt
      have c2 : w3.cell? ⟨2, 0, none⟩ = some (errv (E 2)) := (H2.out.new U2.out).new hu3
      have z7 : 1 < w3.heap.size := ((H7.out.new U2.out).new hu3).lt
      have c7 : w3.cell? ⟨1, 0, none⟩ = some (errv (E 7)) := (H7.out.new U2.out).new hu3
      unfold errv at c2 c7
      clear hu3 m0 m1 m2 m3 m4 e0 e1 e2 e3 e4 zM r0 r1 r2 r3 r4 s0 s1 s2 s3 s4 zR
      have bq := HR3.out
      have r0 := bq.cell 0
      have r1 := bq.cell 1
      have r2 := bq.cell 2
      have r3 := bq.cell 3
      have r4 := bq.cell 4
      have s0 := bq.frozen 0
      have s1 := bq.frozen 1
      have s2 := bq.frozen 2
      have s3 := bq.frozen 3
      have s4 := bq.frozen 4
      have zR := bq.lt
      simp only [List.getElem?_toArray, List.getElem?_cons_zero, List.getElem?_cons_succ] at r0 r1 r2 r3 r4
      clear bq
      have bq := HM3.out
      have m0 := bq.cell 0
      have m1 := bq.cell 1
      have m2 := bq.cell 2
      have m3 := bq.cell 3
      have m4 := bq.cell 4
      have e0 := bq.frozen 0
      have e1 := bq.frozen 1
      have e2 := bq.frozen 2
      have e3 := bq.frozen 3
      have e4 := bq.frozen 4
      have zM := bq.lt
      simp only [List.getElem?_toArray, List.getElem?_cons_zero, List.getElem?_cons_succ] at m0 m1 m2 m3 m4
      clear bq
      go_wp2_with (go_at_call 44; refine (attrIn_any _ _ _ _).mono ?_; rintro e w' ⟨rfl, rfl⟩; rw [H1.out])
      go_region
      all_goals
        go_wp2_with fail
        refine bodyPost_ret (attr_err_out Tryd.results28 rfl (set5 HR3.out).drew) rfl ?_
        exact lead_end (k := 2) (set5_new N3.out (Nat.le_succ _)).drew HK.out (tagX_err (by rw [HK.out]; omega))
    | true =>
      have H1 := hide h1
      cases hc : a.tags.contains t with
      | false =>
        by_cases h9 : 8 ≤ a.tags.length
        · have HK := hide (tagK_full Hk.out h1 (by rw [hxt]; exact hc) (by rw [hxt]; exact h9))
          have HC := hide hc
          have h91 : (8 : Int) ≤ (a.tags.length : Int) := by omega
          rw [hc] at Hbs
          clear h1 hc
          go_upto_region 4 with (fail)
          go_wp2_with fail
          refine Hbs.out.mono ?_
          rintro e w3 ⟨rfl, hu3⟩
          rw [Hi.out]
          have N3 := hide (N2.out.trans_new hu3)
          have U3 := hide hu3
          have HM3 := hide (HM2.out.new_ hu3)
          have HR3 := hide (HR2.out.new_ hu3)
          have z2 : 2 < w3.heap.size := ((H2.out.new U2.out).new hu3).lt
          have c2 : w3.cell? ⟨2, 0, none⟩ = some (errv (E 2)) := (H2.out.new U2.out).new hu3
          have z7 : 1 < w3.heap.size := ((H7.out.new U2.out).new hu3).lt
          have c7 : w3.cell? ⟨1, 0, none⟩ = some (errv (E 7)) := (H7.out.new U2.out).new hu3
          unfold errv at c2 c7
          clear hu3 m0 m1 m2 m3 m4 e0 e1 e2 e3 e4 zM r0 r1 r2 r3 r4 s0 s1 s2 s3 s4 zR
          have bq := HR3.out
          have r0 := bq.cell 0
          have r1 := bq.cell 1
          have r2 := bq.cell 2
          have r3 := bq.cell 3
          have r4 := bq.cell 4
          have s0 := bq.frozen 0
          have s1 := bq.frozen 1
          have s2 := bq.frozen 2
          have s3 := bq.frozen 3
          have s4 := bq.frozen 4
          have zR := bq.lt
          simp only [List.getElem?_toArray, List.getElem?_cons_zero, List.getElem?_cons_succ] at r0 r1 r2 r3 r4
          clear bq
          have bq := HM3.out
          have m0 := bq.cell 0
          have m1 := bq.cell 1
          have m2 := bq.cell 2
          have m3 := bq.cell 3
          have m4 := bq.cell 4
          have e0 := bq.frozen 0
          have e1 := bq.frozen 1
          have e2 := bq.frozen 2
          have e3 := bq.frozen 3
          have e4 := bq.frozen 4
          have zM := bq.lt
          simp only [List.getElem?_toArray, List.getElem?_cons_zero, List.getElem?_cons_succ] at m0 m1 m2 m3 m4
          clear bq
          go_wp2_with (go_at_call 44; refine (attrIn_any _ _ _ _).mono ?_; rintro e w' ⟨rfl, rfl⟩; rw [H1.out])
          go_region
          all_goals
            go_wp2_with fail
            refine bodyPost_ret (attr_err_out Tryd.results28 rfl (set5 HR3.out).drew) rfl ?_
            exact lead_end (k := 7) (set5_new N3.out (Nat.le_succ _)).drew HK.out (tagX_err (by rw [HK.out]; omega))
        · have HK := hide (tagK_ok Hk.out h1 (by rw [hxt]; exact fun h => h9 h.2))
          have HC := hide hc
          have HXt := hide hxt
          have h91 : ¬ (8 : Int) ≤ (a.tags.length : Int) := by omega
          rw [hc] at Hbs
          clear h1 hc
          go_upto_region 4 with (fail)
          go_wp2_with fail
          refine Hbs.out.mono ?_
          rintro e w3 ⟨rfl, hu3⟩
          rw [Hi.out]
          have N3 := hide (N2.out.trans_new hu3)
          have U3 := hide hu3
          have HM3 := hide (HM2.out.new_ hu3)
          have HR3 := hide (HR2.out.new_ hu3)
          have z2 : 2 < w3.heap.size := ((H2.out.new U2.out).new hu3).lt
          have c2 : w3.cell? ⟨2, 0, none⟩ = some (errv (E 2)) := (H2.out.new U2.out).new hu3
          have z7 : 1 < w3.heap.size := ((H7.out.new U2.out).new hu3).lt
          have c7 : w3.cell? ⟨1, 0, none⟩ = some (errv (E 7)) := (H7.out.new U2.out).new hu3
          unfold errv at c2 c7
          clear hu3 m0 m1 m2 m3 m4 e0 e1 e2 e3 e4 zM r0 r1 r2 r3 r4 s0 s1 s2 s3 s4 zR
          have bq := HR3.out
          have r0 := bq.cell 0
          have r1 := bq.cell 1
          have r2 := bq.cell 2
          have r3 := bq.cell 3
          have r4 := bq.cell 4
          have s0 := bq.frozen 0
          have s1 := bq.frozen 1
          have s2 := bq.frozen 2
          have s3 := bq.frozen 3
          have s4 := bq.frozen 4
          have zR := bq.lt
          simp only [List.getElem?_toArray, List.getElem?_cons_zero, List.getElem?_cons_succ] at r0 r1 r2 r3 r4
          clear bq
          have bq := HM3.out
          have m0 := bq.cell 0
          have m1 := bq.cell 1
          have m2 := bq.cell 2
          have m3 := bq.cell 3
          have m4 := bq.cell 4
          have e0 := bq.frozen 0
          have e1 := bq.frozen 1
          have e2 := bq.frozen 2
          have e3 := bq.frozen 3
          have e4 := bq.frozen 4
          have zM := bq.lt
          simp only [List.getElem?_toArray, List.getElem?_cons_zero, List.getElem?_cons_succ] at m0 m1 m2 m3 m4
          clear bq
          have Hcp := hide (copy_any a w3 ((Ha.out.new_ U2.out).new_ U3.out) hl hl2)
          unfold AttrR.cells at Hcp
          go_wp2_with (go_at_call 44; refine (attrIn_any _ _ _ _).mono ?_; rintro e w' ⟨rfl, rfl⟩; rw [H1.out])
          refine Hcp.out.mono ?_
          rintro e w4 ⟨⟨P1, pc1, p1, f1, d1, o1, T1, tc1, t1⟩, z, rfl, hcon, hok, hown, hPz, hz, hu4⟩
          obtain ⟨rfl, rfl, rfl, rfl, rfl⟩ : p1 = a.path ∧ f1 = a.pref ∧ d1 = a.med ∧ o1 = a.origin ∧ t1 = a.tags := by
            unfold AttrR.con at hcon
            injection hcon with h1 h2 h3 h4 h5
            exact ⟨h1, h2, h3, h4, h5⟩
          dsimp only at hown hPz ⊢
          obtain ⟨T9, k9, hT9, _, hct, hTi, hTz, _⟩ := ints_of_own hown
          injection hT9 with q1 q2 q3
          subst q1; subst q3
          have zM2 := HM3.out.lt
          have zR2 := HR3.out.lt
          have hTlt : ∀ b o, T1 = some ⟨b, o, none⟩ → b < w4.heap.size := fun b o e => ownLt hown (by rw [e]; rfl)
          have uS := set5_one w4 w.heap.size (.slice P1 a.path.length pc1) (.int .i64 a.pref) (.int .i64 a.med) (.int .i64 a.origin) (.slice T1 a.tags.length tc1)
          have HM4 := hide (set5 (y0 := .slice P1 a.path.length pc1) (y1 := .int .i64 a.pref) (y2 := .int .i64 a.med) (y3 := .int .i64 a.origin) (y4 := .slice T1 a.tags.length tc1) (HM3.out.new_ hu4))
          have HR4 := hide ((HR3.out.new_ hu4).upd uS (by omega))
          have HP4 := hide (hok.path.upd uS fun b o e => by have := hPz b o e; omega)
          have HT4 := hide (hTi.upd uS fun b o e => by have := hTz b o e; omega)
          have HTz := hide (show ∀ b o, T1 = some ⟨b, o, none⟩ → w3.heap.size ≤ b from fun b o e => by have := hTz b o e; omega)
          have HPz := hide (show ∀ b o, P1 = some ⟨b, o, none⟩ → w3.heap.size ≤ b from fun b o e => by have := hPz b o e; omega)
          have HPT := hide (show ∀ b o c q, P1 = some ⟨b, o, none⟩ → T1 = some ⟨c, q, none⟩ → b ≠ c from fun b o c q e f => by have := hPz b o e; have := hTz c q f; omega)
          have hpl : a.path.length ≤ pc1 := hok.pl
          have HO4 := hide (own_mono (ownKeep hown uS (fun g hg => by
            show ¬ g = w.heap.size
            have := (World.ownsRow.lt hown g hg).1
            omega)) hz)
          have N4 := hide (set5_new (y0 := .slice P1 a.path.length pc1) (y1 := .int .i64 a.pref) (y2 := .int .i64 a.med) (y3 := .int .i64 a.origin) (y4 := .slice T1 a.tags.length tc1) (N3.out.trans_new hu4) (Nat.le_refl w.heap.size))
          have HTl := hide (show ∀ b o, T1 = some ⟨b, o, none⟩ → b < (((((w4.setCell ⟨w.heap.size, 0, none⟩ (.slice P1 a.path.length pc1)).setCell ⟨w.heap.size, 1, none⟩ (.int .i64 a.pref)).setCell ⟨w.heap.size, 2, none⟩ (.int .i64 a.med)).setCell ⟨w.heap.size, 3, none⟩ (.int .i64 a.origin)).setCell ⟨w.heap.size, 4, none⟩ (.slice T1 a.tags.length tc1)).heap.size from fun b o e => Nat.lt_of_lt_of_le (hTlt b o e) uS.size)
          have HSz := hide (show w3.heap.size ≤ (((((w4.setCell ⟨w.heap.size, 0, none⟩ (.slice P1 a.path.length pc1)).setCell ⟨w.heap.size, 1, none⟩ (.int .i64 a.pref)).setCell ⟨w.heap.size, 2, none⟩ (.int .i64 a.med)).setCell ⟨w.heap.size, 3, none⟩ (.int .i64 a.origin)).setCell ⟨w.heap.size, 4, none⟩ (.slice T1 a.tags.length tc1)).heap.size from Nat.le_trans hu4.size uS.size)
          have bq := (HM3.out.new_ hu4)
          have m0 := bq.cell 0
          have m1 := bq.cell 1
          have m2 := bq.cell 2
          have m3 := bq.cell 3
          have m4 := bq.cell 4
          have e0 := bq.frozen 0
          have e1 := bq.frozen 1
          have e2 := bq.frozen 2
          have e3 := bq.frozen 3
          have e4 := bq.frozen 4
          have zM := bq.lt
          simp only [List.getElem?_toArray, List.getElem?_cons_zero, List.getElem?_cons_succ] at m0 m1 m2 m3 m4
          clear bq
          clear hown hPz hTi hTz hTlt hok uS hz hcon z
          go_upto_region 10 with (fail)
          clear m0 m1 m2 m3 m4 e0 e1 e2 e3 e4 zM r0 r1 r2 r3 r4 s0 s1 s2 s3 s4 zR hu4
          generalize ((((w4.setCell ⟨w.heap.size, 0, none⟩ (.slice P1 a.path.length pc1)).setCell ⟨w.heap.size, 1, none⟩ (.int .i64 a.pref)).setCell ⟨w.heap.size, 2, none⟩ (.int .i64 a.med)).setCell ⟨w.heap.size, 3, none⟩ (.int .i64 a.origin)).setCell ⟨w.heap.size, 4, none⟩ (.slice T1 a.tags.length tc1) = W4 at *
          have bq := HM4.out
          have m0 := bq.cell 0
          have m1 := bq.cell 1
          have m2 := bq.cell 2
          have m3 := bq.cell 3
          have m4 := bq.cell 4
          have e0 := bq.frozen 0
          have e1 := bq.frozen 1
          have e2 := bq.frozen 2
          have e3 := bq.frozen 3
          have e4 := bq.frozen 4
          have zM := bq.lt
          simp only [List.getElem?_toArray, List.getElem?_cons_zero, List.getElem?_cons_succ] at m0 m1 m2 m3 m4
          clear bq
          have sN := N4.out.size
          have sZ := HSz.out
          have hin2 := insert_any w3.heap.size a.tags.length tc1 i W4.heap.size T1 a.tags t (W4.alloc (.cells #[.int .i64 t] 3)) (HO4.out.alloc _) hin (by omega) (Blk.new _ _ _) (fun b o e => by have := HTl.out b o e; omega) (by simp; omega)
          have HIn := hide hin2
          clear hin2
          go_wp2_with fail
          refine HIn.out.mono ?_
          rintro e w5 ⟨T5, tc5, rfl, hT5, hc5, hz5, hu5⟩
          have HT5 := hide hT5
          have U5 := hide (((Upd.refl (fun k => ∃ o, T1 = some ⟨k, o, none⟩) W4).alloc (.cells #[.int .i64 t] 3)).trans hu5 (fun q _ h => h))
          have HZ5 := hide hz5
          have HC5 := hide hc5
          clear hT5 hc5 hz5 hu5 m0 m1 m2 m3 m4 e0 e1 e2 e3 e4 zM
          have HM5 := hide (HM4.out.upd U5.out (fun ⟨o, e⟩ => by have := HTz.out _ _ e; omega))
          have HR5 := hide (Blk.far (HR4.out.upd U5.out (fun ⟨o, e⟩ => by have := HTz.out _ _ e; omega)) (p := ⟨w.heap.size, 4, none⟩) (fun e : w.heap.size + 1 = w.heap.size => absurd e (Nat.succ_ne_self _)) (.slice T5 (a.tags.length + 1) tc5))
          have bq := HR5.out
          have r0 := bq.cell 0
          have r1 := bq.cell 1
          have r2 := bq.cell 2
          have r3 := bq.cell 3
          have r4 := bq.cell 4
          have s0 := bq.frozen 0
          have s1 := bq.frozen 1
          have s2 := bq.frozen 2
          have s3 := bq.frozen 3
          have s4 := bq.frozen 4
          have zR := bq.lt
          simp only [List.getElem?_toArray, List.getElem?_cons_zero, List.getElem?_cons_succ] at r0 r1 r2 r3 r4
          clear bq
          have bq := HM5.out
          have n0 := bq.cell 0
          have n1 := bq.cell 1
          have n2 := bq.cell 2
          have n3 := bq.cell 3
          have n4 := bq.cell 4
          have y0 := bq.frozen 0
          have y1 := bq.frozen 1
          have y2 := bq.frozen 2
          have y3 := bq.frozen 3
          have y4 := bq.frozen 4
          have zn := bq.lt
          simp only [List.getElem?_toArray, List.getElem?_cons_zero, List.getElem?_cons_succ] at n0 n1 n2 n3 n4
          clear bq
          go_wp2_with fail
          refine bodyPost_ret (attr_err_out Tryd.results28 rfl (set5 HR5.out)) rfl ?_
          have uF := set5_upd (y0 := .slice P1 a.path.length pc1) (y1 := .int .i64 a.pref) (y2 := .int .i64 a.med) (y3 := .int .i64 a.origin) (y4 := .slice T5 (a.tags.length + 1) tc5) w5 w.heap.size (w.heap.size + 1) 4 (.slice T5 (a.tags.length + 1) tc5)
          have nB : New w w5 := N4.out.trans U5.out (fun q hq ⟨o, e⟩ => by have := HTz.out _ _ e; have := N3.out.size; omega)
          have nF := nB.trans uF (fun q hq hx => absurd hx (by show ¬ (q = w.heap.size ∨ q = w.heap.size + 1); omega))
          have zM3 := HM3.out.lt
          have zR3 := HR3.out.lt
          have hlen := ins_len a.tags t
          rw [Hi.out] at hlen
          refine ⟨⟨P1, pc1, a.path, a.pref, a.med, a.origin, T5, tc5, a.tags.take i ++ t :: a.tags.drop i⟩, ?_, ?_, ⟨?_, ?_, ?_, ?_⟩, ⟨fun b o e => Nat.le_trans N3.out.size (HPz.out b o e), fun b o e => Nat.le_trans N3.out.size (HZ5.out b o e)⟩, nF⟩
          · rw [HK.out]
            show Ending.returned (.tuple #[.agg #[.slice P1 a.path.length pc1, .int .i64 a.pref, .int .i64 a.med, .int .i64 a.origin, .slice T5 (a.tags.length + 1) tc5], .nilIface]) = .returned (.tuple #[.agg #[.slice P1 a.path.length pc1, .int .i64 a.pref, .int .i64 a.med, .int .i64 a.origin, .slice T5 (a.tags.take i ++ t :: a.tags.drop i).length tc5], .nilIface])
            rw [hlen]
          · rw [tagX_ok HK.out, HX.out]
            show AtC.mk _ _ _ _ _ = AtC.mk _ _ _ _ (tagsX a.tags t)
            rw [tagsX_new HC.out, Hi.out]
            rfl
          · exact (HP4.out.upd U5.out fun b o e ⟨q, f⟩ => HPT.out b o b q e f rfl).upd uF fun b o e => by have := HPz.out b o e; omega
          · exact HT5.out.upd uF fun b o e => by have := HZ5.out b o e; omega
          · exact hpl
          · show (a.tags.take i ++ t :: a.tags.drop i).length ≤ tc5
            rw [hlen]; exact HC5.out
      | true =>
        have HK := hide (tagK_ok Hk.out h1 (by rw [hxt]; rw [hc]; simp))
        have HC := hide hc
        rw [hc] at Hbs
        clear h1 hc
        go_upto_region 4 with (fail)
        go_wp2_with fail
        refine Hbs.out.mono ?_
        rintro e w3 ⟨rfl, hu3⟩
        rw [Hi.out]
        have N3 := hide (N2.out.trans_new hu3)
        have U3 := hide hu3
        have HM3 := hide (HM2.out.new_ hu3)
        have HR3 := hide (HR2.out.new_ hu3)
        have z2 : 2 < w3.heap.size := ((H2.out.new U2.out).new hu3).lt
        have c2 : w3.cell? ⟨2, 0, none⟩ = some (errv (E 2)) := (H2.out.new U2.out).new hu3
        have z7 : 1 < w3.heap.size := ((H7.out.new U2.out).new hu3).lt
        have c7 : w3.cell? ⟨1, 0, none⟩ = some (errv (E 7)) := (H7.out.new U2.out).new hu3
        unfold errv at c2 c7
        clear hu3 m0 m1 m2 m3 m4 e0 e1 e2 e3 e4 zM r0 r1 r2 r3 r4 s0 s1 s2 s3 s4 zR
        have bq := HR3.out
        have r0 := bq.cell 0
        have r1 := bq.cell 1
        have r2 := bq.cell 2
        have r3 := bq.cell 3
        have r4 := bq.cell 4
        have s0 := bq.frozen 0
        have s1 := bq.frozen 1
        have s2 := bq.frozen 2
        have s3 := bq.frozen 3
        have s4 := bq.frozen 4
        have zR := bq.lt
        simp only [List.getElem?_toArray, List.getElem?_cons_zero, List.getElem?_cons_succ] at r0 r1 r2 r3 r4
        clear bq
        have bq := HM3.out
        have m0 := bq.cell 0
        have m1 := bq.cell 1
        have m2 := bq.cell 2
        have m3 := bq.cell 3
        have m4 := bq.cell 4
        have e0 := bq.frozen 0
        have e1 := bq.frozen 1
        have e2 := bq.frozen 2
        have e3 := bq.frozen 3
        have e4 := bq.frozen 4
        have zM := bq.lt
        simp only [List.getElem?_toArray, List.getElem?_cons_zero, List.getElem?_cons_succ] at m0 m1 m2 m3 m4
        clear bq
        have Hcp := hide (copy_any a w3 ((Ha.out.new_ U2.out).new_ U3.out) hl hl2)
        unfold AttrR.cells at Hcp
        go_wp2_with (go_at_call 44; refine (attrIn_any _ _ _ _).mono ?_; rintro e w' ⟨rfl, rfl⟩; rw [H1.out])
        refine Hcp.out.mono ?_
        rintro e w4 ⟨⟨P1, pc1, p1, f1, d1, o1, T1, tc1, t1⟩, z, rfl, hcon, hok, hown, hPz, hz, hu4⟩
        obtain ⟨rfl, rfl, rfl, rfl, rfl⟩ : p1 = a.path ∧ f1 = a.pref ∧ d1 = a.med ∧ o1 = a.origin ∧ t1 = a.tags := by
          unfold AttrR.con at hcon
          injection hcon with h1 h2 h3 h4 h5
          exact ⟨h1, h2, h3, h4, h5⟩
        dsimp only at hown hPz ⊢
        obtain ⟨T9, k9, hT9, _, hct, hTi, hTz, _⟩ := ints_of_own hown
        injection hT9 with q1 q2 q3
        subst q1; subst q3
        have zM2 := HM3.out.lt
        have zR2 := HR3.out.lt
        have hTlt : ∀ b o, T1 = some ⟨b, o, none⟩ → b < w4.heap.size := fun b o e => ownLt hown (by rw [e]; rfl)
        have uS := set5_one w4 w.heap.size (.slice P1 a.path.length pc1) (.int .i64 a.pref) (.int .i64 a.med) (.int .i64 a.origin) (.slice T1 a.tags.length tc1)
        have HM4 := hide (set5 (y0 := .slice P1 a.path.length pc1) (y1 := .int .i64 a.pref) (y2 := .int .i64 a.med) (y3 := .int .i64 a.origin) (y4 := .slice T1 a.tags.length tc1) (HM3.out.new_ hu4))
        have HR4 := hide ((HR3.out.new_ hu4).upd uS (by omega))
        have HP4 := hide (hok.path.upd uS fun b o e => by have := hPz b o e; omega)
        have HT4 := hide (hTi.upd uS fun b o e => by have := hTz b o e; omega)
        have HTz := hide (show ∀ b o, T1 = some ⟨b, o, none⟩ → w3.heap.size ≤ b from fun b o e => by have := hTz b o e; omega)
        have HPz := hide (show ∀ b o, P1 = some ⟨b, o, none⟩ → w3.heap.size ≤ b from fun b o e => by have := hPz b o e; omega)
        have HPT := hide (show ∀ b o c q, P1 = some ⟨b, o, none⟩ → T1 = some ⟨c, q, none⟩ → b ≠ c from fun b o c q e f => by have := hPz b o e; have := hTz c q f; omega)
        have hpl : a.path.length ≤ pc1 := hok.pl
        have HO4 := hide (own_mono (ownKeep hown uS (fun g hg => by
          show ¬ g = w.heap.size
          have := (World.ownsRow.lt hown g hg).1
          omega)) hz)
        have N4 := hide (set5_new (y0 := .slice P1 a.path.length pc1) (y1 := .int .i64 a.pref) (y2 := .int .i64 a.med) (y3 := .int .i64 a.origin) (y4 := .slice T1 a.tags.length tc1) (N3.out.trans_new hu4) (Nat.le_refl w.heap.size))
        have HTl := hide (show ∀ b o, T1 = some ⟨b, o, none⟩ → b < (((((w4.setCell ⟨w.heap.size, 0, none⟩ (.slice P1 a.path.length pc1)).setCell ⟨w.heap.size, 1, none⟩ (.int .i64 a.pref)).setCell ⟨w.heap.size, 2, none⟩ (.int .i64 a.med)).setCell ⟨w.heap.size, 3, none⟩ (.int .i64 a.origin)).setCell ⟨w.heap.size, 4, none⟩ (.slice T1 a.tags.length tc1)).heap.size from fun b o e => Nat.lt_of_lt_of_le (hTlt b o e) uS.size)
        have HSz := hide (show w3.heap.size ≤ (((((w4.setCell ⟨w.heap.size, 0, none⟩ (.slice P1 a.path.length pc1)).setCell ⟨w.heap.size, 1, none⟩ (.int .i64 a.pref)).setCell ⟨w.heap.size, 2, none⟩ (.int .i64 a.med)).setCell ⟨w.heap.size, 3, none⟩ (.int .i64 a.origin)).setCell ⟨w.heap.size, 4, none⟩ (.slice T1 a.tags.length tc1)).heap.size from Nat.le_trans hu4.size uS.size)
        have bq := (HM3.out.new_ hu4)
        have m0 := bq.cell 0
        have m1 := bq.cell 1
        have m2 := bq.cell 2
        have m3 := bq.cell 3
        have m4 := bq.cell 4
        have e0 := bq.frozen 0
        have e1 := bq.frozen 1
        have e2 := bq.frozen 2
        have e3 := bq.frozen 3
        have e4 := bq.frozen 4
        have zM := bq.lt
        simp only [List.getElem?_toArray, List.getElem?_cons_zero, List.getElem?_cons_succ] at m0 m1 m2 m3 m4
        clear bq
        clear hown hPz hTi hTz hTlt hok uS hz hcon z
        go_upto_region 10 with (fail)
        clear m0 m1 m2 m3 m4 e0 e1 e2 e3 e4 zM r0 r1 r2 r3 r4 s0 s1 s2 s3 s4 zR hu4
        generalize ((((w4.setCell ⟨w.heap.size, 0, none⟩ (.slice P1 a.path.length pc1)).setCell ⟨w.heap.size, 1, none⟩ (.int .i64 a.pref)).setCell ⟨w.heap.size, 2, none⟩ (.int .i64 a.med)).setCell ⟨w.heap.size, 3, none⟩ (.int .i64 a.origin)).setCell ⟨w.heap.size, 4, none⟩ (.slice T1 a.tags.length tc1) = W4 at *
        have bq := HM4.out
        have m0 := bq.cell 0
        have m1 := bq.cell 1
        have m2 := bq.cell 2
        have m3 := bq.cell 3
        have m4 := bq.cell 4
        have e0 := bq.frozen 0
        have e1 := bq.frozen 1
        have e2 := bq.frozen 2
        have e3 := bq.frozen 3
        have e4 := bq.frozen 4
        have zM := bq.lt
        simp only [List.getElem?_toArray, List.getElem?_cons_zero, List.getElem?_cons_succ] at m0 m1 m2 m3 m4
        clear bq
        have sN := N4.out.size
        have sZ := HSz.out
        have bq := HR4.out
        have r0 := bq.cell 0
        have r1 := bq.cell 1
        have r2 := bq.cell 2
        have r3 := bq.cell 3
        have r4 := bq.cell 4
        have s0 := bq.frozen 0
        have s1 := bq.frozen 1
        have s2 := bq.frozen 2
        have s3 := bq.frozen 3
        have s4 := bq.frozen 4
        have zR := bq.lt
        simp only [List.getElem?_toArray, List.getElem?_cons_zero, List.getElem?_cons_succ] at r0 r1 r2 r3 r4
        clear bq
        go_wp2_with fail
        refine bodyPost_ret (attr_err_out Tryd.results28 rfl (set5 HR4.out)) rfl ?_
        have uF := set5_one W4 (w.heap.size + 1) (.slice P1 a.path.length pc1) (.int .i64 a.pref) (.int .i64 a.med) (.int .i64 a.origin) (.slice T1 a.tags.length tc1)
        have nF := N4.out.trans uF (fun q hq hx => absurd hx (by show ¬ (q = w.heap.size + 1); omega))
        have zM3 := HM3.out.lt
        have zR3 := HR3.out.lt
        refine ⟨⟨P1, pc1, a.path, a.pref, a.med, a.origin, T1, tc1, a.tags⟩, ?_, ?_, ⟨?_, ?_, ?_, ?_⟩, ⟨fun b o e => Nat.le_trans N3.out.size (HPz.out b o e), fun b o e => Nat.le_trans N3.out.size (HTz.out b o e)⟩, nF⟩
        · rw [HK.out]; rfl
        · rw [tagX_ok HK.out, HX.out]
          show AtC.mk _ _ _ _ _ = AtC.mk _ _ _ _ (tagsX a.tags t)
          rw [tagsX_in HC.out]
          rfl
        · exact HP4.out.upd uF fun b o e => by have := HPz.out b o e; omega
        · exact HT4.out.upd uF fun b o e => by have := HTz.out b o e; omega
        · exact hpl
        · exact hct
  · have Hb := hide (bare_any _ _ _ w2 E hv)
    have HK := hide (tagK_con hk (t := t))
    have Hk := hide hk
    clear hv hk
    go_wp2_with fail
    refine Hb.out.mono ?_
    rintro e w3 ⟨rfl, rfl⟩
    go_wp2_with fail
    refine bodyPost_ret (attr_err_out Tryd.results28 rfl (set5 HR2.out)) rfl ?_
    exact lead_end (set5_new N2.out (Nat.le_succ _)) HK.out (tagX_err (by rw [HK.out]; exact Hk.out))
end Go.Proofs.YtignngpligicjaaDoor
