/- Package rule: make. No condition but those that stand in each theorem. -/
import Derived.Test.YtkljanjapcpbdaaDoorRu9
namespace Go.Proofs.YtkljanjapcpbdaaDoor
open Go.RowKit

theorem copy2_any (a : AttrR) (w : World) (ha : AttrOk w a) (hl : a.path.length ≤ 1000) (hl2 : a.tags.length ≤ 1000) :
    Calls Tryd.prog 87 #[.agg a.cells] w fun e w1 => ∃ a' : AttrR, e = .returned (.agg a'.cells) ∧ a'.con = a.con ∧ AttrOk w1 a' ∧ Fresh w a' ∧ New w w1 := by
  refine (copy_any a w ha hl hl2).mono ?_
  rintro e w1 ⟨a', z, he, hc, hok, ho, hP, hz, hn⟩
  refine ⟨a', he, hc, hok, ⟨fun b o e => (hP b o e).1, fun b o e => ?_⟩, hn⟩
  obtain ⟨T9, k9, h9, _, _, _, hb, _⟩ := ints_of_own ho
  injection h9 with q1
  exact Nat.le_trans hz (hb b o (q1 ▸ e))
theorem AttrOk.store {S : Nat → Prop} {w0 w w1 : World} {a : AttrR} (h : AttrOk w a) (hf : Fresh w0 a) (hu : Upd S w w1) (hS : ∀ k, S k → k < w0.heap.size) : AttrOk w1 a :=
  ⟨h.path.upd hu fun b o e hs => by have := hf.1 b o e; have := hS b hs; omega, h.tags.upd hu fun b o e hs => by have := hf.2 b o e; have := hS b hs; omega, h.pl, h.tl⟩
theorem mk_noadd {r : RuR} {s : Int} {c : AtC} (h : ¬ 0 < r.add) : mkK r s c = leadK (mk1 r c) s r.lead ∧ mkX r s c = leadX (mk1 r c) s r.lead := by
  have h1 : mkT r c = 0 := by unfold mkT; rw [if_neg h]
  have h2 : mk2 r c = mk1 r c := by unfold mk2; rw [if_neg h]
  unfold mkK mkX
  rw [h1, h2]
  exact ⟨rfl, rfl⟩
theorem mk_add {r : RuR} {s : Int} {c : AtC} (h : 0 < r.add) (hk : tagK (mk1 r c) r.add = 0) : mkK r s c = leadK (tagX (mk1 r c) r.add) s r.lead ∧ mkX r s c = leadX (tagX (mk1 r c) r.add) s r.lead := by
  have h1 : mkT r c = 0 := by unfold mkT; rw [if_pos h, hk]
  have h2 : mk2 r c = tagX (mk1 r c) r.add := by unfold mk2; rw [if_pos h]
  unfold mkK mkX
  rw [h1, h2]
  exact ⟨rfl, rfl⟩
theorem mk_bad {r : RuR} {s : Int} {c : AtC} (h : 0 < r.add) (hk : tagK (mk1 r c) r.add ≠ 0) : mkK r s c = tagK (mk1 r c) r.add ∧ mkX r s c = zeroC := by
  have h1 : mkT r c = tagK (mk1 r c) r.add := by unfold mkT; rw [if_pos h]
  unfold mkK mkX
  rw [h1, if_pos hk, if_pos hk]
  exact ⟨rfl, rfl⟩

set_option maxRecDepth 20000 in
set_option maxHeartbeats 8000000 in
theorem make_any (r : RuR) (s : Int) (a : AttrR) (E : Nat → Addr) (w : World) (h2 : Sen w gBound (E 2)) (h7 : Sen w gFull_ (E 7)) (h8 : Sen w gOrder (E 8)) (ha : AttrOk w a) (hl : a.path.length ≤ 1000) (hl2 : a.tags.length ≤ 999) :
    Calls Tryd.prog 90 #[.agg r.cells, .int .i64 s, .agg a.cells] w fun e w1 => ∃ a' : AttrR, e = .returned (.tuple #[.agg a'.cells, errc E (mkK r s a.con)]) ∧ a'.con = mkX r s a.con ∧ AttrOk w1 a' ∧ Fresh w a' ∧ New w w1 := by
  have u := (((Upd.refl (fun _ => False) w).alloc (.cells r.cells TRu)).alloc (.cells a.cells TA)).alloc (.cells #[.slice none 0 0, .int .i64 0, .int .i64 0, .int .i64 0, .slice none 0 0] TA)
  have b0 := ((Blk.new w TRu r.cells).alloc (.cells a.cells TA)).alloc (.cells #[.slice none 0 0, .int .i64 0, .int .i64 0, .int .i64 0, .slice none 0 0] TA)
  have b1 := (Blk.at_ (w.alloc (.cells r.cells TRu)) TA a.cells (w.heap.size + 1) (by simp)).alloc (.cells #[.slice none 0 0, .int .i64 0, .int .i64 0, .int .i64 0, .slice none 0 0] TA)
  have b2 := Blk.at_ ((w.alloc (.cells r.cells TRu)).alloc (.cells a.cells TA)) TA #[.slice none 0 0, .int .i64 0, .int .i64 0, .int .i64 0, .slice none 0 0] (w.heap.size + 1 + 1) (by simp)
  have Hcp := hide (copy2_any a _ (ha.new_ u) hl (by omega))
  have H2 := hide h2
  have H7 := hide h7
  have H8 := hide h8
  have Hu := hide u
  have HK := hide b0
  have HM := hide b1
  have HR := hide b2
  clear ha u b0 b1 b2 h2 h7 h8
  obtain ⟨x, hx⟩ : ∃ x, x = a.con := ⟨_, rfl⟩
  rw [← hx]
  have HX := hide hx
  clear hx
  have d1 : w.heap.size ≠ w.heap.size + 1 := by omega
  have d2 : w.heap.size ≠ w.heap.size + 1 + 1 := by omega
  have d3 : w.heap.size + 1 ≠ w.heap.size := by omega
  have d4 : w.heap.size + 1 + 1 ≠ w.heap.size := by omega
  have d5 : w.heap.size + 1 ≠ w.heap.size + 1 + 1 := by omega
  have d6 : w.heap.size + 1 + 1 ≠ w.heap.size + 1 := by omega
  unfold AttrR.cells RuR.cells at *
  go_enter Tryd.func90, Tryd.ntmps90
  go_upto_region 1 with (fail)
  generalize (((w.alloc (.cells #[.int .i64 r.a, .int .i64 r.n, .int .i64 r.lo, .int .i64 r.hi, .int .i64 r.tag, .int .i64 r.as_, .bool r.deny, .int .i64 r.pref, .int .i64 r.med, .int .i64 r.add, .int .i64 r.lead] TRu)).alloc (.cells #[.slice a.P a.path.length a.pc, .int .i64 a.pref, .int .i64 a.med, .int .i64 a.origin, .slice a.T a.tags.length a.tc] TA)).alloc (.cells #[.slice none 0 0, .int .i64 0, .int .i64 0, .int .i64 0, .slice none 0 0] TA)) = W at *
  have bq := HM.out
  have m0 := bq.cell 0
  have m1 := bq.cell 1
  have m2 := bq.cell 2
  have m3 := bq.cell 3
  have m4 := bq.cell 4
  have zM := bq.lt
  simp only [List.getElem?_toArray, List.getElem?_cons_zero, List.getElem?_cons_succ] at m0 m1 m2 m3 m4
  clear bq
  go_wp2_with fail
  refine Hcp.out.mono ?_
  rintro e w1 ⟨⟨P1, pc1, p1, f1, dd1, o1, T1, tc1, t1⟩, rfl, hcon, hok, hfr, hu1⟩
  obtain ⟨rfl, rfl, rfl, rfl, rfl⟩ : p1 = a.path ∧ f1 = a.pref ∧ dd1 = a.med ∧ o1 = a.origin ∧ t1 = a.tags := by
    unfold AttrR.con at hcon
    injection hcon with h1 h2 h3 h4 h5
    exact ⟨h1, h2, h3, h4, h5⟩
  dsimp only at hok hfr ⊢
  have zR := HR.out.lt
  have sW := Hu.out.size
  have s1 := hu1.size
  clear m0 m1 m2 m3 m4 zM Hcp
  have uS := set5_one w1 (w.heap.size + 1) (.slice P1 a.path.length pc1) (.int .i64 a.pref) (.int .i64 a.med) (.int .i64 a.origin) (.slice T1 a.tags.length tc1)
  have HM1 := hide (set5 (y0 := .slice P1 a.path.length pc1) (y1 := .int .i64 a.pref) (y2 := .int .i64 a.med) (y3 := .int .i64 a.origin) (y4 := .slice T1 a.tags.length tc1) (HM.out.new_ hu1))
  have HK1 := hide ((HK.out.new_ hu1).upd uS (by omega))
  have HR1 := hide ((HR.out.new_ hu1).upd uS (by omega))
  have Ok1 := hide (hok.store hfr uS (fun k e => by subst e; omega))
  have Fr1 := hide hfr
  have N1 := hide (set5_new (y0 := .slice P1 a.path.length pc1) (y1 := .int .i64 a.pref) (y2 := .int .i64 a.med) (y3 := .int .i64 a.origin) (y4 := .slice T1 a.tags.length tc1) (Hu.out.trans_new hu1) (Nat.le_succ w.heap.size))
  have s2 := uS.size
  have bq := (HM.out.new_ hu1)
  have m0 := bq.cell 0
  have m1 := bq.cell 1
  have m2 := bq.cell 2
  have m3 := bq.cell 3
  have m4 := bq.cell 4
  have e0 := bq.frozen 0
  have e1 := bq.frozen 1
  have e2 := bq.frozen 2
  have e3 := bq.frozen 3
  have e4 := bq.frozen 4
  have zM := bq.lt
  simp only [List.getElem?_toArray, List.getElem?_cons_zero, List.getElem?_cons_succ] at m0 m1 m2 m3 m4
  clear bq
  clear hok hfr uS hcon
  go_upto_region 2 with (fail)
  clear m0 m1 m2 m3 m4 e0 e1 e2 e3 e4 zM hu1
  generalize ((((w1.setCell ⟨w.heap.size + 1, 0, none⟩ (.slice P1 a.path.length pc1)).setCell ⟨w.heap.size + 1, 1, none⟩ (.int .i64 a.pref)).setCell ⟨w.heap.size + 1, 2, none⟩ (.int .i64 a.med)).setCell ⟨w.heap.size + 1, 3, none⟩ (.int .i64 a.origin)).setCell ⟨w.heap.size + 1, 4, none⟩ (.slice T1 a.tags.length tc1) = W1 at *
  have bq := HK1.out
  have k7 := bq.cell 7
  have k8 := bq.cell 8
  have k9 := bq.cell 9
  have k10 := bq.cell 10
  have zK := bq.lt
  simp only [List.getElem?_toArray, List.getElem?_cons_zero, List.getElem?_cons_succ] at k7 k8 k9 k10
  clear bq
  have bq := HM1.out
  have m0 := bq.cell 0
  have m1 := bq.cell 1
  have m2 := bq.cell 2
  have m3 := bq.cell 3
  have m4 := bq.cell 4
  have e0 := bq.frozen 0
  have e1 := bq.frozen 1
  have e2 := bq.frozen 2
  have e3 := bq.frozen 3
  have e4 := bq.frozen 4
  have zM := bq.lt
  simp only [List.getElem?_toArray, List.getElem?_cons_zero, List.getElem?_cons_succ] at m0 m1 m2 m3 m4
  clear bq
  by_cases hp : 0 ≤ r.pref
  · have hp0 : (0 : Int) ≤ r.pref := hp
    by_cases hm : 0 ≤ r.med
    · have hm0 : (0 : Int) ≤ r.med := hm
      have Hmk := hide (show AttrR.con ⟨P1, pc1, a.path, r.pref, r.med, a.origin, T1, tc1, a.tags⟩ = mk1 r x by rw [HX.out]; unfold mk1; rw [if_pos hp, if_pos hm]; rfl)
      go_upto_region 6 with (fail)
      have uM := ((Upd.refl (fun b => b = w.heap.size + 1) W1).setCell (p := ⟨w.heap.size + 1, 1, none⟩) (.inl rfl) (.int .i64 r.pref)).setCell (p := ⟨w.heap.size + 1, 2, none⟩) (.inl rfl) (.int .i64 r.med)
      have HM2 := hide (show Blk ((W1.setCell ⟨w.heap.size + 1, 1, none⟩ (.int .i64 r.pref)).setCell ⟨w.heap.size + 1, 2, none⟩ (.int .i64 r.med)) (w.heap.size + 1) TA #[.slice P1 a.path.length pc1, .int .i64 r.pref, .int .i64 r.med, .int .i64 a.origin, .slice T1 a.tags.length tc1] by have := ((HM1.out.set_ 1 (.int .i64 r.pref)).set_ 2 (.int .i64 r.med)); simpa using this)
      have HK2 := hide (HK1.out.upd uM (by omega))
      have HR2 := hide (HR1.out.upd uM (by omega))
      have N2 := hide (((N1.out).setCell (p := ⟨w.heap.size + 1, 1, none⟩) (.inr (Nat.le_succ _)) (.int .i64 r.pref)).setCell (p := ⟨w.heap.size + 1, 2, none⟩) (.inr (Nat.le_succ _)) (.int .i64 r.med))
      have Ok2 := hide (show AttrOk ((W1.setCell ⟨w.heap.size + 1, 1, none⟩ (.int .i64 r.pref)).setCell ⟨w.heap.size + 1, 2, none⟩ (.int .i64 r.med)) ⟨P1, pc1, a.path, r.pref, r.med, a.origin, T1, tc1, a.tags⟩ from have q := Ok1.out.store Fr1.out uM (fun k e => by subst e; omega); ⟨q.path, q.tags, q.pl, q.tl⟩)
      clear uM k7 k8 k9 k10 zK m0 m1 m2 m3 m4 e0 e1 e2 e3 e4 zM
      generalize (W1.setCell ⟨w.heap.size + 1, 1, none⟩ (.int .i64 r.pref)).setCell ⟨w.heap.size + 1, 2, none⟩ (.int .i64 r.med) = W2 at *
      have bq := HK2.out
      have k7 := bq.cell 7
      have k8 := bq.cell 8
      have k9 := bq.cell 9
      have k10 := bq.cell 10
      have zK := bq.lt
      simp only [List.getElem?_toArray, List.getElem?_cons_zero, List.getElem?_cons_succ] at k7 k8 k9 k10
      clear bq
      have bq := HM2.out
      have m0 := bq.cell 0
      have m1 := bq.cell 1
      have m2 := bq.cell 2
      have m3 := bq.cell 3
      have m4 := bq.cell 4
      have e0 := bq.frozen 0
      have e1 := bq.frozen 1
      have e2 := bq.frozen 2
      have e3 := bq.frozen 3
      have e4 := bq.frozen 4
      have zM := bq.lt
      simp only [List.getElem?_toArray, List.getElem?_cons_zero, List.getElem?_cons_succ] at m0 m1 m2 m3 m4
      clear bq
      by_cases h0 : 0 < r.add
      · have h00 : (0 : Int) < r.add := h0
        have Htg := hide (tag_any ⟨P1, pc1, a.path, r.pref, r.med, a.origin, T1, tc1, a.tags⟩ r.add E W2 (H2.out.new N2.out) (H7.out.new N2.out) (H8.out.new N2.out) Ok2.out (by show a.path.length ≤ 1000; omega) (by show a.tags.length ≤ 1000; omega))
        rw [Hmk.out] at Htg
        unfold AttrR.cells at Htg
        dsimp only at Htg
        have Htl := hide (tagX_len (x := mk1 r x) (t := r.add) (by rw [← Hmk.out]; exact hl) (by rw [← Hmk.out]; exact hl2))
        by_cases hk : tagK (mk1 r x) r.add = 0
        · have HKX := hide (mk_add (s := s) h0 hk)
          have Hk0 := hide hk
          clear hk
          go_wp2_with fail
          refine Htg.out.mono ?_
          rintro e w3 ⟨⟨P3, pc3, p3, f3, g3, o3, T3, tc3, t3⟩, rfl, hcon3, hok3, hfr3, hu3⟩
          rw [Hk0.out, errc_nil]
          dsimp only at hok3 hfr3 ⊢
          obtain ⟨X, hX⟩ : ∃ X, X = w3.heap.size := ⟨_, rfl⟩
          have s3 := hu3.size
          have zz := N2.out.size
          have zMx := HM2.out.lt
          have zRx := HR2.out.lt
          have nX := (Upd.refl (fun _ => False) w3).alloc (.cells #[.slice P3 p3.length pc3, .int .i64 f3, .int .i64 g3, .int .i64 o3, .slice T3 t3.length tc3] TA)
          have bX := Blk.new w3 TA #[.slice P3 p3.length pc3, .int .i64 f3, .int .i64 g3, .int .i64 o3, .slice T3 t3.length tc3]
          have HX3 := hide bX
          have U3 := hide (hu3.trans_new nX)
          have Ok3 := hide (hok3.new_ nX)
          have Fr3 := hide hfr3
          have Hc3 := hide hcon3
          have x1 : ¬ w.heap.size = w3.heap.size := by omega
          have x2 : ¬ w.heap.size + 1 = w3.heap.size := by omega
          have x3 : ¬ w.heap.size + 1 + 1 = w3.heap.size := by omega
          have x4 : ¬ w3.heap.size = w.heap.size := by omega
          have x5 : ¬ w3.heap.size = w.heap.size + 1 := by omega
          have x6 : ¬ w3.heap.size = w.heap.size + 1 + 1 := by omega
          clear hu3 hok3 hfr3 hcon3 nX bX k7 k8 k9 k10 zK m0 m1 m2 m3 m4 e0 e1 e2 e3 e4 zM
          go_upto_region 8 with (fail)
          generalize w3.alloc (.cells #[.slice P3 p3.length pc3, .int .i64 f3, .int .i64 g3, .int .i64 o3, .slice T3 t3.length tc3] TA) = W3 at *
          have HM3 := hide (HM2.out.new_ U3.out)
          have HK3 := hide (HK2.out.new_ U3.out)
          have HR3 := hide (HR2.out.new_ U3.out)
          have N3 := hide (N2.out.trans_new U3.out)
          have bq := HX3.out
          have q0 := bq.cell 0
          have q1 := bq.cell 1
          have q2 := bq.cell 2
          have q3 := bq.cell 3
          have q4 := bq.cell 4
          have zX := bq.lt
          simp only [List.getElem?_toArray, List.getElem?_cons_zero, List.getElem?_cons_succ] at q0 q1 q2 q3 q4
          clear bq
          have bq := HM3.out
          have m0 := bq.cell 0
          have m1 := bq.cell 1
          have m2 := bq.cell 2
          have m3 := bq.cell 3
          have m4 := bq.cell 4
          have e0 := bq.frozen 0
          have e1 := bq.frozen 1
          have e2 := bq.frozen 2
          have e3 := bq.frozen 3
          have e4 := bq.frozen 4
          have zM := bq.lt
          simp only [List.getElem?_toArray, List.getElem?_cons_zero, List.getElem?_cons_succ] at m0 m1 m2 m3 m4
          clear bq
          go_upto_region 11 with (fail)
          clear q0 q1 q2 q3 q4 zX m0 m1 m2 m3 m4 e0 e1 e2 e3 e4 zM
          have uM3 := set5_one W3 (w.heap.size + 1) (.slice P3 p3.length pc3) (.int .i64 f3) (.int .i64 g3) (.int .i64 o3) (.slice T3 t3.length tc3)
          have HM4 := hide (set5 (y0 := .slice P3 p3.length pc3) (y1 := .int .i64 f3) (y2 := .int .i64 g3) (y3 := .int .i64 o3) (y4 := .slice T3 t3.length tc3) HM3.out)
          have HK4 := hide (HK3.out.upd uM3 (by omega))
          have HR4 := hide (HR3.out.upd uM3 (by omega))
          have N4 := hide (set5_new (y0 := .slice P3 p3.length pc3) (y1 := .int .i64 f3) (y2 := .int .i64 g3) (y3 := .int .i64 o3) (y4 := .slice T3 t3.length tc3) N3.out (Nat.le_succ w.heap.size))
          have Ok4 := hide (Ok3.out.store Fr3.out uM3 (fun k e => by subst e; omega))
          have Hp3 := hide (show p3.length ≤ 1000 from by have h := congrArg AtC.path Hc3.out; rw [show p3 = _ from h]; exact Htl.out.1)
          have Ht3 := hide (show t3.length ≤ 1000 from by have h := congrArg AtC.tags Hc3.out; rw [show t3 = _ from h]; exact Htl.out.2)
          rw [← Hc3.out] at HKX
          clear uM3
          generalize ((((W3.setCell ⟨w.heap.size + 1, 0, none⟩ (.slice P3 p3.length pc3)).setCell ⟨w.heap.size + 1, 1, none⟩ (.int .i64 f3)).setCell ⟨w.heap.size + 1, 2, none⟩ (.int .i64 g3)).setCell ⟨w.heap.size + 1, 3, none⟩ (.int .i64 o3)).setCell ⟨w.heap.size + 1, 4, none⟩ (.slice T3 t3.length tc3) = W4 at *
          have bq := HK4.out
          have k7 := bq.cell 7
          have k8 := bq.cell 8
          have k9 := bq.cell 9
          have k10 := bq.cell 10
          have zK := bq.lt
          simp only [List.getElem?_toArray, List.getElem?_cons_zero, List.getElem?_cons_succ] at k7 k8 k9 k10
          clear bq
          have bq := HM4.out
          have m0 := bq.cell 0
          have m1 := bq.cell 1
          have m2 := bq.cell 2
          have m3 := bq.cell 3
          have m4 := bq.cell 4
          have e0 := bq.frozen 0
          have e1 := bq.frozen 1
          have e2 := bq.frozen 2
          have e3 := bq.frozen 3
          have e4 := bq.frozen 4
          have zM := bq.lt
          simp only [List.getElem?_toArray, List.getElem?_cons_zero, List.getElem?_cons_succ] at m0 m1 m2 m3 m4
          clear bq
          have Hld := hide (lead_any ⟨P3, pc3, p3, f3, g3, o3, T3, tc3, t3⟩ s r.lead E W4 (H2.out.new N4.out) (H7.out.new N4.out) (H8.out.new N4.out) Ok4.out (by exact Hp3.out) (by exact Ht3.out))
          unfold AttrR.cells at Hld
          dsimp only at Hld
          go_wp2_with fail
          refine Hld.out.mono ?_
          rintro e w5 ⟨⟨P5, pc5, p5, f5, g5, o5, T5, tc5, t5⟩, rfl, hcon5, hok5, hfr5, hu5⟩
          dsimp only at hok5 hfr5 ⊢
          have HR5 := hide (HR4.out.new_ hu5)
          have N5 := hide (N4.out.trans_new hu5)
          have Hc5 := hide hcon5
          have Ok5 := hide hok5
          have Fr5 := hide hfr5
          clear hcon5 hok5 hfr5 hu5
          have bq := HR5.out
          have r0 := bq.cell 0
          have r1 := bq.cell 1
          have r2 := bq.cell 2
          have r3 := bq.cell 3
          have r4 := bq.cell 4
          have s0 := bq.frozen 0
          have s1 := bq.frozen 1
          have s2 := bq.frozen 2
          have s3 := bq.frozen 3
          have s4 := bq.frozen 4
          have zR5 := bq.lt
          simp only [List.getElem?_toArray, List.getElem?_cons_zero, List.getElem?_cons_succ] at r0 r1 r2 r3 r4
          clear bq
          go_wp2_with fail
          refine bodyPost_ret (attr_err_out Tryd.results90 rfl (set5 HR5.out)) rfl ?_
          have uF := set5_one w5 (w.heap.size + 1 + 1) (.slice P5 p5.length pc5) (.int .i64 f5) (.int .i64 g5) (.int .i64 o5) (.slice T5 t5.length tc5)
          have zRx := HR4.out.lt
          refine ⟨⟨P5, pc5, p5, f5, g5, o5, T5, tc5, t5⟩, ?_, ?_, Ok5.out.store Fr5.out uF (fun k e => by subst e; exact zRx), Fr5.out.low N4.out.size, N5.out.trans uF (fun q hq hx => absurd hx (by show ¬ q = w.heap.size + 1 + 1; omega))⟩
          · rw [HKX.out.1]; rfl
          · rw [HKX.out.2]; exact Hc5.out
        · have HKX := hide (mk_bad (s := s) h0 hk)
          have Hk0 := hide hk
          clear hk
          go_wp2_with fail
          refine Htg.out.mono ?_
          rintro e w3 ⟨⟨P3, pc3, p3, f3, g3, o3, T3, tc3, t3⟩, rfl, hcon3, hok3, hfr3, hu3⟩
          rw [errc_err E Hk0.out]
          have s3 := hu3.size
          have zz := N2.out.size
          have zMx := HM2.out.lt
          have zRx := HR2.out.lt
          have nX := (Upd.refl (fun _ => False) w3).alloc (.cells #[.slice P3 p3.length pc3, .int .i64 f3, .int .i64 g3, .int .i64 o3, .slice T3 t3.length tc3] TA)
          have U3 := hide (hu3.trans_new nX)
          have x1 : ¬ w.heap.size = w3.heap.size := by omega
          have x2 : ¬ w.heap.size + 1 = w3.heap.size := by omega
          have x3 : ¬ w.heap.size + 1 + 1 = w3.heap.size := by omega
          have x4 : ¬ w3.heap.size = w.heap.size := by omega
          have x5 : ¬ w3.heap.size = w.heap.size + 1 := by omega
          have x6 : ¬ w3.heap.size = w.heap.size + 1 + 1 := by omega
          clear hu3 hok3 hfr3 hcon3 nX k7 k8 k9 k10 zK m0 m1 m2 m3 m4 e0 e1 e2 e3 e4 zM
          go_upto_region 8 with (fail)
          generalize w3.alloc (.cells #[.slice P3 p3.length pc3, .int .i64 f3, .int .i64 g3, .int .i64 o3, .slice T3 t3.length tc3] TA) = W3 at *
          have HR3 := hide (HR2.out.new_ U3.out)
          have N3 := hide (N2.out.trans_new U3.out)
          have bq := HR3.out
          have r0 := bq.cell 0
          have r1 := bq.cell 1
          have r2 := bq.cell 2
          have r3 := bq.cell 3
          have r4 := bq.cell 4
          have s0 := bq.frozen 0
          have s1 := bq.frozen 1
          have s2 := bq.frozen 2
          have s3 := bq.frozen 3
          have s4 := bq.frozen 4
          have zR5 := bq.lt
          simp only [List.getElem?_toArray, List.getElem?_cons_zero, List.getElem?_cons_succ] at r0 r1 r2 r3 r4
          clear bq
          go_wp2_with fail
          refine bodyPost_ret (attr_err_out Tryd.results90 rfl (set5 HR3.out)) rfl ?_
          refine ⟨zeroR, ?_, ?_, zeroR_ok _, zeroR_fresh _, set5_new N3.out (by omega)⟩
          · rw [HKX.out.1, errc_err E Hk0.out]; rfl
          · rw [HKX.out.2]; rfl
      · have HKX := hide (mk_noadd (s := s) (c := x) h0)
        rw [← Hmk.out] at HKX
        have Hld := hide (lead_any ⟨P1, pc1, a.path, r.pref, r.med, a.origin, T1, tc1, a.tags⟩ s r.lead E W2 (H2.out.new N2.out) (H7.out.new N2.out) (H8.out.new N2.out) Ok2.out (by show a.path.length ≤ 1000; omega) (by show a.tags.length ≤ 1000; omega))
        unfold AttrR.cells at Hld
        dsimp only at Hld
        go_wp2_with fail
        refine Hld.out.mono ?_
        rintro e w5 ⟨⟨P5, pc5, p5, f5, g5, o5, T5, tc5, t5⟩, rfl, hcon5, hok5, hfr5, hu5⟩
        dsimp only at hok5 hfr5 ⊢
        have HR5 := hide (HR2.out.new_ hu5)
        have N5 := hide (N2.out.trans_new hu5)
        have Hc5 := hide hcon5
        have Ok5 := hide hok5
        have Fr5 := hide hfr5
        clear hcon5 hok5 hfr5 hu5
        have bq := HR5.out
        have r0 := bq.cell 0
        have r1 := bq.cell 1
        have r2 := bq.cell 2
        have r3 := bq.cell 3
        have r4 := bq.cell 4
        have s0 := bq.frozen 0
        have s1 := bq.frozen 1
        have s2 := bq.frozen 2
        have s3 := bq.frozen 3
        have s4 := bq.frozen 4
        have zR5 := bq.lt
        simp only [List.getElem?_toArray, List.getElem?_cons_zero, List.getElem?_cons_succ] at r0 r1 r2 r3 r4
        clear bq
        go_wp2_with fail
        refine bodyPost_ret (attr_err_out Tryd.results90 rfl (set5 HR5.out)) rfl ?_
        have uF := set5_one w5 (w.heap.size + 1 + 1) (.slice P5 p5.length pc5) (.int .i64 f5) (.int .i64 g5) (.int .i64 o5) (.slice T5 t5.length tc5)
        have zRx := HR2.out.lt
        refine ⟨⟨P5, pc5, p5, f5, g5, o5, T5, tc5, t5⟩, ?_, ?_, Ok5.out.store Fr5.out uF (fun k e => by subst e; exact zRx), Fr5.out.low N2.out.size, N5.out.trans uF (fun q hq hx => absurd hx (by show ¬ q = w.heap.size + 1 + 1; omega))⟩
        · rw [HKX.out.1]; rfl
        · rw [HKX.out.2]; exact Hc5.out
    · have hm0 : ¬ (0 : Int) ≤ r.med := hm
      have Hmk := hide (show AttrR.con ⟨P1, pc1, a.path, r.pref, a.med, a.origin, T1, tc1, a.tags⟩ = mk1 r x by rw [HX.out]; unfold mk1; rw [if_pos hp, if_neg hm]; rfl)
      go_upto_region 6 with (fail)
      have uM := (Upd.refl (fun b => b = w.heap.size + 1) W1).setCell (p := ⟨w.heap.size + 1, 1, none⟩) (.inl rfl) (.int .i64 r.pref)
      have HM2 := hide (show Blk (W1.setCell ⟨w.heap.size + 1, 1, none⟩ (.int .i64 r.pref)) (w.heap.size + 1) TA #[.slice P1 a.path.length pc1, .int .i64 r.pref, .int .i64 a.med, .int .i64 a.origin, .slice T1 a.tags.length tc1] by have := (HM1.out.set_ 1 (.int .i64 r.pref)); simpa using this)
      have HK2 := hide (HK1.out.upd uM (by omega))
      have HR2 := hide (HR1.out.upd uM (by omega))
      have N2 := hide ((N1.out).setCell (p := ⟨w.heap.size + 1, 1, none⟩) (.inr (Nat.le_succ _)) (.int .i64 r.pref))
      have Ok2 := hide (show AttrOk (W1.setCell ⟨w.heap.size + 1, 1, none⟩ (.int .i64 r.pref)) ⟨P1, pc1, a.path, r.pref, a.med, a.origin, T1, tc1, a.tags⟩ from have q := Ok1.out.store Fr1.out uM (fun k e => by subst e; omega); ⟨q.path, q.tags, q.pl, q.tl⟩)
      clear uM k7 k8 k9 k10 zK m0 m1 m2 m3 m4 e0 e1 e2 e3 e4 zM
      generalize W1.setCell ⟨w.heap.size + 1, 1, none⟩ (.int .i64 r.pref) = W2 at *
      have bq := HK2.out
      have k7 := bq.cell 7
      have k8 := bq.cell 8
      have k9 := bq.cell 9
      have k10 := bq.cell 10
      have zK := bq.lt
      simp only [List.getElem?_toArray, List.getElem?_cons_zero, List.getElem?_cons_succ] at k7 k8 k9 k10
      clear bq
      have bq := HM2.out
      have m0 := bq.cell 0
      have m1 := bq.cell 1
      have m2 := bq.cell 2
      have m3 := bq.cell 3
      have m4 := bq.cell 4
      have e0 := bq.frozen 0
      have e1 := bq.frozen 1
      have e2 := bq.frozen 2
      have e3 := bq.frozen 3
      have e4 := bq.frozen 4
      have zM := bq.lt
      simp only [List.getElem?_toArray, List.getElem?_cons_zero, List.getElem?_cons_succ] at m0 m1 m2 m3 m4
      clear bq
      by_cases h0 : 0 < r.add
      · have h00 : (0 : Int) < r.add := h0
        have Htg := hide (tag_any ⟨P1, pc1, a.path, r.pref, a.med, a.origin, T1, tc1, a.tags⟩ r.add E W2 (H2.out.new N2.out) (H7.out.new N2.out) (H8.out.new N2.out) Ok2.out (by show a.path.length ≤ 1000; omega) (by show a.tags.length ≤ 1000; omega))
        rw [Hmk.out] at Htg
        unfold AttrR.cells at Htg
        dsimp only at Htg
        have Htl := hide (tagX_len (x := mk1 r x) (t := r.add) (by rw [← Hmk.out]; exact hl) (by rw [← Hmk.out]; exact hl2))
        by_cases hk : tagK (mk1 r x) r.add = 0
        · have HKX := hide (mk_add (s := s) h0 hk)
          have Hk0 := hide hk
          clear hk
          go_wp2_with fail
          refine Htg.out.mono ?_
          rintro e w3 ⟨⟨P3, pc3, p3, f3, g3, o3, T3, tc3, t3⟩, rfl, hcon3, hok3, hfr3, hu3⟩
          rw [Hk0.out, errc_nil]
          dsimp only at hok3 hfr3 ⊢
          obtain ⟨X, hX⟩ : ∃ X, X = w3.heap.size := ⟨_, rfl⟩
          have s3 := hu3.size
          have zz := N2.out.size
          have zMx := HM2.out.lt
          have zRx := HR2.out.lt
          have nX := (Upd.refl (fun _ => False) w3).alloc (.cells #[.slice P3 p3.length pc3, .int .i64 f3, .int .i64 g3, .int .i64 o3, .slice T3 t3.length tc3] TA)
          have bX := Blk.new w3 TA #[.slice P3 p3.length pc3, .int .i64 f3, .int .i64 g3, .int .i64 o3, .slice T3 t3.length tc3]
          have HX3 := hide bX
          have U3 := hide (hu3.trans_new nX)
          have Ok3 := hide (hok3.new_ nX)
          have Fr3 := hide hfr3
          have Hc3 := hide hcon3
          have x1 : ¬ w.heap.size = w3.heap.size := by omega
          have x2 : ¬ w.heap.size + 1 = w3.heap.size := by omega
          have x3 : ¬ w.heap.size + 1 + 1 = w3.heap.size := by omega
          have x4 : ¬ w3.heap.size = w.heap.size := by omega
          have x5 : ¬ w3.heap.size = w.heap.size + 1 := by omega
          have x6 : ¬ w3.heap.size = w.heap.size + 1 + 1 := by omega
          clear hu3 hok3 hfr3 hcon3 nX bX k7 k8 k9 k10 zK m0 m1 m2 m3 m4 e0 e1 e2 e3 e4 zM
          go_upto_region 8 with (fail)
          generalize w3.alloc (.cells #[.slice P3 p3.length pc3, .int .i64 f3, .int .i64 g3, .int .i64 o3, .slice T3 t3.length tc3] TA) = W3 at *
          have HM3 := hide (HM2.out.new_ U3.out)
          have HK3 := hide (HK2.out.new_ U3.out)
          have HR3 := hide (HR2.out.new_ U3.out)
          have N3 := hide (N2.out.trans_new U3.out)
          have bq := HX3.out
          have q0 := bq.cell 0
          have q1 := bq.cell 1
          have q2 := bq.cell 2
          have q3 := bq.cell 3
          have q4 := bq.cell 4
          have zX := bq.lt
          simp only [List.getElem?_toArray, List.getElem?_cons_zero, List.getElem?_cons_succ] at q0 q1 q2 q3 q4
          clear bq
          have bq := HM3.out
          have m0 := bq.cell 0
          have m1 := bq.cell 1
          have m2 := bq.cell 2
          have m3 := bq.cell 3
          have m4 := bq.cell 4
          have e0 := bq.frozen 0
          have e1 := bq.frozen 1
          have e2 := bq.frozen 2
          have e3 := bq.frozen 3
          have e4 := bq.frozen 4
          have zM := bq.lt
          simp only [List.getElem?_toArray, List.getElem?_cons_zero, List.getElem?_cons_succ] at m0 m1 m2 m3 m4
          clear bq
          go_upto_region 11 with (fail)
          clear q0 q1 q2 q3 q4 zX m0 m1 m2 m3 m4 e0 e1 e2 e3 e4 zM
          have uM3 := set5_one W3 (w.heap.size + 1) (.slice P3 p3.length pc3) (.int .i64 f3) (.int .i64 g3) (.int .i64 o3) (.slice T3 t3.length tc3)
          have HM4 := hide (set5 (y0 := .slice P3 p3.length pc3) (y1 := .int .i64 f3) (y2 := .int .i64 g3) (y3 := .int .i64 o3) (y4 := .slice T3 t3.length tc3) HM3.out)
          have HK4 := hide (HK3.out.upd uM3 (by omega))
          have HR4 := hide (HR3.out.upd uM3 (by omega))
          have N4 := hide (set5_new (y0 := .slice P3 p3.length pc3) (y1 := .int .i64 f3) (y2 := .int .i64 g3) (y3 := .int .i64 o3) (y4 := .slice T3 t3.length tc3) N3.out (Nat.le_succ w.heap.size))
          have Ok4 := hide (Ok3.out.store Fr3.out uM3 (fun k e => by subst e; omega))
          have Hp3 := hide (show p3.length ≤ 1000 from by have h := congrArg AtC.path Hc3.out; rw [show p3 = _ from h]; exact Htl.out.1)
          have Ht3 := hide (show t3.length ≤ 1000 from by have h := congrArg AtC.tags Hc3.out; rw [show t3 = _ from h]; exact Htl.out.2)
          rw [← Hc3.out] at HKX
          clear uM3
          generalize ((((W3.setCell ⟨w.heap.size + 1, 0, none⟩ (.slice P3 p3.length pc3)).setCell ⟨w.heap.size + 1, 1, none⟩ (.int .i64 f3)).setCell ⟨w.heap.size + 1, 2, none⟩ (.int .i64 g3)).setCell ⟨w.heap.size + 1, 3, none⟩ (.int .i64 o3)).setCell ⟨w.heap.size + 1, 4, none⟩ (.slice T3 t3.length tc3) = W4 at *
          have bq := HK4.out
          have k7 := bq.cell 7
          have k8 := bq.cell 8
          have k9 := bq.cell 9
          have k10 := bq.cell 10
          have zK := bq.lt
          simp only [List.getElem?_toArray, List.getElem?_cons_zero, List.getElem?_cons_succ] at k7 k8 k9 k10
          clear bq
          have bq := HM4.out
          have m0 := bq.cell 0
          have m1 := bq.cell 1
          have m2 := bq.cell 2
          have m3 := bq.cell 3
          have m4 := bq.cell 4
          have e0 := bq.frozen 0
          have e1 := bq.frozen 1
          have e2 := bq.frozen 2
          have e3 := bq.frozen 3
          have e4 := bq.frozen 4
          have zM := bq.lt
          simp only [List.getElem?_toArray, List.getElem?_cons_zero, List.getElem?_cons_succ] at m0 m1 m2 m3 m4
          clear bq
          have Hld := hide (lead_any ⟨P3, pc3, p3, f3, g3, o3, T3, tc3, t3⟩ s r.lead E W4 (H2.out.new N4.out) (H7.out.new N4.out) (H8.out.new N4.out) Ok4.out (by exact Hp3.out) (by exact Ht3.out))
          unfold AttrR.cells at Hld
          dsimp only at Hld
          go_wp2_with fail
          refine Hld.out.mono ?_
          rintro e w5 ⟨⟨P5, pc5, p5, f5, g5, o5, T5, tc5, t5⟩, rfl, hcon5, hok5, hfr5, hu5⟩
          dsimp only at hok5 hfr5 ⊢
          have HR5 := hide (HR4.out.new_ hu5)
          have N5 := hide (N4.out.trans_new hu5)
          have Hc5 := hide hcon5
          have Ok5 := hide hok5
          have Fr5 := hide hfr5
          clear hcon5 hok5 hfr5 hu5
          have bq := HR5.out
          have r0 := bq.cell 0
          have r1 := bq.cell 1
          have r2 := bq.cell 2
          have r3 := bq.cell 3
          have r4 := bq.cell 4
          have s0 := bq.frozen 0
          have s1 := bq.frozen 1
          have s2 := bq.frozen 2
          have s3 := bq.frozen 3
          have s4 := bq.frozen 4
          have zR5 := bq.lt
          simp only [List.getElem?_toArray, List.getElem?_cons_zero, List.getElem?_cons_succ] at r0 r1 r2 r3 r4
          clear bq
          go_wp2_with fail
          refine bodyPost_ret (attr_err_out Tryd.results90 rfl (set5 HR5.out)) rfl ?_
          have uF := set5_one w5 (w.heap.size + 1 + 1) (.slice P5 p5.length pc5) (.int .i64 f5) (.int .i64 g5) (.int .i64 o5) (.slice T5 t5.length tc5)
          have zRx := HR4.out.lt
          refine ⟨⟨P5, pc5, p5, f5, g5, o5, T5, tc5, t5⟩, ?_, ?_, Ok5.out.store Fr5.out uF (fun k e => by subst e; exact zRx), Fr5.out.low N4.out.size, N5.out.trans uF (fun q hq hx => absurd hx (by show ¬ q = w.heap.size + 1 + 1; omega))⟩
          · rw [HKX.out.1]; rfl
          · rw [HKX.out.2]; exact Hc5.out
        · have HKX := hide (mk_bad (s := s) h0 hk)
          have Hk0 := hide hk
          clear hk
          go_wp2_with fail
          refine Htg.out.mono ?_
          rintro e w3 ⟨⟨P3, pc3, p3, f3, g3, o3, T3, tc3, t3⟩, rfl, hcon3, hok3, hfr3, hu3⟩
          rw [errc_err E Hk0.out]
          have s3 := hu3.size
          have zz := N2.out.size
          have zMx := HM2.out.lt
          have zRx := HR2.out.lt
          have nX := (Upd.refl (fun _ => False) w3).alloc (.cells #[.slice P3 p3.length pc3, .int .i64 f3, .int .i64 g3, .int .i64 o3, .slice T3 t3.length tc3] TA)
          have U3 := hide (hu3.trans_new nX)
          have x1 : ¬ w.heap.size = w3.heap.size := by omega
          have x2 : ¬ w.heap.size + 1 = w3.heap.size := by omega
          have x3 : ¬ w.heap.size + 1 + 1 = w3.heap.size := by omega
          have x4 : ¬ w3.heap.size = w.heap.size := by omega
          have x5 : ¬ w3.heap.size = w.heap.size + 1 := by omega
          have x6 : ¬ w3.heap.size = w.heap.size + 1 + 1 := by omega
          clear hu3 hok3 hfr3 hcon3 nX k7 k8 k9 k10 zK m0 m1 m2 m3 m4 e0 e1 e2 e3 e4 zM
          go_upto_region 8 with (fail)
          generalize w3.alloc (.cells #[.slice P3 p3.length pc3, .int .i64 f3, .int .i64 g3, .int .i64 o3, .slice T3 t3.length tc3] TA) = W3 at *
          have HR3 := hide (HR2.out.new_ U3.out)
          have N3 := hide (N2.out.trans_new U3.out)
          have bq := HR3.out
          have r0 := bq.cell 0
          have r1 := bq.cell 1
          have r2 := bq.cell 2
          have r3 := bq.cell 3
          have r4 := bq.cell 4
          have s0 := bq.frozen 0
          have s1 := bq.frozen 1
          have s2 := bq.frozen 2
          have s3 := bq.frozen 3
          have s4 := bq.frozen 4
          have zR5 := bq.lt
          simp only [List.getElem?_toArray, List.getElem?_cons_zero, List.getElem?_cons_succ] at r0 r1 r2 r3 r4
          clear bq
          go_wp2_with fail
          refine bodyPost_ret (attr_err_out Tryd.results90 rfl (set5 HR3.out)) rfl ?_
          refine ⟨zeroR, ?_, ?_, zeroR_ok _, zeroR_fresh _, set5_new N3.out (by omega)⟩
          · rw [HKX.out.1, errc_err E Hk0.out]; rfl
          · rw [HKX.out.2]; rfl
      · have HKX := hide (mk_noadd (s := s) (c := x) h0)
        rw [← Hmk.out] at HKX
        have Hld := hide (lead_any ⟨P1, pc1, a.path, r.pref, a.med, a.origin, T1, tc1, a.tags⟩ s r.lead E W2 (H2.out.new N2.out) (H7.out.new N2.out) (H8.out.new N2.out) Ok2.out (by show a.path.length ≤ 1000; omega) (by show a.tags.length ≤ 1000; omega))
        unfold AttrR.cells at Hld
        dsimp only at Hld
        go_wp2_with fail
        refine Hld.out.mono ?_
        rintro e w5 ⟨⟨P5, pc5, p5, f5, g5, o5, T5, tc5, t5⟩, rfl, hcon5, hok5, hfr5, hu5⟩
        dsimp only at hok5 hfr5 ⊢
        have HR5 := hide (HR2.out.new_ hu5)
        have N5 := hide (N2.out.trans_new hu5)
        have Hc5 := hide hcon5
        have Ok5 := hide hok5
        have Fr5 := hide hfr5
        clear hcon5 hok5 hfr5 hu5
        have bq := HR5.out
        have r0 := bq.cell 0
        have r1 := bq.cell 1
        have r2 := bq.cell 2
        have r3 := bq.cell 3
        have r4 := bq.cell 4
        have s0 := bq.frozen 0
        have s1 := bq.frozen 1
        have s2 := bq.frozen 2
        have s3 := bq.frozen 3
        have s4 := bq.frozen 4
        have zR5 := bq.lt
        simp only [List.getElem?_toArray, List.getElem?_cons_zero, List.getElem?_cons_succ] at r0 r1 r2 r3 r4
        clear bq
        go_wp2_with fail
        refine bodyPost_ret (attr_err_out Tryd.results90 rfl (set5 HR5.out)) rfl ?_
        have uF := set5_one w5 (w.heap.size + 1 + 1) (.slice P5 p5.length pc5) (.int .i64 f5) (.int .i64 g5) (.int .i64 o5) (.slice T5 t5.length tc5)
        have zRx := HR2.out.lt
        refine ⟨⟨P5, pc5, p5, f5, g5, o5, T5, tc5, t5⟩, ?_, ?_, Ok5.out.store Fr5.out uF (fun k e => by subst e; exact zRx), Fr5.out.low N2.out.size, N5.out.trans uF (fun q hq hx => absurd hx (by show ¬ q = w.heap.size + 1 + 1; omega))⟩
        · rw [HKX.out.1]; rfl
        · rw [HKX.out.2]; exact Hc5.out
  · have hp0 : ¬ (0 : Int) ≤ r.pref := hp
    by_cases hm : 0 ≤ r.med
    · have hm0 : (0 : Int) ≤ r.med := hm
      have Hmk := hide (show AttrR.con ⟨P1, pc1, a.path, a.pref, r.med, a.origin, T1, tc1, a.tags⟩ = mk1 r x by rw [HX.out]; unfold mk1; rw [if_neg hp, if_pos hm]; rfl)
      go_upto_region 6 with (fail)
      have uM := (Upd.refl (fun b => b = w.heap.size + 1) W1).setCell (p := ⟨w.heap.size + 1, 2, none⟩) (.inl rfl) (.int .i64 r.med)
      have HM2 := hide (show Blk (W1.setCell ⟨w.heap.size + 1, 2, none⟩ (.int .i64 r.med)) (w.heap.size + 1) TA #[.slice P1 a.path.length pc1, .int .i64 a.pref, .int .i64 r.med, .int .i64 a.origin, .slice T1 a.tags.length tc1] by have := (HM1.out.set_ 2 (.int .i64 r.med)); simpa using this)
      have HK2 := hide (HK1.out.upd uM (by omega))
      have HR2 := hide (HR1.out.upd uM (by omega))
      have N2 := hide ((N1.out).setCell (p := ⟨w.heap.size + 1, 2, none⟩) (.inr (Nat.le_succ _)) (.int .i64 r.med))
      have Ok2 := hide (show AttrOk (W1.setCell ⟨w.heap.size + 1, 2, none⟩ (.int .i64 r.med)) ⟨P1, pc1, a.path, a.pref, r.med, a.origin, T1, tc1, a.tags⟩ from have q := Ok1.out.store Fr1.out uM (fun k e => by subst e; omega); ⟨q.path, q.tags, q.pl, q.tl⟩)
      clear uM k7 k8 k9 k10 zK m0 m1 m2 m3 m4 e0 e1 e2 e3 e4 zM
      generalize W1.setCell ⟨w.heap.size + 1, 2, none⟩ (.int .i64 r.med) = W2 at *
      have bq := HK2.out
      have k7 := bq.cell 7
      have k8 := bq.cell 8
      have k9 := bq.cell 9
      have k10 := bq.cell 10
      have zK := bq.lt
      simp only [List.getElem?_toArray, List.getElem?_cons_zero, List.getElem?_cons_succ] at k7 k8 k9 k10
      clear bq
      have bq := HM2.out
      have m0 := bq.cell 0
      have m1 := bq.cell 1
      have m2 := bq.cell 2
      have m3 := bq.cell 3
      have m4 := bq.cell 4
      have e0 := bq.frozen 0
      have e1 := bq.frozen 1
      have e2 := bq.frozen 2
      have e3 := bq.frozen 3
      have e4 := bq.frozen 4
      have zM := bq.lt
      simp only [List.getElem?_toArray, List.getElem?_cons_zero, List.getElem?_cons_succ] at m0 m1 m2 m3 m4
      clear bq
      by_cases h0 : 0 < r.add
      · have h00 : (0 : Int) < r.add := h0
        have Htg := hide (tag_any ⟨P1, pc1, a.path, a.pref, r.med, a.origin, T1, tc1, a.tags⟩ r.add E W2 (H2.out.new N2.out) (H7.out.new N2.out) (H8.out.new N2.out) Ok2.out (by show a.path.length ≤ 1000; omega) (by show a.tags.length ≤ 1000; omega))
        rw [Hmk.out] at Htg
        unfold AttrR.cells at Htg
        dsimp only at Htg
        have Htl := hide (tagX_len (x := mk1 r x) (t := r.add) (by rw [← Hmk.out]; exact hl) (by rw [← Hmk.out]; exact hl2))
        by_cases hk : tagK (mk1 r x) r.add = 0
        · have HKX := hide (mk_add (s := s) h0 hk)
          have Hk0 := hide hk
          clear hk
          go_wp2_with fail
          refine Htg.out.mono ?_
          rintro e w3 ⟨⟨P3, pc3, p3, f3, g3, o3, T3, tc3, t3⟩, rfl, hcon3, hok3, hfr3, hu3⟩
          rw [Hk0.out, errc_nil]
          dsimp only at hok3 hfr3 ⊢
          obtain ⟨X, hX⟩ : ∃ X, X = w3.heap.size := ⟨_, rfl⟩
          have s3 := hu3.size
          have zz := N2.out.size
          have zMx := HM2.out.lt
          have zRx := HR2.out.lt
          have nX := (Upd.refl (fun _ => False) w3).alloc (.cells #[.slice P3 p3.length pc3, .int .i64 f3, .int .i64 g3, .int .i64 o3, .slice T3 t3.length tc3] TA)
          have bX := Blk.new w3 TA #[.slice P3 p3.length pc3, .int .i64 f3, .int .i64 g3, .int .i64 o3, .slice T3 t3.length tc3]
          have HX3 := hide bX
          have U3 := hide (hu3.trans_new nX)
          have Ok3 := hide (hok3.new_ nX)
          have Fr3 := hide hfr3
          have Hc3 := hide hcon3
          have x1 : ¬ w.heap.size = w3.heap.size := by omega
          have x2 : ¬ w.heap.size + 1 = w3.heap.size := by omega
          have x3 : ¬ w.heap.size + 1 + 1 = w3.heap.size := by omega
          have x4 : ¬ w3.heap.size = w.heap.size := by omega
          have x5 : ¬ w3.heap.size = w.heap.size + 1 := by omega
          have x6 : ¬ w3.heap.size = w.heap.size + 1 + 1 := by omega
          clear hu3 hok3 hfr3 hcon3 nX bX k7 k8 k9 k10 zK m0 m1 m2 m3 m4 e0 e1 e2 e3 e4 zM
          go_upto_region 8 with (fail)
          generalize w3.alloc (.cells #[.slice P3 p3.length pc3, .int .i64 f3, .int .i64 g3, .int .i64 o3, .slice T3 t3.length tc3] TA) = W3 at *
          have HM3 := hide (HM2.out.new_ U3.out)
          have HK3 := hide (HK2.out.new_ U3.out)
          have HR3 := hide (HR2.out.new_ U3.out)
          have N3 := hide (N2.out.trans_new U3.out)
          have bq := HX3.out
          have q0 := bq.cell 0
          have q1 := bq.cell 1
          have q2 := bq.cell 2
          have q3 := bq.cell 3
          have q4 := bq.cell 4
          have zX := bq.lt
          simp only [List.getElem?_toArray, List.getElem?_cons_zero, List.getElem?_cons_succ] at q0 q1 q2 q3 q4
          clear bq
          have bq := HM3.out
          have m0 := bq.cell 0
          have m1 := bq.cell 1
          have m2 := bq.cell 2
          have m3 := bq.cell 3
          have m4 := bq.cell 4
          have e0 := bq.frozen 0
          have e1 := bq.frozen 1
          have e2 := bq.frozen 2
          have e3 := bq.frozen 3
          have e4 := bq.frozen 4
          have zM := bq.lt
          simp only [List.getElem?_toArray, List.getElem?_cons_zero, List.getElem?_cons_succ] at m0 m1 m2 m3 m4
          clear bq
          go_upto_region 11 with (fail)
          clear q0 q1 q2 q3 q4 zX m0 m1 m2 m3 m4 e0 e1 e2 e3 e4 zM
          have uM3 := set5_one W3 (w.heap.size + 1) (.slice P3 p3.length pc3) (.int .i64 f3) (.int .i64 g3) (.int .i64 o3) (.slice T3 t3.length tc3)
          have HM4 := hide (set5 (y0 := .slice P3 p3.length pc3) (y1 := .int .i64 f3) (y2 := .int .i64 g3) (y3 := .int .i64 o3) (y4 := .slice T3 t3.length tc3) HM3.out)
          have HK4 := hide (HK3.out.upd uM3 (by omega))
          have HR4 := hide (HR3.out.upd uM3 (by omega))
          have N4 := hide (set5_new (y0 := .slice P3 p3.length pc3) (y1 := .int .i64 f3) (y2 := .int .i64 g3) (y3 := .int .i64 o3) (y4 := .slice T3 t3.length tc3) N3.out (Nat.le_succ w.heap.size))
          have Ok4 := hide (Ok3.out.store Fr3.out uM3 (fun k e => by subst e; omega))
          have Hp3 := hide (show p3.length ≤ 1000 from by have h := congrArg AtC.path Hc3.out; rw [show p3 = _ from h]; exact Htl.out.1)
          have Ht3 := hide (show t3.length ≤ 1000 from by have h := congrArg AtC.tags Hc3.out; rw [show t3 = _ from h]; exact Htl.out.2)
          rw [← Hc3.out] at HKX
          clear uM3
          generalize ((((W3.setCell ⟨w.heap.size + 1, 0, none⟩ (.slice P3 p3.length pc3)).setCell ⟨w.heap.size + 1, 1, none⟩ (.int .i64 f3)).setCell ⟨w.heap.size + 1, 2, none⟩ (.int .i64 g3)).setCell ⟨w.heap.size + 1, 3, none⟩ (.int .i64 o3)).setCell ⟨w.heap.size + 1, 4, none⟩ (.slice T3 t3.length tc3) = W4 at *
          have bq := HK4.out
          have k7 := bq.cell 7
          have k8 := bq.cell 8
          have k9 := bq.cell 9
          have k10 := bq.cell 10
          have zK := bq.lt
          simp only [List.getElem?_toArray, List.getElem?_cons_zero, List.getElem?_cons_succ] at k7 k8 k9 k10
          clear bq
          have bq := HM4.out
          have m0 := bq.cell 0
          have m1 := bq.cell 1
          have m2 := bq.cell 2
          have m3 := bq.cell 3
          have m4 := bq.cell 4
          have e0 := bq.frozen 0
          have e1 := bq.frozen 1
          have e2 := bq.frozen 2
          have e3 := bq.frozen 3
          have e4 := bq.frozen 4
          have zM := bq.lt
          simp only [List.getElem?_toArray, List.getElem?_cons_zero, List.getElem?_cons_succ] at m0 m1 m2 m3 m4
          clear bq
          have Hld := hide (lead_any ⟨P3, pc3, p3, f3, g3, o3, T3, tc3, t3⟩ s r.lead E W4 (H2.out.new N4.out) (H7.out.new N4.out) (H8.out.new N4.out) Ok4.out (by exact Hp3.out) (by exact Ht3.out))
          unfold AttrR.cells at Hld
          dsimp only at Hld
          go_wp2_with fail
          refine Hld.out.mono ?_
          rintro e w5 ⟨⟨P5, pc5, p5, f5, g5, o5, T5, tc5, t5⟩, rfl, hcon5, hok5, hfr5, hu5⟩
          dsimp only at hok5 hfr5 ⊢
          have HR5 := hide (HR4.out.new_ hu5)
          have N5 := hide (N4.out.trans_new hu5)
          have Hc5 := hide hcon5
          have Ok5 := hide hok5
          have Fr5 := hide hfr5
          clear hcon5 hok5 hfr5 hu5
          have bq := HR5.out
          have r0 := bq.cell 0
          have r1 := bq.cell 1
          have r2 := bq.cell 2
          have r3 := bq.cell 3
          have r4 := bq.cell 4
          have s0 := bq.frozen 0
          have s1 := bq.frozen 1
          have s2 := bq.frozen 2
          have s3 := bq.frozen 3
          have s4 := bq.frozen 4
          have zR5 := bq.lt
          simp only [List.getElem?_toArray, List.getElem?_cons_zero, List.getElem?_cons_succ] at r0 r1 r2 r3 r4
          clear bq
          go_wp2_with fail
          refine bodyPost_ret (attr_err_out Tryd.results90 rfl (set5 HR5.out)) rfl ?_
          have uF := set5_one w5 (w.heap.size + 1 + 1) (.slice P5 p5.length pc5) (.int .i64 f5) (.int .i64 g5) (.int .i64 o5) (.slice T5 t5.length tc5)
          have zRx := HR4.out.lt
          refine ⟨⟨P5, pc5, p5, f5, g5, o5, T5, tc5, t5⟩, ?_, ?_, Ok5.out.store Fr5.out uF (fun k e => by subst e; exact zRx), Fr5.out.low N4.out.size, N5.out.trans uF (fun q hq hx => absurd hx (by show ¬ q = w.heap.size + 1 + 1; omega))⟩
          · rw [HKX.out.1]; rfl
          · rw [HKX.out.2]; exact Hc5.out
        · have HKX := hide (mk_bad (s := s) h0 hk)
          have Hk0 := hide hk
          clear hk
          go_wp2_with fail
          refine Htg.out.mono ?_
          rintro e w3 ⟨⟨P3, pc3, p3, f3, g3, o3, T3, tc3, t3⟩, rfl, hcon3, hok3, hfr3, hu3⟩
          rw [errc_err E Hk0.out]
          have s3 := hu3.size
          have zz := N2.out.size
          have zMx := HM2.out.lt
          have zRx := HR2.out.lt
          have nX := (Upd.refl (fun _ => False) w3).alloc (.cells #[.slice P3 p3.length pc3, .int .i64 f3, .int .i64 g3, .int .i64 o3, .slice T3 t3.length tc3] TA)
          have U3 := hide (hu3.trans_new nX)
          have x1 : ¬ w.heap.size = w3.heap.size := by omega
          have x2 : ¬ w.heap.size + 1 = w3.heap.size := by omega
          have x3 : ¬ w.heap.size + 1 + 1 = w3.heap.size := by omega
          have x4 : ¬ w3.heap.size = w.heap.size := by omega
          have x5 : ¬ w3.heap.size = w.heap.size + 1 := by omega
          have x6 : ¬ w3.heap.size = w.heap.size + 1 + 1 := by omega
          clear hu3 hok3 hfr3 hcon3 nX k7 k8 k9 k10 zK m0 m1 m2 m3 m4 e0 e1 e2 e3 e4 zM
          go_upto_region 8 with (fail)
          generalize w3.alloc (.cells #[.slice P3 p3.length pc3, .int .i64 f3, .int .i64 g3, .int .i64 o3, .slice T3 t3.length tc3] TA) = W3 at *
          have HR3 := hide (HR2.out.new_ U3.out)
          have N3 := hide (N2.out.trans_new U3.out)
          have bq := HR3.out
          have r0 := bq.cell 0
          have r1 := bq.cell 1
          have r2 := bq.cell 2
          have r3 := bq.cell 3
          have r4 := bq.cell 4
          have s0 := bq.frozen 0
          have s1 := bq.frozen 1
          have s2 := bq.frozen 2
          have s3 := bq.frozen 3
          have s4 := bq.frozen 4
          have zR5 := bq.lt
          simp only [List.getElem?_toArray, List.getElem?_cons_zero, List.getElem?_cons_succ] at r0 r1 r2 r3 r4
          clear bq
          go_wp2_with fail
          refine bodyPost_ret (attr_err_out Tryd.results90 rfl (set5 HR3.out)) rfl ?_
          refine ⟨zeroR, ?_, ?_, zeroR_ok _, zeroR_fresh _, set5_new N3.out (by omega)⟩
          · rw [HKX.out.1, errc_err E Hk0.out]; rfl
          · rw [HKX.out.2]; rfl
      · have HKX := hide (mk_noadd (s := s) (c := x) h0)
        rw [← Hmk.out] at HKX
        have Hld := hide (lead_any ⟨P1, pc1, a.path, a.pref, r.med, a.origin, T1, tc1, a.tags⟩ s r.lead E W2 (H2.out.new N2.out) (H7.out.new N2.out) (H8.out.new N2.out) Ok2.out (by show a.path.length ≤ 1000; omega) (by show a.tags.length ≤ 1000; omega))
        unfold AttrR.cells at Hld
        dsimp only at Hld
        go_wp2_with fail
        refine Hld.out.mono ?_
        rintro e w5 ⟨⟨P5, pc5, p5, f5, g5, o5, T5, tc5, t5⟩, rfl, hcon5, hok5, hfr5, hu5⟩
        dsimp only at hok5 hfr5 ⊢
        have HR5 := hide (HR2.out.new_ hu5)
        have N5 := hide (N2.out.trans_new hu5)
        have Hc5 := hide hcon5
        have Ok5 := hide hok5
        have Fr5 := hide hfr5
        clear hcon5 hok5 hfr5 hu5
        have bq := HR5.out
        have r0 := bq.cell 0
        have r1 := bq.cell 1
        have r2 := bq.cell 2
        have r3 := bq.cell 3
        have r4 := bq.cell 4
        have s0 := bq.frozen 0
        have s1 := bq.frozen 1
        have s2 := bq.frozen 2
        have s3 := bq.frozen 3
        have s4 := bq.frozen 4
        have zR5 := bq.lt
        simp only [List.getElem?_toArray, List.getElem?_cons_zero, List.getElem?_cons_succ] at r0 r1 r2 r3 r4
        clear bq
        go_wp2_with fail
        refine bodyPost_ret (attr_err_out Tryd.results90 rfl (set5 HR5.out)) rfl ?_
        have uF := set5_one w5 (w.heap.size + 1 + 1) (.slice P5 p5.length pc5) (.int .i64 f5) (.int .i64 g5) (.int .i64 o5) (.slice T5 t5.length tc5)
        have zRx := HR2.out.lt
        refine ⟨⟨P5, pc5, p5, f5, g5, o5, T5, tc5, t5⟩, ?_, ?_, Ok5.out.store Fr5.out uF (fun k e => by subst e; exact zRx), Fr5.out.low N2.out.size, N5.out.trans uF (fun q hq hx => absurd hx (by show ¬ q = w.heap.size + 1 + 1; omega))⟩
        · rw [HKX.out.1]; rfl
        · rw [HKX.out.2]; exact Hc5.out
    · have hm0 : ¬ (0 : Int) ≤ r.med := hm
      have Hmk := hide (show AttrR.con ⟨P1, pc1, a.path, a.pref, a.med, a.origin, T1, tc1, a.tags⟩ = mk1 r x by rw [HX.out]; unfold mk1; rw [if_neg hp, if_neg hm]; rfl)
      go_upto_region 6 with (fail)
      by_cases h0 : 0 < r.add
      · have h00 : (0 : Int) < r.add := h0
        have Htg := hide (tag_any ⟨P1, pc1, a.path, a.pref, a.med, a.origin, T1, tc1, a.tags⟩ r.add E W1 (H2.out.new N1.out) (H7.out.new N1.out) (H8.out.new N1.out) Ok1.out (by show a.path.length ≤ 1000; omega) (by show a.tags.length ≤ 1000; omega))
        rw [Hmk.out] at Htg
        unfold AttrR.cells at Htg
        dsimp only at Htg
        have Htl := hide (tagX_len (x := mk1 r x) (t := r.add) (by rw [← Hmk.out]; exact hl) (by rw [← Hmk.out]; exact hl2))
        by_cases hk : tagK (mk1 r x) r.add = 0
        · have HKX := hide (mk_add (s := s) h0 hk)
          have Hk0 := hide hk
          clear hk
          go_wp2_with fail
          refine Htg.out.mono ?_
          rintro e w3 ⟨⟨P3, pc3, p3, f3, g3, o3, T3, tc3, t3⟩, rfl, hcon3, hok3, hfr3, hu3⟩
          rw [Hk0.out, errc_nil]
          dsimp only at hok3 hfr3 ⊢
          obtain ⟨X, hX⟩ : ∃ X, X = w3.heap.size := ⟨_, rfl⟩
          have s3 := hu3.size
          have zz := N1.out.size
          have zMx := HM1.out.lt
          have zRx := HR1.out.lt
          have nX := (Upd.refl (fun _ => False) w3).alloc (.cells #[.slice P3 p3.length pc3, .int .i64 f3, .int .i64 g3, .int .i64 o3, .slice T3 t3.length tc3] TA)
          have bX := Blk.new w3 TA #[.slice P3 p3.length pc3, .int .i64 f3, .int .i64 g3, .int .i64 o3, .slice T3 t3.length tc3]
          have HX3 := hide bX
          have U3 := hide (hu3.trans_new nX)
          have Ok3 := hide (hok3.new_ nX)
          have Fr3 := hide hfr3
          have Hc3 := hide hcon3
          have x1 : ¬ w.heap.size = w3.heap.size := by omega
          have x2 : ¬ w.heap.size + 1 = w3.heap.size := by omega
          have x3 : ¬ w.heap.size + 1 + 1 = w3.heap.size := by omega
          have x4 : ¬ w3.heap.size = w.heap.size := by omega
          have x5 : ¬ w3.heap.size = w.heap.size + 1 := by omega
          have x6 : ¬ w3.heap.size = w.heap.size + 1 + 1 := by omega
          clear hu3 hok3 hfr3 hcon3 nX bX k7 k8 k9 k10 zK m0 m1 m2 m3 m4 e0 e1 e2 e3 e4 zM
          go_upto_region 8 with (fail)
          generalize w3.alloc (.cells #[.slice P3 p3.length pc3, .int .i64 f3, .int .i64 g3, .int .i64 o3, .slice T3 t3.length tc3] TA) = W3 at *
          have HM3 := hide (HM1.out.new_ U3.out)
          have HK3 := hide (HK1.out.new_ U3.out)
          have HR3 := hide (HR1.out.new_ U3.out)
          have N3 := hide (N1.out.trans_new U3.out)
          have bq := HX3.out
          have q0 := bq.cell 0
          have q1 := bq.cell 1
          have q2 := bq.cell 2
          have q3 := bq.cell 3
          have q4 := bq.cell 4
          have zX := bq.lt
          simp only [List.getElem?_toArray, List.getElem?_cons_zero, List.getElem?_cons_succ] at q0 q1 q2 q3 q4
          clear bq
          have bq := HM3.out
          have m0 := bq.cell 0
          have m1 := bq.cell 1
          have m2 := bq.cell 2
          have m3 := bq.cell 3
          have m4 := bq.cell 4
          have e0 := bq.frozen 0
          have e1 := bq.frozen 1
          have e2 := bq.frozen 2
          have e3 := bq.frozen 3
          have e4 := bq.frozen 4
          have zM := bq.lt
          simp only [List.getElem?_toArray, List.getElem?_cons_zero, List.getElem?_cons_succ] at m0 m1 m2 m3 m4
          clear bq
          go_upto_region 11 with (fail)
          clear q0 q1 q2 q3 q4 zX m0 m1 m2 m3 m4 e0 e1 e2 e3 e4 zM
          have uM3 := set5_one W3 (w.heap.size + 1) (.slice P3 p3.length pc3) (.int .i64 f3) (.int .i64 g3) (.int .i64 o3) (.slice T3 t3.length tc3)
          have HM4 := hide (set5 (y0 := .slice P3 p3.length pc3) (y1 := .int .i64 f3) (y2 := .int .i64 g3) (y3 := .int .i64 o3) (y4 := .slice T3 t3.length tc3) HM3.out)
          have HK4 := hide (HK3.out.upd uM3 (by omega))
          have HR4 := hide (HR3.out.upd uM3 (by omega))
          have N4 := hide (set5_new (y0 := .slice P3 p3.length pc3) (y1 := .int .i64 f3) (y2 := .int .i64 g3) (y3 := .int .i64 o3) (y4 := .slice T3 t3.length tc3) N3.out (Nat.le_succ w.heap.size))
          have Ok4 := hide (Ok3.out.store Fr3.out uM3 (fun k e => by subst e; omega))
          have Hp3 := hide (show p3.length ≤ 1000 from by have h := congrArg AtC.path Hc3.out; rw [show p3 = _ from h]; exact Htl.out.1)
          have Ht3 := hide (show t3.length ≤ 1000 from by have h := congrArg AtC.tags Hc3.out; rw [show t3 = _ from h]; exact Htl.out.2)
          rw [← Hc3.out] at HKX
          clear uM3
          generalize ((((W3.setCell ⟨w.heap.size + 1, 0, none⟩ (.slice P3 p3.length pc3)).setCell ⟨w.heap.size + 1, 1, none⟩ (.int .i64 f3)).setCell ⟨w.heap.size + 1, 2, none⟩ (.int .i64 g3)).setCell ⟨w.heap.size + 1, 3, none⟩ (.int .i64 o3)).setCell ⟨w.heap.size + 1, 4, none⟩ (.slice T3 t3.length tc3) = W4 at *
          have bq := HK4.out
          have k7 := bq.cell 7
          have k8 := bq.cell 8
          have k9 := bq.cell 9
          have k10 := bq.cell 10
          have zK := bq.lt
          simp only [List.getElem?_toArray, List.getElem?_cons_zero, List.getElem?_cons_succ] at k7 k8 k9 k10
          clear bq
          have bq := HM4.out
          have m0 := bq.cell 0
          have m1 := bq.cell 1
          have m2 := bq.cell 2
          have m3 := bq.cell 3
          have m4 := bq.cell 4
          have e0 := bq.frozen 0
          have e1 := bq.frozen 1
          have e2 := bq.frozen 2
          have e3 := bq.frozen 3
          have e4 := bq.frozen 4
          have zM := bq.lt
          simp only [List.getElem?_toArray, List.getElem?_cons_zero, List.getElem?_cons_succ] at m0 m1 m2 m3 m4
          clear bq
          have Hld := hide (lead_any ⟨P3, pc3, p3, f3, g3, o3, T3, tc3, t3⟩ s r.lead E W4 (H2.out.new N4.out) (H7.out.new N4.out) (H8.out.new N4.out) Ok4.out (by exact Hp3.out) (by exact Ht3.out))
          unfold AttrR.cells at Hld
          dsimp only at Hld
          go_wp2_with fail
          refine Hld.out.mono ?_
          rintro e w5 ⟨⟨P5, pc5, p5, f5, g5, o5, T5, tc5, t5⟩, rfl, hcon5, hok5, hfr5, hu5⟩
          dsimp only at hok5 hfr5 ⊢
          have HR5 := hide (HR4.out.new_ hu5)
          have N5 := hide (N4.out.trans_new hu5)
          have Hc5 := hide hcon5
          have Ok5 := hide hok5
          have Fr5 := hide hfr5
          clear hcon5 hok5 hfr5 hu5
          have bq := HR5.out
          have r0 := bq.cell 0
          have r1 := bq.cell 1
          have r2 := bq.cell 2
          have r3 := bq.cell 3
          have r4 := bq.cell 4
          have s0 := bq.frozen 0
          have s1 := bq.frozen 1
          have s2 := bq.frozen 2
          have s3 := bq.frozen 3
          have s4 := bq.frozen 4
          have zR5 := bq.lt
          simp only [List.getElem?_toArray, List.getElem?_cons_zero, List.getElem?_cons_succ] at r0 r1 r2 r3 r4
          clear bq
          go_wp2_with fail
          refine bodyPost_ret (attr_err_out Tryd.results90 rfl (set5 HR5.out)) rfl ?_
          have uF := set5_one w5 (w.heap.size + 1 + 1) (.slice P5 p5.length pc5) (.int .i64 f5) (.int .i64 g5) (.int .i64 o5) (.slice T5 t5.length tc5)
          have zRx := HR4.out.lt
          refine ⟨⟨P5, pc5, p5, f5, g5, o5, T5, tc5, t5⟩, ?_, ?_, Ok5.out.store Fr5.out uF (fun k e => by subst e; exact zRx), Fr5.out.low N4.out.size, N5.out.trans uF (fun q hq hx => absurd hx (by show ¬ q = w.heap.size + 1 + 1; omega))⟩
          · rw [HKX.out.1]; rfl
          · rw [HKX.out.2]; exact Hc5.out
        · have HKX := hide (mk_bad (s := s) h0 hk)
          have Hk0 := hide hk
          clear hk
          go_wp2_with fail
          refine Htg.out.mono ?_
          rintro e w3 ⟨⟨P3, pc3, p3, f3, g3, o3, T3, tc3, t3⟩, rfl, hcon3, hok3, hfr3, hu3⟩
          rw [errc_err E Hk0.out]
          have s3 := hu3.size
          have zz := N1.out.size
          have zMx := HM1.out.lt
          have zRx := HR1.out.lt
          have nX := (Upd.refl (fun _ => False) w3).alloc (.cells #[.slice P3 p3.length pc3, .int .i64 f3, .int .i64 g3, .int .i64 o3, .slice T3 t3.length tc3] TA)
          have U3 := hide (hu3.trans_new nX)
          have x1 : ¬ w.heap.size = w3.heap.size := by omega
          have x2 : ¬ w.heap.size + 1 = w3.heap.size := by omega
          have x3 : ¬ w.heap.size + 1 + 1 = w3.heap.size := by omega
          have x4 : ¬ w3.heap.size = w.heap.size := by omega
          have x5 : ¬ w3.heap.size = w.heap.size + 1 := by omega
          have x6 : ¬ w3.heap.size = w.heap.size + 1 + 1 := by omega
          clear hu3 hok3 hfr3 hcon3 nX k7 k8 k9 k10 zK m0 m1 m2 m3 m4 e0 e1 e2 e3 e4 zM
          go_upto_region 8 with (fail)
          generalize w3.alloc (.cells #[.slice P3 p3.length pc3, .int .i64 f3, .int .i64 g3, .int .i64 o3, .slice T3 t3.length tc3] TA) = W3 at *
          have HR3 := hide (HR1.out.new_ U3.out)
          have N3 := hide (N1.out.trans_new U3.out)
          have bq := HR3.out
          have r0 := bq.cell 0
          have r1 := bq.cell 1
          have r2 := bq.cell 2
          have r3 := bq.cell 3
          have r4 := bq.cell 4
          have s0 := bq.frozen 0
          have s1 := bq.frozen 1
          have s2 := bq.frozen 2
          have s3 := bq.frozen 3
          have s4 := bq.frozen 4
          have zR5 := bq.lt
          simp only [List.getElem?_toArray, List.getElem?_cons_zero, List.getElem?_cons_succ] at r0 r1 r2 r3 r4
          clear bq
          go_wp2_with fail
          refine bodyPost_ret (attr_err_out Tryd.results90 rfl (set5 HR3.out)) rfl ?_
          refine ⟨zeroR, ?_, ?_, zeroR_ok _, zeroR_fresh _, set5_new N3.out (by omega)⟩
          · rw [HKX.out.1, errc_err E Hk0.out]; rfl
          · rw [HKX.out.2]; rfl
      · have HKX := hide (mk_noadd (s := s) (c := x) h0)
        rw [← Hmk.out] at HKX
        have Hld := hide (lead_any ⟨P1, pc1, a.path, a.pref, a.med, a.origin, T1, tc1, a.tags⟩ s r.lead E W1 (H2.out.new N1.out) (H7.out.new N1.out) (H8.out.new N1.out) Ok1.out (by show a.path.length ≤ 1000; omega) (by show a.tags.length ≤ 1000; omega))
        unfold AttrR.cells at Hld
        dsimp only at Hld
        go_wp2_with fail
        refine Hld.out.mono ?_
        rintro e w5 ⟨⟨P5, pc5, p5, f5, g5, o5, T5, tc5, t5⟩, rfl, hcon5, hok5, hfr5, hu5⟩
        dsimp only at hok5 hfr5 ⊢
        have HR5 := hide (HR1.out.new_ hu5)
        have N5 := hide (N1.out.trans_new hu5)
        have Hc5 := hide hcon5
        have Ok5 := hide hok5
        have Fr5 := hide hfr5
        clear hcon5 hok5 hfr5 hu5
        have bq := HR5.out
        have r0 := bq.cell 0
        have r1 := bq.cell 1
        have r2 := bq.cell 2
        have r3 := bq.cell 3
        have r4 := bq.cell 4
        have s0 := bq.frozen 0
        have s1 := bq.frozen 1
        have s2 := bq.frozen 2
        have s3 := bq.frozen 3
        have s4 := bq.frozen 4
        have zR5 := bq.lt
        simp only [List.getElem?_toArray, List.getElem?_cons_zero, List.getElem?_cons_succ] at r0 r1 r2 r3 r4
        clear bq
        go_wp2_with fail
        refine bodyPost_ret (attr_err_out Tryd.results90 rfl (set5 HR5.out)) rfl ?_
        have uF := set5_one w5 (w.heap.size + 1 + 1) (.slice P5 p5.length pc5) (.int .i64 f5) (.int .i64 g5) (.int .i64 o5) (.slice T5 t5.length tc5)
        have zRx := HR1.out.lt
        refine ⟨⟨P5, pc5, p5, f5, g5, o5, T5, tc5, t5⟩, ?_, ?_, Ok5.out.store Fr5.out uF (fun k e => by subst e; exact zRx), Fr5.out.low N1.out.size, N5.out.trans uF (fun q hq hx => absurd hx (by show ¬ q = w.heap.size + 1 + 1; omega))⟩
        · rw [HKX.out.1]; rfl
        · rw [HKX.out.2]; exact Hc5.out
end Go.Proofs.YtkljanjapcpbdaaDoor
