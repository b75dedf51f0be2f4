/- The law AttrBack: its walk. No condition but those that stand in each theorem. -/
import Derived.Test.YtignngpligicjaaDoorAt6
import Derived.Test.YtignngpligicjaaDoorRuC
import Derived.Test.YtignngpligicjaaDoorInI
namespace Go.Proofs.YtignngpligicjaaDoor
open Go.RowKit

theorem attrT_len (a : AttrR) : (attrT a).length ≤ 1000 := by
  unfold attrT
  split
  · rename_i h
    have g := attrC_good h
    have q1 := joinT_len (c := 45) (l := a.path) (fun x hx => by have := g.path x hx; omega)
    have q2 := joinT_len (c := 32) (l := [a.pref, a.med, a.origin]) (fun x hx => by
      have a1 := g.pref; have a2 := g.med; have a3 := g.origin
      simp only [List.mem_cons, List.not_mem_nil, or_false] at hx
      rcases hx with rfl | rfl | rfl <;> omega)
    have q3 := joinT_len (c := 44) (l := a.tags) (fun x hx => by have := g.tags x hx; omega)
    have j1 := g.pl
    have j2 := g.tl
    unfold attrW
    rw [List.length_append, List.length_cons, List.length_append, List.length_cons]
    rw [List.length_cons, List.length_cons, List.length_cons, List.length_nil] at q2
    omega
  · simp
theorem errc_some (E : Nat → Addr) {c : Nat} (h : c ≠ 0) : errc E c = .iface TES (.pointer (some (E c))) := errc_err E h
theorem ints_from {w : World} {b o : Nat} {xs : List Int} (h : Ints w (some ⟨b, o, none⟩) xs) (k : Nat) : Ints w (some ⟨b, o + k, none⟩) (xs.drop k) := fun h0 => by
  have hlt : 0 < xs.length := by rw [List.length_drop] at h0; omega
  obtain ⟨b', o', e, hb, hc⟩ := h hlt
  injection e with e
  injection e with e1 e2 _
  subst e1; subst e2
  refine ⟨b, o + k, rfl, hb, fun i x hx => ?_⟩
  rw [List.getElem?_drop] at hx
  rw [Nat.add_assoc]
  exact hc (k + i) x hx

theorem ints_cut {w : World} {A : Option Addr} {cap k : Nat} {xs : List Int} (h : Ints w A xs) (hc : xs.length ≤ cap) : Ints w (if cap = k then A else Option.map (fun x => x.add k) A) (xs.drop k) := fun h0 => by
  have hlt : k < xs.length := by rw [List.length_drop] at h0; omega
  rw [if_neg (by omega)]
  obtain ⟨b, o, rfl, _⟩ := h (by omega)
  have e : Option.map (fun x : Addr => x.add k) (some ⟨b, o, none⟩) = some ⟨b, o + k, none⟩ := by
    show some ((⟨b, o, none⟩ : Addr).add k) = _
    unfold Addr.add
    split
    · rename_i hz; subst hz; rfl
    · rfl
  rw [e]
  exact ints_from h k h0

set_option maxRecDepth 30000 in
set_option maxHeartbeats 8000000 in
theorem attrBack_any (a : AttrR) (s n t : Int) (E : Nat → Addr) (w : World) (ht : TxtOk w) (h1 : Sen w gText1 (E 1)) (h2 : Sen w gBound (E 2)) (h7 : Sen w gFull_ (E 7)) (h8 : Sen w gOrder (E 8)) (ha : AttrOk w a) :
    Calls Tryd.prog 5 #[.agg a.cells, .int .i64 s, .int .i64 n, .int .i64 t] w fun e w1 => e = .returned (.bool true) ∧ New w w1 := by
  have u := (Upd.refl (fun _ => False) w).alloc (.cells a.cells TA)
  have HT := hide (ht.new u)
  have H1 := hide (h1.new u)
  have H2 := hide (h2.new u)
  have H7 := hide (h7.new u)
  have H8 := hide (h8.new u)
  have HA := hide (ha.new_ u)
  have HX := hide (Blk.new w TA a.cells)
  have N := hide u
  have M := hide (Upd.refl (fun _ => False) (w.alloc (.cells a.cells TA)))
  clear ht h1 h2 h7 h8 ha u
  have hac : a.cells = #[.slice a.P a.path.length a.pc, .int .i64 a.pref, .int .i64 a.med, .int .i64 a.origin, .slice a.T a.tags.length a.tc] := rfl
  rw [hac] at HX HT H1 H2 H7 H8 HA N M ⊢
  clear hac
  go_enter Tryd.func5, Tryd.ntmps5
  go_upto_region 1 with (fail)
  generalize w.alloc (.cells #[.slice a.P a.path.length a.pc, .int .i64 a.pref, .int .i64 a.med, .int .i64 a.origin, .slice a.T a.tags.length a.tc] TA) = W at *
  generalize w.heap.size = X at *
  have Htd := hide (told_any E W HT.out H1.out H2.out H7.out H8.out)
  go_wp2_with fail
  refine Htd.out.mono ?_
  rintro e w1 ⟨rfl, hu⟩
  have M := hide (M.out.trans_new hu)
  clear hu Htd
  have bq := HX.out.new_ M.out
  have x0 := bq.cell 0
  have x1 := bq.cell 1
  have x2 := bq.cell 2
  have x3 := bq.cell 3
  have x4 := bq.cell 4
  have xz := bq.lt
  simp only [List.getElem?_toArray, List.getElem?_cons_zero, List.getElem?_cons_succ] at x0 x1 x2 x3 x4
  clear bq
  by_cases hlg : 20 < a.path.length ∨ 15 < a.tags.length
  · have Hlg := hide (longAttr_yes a w1 hlg)
    unfold AttrR.cells at Hlg
    clear hlg
    go_wp2_with fail
    refine Hlg.out.mono ?_
    rintro e w2 ⟨rfl, hu⟩
    go_wp2_with fail
    go_ret
    exact ⟨rfl, N.out.trans_new (M.out.trans_new hu)⟩
  have L1 : a.path.length ≤ 20 := by omega
  have L2 : a.tags.length ≤ 15 := by omega
  have Hlg := hide (longAttr_no a w1 L1 L2)
  unfold AttrR.cells at Hlg
  clear hlg
  go_wp2_with fail
  refine Hlg.out.mono ?_
  rintro e w2 ⟨rfl, hu⟩
  have M := hide (M.out.trans_new hu)
  clear hu Hlg x0 x1 x2 x3 x4 xz
  have bq := HX.out.new_ M.out
  have x0 := bq.cell 0
  have x1 := bq.cell 1
  have x2 := bq.cell 2
  have x3 := bq.cell 3
  have x4 := bq.cell 4
  have xz := bq.lt
  simp only [List.getElem?_toArray, List.getElem?_cons_zero, List.getElem?_cons_succ] at x0 x1 x2 x3 x4
  clear bq
  have Hck := hide (attrCheck_any a E w2 (H2.out.new M.out) (H7.out.new M.out) (H8.out.new M.out) (HA.out.new_ M.out) (by omega) (by omega))
  have Htx := hide (fun w' (nw : New W w') => attrText_any a E w' (HT.out.new nw) (H2.out.new nw) (H7.out.new nw) (H8.out.new nw) (HA.out.new_ nw) (by omega) (by omega))
  have Hrt := hide (fun (h : (attrC a).1 = 0) => read_text h)
  have hte : ¬ (attrC a).1 = 0 → attrT a = [] := fun h => if_neg h
  have Hte := hide hte
  clear hte
  have Htl := hide (attrT_len a)
  unfold AttrR.cells at Hck Htx
  obtain ⟨C, hC⟩ : ∃ C, C = attrC a := ⟨_, rfl⟩
  rw [← hC] at Hck
  simp only [← hC] at Hrt Hte
  have HC := hide hC
  clear hC
  go_wp2_with fail
  refine Hck.out.mono ?_
  rintro e w3 ⟨v, rfl, hv, hu⟩
  have M := hide (M.out.trans_new hu)
  clear hu Hck x0 x1 x2 x3 x4 xz
  have bq := HX.out.new_ M.out
  have x0 := bq.cell 0
  have x1 := bq.cell 1
  have x2 := bq.cell 2
  have x3 := bq.cell 3
  have x4 := bq.cell 4
  have xz := bq.lt
  simp only [List.getElem?_toArray, List.getElem?_cons_zero, List.getElem?_cons_succ] at x0 x1 x2 x3 x4
  clear bq
  rcases hv.form with ⟨hk, _, rfl⟩ | ⟨hk, tv, pv, rfl⟩
  rotate_left
  · have ht0 : attrT a = [] := Hte.out hk
    rw [ht0] at Htx
    have Htx := hide (Htx.out _ M.out)
    clear ht0 hk hv
    go_wp2_with fail
    refine Htx.out.mono ?_
    rintro e w4 ⟨rfl, hu⟩
    go_wp2_with fail
    go_ret
    exact ⟨rfl, N.out.trans_new (M.out.trans_new hu)⟩
  have hr0 := Hrt.out hk
  clear hv Hte Hrt
  have Hk := hide hk
  have hrd := fun w' (nw : New W w') => attrRead_any ⟨(attrT a).toArray⟩ E w' (HT.out.new nw) (H1.out.new nw) (H2.out.new nw) (H7.out.new nw) (H8.out.new nw) (by have := Htl.out; show (attrT a).toArray.size ≤ _; simp; omega)
  unfold ReadPost at hrd
  have e9 : (⟨(attrT a).toArray⟩ : ByteArray).data.toList = attrT a := rfl
  rw [e9, hr0] at hrd
  dsimp only at hrd
  rw [errc_nil] at hrd
  have Hrd := hide hrd
  clear hrd hr0 e9 hk Htl
  generalize attrT a = T at *
  go_wp2_with fail
  refine (Htx.out _ M.out).mono ?_
  rintro e w4 ⟨rfl, hu⟩
  have M := hide (M.out.trans_new hu)
  clear hu Htx x0 x1 x2 x3 x4 xz
  go_wp2_with fail
  refine (Hrd.out _ M.out).mono ?_
  rintro e w5 ⟨a1, rfl, hc1, hok1, _, hu⟩
  rw [show a1.cells = #[.slice a1.P a1.path.length a1.pc, .int .i64 a1.pref, .int .i64 a1.med, .int .i64 a1.origin, .slice a1.T a1.tags.length a1.tc] from rfl]
  have M := hide (M.out.trans_new hu)
  clear hu Hrd
  have hp1 : a1.path = a.path := congrArg AtC.path hc1
  have hg1 : a1.tags = a.tags := congrArg AtC.tags hc1
  have hl1 : a1.path.length ≤ 1000 ∧ a1.tags.length ≤ 1000 := by rw [hp1, hg1]; omega
  have Hc1 := hide hc1
  clear hc1 hp1 hg1
  go_upto_region 7 with (fail)
  have u := (Upd.refl (fun _ => False) w5).alloc (.cells a1.cells TA)
  have HY := hide (Blk.new w5 TA a1.cells)
  have HO := hide (hok1.new_ u)
  have M := hide (M.out.trans_new u)
  have Hsm := hide (fun w' (nw : New W w') (h1 : AttrOk w' a1) => (attrSame_any a1 a w' h1 (HA.out.new_ nw) hl1.1 hl1.2 (by omega) (by omega)).mono (R' := fun e w2 => e = .returned (.bool true) ∧ New w' w2) fun e w2 hh => ⟨by rw [hh.1, decide_eq_true Hc1.out], hh.2⟩)
  clear u hok1 hl1 Hc1
  unfold AttrR.cells at HY Hsm M HO
  generalize w5.alloc (.cells #[.slice a1.P a1.path.length a1.pc, .int .i64 a1.pref, .int .i64 a1.med, .int .i64 a1.origin, .slice a1.T a1.tags.length a1.tc] TA) = W5 at *
  generalize w5.heap.size = Y at *
  have bq := HX.out.new_ M.out
  have x0 := bq.cell 0
  have x1 := bq.cell 1
  have x2 := bq.cell 2
  have x3 := bq.cell 3
  have x4 := bq.cell 4
  have xz := bq.lt
  simp only [List.getElem?_toArray, List.getElem?_cons_zero, List.getElem?_cons_succ] at x0 x1 x2 x3 x4
  clear bq
  have bq := HY.out
  have y0 := bq.cell 0
  have y1 := bq.cell 1
  have y2 := bq.cell 2
  have y3 := bq.cell 3
  have y4 := bq.cell 4
  have yz := bq.lt
  simp only [List.getElem?_toArray, List.getElem?_cons_zero, List.getElem?_cons_succ] at y0 y1 y2 y3 y4
  clear bq
  go_wp2_with fail
  refine (Hsm.out _ M.out HO.out).mono ?_
  rintro e w6 ⟨rfl, hu⟩
  have M := hide (M.out.trans_new hu)
  clear hu Hsm HO HY
  clear x0 x1 x2 x3 x4 xz
  clear y0 y1 y2 y3 y4 yz
  have bq := HX.out.new_ M.out
  have x0 := bq.cell 0
  have x1 := bq.cell 1
  have x2 := bq.cell 2
  have x3 := bq.cell 3
  have x4 := bq.cell 4
  have xz := bq.lt
  simp only [List.getElem?_toArray, List.getElem?_cons_zero, List.getElem?_cons_succ] at x0 x1 x2 x3 x4
  clear bq
  have hld := fun w' (nw : New W w') => lead_any a s n E w' (H2.out.new nw) (H7.out.new nw) (H8.out.new nw) (HA.out.new_ nw) (by omega) (by omega)
  have Hlx := hide (fun (h : leadK a.con s n = 0) => And.intro (leadK_zero h) (And.intro (leadX_ok h) (leadX_good h)))
  obtain ⟨K, hK⟩ : ∃ K, K = leadK a.con s n := ⟨_, rfl⟩
  simp only [← hK] at hld Hlx
  unfold AttrR.cells at hld
  have Hld := hide hld
  clear hld hK
  go_wp2_with fail
  refine (Hld.out _ M.out).mono ?_
  rintro e w7 ⟨a2, rfl, hc2, hok2, _, hu⟩

  have M := hide (M.out.trans_new hu)
  have HC2 := hide hc2
  clear hu hc2 Hld
  clear x0 x1 x2 x3 x4 xz
  go_upto_region 10 with (fail)
  have u := (Upd.refl (fun _ => False) w7).alloc (.cells a2.cells TA)
  have HY := hide (Blk.new w7 TA a2.cells)
  have HO := hide (hok2.new_ u)
  have M := hide (M.out.trans_new u)
  have Q := hide (Upd.refl (fun _ => False) (w7.alloc (.cells a2.cells TA)))
  clear u hok2
  unfold AttrR.cells at HY Q M HO
  generalize w7.alloc (.cells #[.slice a2.P a2.path.length a2.pc, .int .i64 a2.pref, .int .i64 a2.med, .int .i64 a2.origin, .slice a2.T a2.tags.length a2.tc] TA) = W7 at *
  generalize w7.heap.size = Y at *
  have Hev := hide (show (K = 0 ∧ errc E K = .nilIface) ∨ (K ≠ 0 ∧ ∃ p, errc E K = .iface TES (.pointer (some p))) from by
    by_cases h : K = 0
    · subst h; exact .inl ⟨rfl, rfl⟩
    · exact .inr ⟨h, _, errc_some E h⟩)
  generalize errc E K = ev at *
  go_cut [55] (fun v55_ wc => v55_ = .bool (decide (K = 0)) ∧ W7 = wc)
  case first =>
    rcases Hev.out with ⟨hk0, rfl⟩ | ⟨hk0, p9, rfl⟩
    · have Hk0 := hide hk0
      clear hk0
      go_wp2_with fail
      go_meet
      case rel => exact ⟨by rw [decide_eq_true Hk0.out], rfl⟩
    · have Hk0 := hide hk0
      clear hk0
      go_wp2_with fail
      go_meet
      case rel => exact ⟨by rw [decide_eq_false Hk0.out], rfl⟩
  obtain ⟨rfl, rfl⟩ := hcut
  go_upto_if 55 with (fail)
  go_cut [] (fun wc => New W7 wc)
  case first =>
    by_cases hk0 : K = 0
    rotate_left
    · have hd := decide_eq_false hk0
      rw [hd]
      go_wp2_with fail
      go_meet
      case rel => exact Upd.refl _ _
    · rw [decide_eq_true hk0]
      obtain ⟨⟨_, hs9, hn9, hl9⟩, hx9, hg9⟩ := Hlx.out hk0
      obtain ⟨hn0, hn12⟩ := hn9
      obtain ⟨m, rfl⟩ := Int.eq_ofNat_of_zero_le hn0
      rw [← HC2.out] at hx9 hg9
      have hp2 : a2.path = List.replicate m s ++ a.path := congrArg AtC.path hx9
      have hg2 : a2.tags = a.tags := congrArg AtC.tags hx9
      have hlen : a2.path.length = m + a.path.length := by rw [hp2, List.length_append, List.length_replicate]
      have hlt2 : a2.tags.length ≤ 100 := by rw [hg2]; omega
      have hdr : a2.path.drop m = a.path := by rw [hp2]; exact List.drop_left' (by simp)
      have hth := fun w' (nw : New W7 w') => through_any a2 s w' (HO.out.new_ nw) (by omega)
      have hcy := fun w' (nw : New W7 w') => attrCheck_any a2 E w' (H2.out.new (M.out.trans_new nw)) (H7.out.new (M.out.trans_new nw)) (H8.out.new (M.out.trans_new nw)) (HO.out.new_ nw) (by omega) (by omega)
      have hc0 : attrC a2 = (0, -1) := good_conC hg9
      rw [hc0] at hcy
      have hany : 0 < m → (a2.path.any fun x => decide (s = x)) = true := fun h0 => by
        rw [hp2, List.any_append]
        cases m with
        | zero => exact absurd h0 (Nat.lt_irrefl 0)
        | succ q => rw [List.replicate_succ]; simp
      have hs2 := fun w' (nw : New W7 w') => sameInts_any a2.T a.T a2.tags.length a.tags.length a2.tc a.tc a2.tags a.tags w' (HO.out.tags.new_ nw) (HA.out.tags.new_ (M.out.trans_new nw)) rfl rfl (by omega) (by omega)
      rw [decide_eq_true hg2] at hs2
      have hpl2 := HO.out.pl
      have hs1 := fun w' (nw : New W7 w') => sameInts_any (if a2.pc = m then a2.P else Option.map (fun x => x.add m) a2.P) a.P (a2.path.length - m) a.path.length (a2.pc - m) a.pc (a2.path.drop m) a.path w' (ints_cut (HO.out.path.new_ nw) hpl2) (HA.out.path.new_ (M.out.trans_new nw)) (by rw [List.length_drop]) rfl (by omega) (by omega)
      rw [decide_eq_true hdr] at hs1
      unfold AttrR.cells at hth hcy
      have Hth := hide hth
      have Hcy := hide hcy
      have Han := hide hany
      have Hs2 := hide hs2
      have Hs1 := hide hs1
      have Hlen := hide hlen
      have i1 : ((a2.path.length : Int) != (a.path.length : Int) + (m : Int)) = false := by
        rw [hlen]; simp; omega
      clear hth hcy hany hs2 hs1 hdr hp2 hg2 hx9 hg9 hc0 hk0 hs9 hlen
      have bq := HX.out.new_ M.out
      have x0 := bq.cell 0
      have x1 := bq.cell 1
      have x2 := bq.cell 2
      have x3 := bq.cell 3
      have x4 := bq.cell 4
      have xz := bq.lt
      simp only [List.getElem?_toArray, List.getElem?_cons_zero, List.getElem?_cons_succ] at x0 x1 x2 x3 x4
      clear bq
      have bq := HY.out.new_ Q.out
      have y0 := bq.cell 0
      have y1 := bq.cell 1
      have y2 := bq.cell 2
      have y3 := bq.cell 3
      have y4 := bq.cell 4
      have yz := bq.lt
      simp only [List.getElem?_toArray, List.getElem?_cons_zero, List.getElem?_cons_succ] at y0 y1 y2 y3 y4
      clear bq
      by_cases hm0 : 0 < m
      · have i2 : decide (0 < (m : Int)) = true := decide_eq_true (by omega)
        have Hth := hide (fun w' nw => (Han.out hm0) ▸ Hth.out w' nw)
        go_wp2_with fail
        refine (Hth.out _ Q.out).mono ?_
        rintro e w8 ⟨rfl, hu⟩
        have M := hide (M.out.trans_new hu)
        have Q := hide (Q.out.trans_new hu)
        clear hu Hth
        clear x0 x1 x2 x3 x4 xz
        clear y0 y1 y2 y3 y4 yz
        have bq := HX.out.new_ M.out
        have x0 := bq.cell 0
        have x1 := bq.cell 1
        have x2 := bq.cell 2
        have x3 := bq.cell 3
        have x4 := bq.cell 4
        have xz := bq.lt
        simp only [List.getElem?_toArray, List.getElem?_cons_zero, List.getElem?_cons_succ] at x0 x1 x2 x3 x4
        clear bq
        have bq := HY.out.new_ Q.out
        have y0 := bq.cell 0
        have y1 := bq.cell 1
        have y2 := bq.cell 2
        have y3 := bq.cell 3
        have y4 := bq.cell 4
        have yz := bq.lt
        simp only [List.getElem?_toArray, List.getElem?_cons_zero, List.getElem?_cons_succ] at y0 y1 y2 y3 y4
        clear bq
        go_wp2_with fail
        refine (Hcy.out _ Q.out).mono ?_
        rintro e w9 ⟨v, rfl, hv, hu⟩
        obtain rfl : v = .nilIface := by
          rcases hv.form with ⟨_, _, h⟩ | ⟨h, _⟩
          · exact h
          · exact absurd rfl h
        have M := hide (M.out.trans_new hu)
        have Q := hide (Q.out.trans_new hu)
        clear hu hv Hcy
        clear x0 x1 x2 x3 x4 xz
        clear y0 y1 y2 y3 y4 yz
        have bq := HX.out.new_ M.out
        have x0 := bq.cell 0
        have x1 := bq.cell 1
        have x2 := bq.cell 2
        have x3 := bq.cell 3
        have x4 := bq.cell 4
        have xz := bq.lt
        simp only [List.getElem?_toArray, List.getElem?_cons_zero, List.getElem?_cons_succ] at x0 x1 x2 x3 x4
        clear bq
        have bq := HY.out.new_ Q.out
        have y0 := bq.cell 0
        have y1 := bq.cell 1
        have y2 := bq.cell 2
        have y3 := bq.cell 3
        have y4 := bq.cell 4
        have yz := bq.lt
        simp only [List.getElem?_toArray, List.getElem?_cons_zero, List.getElem?_cons_succ] at y0 y1 y2 y3 y4
        clear bq
        have j1 : (0 : Int) ≤ (m : Int) := by omega
        have j2 : (m : Int) ≤ (a2.path.length : Int) := by have := Hlen.out; omega
        have j3 : m ≤ a2.path.length := by have := Hlen.out; omega
        have j4 : (a2.path.length : Int) ≤ (a2.pc : Int) := by omega
        have j5 : (m : Int) ≤ (a2.pc : Int) := by omega
        go_upto_region 13 with (fail)
        refine wp_region_new w9 (Upd.refl _ _) (by kernel_rfl) (by kernel_rfl) ?_
        iterate 7 (go_big_quiet_step (first | (go_at_call 27; exact new_call (Hs1.out _ (Q.out.trans_new (NewW.h _))))))
        repeat (go_big_quiet_step (first | (go_at_call 27; exact new_call (Hs2.out _ (Q.out.trans_new (NewW.h _))))))
        refine wpQuiet_nil ?_
        rintro _ ⟨nq, rfl⟩
        have Q := hide (Q.out.trans_new nq.h)
        go_wp2_with fail
        all_goals
          go_meet
          case rel => exact Q.out
      · have i2 : decide (0 < (m : Int)) = false := decide_eq_false (by omega)
        clear Hth
        go_wp2_with fail
        refine (Hcy.out _ Q.out).mono ?_
        rintro e w9 ⟨v, rfl, hv, hu⟩
        obtain rfl : v = .nilIface := by
          rcases hv.form with ⟨_, _, h⟩ | ⟨h, _⟩
          · exact h
          · exact absurd rfl h
        have M := hide (M.out.trans_new hu)
        have Q := hide (Q.out.trans_new hu)
        clear hu hv Hcy
        clear x0 x1 x2 x3 x4 xz
        clear y0 y1 y2 y3 y4 yz
        have bq := HX.out.new_ M.out
        have x0 := bq.cell 0
        have x1 := bq.cell 1
        have x2 := bq.cell 2
        have x3 := bq.cell 3
        have x4 := bq.cell 4
        have xz := bq.lt
        simp only [List.getElem?_toArray, List.getElem?_cons_zero, List.getElem?_cons_succ] at x0 x1 x2 x3 x4
        clear bq
        have bq := HY.out.new_ Q.out
        have y0 := bq.cell 0
        have y1 := bq.cell 1
        have y2 := bq.cell 2
        have y3 := bq.cell 3
        have y4 := bq.cell 4
        have yz := bq.lt
        simp only [List.getElem?_toArray, List.getElem?_cons_zero, List.getElem?_cons_succ] at y0 y1 y2 y3 y4
        clear bq
        have j1 : (0 : Int) ≤ (m : Int) := by omega
        have j2 : (m : Int) ≤ (a2.path.length : Int) := by have := Hlen.out; omega
        have j3 : m ≤ a2.path.length := by have := Hlen.out; omega
        have j4 : (a2.path.length : Int) ≤ (a2.pc : Int) := by omega
        have j5 : (m : Int) ≤ (a2.pc : Int) := by omega
        go_upto_region 13 with (fail)
        refine wp_region_new w9 (Upd.refl _ _) (by kernel_rfl) (by kernel_rfl) ?_
        iterate 7 (go_big_quiet_step (first | (go_at_call 27; exact new_call (Hs1.out _ (Q.out.trans_new (NewW.h _))))))
        repeat (go_big_quiet_step (first | (go_at_call 27; exact new_call (Hs2.out _ (Q.out.trans_new (NewW.h _))))))
        refine wpQuiet_nil ?_
        rintro _ ⟨nq, rfl⟩
        have Q := hide (Q.out.trans_new nq.h)
        go_wp2_with fail
        all_goals
          go_meet
          case rel => exact Q.out
  have M := hide (M.out.trans_new hcut)
  clear Q HY HO Hlx HC2 hcut Hev
  have htg := fun w' (nw : New W w') => tag_any a t E w' (H2.out.new nw) (H7.out.new nw) (H8.out.new nw) (HA.out.new_ nw) (by omega) (by omega)
  have Htw := hide (fun (h : tagK a.con t = 0) => And.intro (tagK_zero h) (And.intro (tagX_ok h) (And.intro (tagX_good h) (tag_twice h))))
  have Hte := hide (fun (h : tagK a.con t ≠ 0) => tagX_err h)
  obtain ⟨K2, hK2⟩ : ∃ K2, K2 = tagK a.con t := ⟨_, rfl⟩
  simp only [← hK2] at htg Htw Hte
  unfold AttrR.cells at htg
  have Htg := hide htg
  clear htg hK2
  have bq := HX.out.new_ M.out
  have x0 := bq.cell 0
  have x1 := bq.cell 1
  have x2 := bq.cell 2
  have x3 := bq.cell 3
  have x4 := bq.cell 4
  have xz := bq.lt
  simp only [List.getElem?_toArray, List.getElem?_cons_zero, List.getElem?_cons_succ] at x0 x1 x2 x3 x4
  clear bq
  go_wp2_with fail
  refine (Htg.out _ M.out).mono ?_
  rintro e w8 ⟨a3, rfl, hc3, hok3, _, hu⟩
  have M := hide (M.out.trans_new hu)
  have HC3 := hide hc3
  clear hu hc3 Htg
  clear x0 x1 x2 x3 x4 xz
  go_upto_region 16 with (fail)
  have u := (Upd.refl (fun _ => False) w8).alloc (.cells a3.cells TA)
  have HZ := hide (Blk.new w8 TA a3.cells)
  have HO := hide (hok3.new_ u)
  have M := hide (M.out.trans_new u)
  have Q := hide (Upd.refl (fun _ => False) (w8.alloc (.cells a3.cells TA)))
  clear u hok3
  unfold AttrR.cells at HZ Q M HO
  generalize w8.alloc (.cells #[.slice a3.P a3.path.length a3.pc, .int .i64 a3.pref, .int .i64 a3.med, .int .i64 a3.origin, .slice a3.T a3.tags.length a3.tc] TA) = W8 at *
  generalize w8.heap.size = Z at *
  by_cases hk2 : K2 = 0
  rotate_left
  · rw [errc_some E hk2]
    have hz0 : a3.con = zeroC := HC3.out.trans (Hte.out hk2)
    have hp3 : a3.path = [] := congrArg AtC.path hz0
    have hf3 : a3.pref = 0 := congrArg AtC.pref hz0
    have hl3 : a3.path.length = 0 := by rw [hp3]; rfl
    have HF3 := hide hf3
    have HL3 := hide hl3
    clear hk2 hz0 hp3 hf3 hl3
    have bq := HZ.out.new_ Q.out
    have z0 := bq.cell 0
    have z1 := bq.cell 1
    have z2 := bq.cell 2
    have z3 := bq.cell 3
    have z4 := bq.cell 4
    have zz := bq.lt
    simp only [List.getElem?_toArray, List.getElem?_cons_zero, List.getElem?_cons_succ] at z0 z1 z2 z3 z4
    clear bq
    rw [HF3.out] at z1
    rw [HL3.out] at z0
    go_wp2_with fail
    go_ret
    exact ⟨rfl, N.out.trans_new M.out⟩
  rw [hk2, errc_nil]
  obtain ⟨⟨hg9, ht9, _⟩, hx9, hgd, hk9, hx99⟩ := Htw.out hk2
  rw [← HC3.out] at hx9 hgd hk9 hx99
  have htg3 : a3.tags = tagsX a.tags t := congrArg AtC.tags hx9
  have hp3 : a3.path = a.path := congrArg AtC.path hx9
  have hmem := tagsX_mem (l := a.tags) (t := t)
  have hlen := tagsX_len a.tags t
  rw [← htg3] at hmem hlen
  have hcnt := count_one a3.tags t hgd.rise hmem.1
  have hl3 : a3.path.length ≤ 20 := by rw [hp3]; exact L1
  have hl4 : a3.tags.length ≤ 16 := by omega
  have Hmem := hide hmem.2
  have Hcnt := hide hcnt
  have Hgd := hide hgd
  have Hk9 := hide hk9
  have Hx9 := hide hx99
  have Hlen := hide hlen
  clear hg9 ht9 hx9 hgd hk9 hx99 htg3 hp3 hmem hcnt hk2 Htw Hte hlen
  have bq := HZ.out
  have z4 := bq.cell 4
  have zz := bq.lt
  simp only [List.getElem?_toArray, List.getElem?_cons_zero, List.getElem?_cons_succ] at z4
  clear bq
  go_wp2_with fail
  go_loop [14, 15] (fun mv iv => ∃ k : Nat, k ≤ a3.tags.length ∧ iv = .int .i64 k ∧ mv = .int .i64 (((a3.tags.take k).countP (fun x => decide (x = t)) : Nat) : Int)) (fun _ iv => a3.tags.length - (intOf iv).toNat)
  case atStart => exact ⟨0, by omega, rfl, rfl⟩
  case round =>
    obtain ⟨k, hk, rfl, rfl⟩ := hrel
    by_cases hlt : k < a3.tags.length
    · have i1 : (k : Int) < (a3.tags.length : Int) := by omega
      obtain ⟨b, o, x, hA, hb, hxk, hcx⟩ := HO.out.tags.at_ (k := k) hlt
      rw [hA]
      rw [hA] at z4
      have hct := count_take (t := t) hxk
      have hcl := List.length_take_le k a3.tags
      have hcl2 := count_le (a3.tags.take k) t
      generalize (a3.tags.take k).countP (fun x => decide (x = t)) = c at *
      have hc9 : c ≤ 100 := by omega
      clear hcl hcl2 hA
      by_cases hxt : x = t
      · rw [if_pos hxt] at hct
        have j1 : (x == t) = true := by simpa using hxt
        have Hct := hide hct
        clear hct hxt hxk
        go_wp2_with fail
        exact ⟨⟨k + 1, by omega, by go_num, by rw [Hct.out]; go_num⟩, by simp [intOf]; omega⟩
      · rw [if_neg hxt] at hct
        have j1 : (x == t) = false := by simpa using hxt
        have Hct := hide hct
        clear hct hxt hxk
        go_wp2_with fail
        exact ⟨⟨k + 1, by omega, by go_num, by rw [Hct.out]; rfl⟩, by simp [intOf]; omega⟩
    · obtain rfl : k = a3.tags.length := by omega
      have i1 : ¬ (a3.tags.length : Int) < (a3.tags.length : Int) := by omega
      rw [List.take_length, Hcnt.out]
      go_wp2_with fail
      clear z4 zz hlt hk i1
      go_loopw [16] (fun iv wz => ∃ k : Nat, k ≤ a.tags.length ∧ iv = .int .i64 k ∧ New W8 wz) (fun iv _ => a.tags.length - (intOf iv).toNat)
      case atStart => exact ⟨0, by omega, rfl, Upd.refl _ _⟩
      case round =>
        obtain ⟨k, hk, rfl, hu⟩ := hrel
        have Q := hide hu
        have M := hide (M.out.trans_new hu)
        clear hu
        have bq := HX.out.new_ M.out
        have x0 := bq.cell 0
        have x1 := bq.cell 1
        have x2 := bq.cell 2
        have x3 := bq.cell 3
        have x4 := bq.cell 4
        have xz := bq.lt
        simp only [List.getElem?_toArray, List.getElem?_cons_zero, List.getElem?_cons_succ] at x0 x1 x2 x3 x4
        clear bq
        by_cases hlt : k < a.tags.length
        · have i1 : (k : Int) < (a.tags.length : Int) := by omega
          obtain ⟨b, o, x, hA, hb, hxk, hcx⟩ := (HA.out.tags.new_ M.out).at_ (k := k) hlt
          rw [hA]
          rw [hA] at x4
          have hin := fun w' (nw : New wr w') => inInts_any x a3.T a3.tags.length a3.tc a3.tags w' (HO.out.tags.new_ (Q.out.trans_new nw)) rfl (by omega)
          have hany : (a3.tags.any fun y => decide (x = y)) = true := by
            rw [List.any_eq_true]
            exact ⟨x, Hmem.out x (List.mem_of_getElem? hxk), by simp⟩
          rw [hany] at hin
          have Hin := hide hin
          clear hin hany hxk hA
          have bq := HZ.out.new_ Q.out
          have z0 := bq.cell 0
          have z1 := bq.cell 1
          have z2 := bq.cell 2
          have z3 := bq.cell 3
          have z4 := bq.cell 4
          have zz := bq.lt
          simp only [List.getElem?_toArray, List.getElem?_cons_zero, List.getElem?_cons_succ] at z0 z1 z2 z3 z4
          clear bq
          go_upto_region 27 with (fail)
          refine wp_region_new wr (Upd.refl _ _) (by kernel_rfl) (by kernel_rfl) ?_
          repeat (go_big_quiet_step ((go_at_call 29; exact new_call_same (Hin.out _ (NewW.h _)))))
          refine wpQuiet_nil ?_
          rintro _ ⟨nq, rfl⟩
          have Q := hide (Q.out.trans_new nq.h)
          go_wp2_with fail
          exact ⟨⟨k + 1, by omega, by go_num, Q.out⟩, by simp [intOf]; omega⟩
        · obtain rfl : k = a.tags.length := by omega
          have i1 : ¬ (a.tags.length : Int) < (a.tags.length : Int) := by omega
          have htg := tag_any a3 t E wr (H2.out.new M.out) (H7.out.new M.out) (H8.out.new M.out) (HO.out.new_ Q.out) (by omega) (by omega)
          rw [Hk9.out, Hx9.out, errc_nil] at htg
          have hcz := fun w' (nw : New wr w') => attrCheck_any a3 E w' (H2.out.new (M.out.trans_new nw)) (H7.out.new (M.out.trans_new nw)) (H8.out.new (M.out.trans_new nw)) (HO.out.new_ (Q.out.trans_new nw)) (by omega) (by omega)
          have hc0 : attrC a3 = (0, -1) := good_conC Hgd.out
          rw [hc0] at hcz
          unfold AttrR.cells at htg hcz
          have Htg := hide htg
          have Hcz := hide hcz
          clear htg hcz hc0
          have bq := HZ.out.new_ Q.out
          have z0 := bq.cell 0
          have z1 := bq.cell 1
          have z2 := bq.cell 2
          have z3 := bq.cell 3
          have z4 := bq.cell 4
          have zz := bq.lt
          simp only [List.getElem?_toArray, List.getElem?_cons_zero, List.getElem?_cons_succ] at z0 z1 z2 z3 z4
          clear bq
          go_wp2_with fail
          refine Htg.out.mono ?_
          rintro e w9 ⟨a4, rfl, hc4, hok4, _, hu⟩
          have M := hide (M.out.trans_new hu)
          have Q := hide (Q.out.trans_new hu)
          have R := hide hu
          have hp4 : a4.path = a3.path := congrArg AtC.path hc4
          have hg4 : a4.tags = a3.tags := congrArg AtC.tags hc4
          have hl4 : a4.path.length ≤ 1000 ∧ a4.tags.length ≤ 1000 := by rw [hp4, hg4]; omega
          have HC4 := hide hc4
          clear hu hp4 hg4 hc4 Htg
          clear z0 z1 z2 z3 z4 zz
          clear x0 x1 x2 x3 x4 xz
          have bq := HX.out.new_ M.out
          have x0 := bq.cell 0
          have x1 := bq.cell 1
          have x2 := bq.cell 2
          have x3 := bq.cell 3
          have x4 := bq.cell 4
          have xz := bq.lt
          simp only [List.getElem?_toArray, List.getElem?_cons_zero, List.getElem?_cons_succ] at x0 x1 x2 x3 x4
          clear bq
          have bq := HZ.out.new_ Q.out
          have z0 := bq.cell 0
          have z1 := bq.cell 1
          have z2 := bq.cell 2
          have z3 := bq.cell 3
          have z4 := bq.cell 4
          have zz := bq.lt
          simp only [List.getElem?_toArray, List.getElem?_cons_zero, List.getElem?_cons_succ] at z0 z1 z2 z3 z4
          clear bq
          go_upto_region 30 with (fail)
          have u := (Upd.refl (fun _ => False) w9).alloc (.cells a4.cells TA)
          have HV := hide (Blk.new w9 TA a4.cells)
          have HO4 := hide (hok4.new_ u)
          have M := hide (M.out.trans_new u)
          have Q := hide (Q.out.trans_new u)
          have R := hide (R.out.trans_new u)
          have Hsm := hide (fun w' (h4 : AttrOk w' a4) (h3 : AttrOk w' a3) => (attrSame_any a4 a3 w' h4 h3 hl4.1 hl4.2 (by omega) (by omega)).mono (R' := fun e w2 => e = .returned (.bool true) ∧ New w' w2) fun e w2 hh => ⟨by rw [hh.1, decide_eq_true HC4.out], hh.2⟩)
          clear u hok4 hl4
          unfold AttrR.cells at HV Hsm M HO4 Q R
          generalize w9.alloc (.cells #[.slice a4.P a4.path.length a4.pc, .int .i64 a4.pref, .int .i64 a4.med, .int .i64 a4.origin, .slice a4.T a4.tags.length a4.tc] TA) = W9 at *
          generalize w9.heap.size = V at *
          clear x0 x1 x2 x3 x4 xz
          clear z0 z1 z2 z3 z4 zz
          have bq := HX.out.new_ M.out
          have x0 := bq.cell 0
          have x1 := bq.cell 1
          have x2 := bq.cell 2
          have x3 := bq.cell 3
          have x4 := bq.cell 4
          have xz := bq.lt
          simp only [List.getElem?_toArray, List.getElem?_cons_zero, List.getElem?_cons_succ] at x0 x1 x2 x3 x4
          clear bq
          have bq := HZ.out.new_ Q.out
          have z0 := bq.cell 0
          have z1 := bq.cell 1
          have z2 := bq.cell 2
          have z3 := bq.cell 3
          have z4 := bq.cell 4
          have zz := bq.lt
          simp only [List.getElem?_toArray, List.getElem?_cons_zero, List.getElem?_cons_succ] at z0 z1 z2 z3 z4
          clear bq
          have i2 : ((1 : Int) == 1) = true := rfl
          go_wp2_with fail
          refine (Hcz.out _ R.out).mono ?_
          rintro e w10 ⟨v, rfl, hv, hu⟩
          obtain rfl : v = .nilIface := by
            rcases hv.form with ⟨_, _, h⟩ | ⟨h, _⟩
            · exact h
            · exact absurd rfl h
          have M := hide (M.out.trans_new hu)
          have Q := hide (Q.out.trans_new hu)
          have HV := hide (HV.out.new_ hu)
          have HO4 := hide (HO4.out.new_ hu)
          clear hu hv Hcz
          clear x0 x1 x2 x3 x4 xz
          clear z0 z1 z2 z3 z4 zz
          have bq := HX.out.new_ M.out
          have x0 := bq.cell 0
          have x1 := bq.cell 1
          have x2 := bq.cell 2
          have x3 := bq.cell 3
          have x4 := bq.cell 4
          have xz := bq.lt
          simp only [List.getElem?_toArray, List.getElem?_cons_zero, List.getElem?_cons_succ] at x0 x1 x2 x3 x4
          clear bq
          have bq := HZ.out.new_ Q.out
          have z0 := bq.cell 0
          have z1 := bq.cell 1
          have z2 := bq.cell 2
          have z3 := bq.cell 3
          have z4 := bq.cell 4
          have zz := bq.lt
          simp only [List.getElem?_toArray, List.getElem?_cons_zero, List.getElem?_cons_succ] at z0 z1 z2 z3 z4
          clear bq
          have bq := HV.out
          have v0 := bq.cell 0
          have v1 := bq.cell 1
          have v2 := bq.cell 2
          have v3 := bq.cell 3
          have v4 := bq.cell 4
          have vz := bq.lt
          simp only [List.getElem?_toArray, List.getElem?_cons_zero, List.getElem?_cons_succ] at v0 v1 v2 v3 v4
          clear bq
          go_wp2_with fail
          refine (Hsm.out _ HO4.out (HO.out.new_ Q.out)).mono ?_
          rintro e w11 ⟨rfl, hu⟩
          have M := hide (M.out.trans_new hu)
          have Q := hide (Q.out.trans_new hu)
          clear hu Hsm
          clear x0 x1 x2 x3 x4 xz
          clear z0 z1 z2 z3 z4 zz
          clear v0 v1 v2 v3 v4 vz
          have bq := HX.out.new_ M.out
          have x0 := bq.cell 0
          have x1 := bq.cell 1
          have x2 := bq.cell 2
          have x3 := bq.cell 3
          have x4 := bq.cell 4
          have xz := bq.lt
          simp only [List.getElem?_toArray, List.getElem?_cons_zero, List.getElem?_cons_succ] at x0 x1 x2 x3 x4
          clear bq
          have bq := HZ.out.new_ Q.out
          have z0 := bq.cell 0
          have z1 := bq.cell 1
          have z2 := bq.cell 2
          have z3 := bq.cell 3
          have z4 := bq.cell 4
          have zz := bq.lt
          simp only [List.getElem?_toArray, List.getElem?_cons_zero, List.getElem?_cons_succ] at z0 z1 z2 z3 z4
          clear bq
          have k1 : (a3.tags.length : Int) ≤ (a.tags.length : Int) + 1 := by have := Hlen.out; omega
          have k2 : decide ((a3.tags.length : Int) ≤ (a.tags.length : Int) + 1) = true := decide_eq_true k1
          go_wp2_with fail
          go_ret
          exact ⟨by first | rfl | exact ret_bool (by simpa using k1), N.out.trans_new M.out⟩
end Go.Proofs.YtignngpligicjaaDoor
