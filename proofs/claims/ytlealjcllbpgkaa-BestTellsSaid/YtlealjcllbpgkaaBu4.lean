/- Own memory for routes; package law: OwnRoutes. No condition but those that stand in each theorem. -/
import Derived.Test.YtlealjcllbpgkaaOw3
import Derived.Test.YtlealjcllbpgkaaVl4
import Derived.Test.YtlealjcllbpgkaaBu1
import Derived.Deep.RegionHeld3
namespace Go.Proofs.Ytlealjcllbpgkaa
open Go.RowKit
set_option maxRecDepth 8000 in
set_option maxHeartbeats 4000000 in
theorem ownRoutes_any (ls : List RouteR) (A : Option Addr) (N cap : Nat) (w : World) (hN : ls.length = N) (hN2 : N ≤ 1000) (hr : Rts w A ls) (hl : ∀ r ∈ ls, r.at_.path.length ≤ 1000 ∧ r.at_.tags.length ≤ 1000) :
    Calls Try.prog 13 #[.slice A N cap] w fun e w1 => ∃ A' cap' rs, e = .returned (.slice A' N cap') ∧ rs.length = N ∧ Rts w1 A' rs ∧ rs.map RouteR.con = ls.map RouteR.con ∧ New w w1 := by
  have HN := hide hN
  have HR := hide hr
  have HL := hide hl
  clear hN hr hl
  obtain ⟨i0, hi0, hz0, hz1, hz2⟩ := info_parts info_TRt
  go_enter Try.func13, Try.ntmps13
  go_upto_region 3 with (fail)
  go_loopw [3, 4] (fun l i wr => ∃ (j : Nat) (rs : List RouteR), j ≤ N ∧ i = .int .i64 j ∧ New w wr ∧ OwnRts w.heap.size wr l rs ∧ rs.length = j ∧ rs.map RouteR.con = (ls.take j).map RouteR.con) (fun _ i _ => N - (intOf i).toNat)
  case atStart => exact ⟨0, [], by omega, rfl, Upd.refl _ _, OwnRts.nil _ _, rfl, by simp⟩
  case round =>
    obtain ⟨j, rs, hj, rfl, hnew, hrs, hrl, hcon⟩ := hrel
    have Hrs := hide hrs
    have Hrl := hide hrl
    have Hcon := hide hcon
    have Hnew := hide hnew
    clear hrs hcon
    by_cases hlt : j < N
    · obtain ⟨b, o, r, hA, hb, hr, hok, q0, q1, q2, q3, q4, q5, q6, q7⟩ := (HR.out.new_ hnew).at_ (k := j) (by have := HN.out; omega)
      subst hA
      have Hr := hide hr
      have i3 : (j : Int) < (N : Int) := by omega
      have Hr8 := hide (Blk.new wr TRt #[.int .i64 r.a, .int .i64 r.n, .slice r.at_.P r.at_.path.length r.at_.pc, .int .i64 r.at_.pref, .int .i64 r.at_.med, .int .i64 r.at_.origin, .slice r.at_.T r.at_.tags.length r.at_.tc, .int .i64 r.frm])
      have ual := (Upd.refl (fun _ => False) wr).alloc (.cells #[.int .i64 r.a, .int .i64 r.n, .slice r.at_.P r.at_.path.length r.at_.pc, .int .i64 r.at_.pref, .int .i64 r.at_.med, .int .i64 r.at_.origin, .slice r.at_.T r.at_.tags.length r.at_.tc, .int .i64 r.frm] TRt)
      have hoa := ownAttr_any r.at_ _ (hok.new_ ual) (HL.out r (List.mem_of_getElem? hr)).1 (HL.out r (List.mem_of_getElem? hr)).2
      unfold AttrR.cells at hoa
      have Hoa := hide hoa
      have Hal := hide ual
      clear hr hok hoa ual hnew hrl
      go_wp2_with fail
      clear q0 q1 q2 q3 q4 q5 q6 q7
      obtain ⟨X, hX⟩ : ∃ X, X = wr.heap.size := ⟨_, rfl⟩
      rw [← hX] at Hr8 ⊢
      have HX := hide hX
      clear hX
      generalize (wr.alloc (.cells #[.int .i64 r.a, .int .i64 r.n, .slice r.at_.P r.at_.path.length r.at_.pc, .int .i64 r.at_.pref, .int .i64 r.at_.med, .int .i64 r.at_.origin, .slice r.at_.T r.at_.tags.length r.at_.tc, .int .i64 r.frm] TRt)) = wa at *
      refine Hoa.out.mono ?_
      rintro e w2 ⟨a', rfl, hcon, hok, hty, hu2⟩
      have b8 := Hr8.out.new_ hu2
      have zx := b8.lt
      have r0 := b8.cell 0
      have r1 := b8.cell 1
      have r2 := b8.cell 2
      have r3 := b8.cell 3
      have r4 := b8.cell 4
      have r5 := b8.cell 5
      have r6 := b8.cell 6
      have r7 := b8.cell 7
      have t2 := b8.frozen 2
      have t3 := b8.frozen 3
      have t4 := b8.frozen 4
      have t5 := b8.frozen 5
      have t6 := b8.frozen 6
      simp only [List.getElem?_toArray, List.getElem?_cons_zero, List.getElem?_cons_succ] at r0 r1 r2 r3 r4 r5 r6 r7
      have Hb8 := hide b8
      have Hcon2 := hide hcon
      have Hok := hide hok
      have Hty := hide hty
      have U2 := hide hu2
      clear hcon hok hty hu2 b8
      have hX := HX.out
      have n2 : New wr w2 := Hal.out.trans_new U2.out
      have nW := set5r_new (y0 := .slice a'.P a'.path.length a'.pc) (y1 := .int .i64 a'.pref) (y2 := .int .i64 a'.med) (y3 := .int .i64 a'.origin) (y4 := .slice a'.T a'.tags.length a'.tc) n2 (R := X) (by omega)
      have hb9 := set5r (y0 := .slice a'.P a'.path.length a'.pc) (y1 := .int .i64 a'.pref) (y2 := .int .i64 a'.med) (y3 := .int .i64 a'.origin) (y4 := .slice a'.T a'.tags.length a'.tc) Hb8.out
      have NW := hide nW
      have Hb9 := hide hb9
      clear hX n2 nW hb9
      have hln : ∀ y0 y1 y2 y3 y4, w2.heap.size = (((((w2.setCell ⟨X, 2, none⟩ y0).setCell ⟨X, 3, none⟩ y1).setCell ⟨X, 4, none⟩ y2).setCell ⟨X, 5, none⟩ y3).setCell ⟨X, 6, none⟩ y4).heap.size := fun _ _ _ _ _ => by simp
      have Hln := hide hln
      clear hln
      go_wp2_with (at_builtin; refine append_src rfl (.tmp 20) (.tmp 22) 22 rfl w.heap.size TRt i0 _ 8 96 Try.underlying22 hi0 hz0 hz1 hz2 rfl (by omega) _ rs.length (flat (rs.map RouteR.cells)) rfl (own_new Hrs.out.own (NW.out.alloc _)) (some ⟨w2.heap.size, 0, none⟩) 1 1 [.int .i64 r.a, .int .i64 r.n, .slice a'.P a'.path.length a'.pc, .int .i64 a'.pref, .int .i64 a'.med, .int .i64 a'.origin, .slice a'.T a'.tags.length a'.tc, .int .i64 r.frm] rfl rfl (fun _ => ⟨_, _, rfl, row_cells (Hln.out _ _ _ _ _)⟩) (by simp [Value.oneCell']) (by unfold maxLen; have := Hrl.out; omega) (by have := Hrl.out; omega) (Nat.le_trans (Hnew.out.trans_new (NW.out.alloc _)).size (Nat.le_refl _)) ?_)
      intro v' w' ho hg
      have upx := set5r_upd (y0 := .slice a'.P a'.path.length a'.pc) (y1 := .int .i64 a'.pref) (y2 := .int .i64 a'.med) (y3 := .int .i64 a'.origin) (y4 := .slice a'.T a'.tags.length a'.tc) w2 X
      have okA := Hok.out.upd upx (ty_ne Hty.out.1 Hb8.out (by decide)) (ty_ne Hty.out.2 Hb8.out (by decide))
      have tyA := Hty.out.upd upx (ty_ne Hty.out.1 Hb8.out (by decide)) (ty_ne Hty.out.2 Hb8.out (by decide))
      have ual := (Upd.refl (fun _ => False) (((((w2.setCell ⟨X, 2, none⟩ (.slice a'.P a'.path.length a'.pc)).setCell ⟨X, 3, none⟩ (.int .i64 a'.pref)).setCell ⟨X, 4, none⟩ (.int .i64 a'.med)).setCell ⟨X, 5, none⟩ (.int .i64 a'.origin)).setCell ⟨X, 6, none⟩ (.slice a'.T a'.tags.length a'.tc))).alloc (.cells #[.int .i64 r.a, .int .i64 r.n, .slice a'.P a'.path.length a'.pc, .int .i64 a'.pref, .int .i64 a'.med, .int .i64 a'.origin, .slice a'.T a'.tags.length a'.tc, .int .i64 r.frm] TRt)
      have hrs2 := OwnRts.snoc (r := { r with at_ := a' }) (Hrs.out.new_ (NW.out.trans_new ual)) (okA.new_ ual) (tyA.new_ ual) ho hg
      have hnew2 : New w w' := (Hnew.out.trans_new (NW.out.trans_new ual)).trans (grown_upd (S := fun q => Value.ownBlock _ = some q) hg fun g h => h) fun q hq hx => by have := owns_ge Hrs.out.own hx; omega
      have Hrs2 := hide hrs2
      have Hnew2 := hide hnew2
      clear upx okA tyA ual ho hg hrs2 hnew2
      go_wp2_with fail
      refine ⟨⟨j + 1, rs ++ [{ r with at_ := a' }], by omega, by go_num, Hnew2.out, Hrs2.out, by rw [List.length_append, Hrl.out]; rfl, ?_⟩, by simp [intOf]; omega⟩
      exact con_snoc Hcon.out Hr.out Hcon2.out
    · have hjk : j = N := by omega
      subst hjk
      have hown := Hrs.out.own
      rw [Hrl.out] at hown
      obtain ⟨A', ac', rfl, _, hac, hrws, hfr, hty⟩ := rws_of_own (by omega) hown (rt_size rs)
      have Hrws := hide hrws
      have i3 : ¬ (j : Int) < (j : Int) := by omega
      clear hac hrws hfr hty hown hnew hrl
      go_wp2_with fail
      go_ret
      have hc := Hcon.out
      rw [List.take_of_length_le (by have := HN.out; omega)] at hc
      exact ⟨A', ⟨ac', rfl⟩, rs, Hrl.out, ⟨Hrws.out, fun i r hr => (Hrs.out.ok r (List.mem_of_getElem? hr)).1⟩, hc, Hnew.out⟩
end Go.Proofs.Ytlealjcllbpgkaa

namespace Go.Proofs.Ytlealjcllbpgkaa
open Go.RowKit
set_option maxRecDepth 20000 in
set_option maxHeartbeats 2000000 in
theorem longRoutes_two (ls : List RouteR) (A : Option Addr) (N cap : Nat) (w : World) (hN : ls.length = N) (hr : Rts w A ls) :
    Calls Try.prog 6 #[.slice A N cap] w fun e w1 => ((e = .returned (.int .i64 1) ∧ (30 < N ∨ ∃ r ∈ ls, 20 < r.at_.path.length ∨ 15 < r.at_.tags.length)) ∨ (e = .returned (.int .i64 0) ∧ N ≤ 30 ∧ ∀ r ∈ ls, r.at_.path.length ≤ 20 ∧ r.at_.tags.length ≤ 15)) ∧ New w w1 := by
  have Hr := hide hr
  have HN := hide hN
  clear hr hN
  by_cases h30 : 30 < N
  · have i1 : (30 : Int) < (N : Int) := by omega
    go_enter Try.func6, Try.ntmps6
    go_wp2_with fail
    go_ret
    first
      | exact ⟨Or.inl ⟨rfl, Or.inl h30⟩, Upd.refl _ _⟩
      | exact ⟨Or.inl (Or.inl h30), Upd.refl _ _⟩
      | exact ⟨Or.inl h30, Upd.refl _ _⟩
  · have i1 : ¬ (30 : Int) < (N : Int) := by omega
    have hle : N ≤ 30 := by omega
    clear h30
    go_enter Try.func6, Try.ntmps6
    go_upto_region 4 with (fail)
    go_loopw [3] (fun vi wr => ∃ j : Nat, j ≤ N ∧ vi = .int .i64 j ∧ New w wr ∧ ∀ (i : Nat) r, i < j → ls[i]? = some r → r.at_.path.length ≤ 20 ∧ r.at_.tags.length ≤ 15) (fun vi _ => N - (intOf vi).toNat)
    case atStart => exact ⟨0, by omega, rfl, Upd.refl _ _, fun i r h => absurd h (by omega)⟩
    case round =>
      obtain ⟨j, hj, rfl, hn, hz⟩ := hrel
      have Hn := hide hn
      have Hz := hide hz
      clear hn hz
      by_cases hlt : j < N
      · have i2 : (j : Int) < (N : Int) := by omega
        obtain ⟨b, o, x, hA, hb, hx, hok, d0, d1, d2, d3, d4, d5, d6, d7⟩ := (Hr.out.new_ Hn.out).at_ (k := j) (by have := HN.out; omega)
        subst hA
        obtain ⟨xa, xn, ⟨P, pc, p, xp, xm, xo, T, tc, t⟩, xf⟩ := x
        have Hx := hide hx
        clear d0 d1 d7 hx hok
        by_cases hl : p.length ≤ 20 ∧ t.length ≤ 15
        · have Hc := hide (longAttr_no ⟨P, pc, p, xp, xm, xo, T, tc, t⟩ wr hl.1 hl.2)
          unfold AttrR.cells at Hc
          have Hl := hide hl
          clear hl
          go_wp2_with ((go_at_call 11; refine Hc.out.mono ?_; rintro e w' ⟨rfl, hu⟩))
          exact ⟨⟨j + 1, by omega, by go_num, Hn.out.trans_new hu, fun i r hi hir => by
            by_cases hij : i < j
            · exact Hz.out i r hij hir
            · obtain rfl : i = j := by omega
              rw [Hx.out] at hir
              injection hir with hir
              subst hir
              exact Hl.out⟩, by simp [intOf]; omega⟩
        · have Hc := hide (longAttr_yes ⟨P, pc, p, xp, xm, xo, T, tc, t⟩ wr (by show 20 < p.length ∨ 15 < t.length; omega))
          unfold AttrR.cells at Hc
          have Hl := hide (show 20 < p.length ∨ 15 < t.length by omega)
          clear hl
          go_wp2_with ((go_at_call 11; refine Hc.out.mono ?_; rintro e w' ⟨rfl, hu⟩))
          go_ret
          have HP : ∃ r ∈ ls, 20 < r.at_.path.length ∨ 15 < r.at_.tags.length := ⟨_, List.mem_of_getElem? Hx.out, Hl.out⟩
          first
            | exact ⟨Or.inl ⟨rfl, Or.inr HP⟩, Hn.out.trans_new hu⟩
            | exact ⟨Or.inl (Or.inr HP), Hn.out.trans_new hu⟩
            | exact ⟨Or.inr HP, Hn.out.trans_new hu⟩
      · have i2 : ¬ (j : Int) < (N : Int) := by omega
        have hjn : j = N := by omega
        have Hjn := hide hjn
        clear hlt hjn
        go_wp2_with fail
        go_ret
        have H : ∀ r ∈ ls, r.at_.path.length ≤ 20 ∧ r.at_.tags.length ≤ 15 := fun r hr => by
          obtain ⟨i, hi⟩ := List.getElem?_of_mem hr
          exact Hz.out i r (by have := (List.getElem?_eq_some_iff.1 hi).1; have := HN.out; have := Hjn.out; omega) hi
        first
          | exact ⟨Or.inr ⟨rfl, hle, H⟩, Hn.out⟩
          | exact ⟨Or.inr ⟨rfl, H⟩, Hn.out⟩
          | exact ⟨Or.inr H, Hn.out⟩
          | exact ⟨H, Hn.out⟩
theorem long_yes (ls : List RouteR) (A : Option Addr) (N cap : Nat) (w : World) (hN : ls.length = N) (hr : Rts w A ls) (hP : (30 < N ∨ ∃ r ∈ ls, 20 < r.at_.path.length ∨ 15 < r.at_.tags.length)) :
    Calls Try.prog 6 #[.slice A N cap] w fun e w1 => e = .returned (.int .i64 1) ∧ New w w1 :=
  (longRoutes_two ls A N cap w hN hr).mono fun e w1 ⟨h, hu⟩ => ⟨by
    rcases h with h | ⟨_, h2, h3⟩
    · exact h.1
    · rcases hP with hP | ⟨r, hm, hP⟩
      · omega
      · have := h3 r hm; omega, hu⟩
theorem long_no (ls : List RouteR) (A : Option Addr) (N cap : Nat) (w : World) (hN : ls.length = N) (hr : Rts w A ls) (hP : ¬ (30 < N ∨ ∃ r ∈ ls, 20 < r.at_.path.length ∨ 15 < r.at_.tags.length)) :
    Calls Try.prog 6 #[.slice A N cap] w fun e w1 => e = .returned (.int .i64 0) ∧ New w w1 :=
  (longRoutes_two ls A N cap w hN hr).mono fun e w1 ⟨h, hu⟩ => ⟨by
    rcases h with h | h
    · exact absurd h.2 hP
    · exact h.1, hu⟩
/-- Whether what is told is too long, for all those that are asked in one region. -/
theorem longAttr_in {L : List (AttrR × Int)} (hL : ∀ p ∈ L, (p.2 = 1 ∧ (20 < p.1.path.length ∨ 15 < p.1.tags.length)) ∨ (p.2 = 0 ∧ p.1.path.length ≤ 20 ∧ p.1.tags.length ≤ 15))
    (uf um uo : Int) (uP uT : Option Addr) (upc utc : Nat) (up ut : List Int) (r : Int) (hm : ((⟨uP, upc, up, uf, um, uo, uT, utc, ut⟩ : AttrR), r) ∈ L) (w' : World) :
    Calls Try.prog 11 #[.agg #[.slice uP up.length upc, .int .i64 uf, .int .i64 um, .int .i64 uo, .slice uT ut.length utc]] w' fun e w1 => e = .returned (.int .i64 r) ∧ New w' w1 := by
  rcases hL _ hm with ⟨h1, h2⟩ | ⟨h1, h2, h3⟩
  · dsimp only at h1
    subst h1
    exact longAttr_yes ⟨uP, upc, up, uf, um, uo, uT, utc, ut⟩ w' h2
  · dsimp only at h1
    subst h1
    exact longAttr_no ⟨uP, upc, up, uf, um, uo, uT, utc, ut⟩ w' h2 h3
theorem sorted_head {ss : List RouteR} (h : (ss.map RouteR.con).Pairwise fun x y => leL ltC x y) {s : RouteR} (h0 : ss[0]? = some s) : IsBest ss s.con := by
  cases ss with
  | nil => cases h0
  | cons x xs =>
    have e : x = s := by simpa using h0
    subst e
    refine .inr ⟨x, List.mem_cons_self .., rfl, fun t ht => ?_⟩
    rcases List.mem_cons.1 ht with rfl | ht
    · exact ltC_irr _
    · rw [List.map_cons] at h
      exact (List.pairwise_cons.1 h).1 _ (List.mem_map.2 ⟨t, ht, rfl⟩)
end Go.Proofs.Ytlealjcllbpgkaa

namespace Go.Proofs.Ytlealjcllbpgkaa
open Go.RowKit
set_option maxRecDepth 20000 in
set_option maxHeartbeats 16000000 in
theorem bestTells_any (ls : List RouteR) (A : Option Addr) (N cap : Nat) (x y : RouteR) (w : World) (hN : ls.length = N) (hr : Rts w A ls) (hx : AttrOk w x.at_) (hy : AttrOk w y.at_) :
    Calls Try.prog 4 #[.slice A N cap, .agg x.cells, .agg y.cells] w fun e w1 => e = .returned (.bool true) ∧ New w w1 := by
  have u0 := ((Upd.refl (fun _ => False) w).alloc (.cells x.cells TRt)).alloc (.cells y.cells TRt)
  have BX := hide ((Blk.new w TRt x.cells).alloc (.cells y.cells TRt))
  have BY := hide (Blk.at_ (w.alloc (.cells x.cells TRt)) TRt y.cells (w.heap.size + 1) (by simp))
  have NW := hide u0
  have HN := hide hN
  have HR := hide hr
  have OX := hide hx
  have OY := hide hy
  clear u0 hN hr hx hy
  obtain ⟨xa, xn, ⟨xP, xpc, xp, xf, xm, xo, xT, xtc, xt⟩, xg⟩ := x
  obtain ⟨ya, yn, ⟨yP, ypc, yp, yf, ym, yo, yT, ytc, yt⟩, yg⟩ := y
  unfold RouteR.cells at *
  dsimp only at *
  go_enter Try.func4, Try.ntmps4
  go_upto_region 1 with (fail)
  generalize ((w.alloc (.cells #[.int .i64 xa, .int .i64 xn, .slice xP xp.length xpc, .int .i64 xf, .int .i64 xm, .int .i64 xo, .slice xT xt.length xtc, .int .i64 xg] TRt)).alloc (.cells #[.int .i64 ya, .int .i64 yn, .slice yP yp.length ypc, .int .i64 yf, .int .i64 ym, .int .i64 yo, .slice yT yt.length ytc, .int .i64 yg] TRt)) = W0 at *
  go_wp2_with fail
  refine (bettered_any _).mono ?_
  rintro e w1 ⟨rfl, hu⟩
  have NW := hide (NW.out.trans_new hu)
  have BX := hide (BX.out.new_ hu)
  have BY := hide (BY.out.new_ hu)
  clear hu
  have bx := BX.out
  have by_ := BY.out
  have x0 := bx.cell 0
  have x1 := bx.cell 1
  have x2 := bx.cell 2
  have x3 := bx.cell 3
  have x4 := bx.cell 4
  have x5 := bx.cell 5
  have x6 := bx.cell 6
  have x7 := bx.cell 7
  have y0 := by_.cell 0
  have y1 := by_.cell 1
  have y2 := by_.cell 2
  have y3 := by_.cell 3
  have y4 := by_.cell 4
  have y5 := by_.cell 5
  have y6 := by_.cell 6
  have y7 := by_.cell 7
  have zx := bx.lt
  have zy := by_.lt
  simp only [List.getElem?_toArray, List.getElem?_cons_zero, List.getElem?_cons_succ] at x0 x1 x2 x3 x4 x5 x6 x7 y0 y1 y2 y3 y4 y5 y6 y7
  clear bx by_
  go_upto_region 2 with (fail)
  go_cut [28] (fun v wx => ∃ c : Bool, v = .bool c ∧ (c = false → ¬ (30 < N ∨ ∃ r ∈ ls, 20 < r.at_.path.length ∨ 15 < r.at_.tags.length) ∧ (xp.length ≤ 20 ∧ xt.length ≤ 15) ∧ (yp.length ≤ 20 ∧ yt.length ≤ 15)) ∧ New w1 wx)
  case first =>
    as_aux_lemma =>
      by_cases hP : (30 < N ∨ ∃ r ∈ ls, 20 < r.at_.path.length ∨ 15 < r.at_.tags.length)
      · have Hlg := hide (fun w' (hw : New w1 w') => long_yes ls A N cap w' HN.out (HR.out.new_ (NW.out.trans_new hw)) hP)
        clear hP
        refine wp_region_new w1 (Upd.refl _ _) (by kernel_rfl) (by kernel_rfl) ?_
        repeat (go_big_quiet_step ((go_at_call 6; exact new_call (Hlg.out _ (NewW.h _)))))
        refine wpQuiet_nil ?_
        rintro _ ⟨nq, rfl⟩
        obtain ⟨wn, hu⟩ := nq
        dsimp only
        go_wp2_with fail
        go_meet
        exact ⟨true, by first | rfl | simp, fun h => (by cases h), hu⟩
      · have Hlg := hide (fun w' (hw : New w1 w') => long_no ls A N cap w' HN.out (HR.out.new_ (NW.out.trans_new hw)) hP)
        have HP := hide hP
        clear hP
        by_cases qx : xp.length ≤ 20 ∧ xt.length ≤ 15
        · have QX := hide qx
          clear qx
          by_cases qy : yp.length ≤ 20 ∧ yt.length ≤ 15
          · have QY := hide qy
            clear qy
            have Hla := hide (longAttr_in (L := [(⟨xP, xpc, xp, xf, xm, xo, xT, xtc, xt⟩, (0 : Int)), (⟨yP, ypc, yp, yf, ym, yo, yT, ytc, yt⟩, (0 : Int))]) (fun p hp => by
              simp only [List.mem_cons, List.not_mem_nil, or_false] at hp
              rcases hp with rfl | rfl
              · exact .inr ⟨rfl, QX.out⟩
              · exact .inr ⟨rfl, QY.out⟩))
            refine wp_region_new w1 (Upd.refl _ _) (by kernel_rfl) (by kernel_rfl) ?_
            repeat (go_big_quiet_step (first
              | (go_at_call 6; exact new_call (Hlg.out _ (NewW.h _)))
              | (go_at_call 11; exact new_call (Hla.out _ _ _ _ _ _ _ _ _ _ (by first | exact .head _ | exact .tail _ (.head _)) _))))
            refine wpQuiet_nil ?_
            rintro _ ⟨nq, rfl⟩
            obtain ⟨wn, hu⟩ := nq
            dsimp only
            go_wp2_with fail
            go_meet
            exact ⟨false, by first | rfl | simp, fun _ => ⟨HP.out, QX.out, QY.out⟩, hu⟩
          · have QY := hide (show 20 < yp.length ∨ 15 < yt.length by omega)
            clear qy
            have Hla := hide (longAttr_in (L := [(⟨xP, xpc, xp, xf, xm, xo, xT, xtc, xt⟩, (0 : Int)), (⟨yP, ypc, yp, yf, ym, yo, yT, ytc, yt⟩, (1 : Int))]) (fun p hp => by
              simp only [List.mem_cons, List.not_mem_nil, or_false] at hp
              rcases hp with rfl | rfl
              · exact .inr ⟨rfl, QX.out⟩
              · exact .inl ⟨rfl, QY.out⟩))
            refine wp_region_new w1 (Upd.refl _ _) (by kernel_rfl) (by kernel_rfl) ?_
            repeat (go_big_quiet_step (first
              | (go_at_call 6; exact new_call (Hlg.out _ (NewW.h _)))
              | (go_at_call 11; exact new_call (Hla.out _ _ _ _ _ _ _ _ _ _ (by first | exact .head _ | exact .tail _ (.head _)) _))))
            refine wpQuiet_nil ?_
            rintro _ ⟨nq, rfl⟩
            obtain ⟨wn, hu⟩ := nq
            dsimp only
            go_wp2_with fail
            go_meet
            exact ⟨true, by first | rfl | simp, fun h => (by cases h), hu⟩
        · have QX := hide (show 20 < xp.length ∨ 15 < xt.length by omega)
          clear qx
          by_cases qy : yp.length ≤ 20 ∧ yt.length ≤ 15
          · have QY := hide qy
            clear qy
            have Hla := hide (longAttr_in (L := [(⟨xP, xpc, xp, xf, xm, xo, xT, xtc, xt⟩, (1 : Int)), (⟨yP, ypc, yp, yf, ym, yo, yT, ytc, yt⟩, (0 : Int))]) (fun p hp => by
              simp only [List.mem_cons, List.not_mem_nil, or_false] at hp
              rcases hp with rfl | rfl
              · exact .inl ⟨rfl, QX.out⟩
              · exact .inr ⟨rfl, QY.out⟩))
            refine wp_region_new w1 (Upd.refl _ _) (by kernel_rfl) (by kernel_rfl) ?_
            repeat (go_big_quiet_step (first
              | (go_at_call 6; exact new_call (Hlg.out _ (NewW.h _)))
              | (go_at_call 11; exact new_call (Hla.out _ _ _ _ _ _ _ _ _ _ (by first | exact .head _ | exact .tail _ (.head _)) _))))
            refine wpQuiet_nil ?_
            rintro _ ⟨nq, rfl⟩
            obtain ⟨wn, hu⟩ := nq
            dsimp only
            go_wp2_with fail
            go_meet
            exact ⟨true, by first | rfl | simp, fun h => (by cases h), hu⟩
          · have QY := hide (show 20 < yp.length ∨ 15 < yt.length by omega)
            clear qy
            have Hla := hide (longAttr_in (L := [(⟨xP, xpc, xp, xf, xm, xo, xT, xtc, xt⟩, (1 : Int)), (⟨yP, ypc, yp, yf, ym, yo, yT, ytc, yt⟩, (1 : Int))]) (fun p hp => by
              simp only [List.mem_cons, List.not_mem_nil, or_false] at hp
              rcases hp with rfl | rfl
              · exact .inl ⟨rfl, QX.out⟩
              · exact .inl ⟨rfl, QY.out⟩))
            refine wp_region_new w1 (Upd.refl _ _) (by kernel_rfl) (by kernel_rfl) ?_
            repeat (go_big_quiet_step (first
              | (go_at_call 6; exact new_call (Hlg.out _ (NewW.h _)))
              | (go_at_call 11; exact new_call (Hla.out _ _ _ _ _ _ _ _ _ _ (by first | exact .head _ | exact .tail _ (.head _)) _))))
            refine wpQuiet_nil ?_
            rintro _ ⟨nq, rfl⟩
            obtain ⟨wn, hu⟩ := nq
            dsimp only
            go_wp2_with fail
            go_meet
            exact ⟨true, by first | rfl | simp, fun h => (by cases h), hu⟩
  case rest =>
    obtain ⟨c, rfl, hc, hu⟩ := hcut
    clear x0 x1 x2 x3 x4 x5 x6 x7 y0 y1 y2 y3 y4 y5 y6 y7 zx zy
    have NW := hide (NW.out.trans_new hu)
    have BX := hide (BX.out.new_ hu)
    have BY := hide (BY.out.new_ hu)
    clear hu
    cases c with
    | true =>
      clear hc
      go_wp2_with fail
      go_ret
      exact ⟨rfl, NW.out⟩
    | false =>
      obtain ⟨hP, hqx, hqy⟩ := hc rfl
      have h30 : N ≤ 30 := by
        refine Nat.le_of_not_lt fun h => hP (.inl h)
      have HL := hide (show ∀ r ∈ ls, r.at_.path.length ≤ 1000 ∧ r.at_.tags.length ≤ 1000 from fun r hm => by
        refine ⟨Nat.le_of_not_lt fun h => hP (.inr ⟨r, hm, .inl (by omega)⟩), Nat.le_of_not_lt fun h => hP (.inr ⟨r, hm, .inr (by omega)⟩)⟩)
      have LX := hide (show xp.length ≤ 1000 ∧ xt.length ≤ 1000 by omega)
      have LY := hide (show yp.length ≤ 1000 ∧ yt.length ≤ 1000 by omega)
      clear hc hP hqx hqy
      have Hso := hide (sortRoutes_any ls A N cap wc HN.out (by omega) (HR.out.new_ NW.out) HL.out)
      go_wp2_with fail
      refine Hso.out.mono ?_
      rintro e w4 ⟨A1, c1, ss, rfl, hc1, hr1, hp1, hs1, hu⟩
      have HC := hide hc1
      have R1 := hide hr1
      have P1 := hide hp1
      have S1 := hide hs1
      clear Hso hc1 hr1 hp1 hs1
      have NW := hide (NW.out.trans_new hu)
      have BX := hide (BX.out.new_ hu)
      have BY := hide (BY.out.new_ hu)
      clear hu
      go_upto_region 5 with (fail)
      obtain ⟨r, hro⟩ : ∃ r, ordC (RouteR.con ⟨xa, xn, ⟨xP, xpc, xp, xf, xm, xo, xT, xtc, xt⟩, xg⟩) (RouteR.con ⟨ya, yn, ⟨yP, ypc, yp, yf, ym, yo, yT, ytc, yt⟩, yg⟩) = r := ⟨_, rfl⟩
      have n1 : ss.length = N := by rw [P1.out.length_eq]; exact HN.out
      have Hown := hide (fun w' (hw : New w4 w') => ownRoutes_any ls A N cap w' HN.out (by omega) (HR.out.new_ (NW.out.trans_new hw)) HL.out)
      have Hsr := hide (fun (B : Option Addr) (cb : Nat) (os : List RouteR) (w' : World) (ho : os.length = N) (hb : Rts w' B os) (hc : os.map RouteR.con = ls.map RouteR.con) => bestSort_any os B N cb w' ho hb (fun r hm => by
        obtain ⟨i, hi⟩ := List.getElem?_of_mem hm
        exact perm_len (by rw [hc]) HL.out i r hi) (by omega))
      have Hsm := hide (fun (B : Option Addr) (cb : Nat) (os : List RouteR) (w' : World) (hw : New w4 w') (hb : Rts w' B os) (hp : (os.map RouteR.con).Perm (ls.map RouteR.con)) (hs : (os.map RouteR.con).Pairwise (fun x y => leL ltC x y)) =>
        show Calls Try.prog 8 #[.slice B os.length cb, .slice A1 N c1] w' fun e w1 => e = .returned (.bool true) ∧ New w' w1 from by
          have hln : os.length = N := by have := hp.length_eq; simp only [List.length_map] at this; rw [this]; exact HN.out
          have h := sameRoutes_any B A1 os.length N cb c1 os ss w' hb (R1.out.new_ hw) rfl n1 (by omega) (by omega) (perm_len hp HL.out) (perm_len (P1.out.map RouteR.con) HL.out)
          rwa [show decide (os.map RouteR.con = ss.map RouteR.con) = true from decide_eq_true (sorted_one (hp.trans (P1.out.map RouteR.con).symm) hs S1.out)] at h)
      have Hbt := hide (fun w' (hw : New w4 w') => better_any ⟨xa, xn, ⟨xP, xpc, xp, xf, xm, xo, xT, xtc, xt⟩, xg⟩ ⟨ya, yn, ⟨yP, ypc, yp, yf, ym, yo, yT, ytc, yt⟩, yg⟩ w' (OX.out.new_ (NW.out.trans_new hw)) (OY.out.new_ (NW.out.trans_new hw)) LX.out LY.out)
      have Hor := hide (fun w' (hw : New w4 w') => orderRoutes_any ⟨xa, xn, ⟨xP, xpc, xp, xf, xm, xo, xT, xtc, xt⟩, xg⟩ ⟨ya, yn, ⟨yP, ypc, yp, yf, ym, yo, yT, ytc, yt⟩, yg⟩ w' (OX.out.new_ (NW.out.trans_new hw)) (OY.out.new_ (NW.out.trans_new hw)) LX.out LY.out)
      rw [show ltC (RouteR.con ⟨xa, xn, ⟨xP, xpc, xp, xf, xm, xo, xT, xtc, xt⟩, xg⟩) (RouteR.con ⟨ya, yn, ⟨yP, ypc, yp, yf, ym, yo, yT, ytc, yt⟩, yg⟩) = decide (r < 0) from by unfold ltC; rw [hro]] at Hbt
      rw [hro] at Hor
      unfold RouteR.cells at Hbt Hor
      dsimp only at Hbt Hor
      clear hro n1
      have bx := BX.out
      have by_ := BY.out
      have x0 := bx.cell 0
      have x1 := bx.cell 1
      have x2 := bx.cell 2
      have x3 := bx.cell 3
      have x4 := bx.cell 4
      have x5 := bx.cell 5
      have x6 := bx.cell 6
      have x7 := bx.cell 7
      have y0 := by_.cell 0
      have y1 := by_.cell 1
      have y2 := by_.cell 2
      have y3 := by_.cell 3
      have y4 := by_.cell 4
      have y5 := by_.cell 5
      have y6 := by_.cell 6
      have y7 := by_.cell 7
      have zx := bx.lt
      have zy := by_.lt
      simp only [List.getElem?_toArray, List.getElem?_cons_zero, List.getElem?_cons_succ] at x0 x1 x2 x3 x4 x5 x6 x7 y0 y1 y2 y3 y4 y5 y6 y7
      clear bx by_
      have KK := hide (fun w' (hu : New w4 w') => (show w'.cell? ⟨w.heap.size, 0, none⟩ = some (.int .i64 xa) ∧ w'.cell? ⟨w.heap.size, 1, none⟩ = some (.int .i64 xn) ∧ w'.cell? ⟨w.heap.size, 2, none⟩ = some (.slice xP xp.length xpc) ∧ w'.cell? ⟨w.heap.size, 3, none⟩ = some (.int .i64 xf) ∧ w'.cell? ⟨w.heap.size, 4, none⟩ = some (.int .i64 xm) ∧ w'.cell? ⟨w.heap.size, 5, none⟩ = some (.int .i64 xo) ∧ w'.cell? ⟨w.heap.size, 6, none⟩ = some (.slice xT xt.length xtc) ∧ w'.cell? ⟨w.heap.size, 7, none⟩ = some (.int .i64 xg) ∧ w'.cell? ⟨w.heap.size + 1, 0, none⟩ = some (.int .i64 ya) ∧ w'.cell? ⟨w.heap.size + 1, 1, none⟩ = some (.int .i64 yn) ∧ w'.cell? ⟨w.heap.size + 1, 2, none⟩ = some (.slice yP yp.length ypc) ∧ w'.cell? ⟨w.heap.size + 1, 3, none⟩ = some (.int .i64 yf) ∧ w'.cell? ⟨w.heap.size + 1, 4, none⟩ = some (.int .i64 ym) ∧ w'.cell? ⟨w.heap.size + 1, 5, none⟩ = some (.int .i64 yo) ∧ w'.cell? ⟨w.heap.size + 1, 6, none⟩ = some (.slice yT yt.length ytc) ∧ w'.cell? ⟨w.heap.size + 1, 7, none⟩ = some (.int .i64 yg) from ⟨(hu.cell zx (fun q => q)).trans x0, (hu.cell zx (fun q => q)).trans x1, (hu.cell zx (fun q => q)).trans x2, (hu.cell zx (fun q => q)).trans x3, (hu.cell zx (fun q => q)).trans x4, (hu.cell zx (fun q => q)).trans x5, (hu.cell zx (fun q => q)).trans x6, (hu.cell zx (fun q => q)).trans x7, (hu.cell zy (fun q => q)).trans y0, (hu.cell zy (fun q => q)).trans y1, (hu.cell zy (fun q => q)).trans y2, (hu.cell zy (fun q => q)).trans y3, (hu.cell zy (fun q => q)).trans y4, (hu.cell zy (fun q => q)).trans y5, (hu.cell zy (fun q => q)).trans y6, (hu.cell zy (fun q => q)).trans y7⟩))
      have W0d := hide (show New w4 w4.drew from (Upd.refl _ w4).drew)
      go_cut [47] (fun v wx => v = .bool false ∧ New w4 wx)
      case first =>
        as_aux_lemma =>
          go_region_held3 (fun w' => w'.cell? ⟨w.heap.size, 0, none⟩ = some (.int .i64 xa) ∧ w'.cell? ⟨w.heap.size, 1, none⟩ = some (.int .i64 xn) ∧ w'.cell? ⟨w.heap.size, 2, none⟩ = some (.slice xP xp.length xpc) ∧ w'.cell? ⟨w.heap.size, 3, none⟩ = some (.int .i64 xf) ∧ w'.cell? ⟨w.heap.size, 4, none⟩ = some (.int .i64 xm) ∧ w'.cell? ⟨w.heap.size, 5, none⟩ = some (.int .i64 xo) ∧ w'.cell? ⟨w.heap.size, 6, none⟩ = some (.slice xT xt.length xtc) ∧ w'.cell? ⟨w.heap.size, 7, none⟩ = some (.int .i64 xg) ∧ w'.cell? ⟨w.heap.size + 1, 0, none⟩ = some (.int .i64 ya) ∧ w'.cell? ⟨w.heap.size + 1, 1, none⟩ = some (.int .i64 yn) ∧ w'.cell? ⟨w.heap.size + 1, 2, none⟩ = some (.slice yP yp.length ypc) ∧ w'.cell? ⟨w.heap.size + 1, 3, none⟩ = some (.int .i64 yf) ∧ w'.cell? ⟨w.heap.size + 1, 4, none⟩ = some (.int .i64 ym) ∧ w'.cell? ⟨w.heap.size + 1, 5, none⟩ = some (.int .i64 yo) ∧ w'.cell? ⟨w.heap.size + 1, 6, none⟩ = some (.slice yT yt.length ytc) ∧ w'.cell? ⟨w.heap.size + 1, 7, none⟩ = some (.int .i64 yg))
            (first | exact KK.out _ U12.out | exact KK.out _ U11.out | exact KK.out _ U10.out | exact KK.out _ U9.out | exact KK.out _ U8.out | exact KK.out _ W0d.out | go_keep)
            (first
              | (go_at_call 13; refine (Hown.out _ W0d.out).mono ?_; rintro e w8 ⟨B8, c8, o8, rfl, hl8, hr8, hc8, hu8⟩; have U8 := hide (W0d.out.trans_new hu8); have L8 := hide hl8; have R8 := hide hr8; have C8 := hide hc8; clear hl8 hr8 hc8 hu8)
              | (go_at_call 9; refine (Hsr.out B8 c8 o8 _ L8.out R8.out C8.out).mono ?_; rintro e w9 ⟨B9, c9, o9, rfl, hr9, hp9, hs9, hu9⟩; have U9 := hide (U8.out.trans_new hu9); have R9 := hide hr9; have P9 := hide (show (o9.map RouteR.con).Perm (ls.map RouteR.con) from by rw [← C8.out]; exact hp9); have S9 := hide hs9; clear hr9 hp9 hs9 hu9)
              | (go_at_call 8; refine (Hsm.out B9 c9 o9 _ U9.out R9.out P9.out S9.out).mono ?_; rintro e w10 ⟨rfl, hu10⟩; have U10 := hide (U9.out.trans_new hu10); clear hu10)
              | (go_at_call 10; refine (Hbt.out _ U10.out).mono ?_; rintro e w11 ⟨rfl, hu11⟩; have U11 := hide (U10.out.trans_new hu11); clear hu11)
              | (go_at_call 14; refine (Hor.out _ U11.out).mono ?_; rintro e w12 ⟨rfl, hu12⟩; have U12 := hide (U11.out.trans_new hu12); clear hu12))
          all_goals
            go_wp2_with fail
            go_meet
            case rel => exact ⟨by first | rfl | simp, U12.out⟩
      case rest =>
        obtain ⟨rfl, hu⟩ := hcut
        have R1 := hide (R1.out.new_ hu)
        have NW := hide (NW.out.trans_new hu)
        have BX := hide (BX.out.new_ hu)
        have BY := hide (BY.out.new_ hu)
        clear hu
        clear x0 x1 x2 x3 x4 x5 x6 x7 y0 y1 y2 y3 y4 y5 y6 y7 zx zy KK W0d Hown Hsr Hsm Hbt Hor
        go_upto_region 7 with (fail)
        have Ho := hide (ownRoutes_any ls A N cap wc HN.out (by omega) (HR.out.new_ NW.out) HL.out)
        go_wp2_with fail
        refine Ho.out.mono ?_
        rintro e w5 ⟨B5, c5, o5, rfl, hl5, hr5, hc5, hu⟩
        have R1 := hide (R1.out.new_ hu)
        have Hc5 := hide hc5
        have Hbe := hide (best_any o5 B5 N c5 w5 hl5 (by omega) hr5 (fun r hm => by
          obtain ⟨i, hi⟩ := List.getElem?_of_mem hm
          exact perm_len (by rw [hc5]) HL.out i r hi))
        have NW := hide (NW.out.trans_new hu)
        have BX := hide (BX.out.new_ hu)
        have BY := hide (BY.out.new_ hu)
        clear hu
        clear hl5 hr5 hc5 Ho
        go_wp2_with fail
        refine Hbe.out.mono ?_
        rintro e w6 ⟨⟨ra, rn, ⟨rP, rpc, rp, rf, rm, ro, rT, rtc, rt⟩, rg⟩, rfl, hb, hok, hll, hu⟩
        unfold RouteR.cells
        dsimp only at hll ⊢
        have u7 := hu.trans_new ((Upd.refl (fun _ => False) w6).alloc (.cells #[.int .i64 ra, .int .i64 rn, .slice rP rp.length rpc, .int .i64 rf, .int .i64 rm, .int .i64 ro, .slice rT rt.length rtc, .int .i64 rg] TRt))
        have BR := hide (Blk.new w6 TRt #[.int .i64 ra, .int .i64 rn, .slice rP rp.length rpc, .int .i64 rf, .int .i64 rm, .int .i64 ro, .slice rT rt.length rtc, .int .i64 rg])
        have OR := hide (hok.new_ ((Upd.refl (fun _ => False) w6).alloc (.cells #[.int .i64 ra, .int .i64 rn, .slice rP rp.length rpc, .int .i64 rf, .int .i64 rm, .int .i64 ro, .slice rT rt.length rtc, .int .i64 rg] TRt)))
        have R1 := hide (R1.out.new_ u7)
        have NW := hide (NW.out.trans_new u7)
        have IB := hide hb
        have LR := hide hll
        clear Hbe hu u7 hb hok hll BX BY
        go_upto_region 8 with (fail)
        generalize hW7 : w6.alloc (.cells #[.int .i64 ra, .int .i64 rn, .slice rP rp.length rpc, .int .i64 rf, .int .i64 rm, .int .i64 ro, .slice rT rt.length rtc, .int .i64 rg] TRt) = W7 at *
        generalize hG : w6.heap.size = G at *
        clear hW7 hG
        have bz := BR.out
        have z0 := bz.cell 0
        have z1 := bz.cell 1
        have z2 := bz.cell 2
        have z3 := bz.cell 3
        have z4 := bz.cell 4
        have z5 := bz.cell 5
        have z6 := bz.cell 6
        have z7 := bz.cell 7
        have zz := bz.lt
        simp only [List.getElem?_toArray, List.getElem?_cons_zero, List.getElem?_cons_succ] at z0 z1 z2 z3 z4 z5 z6 z7
        by_cases h0 : 0 < N
        · have i1 : (1 : Int) ≤ (c1 : Int) := by have := HC.out; omega
          have n1 : ss.length = N := by rw [P1.out.length_eq]; exact HN.out
          obtain ⟨s0, hs0⟩ : ∃ s0, ss[0]? = some s0 := ⟨_, List.getElem?_eq_getElem (by omega)⟩
          have e1 : ss.take 1 = [s0] := by
            apply List.ext_getElem?
            intro i
            rw [List.getElem?_take]
            cases i with
            | zero => simpa using hs0
            | succ i => simp
          have u8 := (Upd.refl (fun _ => False) W7).alloc (.cells #[.int .i64 ra, .int .i64 rn, .slice rP rp.length rpc, .int .i64 rf, .int .i64 rm, .int .i64 ro, .slice rT rt.length rtc, .int .i64 rg] TRt)
          have c2 := rts_of_blk (l := [⟨ra, rn, ⟨rP, rpc, rp, rf, rm, ro, rT, rtc, rt⟩, rg⟩]) (Blk.new W7 TRt #[.int .i64 ra, .int .i64 rn, .slice rP rp.length rpc, .int .i64 rf, .int .i64 rm, .int .i64 ro, .slice rT rt.length rtc, .int .i64 rg]) (fun r hr => by
            obtain rfl := List.mem_singleton.1 hr
            exact OR.out.new_ u8)
          have c3 := (R1.out.new_ u8).take 1
          rw [e1] at c3
          have hls0 : s0.at_.path.length ≤ 1000 ∧ s0.at_.tags.length ≤ 1000 := perm_len (P1.out.map RouteR.con) HL.out 0 s0 hs0
          have Hs := hide (fun wd (hd : New (W7.alloc (.cells #[.int .i64 ra, .int .i64 rn, .slice rP rp.length rpc, .int .i64 rf, .int .i64 rm, .int .i64 ro, .slice rT rt.length rtc, .int .i64 rg] TRt)) wd) => sameRoutes_any (some ⟨W7.heap.size, 0, none⟩) A1 1 1 1 c1 [⟨ra, rn, ⟨rP, rpc, rp, rf, rm, ro, rT, rtc, rt⟩, rg⟩] [s0] wd (c2.new_ hd) (c3.new_ hd) rfl rfl (by omega) (by omega) (fun i r hi => by
            obtain rfl := List.mem_singleton.1 (List.mem_of_getElem? hi)
            exact LR.out) (fun i r hi => by
            obtain rfl := List.mem_singleton.1 (List.mem_of_getElem? hi)
            exact hls0))
          rw [show decide (([⟨ra, rn, ⟨rP, rpc, rp, rf, rm, ro, rT, rtc, rt⟩, rg⟩] : List RouteR).map RouteR.con = [s0].map RouteR.con) = true from by
            refine decide_eq_true ?_
            rw [List.map_singleton, List.map_singleton, isBest_one (by rw [Hc5.out]; exact (P1.out.map RouteR.con).symm) IB.out (sorted_head S1.out hs0)]] at Hs
          have U8 := hide u8
          clear n1 hs0 e1 u8 c2 c3 hls0 bz
          have hd : decide (0 < N) = true := decide_eq_true h0
          go_upto_region 10 with (fail)
          rw [hd]
          clear hd
          go_region_with (go_at_call 8; refine (Hs.out _ (by first | exact Upd.refl _ _ | exact (Upd.refl _ _).drew)).mono ?_; rintro e w9 ⟨rfl, hu9⟩)
          all_goals
            go_wp2_with fail
            go_ret
            exact ⟨by first | rfl | simp, by first | exact NW.out.trans_new (U8.out.trans_new hu9) | exact NW.out.trans_new (U8.out.drew.trans_new hu9)⟩
        · have h1 : ¬ (0 : Int) < (N : Int) := by omega
          have h2 : N = 0 := by omega
          subst h2
          clear h0 h1 bz
          go_upto_region 10 with (fail)
          refine wp_region_new W7 (Upd.refl _ _) (by kernel_rfl) (by kernel_rfl) ?_
          repeat (go_big_quiet_step (fail))
          refine wpQuiet_nil ?_
          rintro _ ⟨nq, rfl⟩
          obtain ⟨wn, hu⟩ := nq
          dsimp only
          go_wp2_with fail
          go_ret
          exact ⟨rfl, NW.out.trans_new hu⟩
end Go.Proofs.Ytlealjcllbpgkaa
