/- The law BestAny: its walk. No condition but those that stand in each theorem. -/
import Derived.Test.YtlealjcllbpgkaaBa1
import Derived.Deep.DeepCutAuto
namespace Go.Proofs.Ytlealjcllbpgkaa
open Go.RowKit
theorem rt_oneV (l : List RouteR) : ∀ u ∈ flat (l.map RouteR.cells), u.oneCell' = true := fun u hu => by
  obtain ⟨r, hr, hu⟩ := List.mem_flatMap.1 hu
  obtain ⟨p, _, rfl⟩ := List.mem_map.1 hr
  simp [RouteR.cells] at hu
  rcases hu with rfl | rfl | rfl | rfl | rfl | rfl | rfl | rfl <;> rfl
theorem rt_lenV (l : List RouteR) : (flat (l.map RouteR.cells)).length = l.length * 8 := by rw [flat_length _ (rt_sizeV l), List.length_map]
theorem Rts.take {w : World} {A : Option Addr} {l : List RouteR} (h : Rts w A l) (k : Nat) : Rts w A (l.take k) := by
  refine ⟨fun h0 => ?_, fun i r hr => ?_⟩
  · have h1 : 0 < (l.map RouteR.cells).length := by
      simp at h0 ⊢
      omega
    obtain ⟨b, o, hA, hb, hc⟩ := h.rows h1
    refine ⟨b, o, hA, hb, fun i r hr => hc i r ?_⟩
    rw [List.map_take, List.getElem?_take] at hr
    split at hr
    · exact hr
    · cases hr
  · rw [List.getElem?_take] at hr
    split at hr
    · exact h.attr i r hr
    · cases hr
theorem Rts.drop {w : World} {b o : Nat} {l : List RouteR} (h : Rts w (some ⟨b, o, none⟩) l) (k : Nat) : Rts w (some ⟨b, o + k * 8, none⟩) (l.drop k) := by
  refine ⟨fun h0 => ?_, fun i r hr => ?_⟩
  · have h1 : 0 < (l.map RouteR.cells).length := by
      simp at h0 ⊢
      omega
    obtain ⟨b1, o1, hA, hb, hc⟩ := h.rows h1
    injection hA with hA
    injection hA with e1 e2
    subst e1; subst e2
    refine ⟨b, o + k * 8, rfl, hb, fun i r hr j v hv => ?_⟩
    rw [List.map_drop, List.getElem?_drop] at hr
    rw [show o + k * 8 + i * 8 + j = o + (k + i) * 8 + j by omega]
    exact hc (k + i) r hr j v hv
  · rw [List.getElem?_drop] at hr
    exact h.attr _ r hr
theorem rts_own {w w0 : World} {v : Value} {n : Nat} {l : List RouteR} (h : w.ownsRow w0.heap.size TRt 8 v n (flat (l.map RouteR.cells))) (hu : New w0 w) (ho : ∀ r ∈ l, AttrOk w0 r.at_) : ∃ A cap, v = .slice A n cap ∧ l.length = n ∧ Rts w A l := by
  obtain ⟨A, cap, hv, hn, _, hr, _⟩ := rws_of_own (by omega) h (rt_sizeV l)
  exact ⟨A, cap, hv, by simpa using hn, hr, fun i r hi => (ho r (List.mem_of_getElem? hi)).new_ hu⟩
theorem rts_drop_flat {w : World} {A : Option Addr} {l : List RouteR} (h : Rts w A l) (k : Nat) (h0 : 0 < (l.drop k).length) : ∃ b q, A.map (·.add (k * 8)) = some ⟨b, q, none⟩ ∧ ∀ (j : Nat) (u : Value), (flat ((l.drop k).map RouteR.cells))[j]? = some u → w.cell? ⟨b, q + j, none⟩ = some u := by
  obtain ⟨b, o, rfl, hb, hc⟩ := h.rows (by simp at h0 ⊢; omega)
  obtain ⟨b2, q, e, hq⟩ := Rws.flat (by omega) (h.drop k).rows (rt_sizeV _) (by simpa using h0)
  injection e with e
  injection e with e1 e2
  subst e1; subst e2
  exact ⟨b, o + k * 8, by simp [Addr.add], hq⟩
theorem rts_take_flat {w : World} {A : Option Addr} {l : List RouteR} (h : Rts w A l) (k : Nat) (h0 : 0 < (l.take k).length) : ∃ b q, A = some ⟨b, q, none⟩ ∧ ∀ (j : Nat) (u : Value), (flat ((l.take k).map RouteR.cells))[j]? = some u → w.cell? ⟨b, q + j, none⟩ = some u :=
  Rws.flat (by omega) (h.take k).rows (rt_sizeV _) (by simpa using h0)
theorem perm_len {rs ls : List RouteR} {n m : Nat} (hp : (rs.map RouteR.con).Perm (ls.map RouteR.con)) (h : ∀ r ∈ ls, r.at_.path.length ≤ n ∧ r.at_.tags.length ≤ m) : ∀ (i : Nat) (r : RouteR), rs[i]? = some r → r.at_.path.length ≤ n ∧ r.at_.tags.length ≤ m := fun i r hi => by
  obtain ⟨s, hs, e⟩ := List.mem_map.1 (hp.mem_iff.1 (List.mem_map.2 ⟨r, List.mem_of_getElem? hi, rfl⟩))
  have e1 : s.at_.con = r.at_.con := congrArg RtC.at_ e
  have e2 : s.at_.path = r.at_.path := congrArg AtC.path e1
  have e3 : s.at_.tags = r.at_.tags := congrArg AtC.tags e1
  rw [← e2, ← e3]
  exact h s hs
/-- What a route must keep to. -/
structure Good (w : World) (r : RouteR) : Prop where
  ok : AttrOk w r.at_
  len : r.at_.path.length ≤ 1000 ∧ r.at_.tags.length ≤ 1000
theorem Good.new_ {w w1 : World} {r : RouteR} (h : Good w r) (hu : New w w1) : Good w1 r := ⟨h.ok.new_ hu, h.len⟩
/-- Which of two is better, for all the pairs of a list that are asked in one region. -/
theorem better_in {W : World} {L : List (RouteR × RouteR × Bool)} (hL : ∀ p ∈ L, Good W p.1 ∧ Good W p.2.1 ∧ ltC p.1.con p.2.1.con = p.2.2)
    (ua un uf um uo ug : Int) (uP uT : Option Addr) (upc utc : Nat) (up ut : List Int) (va vn vf vm vo vg : Int) (vP vT : Option Addr) (vpc vtc : Nat) (vp vt : List Int) (r : Bool) (hm : ((⟨ua, un, ⟨uP, upc, up, uf, um, uo, uT, utc, ut⟩, ug⟩ : RouteR), (⟨va, vn, ⟨vP, vpc, vp, vf, vm, vo, vT, vtc, vt⟩, vg⟩ : RouteR), r) ∈ L) (w' : World) (hu : New W w') :
    Calls Try.prog 10 #[.agg #[.int .i64 ua, .int .i64 un, .slice uP up.length upc, .int .i64 uf, .int .i64 um, .int .i64 uo, .slice uT ut.length utc, .int .i64 ug], .agg #[.int .i64 va, .int .i64 vn, .slice vP vp.length vpc, .int .i64 vf, .int .i64 vm, .int .i64 vo, .slice vT vt.length vtc, .int .i64 vg]] w' fun e w1 => e = .returned (.bool r) ∧ New w' w1 := by
  obtain ⟨h1, h2, h3⟩ := hL _ hm
  dsimp only at h3
  rw [← h3]
  exact better_any (⟨ua, un, ⟨uP, upc, up, uf, um, uo, uT, utc, ut⟩, ug⟩ : RouteR) (⟨va, vn, ⟨vP, vpc, vp, vf, vm, vo, vT, vtc, vt⟩, vg⟩ : RouteR) w' (h1.new_ hu).ok (h2.new_ hu).ok h1.len h2.len
theorem rts_oneR {w : World} {b o : Nat} {l : List RouteR} (h : Rts w (some ⟨b, o, none⟩) l) {k : Nat} {r : RouteR} (hr : l[k]? = some r) : Rts w (some ⟨b, o + k * 8, none⟩) [r] := by
  have h1 := (h.drop k).take 1
  have e : (l.drop k).take 1 = [r] := by
    apply List.ext_getElem?
    intro i
    rw [List.getElem?_take, List.getElem?_drop]
    cases i with
    | zero => simpa using hr
    | succ i => simp
  rwa [e] at h1
theorem Rts.at_r {w : World} {b o k : Nat} {rs : List RouteR} {r : RouteR} (h : Rts w (some ⟨b, o, none⟩) rs) (hr : rs[k]? = some r) : b < w.heap.size ∧ w.cell? ⟨b, o + k * 8, none⟩ = some (.int .i64 r.a) ∧ w.cell? ⟨b, o + k * 8 + 1, none⟩ = some (.int .i64 r.n) ∧ w.cell? ⟨b, o + k * 8 + 2, none⟩ = some (.slice r.at_.P r.at_.path.length r.at_.pc) ∧
    w.cell? ⟨b, o + k * 8 + 3, none⟩ = some (.int .i64 r.at_.pref) ∧ w.cell? ⟨b, o + k * 8 + 4, none⟩ = some (.int .i64 r.at_.med) ∧ w.cell? ⟨b, o + k * 8 + 5, none⟩ = some (.int .i64 r.at_.origin) ∧
    w.cell? ⟨b, o + k * 8 + 6, none⟩ = some (.slice r.at_.T r.at_.tags.length r.at_.tc) ∧ w.cell? ⟨b, o + k * 8 + 7, none⟩ = some (.int .i64 r.frm) := by
  obtain ⟨b', o', r', e1, hb, hx, _, d0, d1, d2, d3, d4, d5, d6, d7⟩ := h.at_ (k := k) (List.getElem?_eq_some_iff.1 hr).1
  injection e1 with e1
  injection e1 with e1 e2
  subst e1; subst e2
  obtain rfl : r' = r := Option.some.inj (hx.symm.trans hr)
  exact ⟨hb, d0, d1, d2, d3, d4, d5, d6, d7⟩
set_option maxRecDepth 20000 in
set_option maxHeartbeats 16000000 in
theorem bestAny_any (ls : List RouteR) (A : Option Addr) (N cap : Nat) (at_ : Int) (w : World) (hN : ls.length = N) (hcap : N ≤ cap) (hr : Rts w A ls) :
    Calls Try.prog 3 #[.slice A N cap, .int .i64 at_] w fun e w1 => e = .returned (.bool true) ∧ New w w1 := by
  have HN := hide hN
  have Hcap := hide hcap
  have HR := hide hr
  clear hN hcap hr
  go_enter Try.func3, Try.ntmps3
  go_wp2_with fail
  refine (bettered_any _).mono ?_
  rintro e w1 ⟨rfl, hu⟩
  have N1 := hide hu
  have Hl := hide (longRoutes_any ls A N cap w1 HN.out (HR.out.new_ hu))
  clear hu
  go_wp2_with fail
  refine Hl.out.mono ?_
  rintro e w2 ⟨h | ⟨h, h30, hlen⟩, hu⟩
  · subst h
    go_wp2_with fail
    go_ret
    exact ⟨rfl, N1.out.trans_new hu⟩
  subst h
  have N2 := hide (N1.out.trans_new hu)
  have Hlen := hide hlen
  clear hu Hl hlen N1
  by_cases h0 : at_ < 0
  · go_wp2_with fail
    go_ret
    exact ⟨rfl, N2.out⟩
  by_cases h1 : (N : Int) < at_
  · go_wp2_with fail
    go_ret
    exact ⟨rfl, N2.out⟩
  obtain ⟨k, rfl⟩ : ∃ k : Nat, at_ = (k : Int) := ⟨at_.toNat, by omega⟩
  have hkN : k ≤ N := by omega
  clear h0 h1
  have h0 : ¬ (k : Int) < 0 := by omega
  have h1 : ¬ (N : Int) < (k : Int) := by omega
  have i1 : (k : Int) ≤ (cap : Int) := by have := Hcap.out; omega
  have i2 : (k : Int) ≤ (N : Int) := by omega
  have i3 : (0 : Int) ≤ (k : Int) := by omega
  obtain ⟨i0, hi0, hz0, hz1, hz2⟩ := info_parts info_TRt
  go_upto_region 5 with (fail)
  go_cut [6] (fun v6 wx => wx.ownsRow w2.heap.size TRt 8 v6 (N - k) (flat ((ls.drop k).map RouteR.cells)) ∧ New w2 wx)
  case first =>
    as_aux_lemma =>
      by_cases hck : cap = k
      · have hck3 : k = cap := hck.symm
        clear hck
        subst hck3
        have i9 : N - k = 0 := by have := Hcap.out; omega
        cases A with
        | none =>
          go_wp2_with (at_builtin; refine append_src rfl (.tmp 33) (.tmp 36) 22 rfl w2.heap.size TRt i0 _ 8 96 Try.underlying22 hi0 hz0 hz1 hz2 rfl (by omega) (.slice none 0 0) 0 [] rfl (World.ownsRow_nil _ _ _ _) _ _ _ (flat ((ls.drop k).map RouteR.cells)) rfl (by rw [rt_lenV, List.length_drop, HN.out]; first | (done) | (have := Hcap.out; omega)) (fun h => absurd h (by omega)) (rt_oneV _) (by unfold maxLen; omega) (by omega) (Nat.le_refl _) ?_)
          intro v6 w6 ho6 hg6
          have u6 : New w2 w6 := grown_new hg6
          have Ho6 := hide ho6
          have U6 := hide u6
          clear ho6 hg6 u6
          go_wp2_with fail
          go_meet
          exact ⟨by first | (simpa using Ho6.out) | (rw [i9]; simpa using Ho6.out), U6.out⟩
        | some a =>
          go_wp2_with (at_builtin; refine append_src rfl (.tmp 33) (.tmp 36) 22 rfl w2.heap.size TRt i0 _ 8 96 Try.underlying22 hi0 hz0 hz1 hz2 rfl (by omega) (.slice none 0 0) 0 [] rfl (World.ownsRow_nil _ _ _ _) _ _ _ (flat ((ls.drop k).map RouteR.cells)) rfl (by rw [rt_lenV, List.length_drop, HN.out]; first | (done) | (have := Hcap.out; omega)) (fun h => absurd h (by omega)) (rt_oneV _) (by unfold maxLen; omega) (by omega) (Nat.le_refl _) ?_)
          intro v6 w6 ho6 hg6
          have u6 : New w2 w6 := grown_new hg6
          have Ho6 := hide ho6
          have U6 := hide u6
          clear ho6 hg6 u6
          go_wp2_with fail
          go_meet
          exact ⟨by first | (simpa using Ho6.out) | (rw [i9]; simpa using Ho6.out), U6.out⟩
      · have hck2 : ¬ k = cap := fun h => hck h.symm
        cases A with
        | none =>
          go_wp2_with (at_builtin; refine append_src rfl (.tmp 33) (.tmp 36) 22 rfl w2.heap.size TRt i0 _ 8 96 Try.underlying22 hi0 hz0 hz1 hz2 rfl (by omega) (.slice none 0 0) 0 [] rfl (World.ownsRow_nil _ _ _ _) _ _ _ (flat ((ls.drop k).map RouteR.cells)) rfl (by rw [rt_lenV, List.length_drop, HN.out]; first | (done) | (have := Hcap.out; omega)) (fun h => rts_drop_flat (HR.out.new_ N2.out) k (by rw [List.length_drop, HN.out]; omega)) (rt_oneV _) (by unfold maxLen; omega) (by omega) (Nat.le_refl _) ?_)
          intro v6 w6 ho6 hg6
          have u6 : New w2 w6 := grown_new hg6
          have Ho6 := hide ho6
          have U6 := hide u6
          clear ho6 hg6 u6
          go_wp2_with fail
          go_meet
          exact ⟨by first | (simpa using Ho6.out) | (rw [i9]; simpa using Ho6.out), U6.out⟩
        | some a =>
          go_wp2_with (at_builtin; refine append_src rfl (.tmp 33) (.tmp 36) 22 rfl w2.heap.size TRt i0 _ 8 96 Try.underlying22 hi0 hz0 hz1 hz2 rfl (by omega) (.slice none 0 0) 0 [] rfl (World.ownsRow_nil _ _ _ _) _ _ _ (flat ((ls.drop k).map RouteR.cells)) rfl (by rw [rt_lenV, List.length_drop, HN.out]; first | (done) | (have := Hcap.out; omega)) (fun h => rts_drop_flat (HR.out.new_ N2.out) k (by rw [List.length_drop, HN.out]; omega)) (rt_oneV _) (by unfold maxLen; omega) (by omega) (Nat.le_refl _) ?_)
          intro v6 w6 ho6 hg6
          have u6 : New w2 w6 := grown_new hg6
          have Ho6 := hide ho6
          have U6 := hide u6
          clear ho6 hg6 u6
          go_wp2_with fail
          go_meet
          exact ⟨by first | (simpa using Ho6.out) | (rw [i9]; simpa using Ho6.out), U6.out⟩
  case rest =>
    obtain ⟨ho5, hu5⟩ := hcut
    have Ho5 := hide ho5
    have U5 := hide hu5
    clear ho5 hu5
    go_upto_region 6 with (fail)
    go_cut [6] (fun v6 wx => wx.ownsRow w2.heap.size TRt 8 v6 N (flat ((ls.drop k).map RouteR.cells) ++ flat ((ls.take k).map RouteR.cells)) ∧ New w2 wx)
    case first =>
      as_aux_lemma =>
        by_cases hck : cap = 0
        · have hN0 : N = 0 := by have := Hcap.out; omega
          have hk0 : k = 0 := by omega
          subst hck
          subst hN0
          subst hk0
          cases A with
          | none =>
            go_wp2_with (at_builtin; refine append_src rfl (.tmp 38) (.tmp 41) 22 rfl w2.heap.size TRt i0 _ 8 96 Try.underlying22 hi0 hz0 hz1 hz2 rfl (by omega) u6 _ _ rfl Ho5.out _ _ _ (flat ((ls.take 0).map RouteR.cells)) rfl (by rw [rt_lenV, List.length_take, HN.out]; first | (done) | (have := Hcap.out; omega)) (fun h => absurd h (by omega)) (rt_oneV _) (by unfold maxLen; omega) (by omega) U5.out.size ?_)
            intro v6 w6 ho6 hg6
            have Hu6 := hide (grown_own_new U5.out Ho5.out hg6)
            have Ho6 := hide ho6
            clear ho6 hg6
            go_wp2_with fail
            go_meet
            exact ⟨by first | exact Ho6.out | (simpa using Ho6.out), Hu6.out⟩
          | some a =>
            go_wp2_with (at_builtin; refine append_src rfl (.tmp 38) (.tmp 41) 22 rfl w2.heap.size TRt i0 _ 8 96 Try.underlying22 hi0 hz0 hz1 hz2 rfl (by omega) u6 _ _ rfl Ho5.out _ _ _ (flat ((ls.take 0).map RouteR.cells)) rfl (by rw [rt_lenV, List.length_take, HN.out]; first | (done) | (have := Hcap.out; omega)) (fun h => absurd h (by omega)) (rt_oneV _) (by unfold maxLen; omega) (by omega) U5.out.size ?_)
            intro v6 w6 ho6 hg6
            have Hu6 := hide (grown_own_new U5.out Ho5.out hg6)
            have Ho6 := hide ho6
            clear ho6 hg6
            go_wp2_with fail
            go_meet
            exact ⟨by first | exact Ho6.out | (simpa using Ho6.out), Hu6.out⟩
        · cases A with
          | none =>
            go_wp2_with (at_builtin; refine append_src rfl (.tmp 38) (.tmp 41) 22 rfl w2.heap.size TRt i0 _ 8 96 Try.underlying22 hi0 hz0 hz1 hz2 rfl (by omega) u6 _ _ rfl Ho5.out _ _ _ (flat ((ls.take k).map RouteR.cells)) rfl (by rw [rt_lenV, List.length_take, HN.out]; first | (done) | (have := Hcap.out; omega)) (fun h => rts_take_flat (HR.out.new_ (N2.out.trans_new U5.out)) k (by rw [List.length_take, HN.out]; omega)) (rt_oneV _) (by unfold maxLen; omega) (by omega) U5.out.size ?_)
            intro v6 w6 ho6 hg6
            have Hu6 := hide (grown_own_new U5.out Ho5.out hg6)
            have Ho6 := hide ho6
            clear ho6 hg6
            go_wp2_with fail
            go_meet
            exact ⟨by first | exact Ho6.out | (simpa using Ho6.out), Hu6.out⟩
          | some a =>
            go_wp2_with (at_builtin; refine append_src rfl (.tmp 38) (.tmp 41) 22 rfl w2.heap.size TRt i0 _ 8 96 Try.underlying22 hi0 hz0 hz1 hz2 rfl (by omega) u6 _ _ rfl Ho5.out _ _ _ (flat ((ls.take k).map RouteR.cells)) rfl (by rw [rt_lenV, List.length_take, HN.out]; first | (done) | (have := Hcap.out; omega)) (fun h => rts_take_flat (HR.out.new_ (N2.out.trans_new U5.out)) k (by rw [List.length_take, HN.out]; omega)) (rt_oneV _) (by unfold maxLen; omega) (by omega) U5.out.size ?_)
            intro v6 w6 ho6 hg6
            have Hu6 := hide (grown_own_new U5.out Ho5.out hg6)
            have Ho6 := hide ho6
            clear ho6 hg6
            go_wp2_with fail
            go_meet
            exact ⟨by first | exact Ho6.out | (simpa using Ho6.out), Hu6.out⟩
    case rest =>
      obtain ⟨ho6, hu6⟩ := hcut
      have hk2 := hkN
      clear i0 hi0 hz0 hz1 hz2 Ho5 U5
      have hfl : flat ((ls.drop k).map RouteR.cells) ++ flat ((ls.take k).map RouteR.cells) = flat ((ls.drop k ++ ls.take k).map RouteR.cells) := by rw [List.map_append, flat_append]
      rw [hfl] at ho6
      obtain ⟨B, cb, rfl, hl6, hr6⟩ := rts_own ho6 hu6 (fun r hr => by
        have hm : r ∈ ls := by
          rcases List.mem_append.1 hr with h | h
          · exact List.mem_of_mem_drop h
          · exact List.mem_of_mem_take h
        obtain ⟨i, hi⟩ := List.getElem?_of_mem hm
        exact ((HR.out.new_ N2.out).attr i r hi))
      have hp6 : (ls.drop k ++ ls.take k).Perm ls := by
        refine List.perm_append_comm.trans ?_
        rw [List.take_append_drop]
      generalize ls.drop k ++ ls.take k = ks at *
      have HKl := hide hl6
      have HK := hide hr6
      have HP := hide hp6
      have N3 := hide (N2.out.trans_new hu6)
      have Lr := hide (show ∀ r ∈ ls, r.at_.path.length ≤ 1000 ∧ r.at_.tags.length ≤ 1000 from fun r h => by have := Hlen.out r h; omega)
      have Lk := hide (show ∀ r ∈ ks, r.at_.path.length ≤ 1000 ∧ r.at_.tags.length ≤ 1000 from fun r h => by have := Hlen.out r (hp6.mem_iff.1 h); omega)
      clear ho6 hu6 hfl hl6 hr6 hp6 hk2 Hlen h0 h1 i1 i2 i3
      go_upto_region 7 with (fail)
      have Hb := hide (best_any ls A N cap wc HN.out (by omega) (HR.out.new_ N3.out) Lr.out)
      go_wp2_with fail
      refine Hb.out.mono ?_
      rintro e w4 ⟨⟨ra, rn, ⟨rP, rpc, rp, rf, rm, ro, rT, rtc, rt⟩, rg⟩, rfl, hb, hok, hll, hu⟩
      unfold RouteR.cells
      dsimp only at hll ⊢
      have u5 := (Upd.refl (fun _ => False) w4).alloc (.cells #[.int .i64 ra, .int .i64 rn, .slice rP rp.length rpc, .int .i64 rf, .int .i64 rm, .int .i64 ro, .slice rT rt.length rtc, .int .i64 rg] TRt)
      have BA := hide (Blk.new w4 TRt #[.int .i64 ra, .int .i64 rn, .slice rP rp.length rpc, .int .i64 rf, .int .i64 rm, .int .i64 ro, .slice rT rt.length rtc, .int .i64 rg])
      have N4 := hide (N3.out.trans_new (hu.trans_new u5))
      have HK := hide (HK.out.new_ (hu.trans_new u5))
      have OA := hide (hok.new_ u5)
      have Ba := hide hb
      have La := hide hll
      clear Hb hu u5 hb hok hll
      go_upto_region 8 with (fail)
      generalize hW5 : w4.alloc (.cells #[.int .i64 ra, .int .i64 rn, .slice rP rp.length rpc, .int .i64 rf, .int .i64 rm, .int .i64 ro, .slice rT rt.length rtc, .int .i64 rg] TRt) = W5 at *
      generalize hG : w4.heap.size = G at *
      clear hW5 hG
      have Hb := hide (best_any ks B N cb W5 HKl.out (by omega) HK.out Lk.out)
      go_wp2_with fail
      refine Hb.out.mono ?_
      rintro e w6 ⟨⟨sa, sn, ⟨sP, spc, sp, sf, sm, so, sT, stc, st⟩, sg⟩, rfl, hb, hok, hll, hu⟩
      unfold RouteR.cells
      dsimp only at hll ⊢
      have u5 := (Upd.refl (fun _ => False) w6).alloc (.cells #[.int .i64 sa, .int .i64 sn, .slice sP sp.length spc, .int .i64 sf, .int .i64 sm, .int .i64 so, .slice sT st.length stc, .int .i64 sg] TRt)
      have BB := hide (Blk.new w6 TRt #[.int .i64 sa, .int .i64 sn, .slice sP sp.length spc, .int .i64 sf, .int .i64 sm, .int .i64 so, .slice sT st.length stc, .int .i64 sg])
      have N4 := hide (N4.out.trans_new (hu.trans_new u5))
      have HK := hide (HK.out.new_ (hu.trans_new u5))
      have OA := hide (OA.out.new_ (hu.trans_new u5))
      have BA := hide (BA.out.new_ (hu.trans_new u5))
      have OB := hide (hok.new_ u5)
      have Bb := hide hb
      have Lb := hide hll
      clear Hb hu u5 hb hok hll
      go_upto_region 9 with (fail)
      generalize hW7 : w6.alloc (.cells #[.int .i64 sa, .int .i64 sn, .slice sP sp.length spc, .int .i64 sf, .int .i64 sm, .int .i64 so, .slice sT st.length stc, .int .i64 sg] TRt) = W7 at *
      generalize hG : w6.heap.size = H at *
      clear hW7 hG
      have bx := BA.out
      have by_ := BB.out
      have x0 := bx.cell 0
      have x1 := bx.cell 1
      have x2 := bx.cell 2
      have x3 := bx.cell 3
      have x4 := bx.cell 4
      have x5 := bx.cell 5
      have x6 := bx.cell 6
      have x7 := bx.cell 7
      have y0 := by_.cell 0
      have y1 := by_.cell 1
      have y2 := by_.cell 2
      have y3 := by_.cell 3
      have y4 := by_.cell 4
      have y5 := by_.cell 5
      have y6 := by_.cell 6
      have y7 := by_.cell 7
      have zx := bx.lt
      have zy := by_.lt
      simp only [List.getElem?_toArray, List.getElem?_cons_zero, List.getElem?_cons_succ] at x0 x1 x2 x3 x4 x5 x6 x7 y0 y1 y2 y3 y4 y5 y6 y7
      have u8 := ((Upd.refl (fun _ => False) W7).alloc (.cells #[.int .i64 ra, .int .i64 rn, .slice rP rp.length rpc, .int .i64 rf, .int .i64 rm, .int .i64 ro, .slice rT rt.length rtc, .int .i64 rg] TRt)).alloc (.cells #[.int .i64 sa, .int .i64 sn, .slice sP sp.length spc, .int .i64 sf, .int .i64 sm, .int .i64 so, .slice sT st.length stc, .int .i64 sg] TRt)
      have c1 := rts_of_blk (l := [⟨ra, rn, ⟨rP, rpc, rp, rf, rm, ro, rT, rtc, rt⟩, rg⟩]) ((Blk.new W7 TRt #[.int .i64 ra, .int .i64 rn, .slice rP rp.length rpc, .int .i64 rf, .int .i64 rm, .int .i64 ro, .slice rT rt.length rtc, .int .i64 rg]).alloc (.cells #[.int .i64 sa, .int .i64 sn, .slice sP sp.length spc, .int .i64 sf, .int .i64 sm, .int .i64 so, .slice sT st.length stc, .int .i64 sg] TRt)) (fun r hr => by
        obtain rfl := List.mem_singleton.1 hr
        exact OA.out.new_ u8)
      have c2 := rts_of_blk (l := [⟨sa, sn, ⟨sP, spc, sp, sf, sm, so, sT, stc, st⟩, sg⟩]) (Blk.at_ (W7.alloc (.cells #[.int .i64 ra, .int .i64 rn, .slice rP rp.length rpc, .int .i64 rf, .int .i64 rm, .int .i64 ro, .slice rT rt.length rtc, .int .i64 rg] TRt)) TRt #[.int .i64 sa, .int .i64 sn, .slice sP sp.length spc, .int .i64 sf, .int .i64 sm, .int .i64 so, .slice sT st.length stc, .int .i64 sg] (W7.heap.size + 1) (by simp)) (fun r hr => by
        obtain rfl := List.mem_singleton.1 hr
        exact OB.out.new_ u8)
      have Hs := hide (sameRoutes_any _ _ 1 1 1 1 [⟨ra, rn, ⟨rP, rpc, rp, rf, rm, ro, rT, rtc, rt⟩, rg⟩] [⟨sa, sn, ⟨sP, spc, sp, sf, sm, so, sT, stc, st⟩, sg⟩] _ c1 c2 rfl rfl (by omega) (by omega) (fun i r hi => by
        obtain rfl := List.mem_singleton.1 (List.mem_of_getElem? hi)
        exact La.out) (fun i r hi => by
        obtain rfl := List.mem_singleton.1 (List.mem_of_getElem? hi)
        exact Lb.out))
      rw [show decide (([⟨ra, rn, ⟨rP, rpc, rp, rf, rm, ro, rT, rtc, rt⟩, rg⟩] : List RouteR).map RouteR.con = [⟨sa, sn, ⟨sP, spc, sp, sf, sm, so, sT, stc, st⟩, sg⟩].map RouteR.con) = true from by
        refine decide_eq_true ?_
        rw [List.map_singleton, List.map_singleton, isBest_one (HP.out.symm.map RouteR.con) Ba.out Bb.out]] at Hs
      have N4 := hide (N4.out.trans_new u8)
      have HK := hide (HK.out.new_ u8)
      have OA := hide (OA.out.new_ u8)
      have BA := hide (BA.out.new_ u8)
      clear u8 c1 c2 bx by_ OB BB Bb Lb
      go_wp2_with fail
      refine Hs.out.mono ?_
      rintro e w9 ⟨rfl, hu⟩
      have N4 := hide (N4.out.trans_new hu)
      have HK := hide (HK.out.new_ hu)
      have OA := hide (OA.out.new_ hu)
      have BA := hide (BA.out.new_ hu)
      clear hu Hs x0 x1 x2 x3 x4 x5 x6 x7 y0 y1 y2 y3 y4 y5 y6 y7 zx zy
      have Ht := hide (bestSort_any ls A N cap w9 HN.out (HR.out.new_ N4.out) Lr.out (by omega))
      go_wp2_with fail
      refine Ht.out.mono ?_
      rintro e w10 ⟨A1, c1, l1, rfl, hr1, hp1, hs1, hu⟩
      have R1 := hide hr1
      have P1 := hide hp1
      have S1 := hide hs1
      have N4 := hide (N4.out.trans_new hu)
      have HK := hide (HK.out.new_ hu)
      have OA := hide (OA.out.new_ hu)
      have BA := hide (BA.out.new_ hu)
      clear hu Ht hr1 hp1 hs1
      have Ht := hide (bestSort_any ks B N cb w10 HKl.out HK.out Lk.out (by omega))
      go_wp2_with fail
      refine Ht.out.mono ?_
      rintro e w11 ⟨A2, c2, l2, rfl, hr2, hp2, hs2, hu⟩
      have R1 := R1.out.new_ hu
      have N4 := hide (N4.out.trans_new hu)
      have OA := hide (OA.out.new_ hu)
      have BA := hide (BA.out.new_ hu)
      have n1 : l1.length = N := by have := P1.out.length_eq; simp only [List.length_map] at this; rw [this]; exact HN.out
      have n2 : l2.length = N := by have := hp2.length_eq; simp only [List.length_map] at this; rw [this]; exact HKl.out
      have Hs := hide (sameRoutes_any _ _ l1.length l2.length c1 c2 l1 l2 _ R1 hr2 rfl rfl (by omega) (by omega) (perm_len P1.out Lr.out) (perm_len hp2 Lk.out))
      rw [show decide (l1.map RouteR.con = l2.map RouteR.con) = true from decide_eq_true (sorted_one (P1.out.trans ((HP.out.symm.map RouteR.con).trans hp2.symm)) S1.out hs2)] at Hs
      clear hu Ht hr2 hp2 hs2 R1 n1 n2 P1 S1 HP Lk HK HKl
      go_wp2_with fail
      refine Hs.out.mono ?_
      rintro e w12 ⟨rfl, hu⟩
      have N4 := hide (N4.out.trans_new hu)
      have OA := hide (OA.out.new_ hu)
      have BA := hide (BA.out.new_ hu)
      clear hu Hs
      go_upto_region 11 with (fail)
      have HA := hide (fun (r : RouteR) (hm : r ∈ ls) => show ltC r.con (⟨ra, rn, ⟨rP, rpc, rp, rf, rm, ro, rT, rtc, rt⟩, rg⟩ : RouteR).con = false from by
        rcases Ba.out with ⟨e, _⟩ | ⟨r1, _, e, hmin⟩
        · rw [e] at hm; cases hm
        · rw [e]; exact hmin r hm)
      have GA := hide (Good.mk (r := ⟨ra, rn, ⟨rP, rpc, rp, rf, rm, ro, rT, rtc, rt⟩, rg⟩) OA.out La.out)
      clear Ba La OA
      go_upto_region 12 with (fail)
      go_loopw [11] (fun vi wr => ∃ i : Nat, i ≤ N ∧ vi = .int .i64 i ∧ New w12 wr) (fun vi _ => N - (intOf vi).toNat)
      case atStart => exact ⟨0, by omega, rfl, Upd.refl _ _⟩
      case round =>
        obtain ⟨i, hi, rfl, hn⟩ := hrel
        have Hn := hide hn
        have HM := hide (N4.out.trans_new hn)
        have HB := hide (BA.out.new_ hn)
        have HG := hide (GA.out.new_ hn)
        clear hn
        by_cases hlt : i < N
        · as_aux_lemma =>
            have i2 : (i : Int) < (N : Int) := by omega
            obtain ⟨b, o, ⟨xa, xn, ⟨xP, xpc, xp, xf, xm, xo, xT, xtc, xt⟩, xg⟩, hA, hb, hx, hok, d0, d1, d2, d3, d4, d5, d6, d7⟩ := (HR.out.new_ HM.out).at_ (k := i) (by have := HN.out; omega)
            subst hA
            have HX := hide hx
            have GX := hide (Good.mk hok (Lr.out _ (List.mem_of_getElem? hx)))
            have bx := HB.out
            have x0 := bx.cell 0
            have x1 := bx.cell 1
            have x2 := bx.cell 2
            have x3 := bx.cell 3
            have x4 := bx.cell 4
            have x5 := bx.cell 5
            have x6 := bx.cell 6
            have x7 := bx.cell 7
            have zx := bx.lt
            simp only [List.getElem?_toArray, List.getElem?_cons_zero, List.getElem?_cons_succ] at x0 x1 x2 x3 x4 x5 x6 x7
            clear hx hok bx
            have Hbt := hide (better_in (W := wr) (L := [(⟨xa, xn, ⟨xP, xpc, xp, xf, xm, xo, xT, xtc, xt⟩, xg⟩, ⟨ra, rn, ⟨rP, rpc, rp, rf, rm, ro, rT, rtc, rt⟩, rg⟩, false), (⟨xa, xn, ⟨xP, xpc, xp, xf, xm, xo, xT, xtc, xt⟩, xg⟩, ⟨xa, xn, ⟨xP, xpc, xp, xf, xm, xo, xT, xtc, xt⟩, xg⟩, false)]) (fun p hp => by
              simp only [List.mem_cons, List.not_mem_nil, or_false] at hp
              rcases hp with rfl | rfl
              · exact ⟨GX.out, HG.out, HA.out _ (List.mem_of_getElem? HX.out)⟩
              · exact ⟨GX.out, GX.out, ltC_irr _⟩))
            go_upto_region 14 with (fail)
            refine wp_region_new wr (Upd.refl _ _) (by kernel_rfl) (by kernel_rfl) ?_
            repeat (go_big_quiet_step ((go_at_call 10; exact new_call (Hbt.out _ _ _ _ _ _ _ _ _ _ _ _ _ _ _ _ _ _ _ _ _ _ _ _ _ (by first | exact .head _ | exact .tail _ (.head _) | exact .tail _ (.tail _ (.head _))) _ (NewW.h _)))))
            refine wpQuiet_nil ?_
            rintro _ ⟨nq, rfl⟩
            obtain ⟨w14, hu⟩ := nq
            dsimp only
            clear d0 d1 d2 d3 d4 d5 d6 d7 x0 x1 x2 x3 x4 x5 x6 x7 zx Hbt hb
            have HM := hide (HM.out.trans_new hu)
            have Hn := hide (Hn.out.trans_new hu)
            have GX := hide (GX.out.new_ hu)
            clear hu HB HG
            go_upto_region 17 with (fail)
            go_loopw [12] (fun vi wq => ∃ j : Nat, j ≤ N ∧ vi = .int .i64 j ∧ New w14 wq) (fun vi _ => N - (intOf vi).toNat)
            case atStart => exact ⟨0, by omega, rfl, Upd.refl _ _⟩
            case round =>
              obtain ⟨j, hj, rfl, hm⟩ := hrel
              have HM := hide (HM.out.trans_new hm)
              have Hm := hide hm
              clear hm
              by_cases hlj : j < N
              · as_aux_lemma =>
                  have i3 : (j : Int) < (N : Int) := by omega
                  obtain ⟨b', o', ⟨ya, yn, ⟨yP, ypc, yp, yf, ym, yo, yT, ytc, yt⟩, yg⟩, e1, hb, hx, hok, d0, d1, d2, d3, d4, d5, d6, d7⟩ := (HR.out.new_ HM.out).at_ (k := j) (by have := HN.out; omega)
                  obtain ⟨rfl, rfl⟩ : b = b' ∧ o = o' := by
                    injection e1 with e1
                    injection e1 with e1 e2
                    exact ⟨e1, e2⟩
                  clear e1
                  have HY := hide hx
                  have GX := hide (GX.out.new_ Hm.out)
                  have GY := hide (Good.mk hok (Lr.out _ (List.mem_of_getElem? hx)))
                  clear hx hok d0 d1 d2 d3 d4 d5 d6 d7
                  have Hs := hide (fun w' (hw : New wr w') => sameRoutes_any _ _ 1 1 (cap - i) (cap - j) [⟨xa, xn, ⟨xP, xpc, xp, xf, xm, xo, xT, xtc, xt⟩, xg⟩] [⟨ya, yn, ⟨yP, ypc, yp, yf, ym, yo, yT, ytc, yt⟩, yg⟩] w' ((rts_oneR (HR.out.new_ HM.out) HX.out).new_ hw) ((rts_oneR (HR.out.new_ HM.out) HY.out).new_ hw) rfl rfl (by omega) (by omega) (fun i r hi => by
                    obtain rfl := List.mem_singleton.1 (List.mem_of_getElem? hi)
                    exact GX.out.len) (fun i r hi => by
                    obtain rfl := List.mem_singleton.1 (List.mem_of_getElem? hi)
                    exact GY.out.len))
                  have e4 : (decide (([⟨xa, xn, ⟨xP, xpc, xp, xf, xm, xo, xT, xtc, xt⟩, xg⟩] : List RouteR).map RouteR.con = [⟨ya, yn, ⟨yP, ypc, yp, yf, ym, yo, yT, ytc, yt⟩, yg⟩].map RouteR.con)) = decide ((⟨xa, xn, ⟨xP, xpc, xp, xf, xm, xo, xT, xtc, xt⟩, xg⟩ : RouteR).con = (⟨ya, yn, ⟨yP, ypc, yp, yf, ym, yo, yT, ytc, yt⟩, yg⟩ : RouteR).con) := by simp
                  rw [e4] at Hs
                  clear e4
                  obtain ⟨sm, hsm⟩ : ∃ sm, decide ((⟨xa, xn, ⟨xP, xpc, xp, xf, xm, xo, xT, xtc, xt⟩, xg⟩ : RouteR).con = (⟨ya, yn, ⟨yP, ypc, yp, yf, ym, yo, yT, ytc, yt⟩, yg⟩ : RouteR).con) = sm := ⟨_, rfl⟩
                  rw [hsm] at Hs
                  have HS := hide hsm
                  clear hsm
                  have k1 : ¬ cap = i := by have := Hcap.out; omega
                  have k2 : ¬ cap = j := by have := Hcap.out; omega
                  have k3 : (i : Int) + 1 ≤ (cap : Int) := by have := Hcap.out; omega
                  have k4 : (j : Int) + 1 ≤ (cap : Int) := by have := Hcap.out; omega
                  have k5 : (0 : Int) ≤ (i : Int) + 1 := by omega
                  have k6 : (0 : Int) ≤ (j : Int) + 1 := by omega
                  have k7 : ((i : Int) + 1).toNat = i + 1 := by omega
                  have k8 : ((j : Int) + 1).toNat = j + 1 := by omega
                  have k9 : IntKind.i64.wrap ((i : Int) + 1) = (i : Int) + 1 := IntWalk.i64_in _ (by omega)
                  have k10 : IntKind.i64.wrap ((j : Int) + 1) = (j : Int) + 1 := IntWalk.i64_in _ (by omega)
                  have k11 : (i : Int) ≤ (i : Int) + 1 := by omega
                  have k12 : (j : Int) ≤ (j : Int) + 1 := by omega
                  have k13 : i + 1 - i = 1 := by omega
                  have k14 : j + 1 - j = 1 := by omega
                  go_upto_region 19 with (fail)
                  refine wp_region_new wr (Upd.refl _ _) (by kernel_rfl) (by kernel_rfl) ?_
                  repeat (go_big_quiet_step ((go_at_call 8; exact new_call (Hs.out _ (NewW.h _)))))
                  refine wpQuiet_nil ?_
                  rintro _ ⟨nq, rfl⟩
                  obtain ⟨w19, hu⟩ := nq
                  dsimp only
                  have HM := hide (HM.out.trans_new hu)
                  have Hm := hide (Hm.out.trans_new hu)
                  have GX := hide (GX.out.new_ hu)
                  have GY := hide (GY.out.new_ hu)
                  clear hu Hs k1 k2 k3 k4 k5 k6 k7 k8 k9 k10 k11 k12 k13 k14
                  obtain ⟨_, d0, d1, d2, d3, d4, d5, d6, d7⟩ := Rts.at_r (HR.out.new_ HM.out) HX.out
                  obtain ⟨_, e0, e1, e2, e3, e4, e5, e6, e7⟩ := Rts.at_r (HR.out.new_ HM.out) HY.out
                  go_upto_region 20 with (fail)
                  go_cut [155] (fun v wx => v = .bool false ∧ New w19 wx)
                  case first =>
                    as_aux_lemma =>
                      cases sm with
                      | true =>
                        have Hbt := hide (better_in (W := w19) (L := [(⟨xa, xn, ⟨xP, xpc, xp, xf, xm, xo, xT, xtc, xt⟩, xg⟩, ⟨ya, yn, ⟨yP, ypc, yp, yf, ym, yo, yT, ytc, yt⟩, yg⟩, false)]) (fun p hp => by
                          simp only [List.mem_cons, List.not_mem_nil, or_false] at hp
                          subst hp
                          · exact ⟨GX.out, GY.out, by rw [of_decide_eq_true HS.out]; exact ltC_irr _⟩))
                        refine wp_region_new w19 (Upd.refl _ _) (by kernel_rfl) (by kernel_rfl) ?_
                        repeat (go_big_quiet_step ((go_at_call 10; exact new_call (Hbt.out _ _ _ _ _ _ _ _ _ _ _ _ _ _ _ _ _ _ _ _ _ _ _ _ _ (by first | exact .head _ | exact .tail _ (.head _) | exact .tail _ (.tail _ (.head _))) _ (NewW.h _)))))
                        refine wpQuiet_nil ?_
                        rintro _ ⟨nq, rfl⟩
                        obtain ⟨wn, hu⟩ := nq
                        dsimp only
                        go_wp2_with fail
                        go_meet
                        exact ⟨rfl, hu⟩
                      | false =>
                        have hne := of_decide_eq_false HS.out
                        cases hb1 : ltC (⟨xa, xn, ⟨xP, xpc, xp, xf, xm, xo, xT, xtc, xt⟩, xg⟩ : RouteR).con (⟨ya, yn, ⟨yP, ypc, yp, yf, ym, yo, yT, ytc, yt⟩, yg⟩ : RouteR).con with
                        | true =>
                          have HB1 := hide hb1
                          have HB2 := hide ((ltC_not hne).trans (by rw [hb1]; first | done | rfl))
                          clear hb1 hne
                          have Hbt := hide (better_in (W := w19) (L := [(⟨xa, xn, ⟨xP, xpc, xp, xf, xm, xo, xT, xtc, xt⟩, xg⟩, ⟨ya, yn, ⟨yP, ypc, yp, yf, ym, yo, yT, ytc, yt⟩, yg⟩, true), (⟨ya, yn, ⟨yP, ypc, yp, yf, ym, yo, yT, ytc, yt⟩, yg⟩, ⟨xa, xn, ⟨xP, xpc, xp, xf, xm, xo, xT, xtc, xt⟩, xg⟩, false)]) (fun p hp => by
                            simp only [List.mem_cons, List.not_mem_nil, or_false] at hp
                            rcases hp with rfl | rfl
                            · exact ⟨GX.out, GY.out, HB1.out⟩
                            · exact ⟨GY.out, GX.out, HB2.out⟩))
                          refine wp_region_new w19 (Upd.refl _ _) (by kernel_rfl) (by kernel_rfl) ?_
                          repeat (go_big_quiet_step ((go_at_call 10; exact new_call (Hbt.out _ _ _ _ _ _ _ _ _ _ _ _ _ _ _ _ _ _ _ _ _ _ _ _ _ (by first | exact .head _ | exact .tail _ (.head _) | exact .tail _ (.tail _ (.head _))) _ (NewW.h _)))))
                          refine wpQuiet_nil ?_
                          rintro _ ⟨nq, rfl⟩
                          obtain ⟨wn, hu⟩ := nq
                          dsimp only
                          go_wp2_with fail
                          go_meet
                          exact ⟨rfl, hu⟩
                        | false =>
                          have HB1 := hide hb1
                          have HB2 := hide ((ltC_not hne).trans (by rw [hb1]; first | done | rfl))
                          clear hb1 hne
                          have Hbt := hide (better_in (W := w19) (L := [(⟨xa, xn, ⟨xP, xpc, xp, xf, xm, xo, xT, xtc, xt⟩, xg⟩, ⟨ya, yn, ⟨yP, ypc, yp, yf, ym, yo, yT, ytc, yt⟩, yg⟩, false), (⟨ya, yn, ⟨yP, ypc, yp, yf, ym, yo, yT, ytc, yt⟩, yg⟩, ⟨xa, xn, ⟨xP, xpc, xp, xf, xm, xo, xT, xtc, xt⟩, xg⟩, true)]) (fun p hp => by
                            simp only [List.mem_cons, List.not_mem_nil, or_false] at hp
                            rcases hp with rfl | rfl
                            · exact ⟨GX.out, GY.out, HB1.out⟩
                            · exact ⟨GY.out, GX.out, HB2.out⟩))
                          refine wp_region_new w19 (Upd.refl _ _) (by kernel_rfl) (by kernel_rfl) ?_
                          repeat (go_big_quiet_step ((go_at_call 10; exact new_call (Hbt.out _ _ _ _ _ _ _ _ _ _ _ _ _ _ _ _ _ _ _ _ _ _ _ _ _ (by first | exact .head _ | exact .tail _ (.head _) | exact .tail _ (.tail _ (.head _))) _ (NewW.h _)))))
                          refine wpQuiet_nil ?_
                          rintro _ ⟨nq, rfl⟩
                          obtain ⟨wn, hu⟩ := nq
                          dsimp only
                          go_wp2_with fail
                          go_meet
                          exact ⟨rfl, hu⟩
                  case rest =>
                    obtain ⟨rfl, hu⟩ := hcut
                    have HM := hide (HM.out.trans_new hu)
                    have Hm := hide (Hm.out.trans_new hu)
                    have GX := hide (GX.out.new_ hu)
                    have GY := hide (GY.out.new_ hu)
                    clear hu d0 d1 d2 d3 d4 d5 d6 d7 e0 e1 e2 e3 e4 e5 e6 e7
                    go_upto_region 22 with (fail)
                    obtain ⟨_, d0, d1, d2, d3, d4, d5, d6, d7⟩ := Rts.at_r (HR.out.new_ HM.out) HX.out
                    obtain ⟨_, e0, e1, e2, e3, e4, e5, e6, e7⟩ := Rts.at_r (HR.out.new_ HM.out) HY.out
                    generalize hwc : wc = w20 at *
                    clear hwc
                    go_cut [193] (fun v wx => v = .bool false ∧ New w20 wx)
                    case first =>
                      as_aux_lemma =>
                        by_cases h0 : 0 < i
                        · obtain ⟨m, hm⟩ : ∃ m : Nat, m + 1 = i := ⟨i - 1, by omega⟩
                          have q1 : IntKind.i64.wrap ((i : Int) - 1) = (m : Int) := by rw [IntWalk.i64_in _ (by omega)]; omega
                          have q2 : (m : Int) < (N : Int) := by omega
                          have q3 : (0 : Int) ≤ (m : Int) := by omega
                          obtain ⟨b', o', ⟨za, zn, ⟨zP, zpc, zp, zf, zm, zo, zT, ztc, zt⟩, zg⟩, f1, _, hz, hokz, _⟩ := (HR.out.new_ HM.out).at_ (k := m) (by have := HN.out; omega)
                          have HZ := hide hz
                          have GZ := hide (Good.mk hokz (Lr.out _ (List.mem_of_getElem? hz)))
                          clear f1 hz hokz hm
                          obtain ⟨_, g0, g1, g2, g3, g4, g5, g6, g7⟩ := Rts.at_r (HR.out.new_ HM.out) HZ.out
                          cases hb1 : ltC (⟨xa, xn, ⟨xP, xpc, xp, xf, xm, xo, xT, xtc, xt⟩, xg⟩ : RouteR).con (⟨ya, yn, ⟨yP, ypc, yp, yf, ym, yo, yT, ytc, yt⟩, yg⟩ : RouteR).con with
                          | false =>
                            have HB1 := hide hb1
                            clear hb1
                            have Hbt := hide (better_in (W := w20) (L := [(⟨xa, xn, ⟨xP, xpc, xp, xf, xm, xo, xT, xtc, xt⟩, xg⟩, ⟨ya, yn, ⟨yP, ypc, yp, yf, ym, yo, yT, ytc, yt⟩, yg⟩, false)]) (fun p hp => by
                              simp only [List.mem_cons, List.not_mem_nil, or_false] at hp
                              subst hp
                              · exact ⟨GX.out, GY.out, HB1.out⟩))
                            refine wp_region_new w20 (Upd.refl _ _) (by kernel_rfl) (by kernel_rfl) ?_
                            repeat (go_big_quiet_step ((go_at_call 10; exact new_call (Hbt.out _ _ _ _ _ _ _ _ _ _ _ _ _ _ _ _ _ _ _ _ _ _ _ _ _ (by first | exact .head _ | exact .tail _ (.head _) | exact .tail _ (.tail _ (.head _))) _ (NewW.h _)))))
                            refine wpQuiet_nil ?_
                            rintro _ ⟨nq, rfl⟩
                            obtain ⟨wn, hu⟩ := nq
                            dsimp only
                            go_wp2_with fail
                            go_meet
                            exact ⟨rfl, hu⟩
                          | true =>
                            have HB1 := hide hb1
                            clear hb1
                            cases hb2 : ltC (⟨ya, yn, ⟨yP, ypc, yp, yf, ym, yo, yT, ytc, yt⟩, yg⟩ : RouteR).con (⟨za, zn, ⟨zP, zpc, zp, zf, zm, zo, zT, ztc, zt⟩, zg⟩ : RouteR).con with
                            | false =>
                              have HB2 := hide hb2
                              clear hb2
                              have Hbt := hide (better_in (W := w20) (L := [(⟨xa, xn, ⟨xP, xpc, xp, xf, xm, xo, xT, xtc, xt⟩, xg⟩, ⟨ya, yn, ⟨yP, ypc, yp, yf, ym, yo, yT, ytc, yt⟩, yg⟩, true), (⟨ya, yn, ⟨yP, ypc, yp, yf, ym, yo, yT, ytc, yt⟩, yg⟩, ⟨za, zn, ⟨zP, zpc, zp, zf, zm, zo, zT, ztc, zt⟩, zg⟩, false)]) (fun p hp => by
                                simp only [List.mem_cons, List.not_mem_nil, or_false] at hp
                                rcases hp with rfl | rfl
                                · exact ⟨GX.out, GY.out, HB1.out⟩
                                · exact ⟨GY.out, GZ.out, HB2.out⟩))
                              refine wp_region_new w20 (Upd.refl _ _) (by kernel_rfl) (by kernel_rfl) ?_
                              repeat (go_big_quiet_step ((go_at_call 10; exact new_call (Hbt.out _ _ _ _ _ _ _ _ _ _ _ _ _ _ _ _ _ _ _ _ _ _ _ _ _ (by first | exact .head _ | exact .tail _ (.head _) | exact .tail _ (.tail _ (.head _))) _ (NewW.h _)))))
                              refine wpQuiet_nil ?_
                              rintro _ ⟨nq, rfl⟩
                              obtain ⟨wn, hu⟩ := nq
                              dsimp only
                              go_wp2_with fail
                              go_meet
                              exact ⟨rfl, hu⟩
                            | true =>
                              have HB2 := hide hb2
                              have HB3 := hide (ltC_tr HB1.out hb2)
                              clear hb2
                              have Hbt := hide (better_in (W := w20) (L := [(⟨xa, xn, ⟨xP, xpc, xp, xf, xm, xo, xT, xtc, xt⟩, xg⟩, ⟨ya, yn, ⟨yP, ypc, yp, yf, ym, yo, yT, ytc, yt⟩, yg⟩, true), (⟨ya, yn, ⟨yP, ypc, yp, yf, ym, yo, yT, ytc, yt⟩, yg⟩, ⟨za, zn, ⟨zP, zpc, zp, zf, zm, zo, zT, ztc, zt⟩, zg⟩, true), (⟨xa, xn, ⟨xP, xpc, xp, xf, xm, xo, xT, xtc, xt⟩, xg⟩, ⟨za, zn, ⟨zP, zpc, zp, zf, zm, zo, zT, ztc, zt⟩, zg⟩, true)]) (fun p hp => by
                                simp only [List.mem_cons, List.not_mem_nil, or_false] at hp
                                rcases hp with rfl | rfl | rfl
                                · exact ⟨GX.out, GY.out, HB1.out⟩
                                · exact ⟨GY.out, GZ.out, HB2.out⟩
                                · exact ⟨GX.out, GZ.out, HB3.out⟩))
                              refine wp_region_new w20 (Upd.refl _ _) (by kernel_rfl) (by kernel_rfl) ?_
                              repeat (go_big_quiet_step ((go_at_call 10; exact new_call (Hbt.out _ _ _ _ _ _ _ _ _ _ _ _ _ _ _ _ _ _ _ _ _ _ _ _ _ (by first | exact .head _ | exact .tail _ (.head _) | exact .tail _ (.tail _ (.head _))) _ (NewW.h _)))))
                              refine wpQuiet_nil ?_
                              rintro _ ⟨nq, rfl⟩
                              obtain ⟨wn, hu⟩ := nq
                              dsimp only
                              go_wp2_with fail
                              go_meet
                              exact ⟨rfl, hu⟩
                        · refine wp_region_new w20 (Upd.refl _ _) (by kernel_rfl) (by kernel_rfl) ?_
                          repeat (go_big_quiet_step (fail))
                          refine wpQuiet_nil ?_
                          rintro _ ⟨nq, rfl⟩
                          obtain ⟨wn, hu⟩ := nq
                          dsimp only
                          go_wp2_with fail
                          go_meet
                          exact ⟨rfl, hu⟩
                    case rest =>
                      obtain ⟨rfl, hu⟩ := hcut
                      have Hm := hide (Hm.out.trans_new hu)
                      clear hu d0 d1 d2 d3 d4 d5 d6 d7 e0 e1 e2 e3 e4 e5 e6 e7
                      go_wp2_with fail
                      exact ⟨⟨j + 1, by omega, by go_num, Hm.out⟩, by simp [intOf]; omega⟩
              · have i3 : ¬ (j : Int) < (N : Int) := by omega
                go_wp2_with fail
                exact ⟨⟨i + 1, by omega, by go_num, Hn.out.trans_new Hm.out⟩, by simp [intOf]; omega⟩
        · have i2 : ¬ (i : Int) < (N : Int) := by omega
          go_wp2_with fail
          go_ret
          exact ⟨rfl, HM.out⟩
end Go.Proofs.Ytlealjcllbpgkaa
