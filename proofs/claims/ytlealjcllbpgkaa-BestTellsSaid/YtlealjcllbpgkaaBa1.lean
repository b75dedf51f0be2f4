/- Package best, in the words of the law: which one is best; the closed fact. No condition but those that stand in each theorem. -/
import Derived.Test.YtlealjcllbpgkaaVl7
import Derived.Test.YtlealjcllbpgkaaVl8
namespace Go.Proofs.Ytlealjcllbpgkaa
open Go.RowKit
theorem rts_of_blk {w : World} {g : Nat} {t : TypeId} {l : List RouteR} (h : Blk w g t (flat (l.map RouteR.cells)).toArray) (ha : ∀ r ∈ l, AttrOk w r.at_) : Rts w (some ⟨g, 0, none⟩) l := by
  refine ⟨fun _ => ⟨g, 0, rfl, h.lt, fun i r hr j v hv => ?_⟩, fun i r hr => ha r (List.mem_of_getElem? hr)⟩
  have hj : j < 8 := by
    have h1 := rt_sizeV l r (List.mem_of_getElem? hr)
    rw [← h1]
    exact (Array.getElem?_eq_some_iff.1 hv).1
  rw [show 0 + i * 8 + j = i * 8 + j by omega, h.cell (i * 8 + j), List.getElem?_toArray, flat_get _ (rt_sizeV l) i r hr j hj]
  exact hv
/-- What is best of these: nothing if there are none. -/
def IsBest (ls : List RouteR) (c : RtC) : Prop := (ls = [] ∧ c = ⟨0, 0, ⟨[], 0, 0, 0, []⟩, 0⟩) ∨ ∃ r ∈ ls, c = r.con ∧ ∀ s ∈ ls, ltC s.con r.con = false
theorem ltC_conn {x y : RtC} (h1 : ltC x y = false) (h2 : ltC y x = false) : x = y := by
  unfold ltC at h1 h2
  have h3 := ordC_neg x y
  refine ordC_zero ?_
  simp at h1 h2
  omega
theorem ltC_irr (x : RtC) : ltC x x = false := by
  unfold ltC
  rw [ordC_self]
  rfl
theorem ltC_tr {x y z : RtC} (h1 : ltC x y = true) (h2 : ltC y z = true) : ltC x z = true := by
  unfold ltC at *
  simp only [decide_eq_true_eq] at *
  rw [ordC_key] at *
  exact lexC_trans h1 h2
theorem ltC_not {x y : RtC} (h : x ≠ y) : ltC y x = !ltC x y := by
  unfold ltC
  have h1 : ordC x y ≠ 0 := fun e => h (ordC_zero e)
  rw [ordC_neg x y]
  by_cases h2 : ordC x y < 0
  · rw [decide_eq_true h2, decide_eq_false (by omega)]; rfl
  · rw [decide_eq_false h2, decide_eq_true (by omega)]; rfl
theorem isBest_one {ls ks : List RouteR} (hp : (ls.map RouteR.con).Perm (ks.map RouteR.con)) {c d : RtC} (h1 : IsBest ls c) (h2 : IsBest ks d) : c = d := by
  rcases h1 with ⟨rfl, rfl⟩ | ⟨r, hr, rfl, hmin⟩
  · rcases h2 with ⟨rfl, rfl⟩ | ⟨s, hs, rfl, _⟩
    · rfl
    · have := hp.length_eq
      cases ks with
      | nil => cases hs
      | cons x xs => simp at this
  · rcases h2 with ⟨rfl, rfl⟩ | ⟨s, hs, rfl, hmin2⟩
    · have := hp.length_eq
      cases ls with
      | nil => cases hr
      | cons x xs => simp at this
    · obtain ⟨s1, hs1, e1⟩ := List.mem_map.1 (hp.mem_iff.2 (List.mem_map.2 ⟨s, hs, rfl⟩))
      obtain ⟨r1, hr1, e2⟩ := List.mem_map.1 (hp.mem_iff.1 (List.mem_map.2 ⟨r, hr, rfl⟩))
      have h3 := hmin s1 hs1
      have h4 := hmin2 r1 hr1
      rw [e1] at h3
      rw [e2] at h4
      exact ltC_conn h4 h3
theorem best_any (ls : List RouteR) (A : Option Addr) (N cap : Nat) (w : World) (hN : ls.length = N) (hN2 : N ≤ 1000) (hr : Rts w A ls) (hl : ∀ r ∈ ls, r.at_.path.length ≤ 1000 ∧ r.at_.tags.length ≤ 1000) :
    Calls Try.prog 7 #[.slice A N cap] w fun e w1 => ∃ r : RouteR, e = .returned (.tuple #[.agg r.cells, .bool (decide (0 < N))]) ∧ IsBest ls r.con ∧ AttrOk w1 r.at_ ∧ (r.at_.path.length ≤ 1000 ∧ r.at_.tags.length ≤ 1000) ∧ New w w1 := by
  by_cases h0 : 0 < N
  · refine (best_some ls A N cap w hN h0 hN2 hr hl).mono ?_
    rintro e w1 ⟨r, r0, rfl, hm, hc, hmin, hok, hu⟩
    refine ⟨r, by rw [decide_eq_true h0], .inr ⟨r0, hm, hc, hmin⟩, hok, ?_, hu⟩
    have h1 := hl r0 hm
    have e1 : r.at_.con = r0.at_.con := congrArg RtC.at_ hc
    have e2 : r.at_.path = r0.at_.path := congrArg AtC.path e1
    have e3 : r.at_.tags = r0.at_.tags := congrArg AtC.tags e1
    rw [e2, e3]
    exact h1
  · obtain rfl : N = 0 := by omega
    refine (best_none cap A w).mono ?_
    rintro e w1 ⟨rfl, hu⟩
    refine ⟨⟨0, 0, ⟨none, 0, [], 0, 0, 0, none, 0, []⟩, 0⟩, rfl, .inl ⟨List.eq_nil_of_length_eq_zero hN, rfl⟩, ⟨Ints.nil, Ints.nil, Nat.le_refl _, Nat.le_refl _⟩, by simp, hu⟩
/-- The two routes of the closed fact. -/
def btA (g : Nat) : RouteR := ⟨0, 0, ⟨some ⟨g, 0, none⟩, 2, [1, 2], 0, 0, 0, none, 0, []⟩, 1⟩
def btB (g : Nat) : RouteR := ⟨0, 0, ⟨some ⟨g, 0, none⟩, 1, [3], 0, 0, 0, none, 0, []⟩, 3⟩
theorem bt_lt (g h : Nat) : ltC (btB h).con (btA g).con = true := by
  show ltC (RtC.mk 0 0 ⟨[3], 0, 0, 0, []⟩ 3) (RtC.mk 0 0 ⟨[1, 2], 0, 0, 0, []⟩ 1) = true
  decide +kernel
set_option maxRecDepth 8000 in
set_option maxHeartbeats 4000000 in
theorem bettered_any (w : World) : Calls Try.prog 5 #[] w fun e w1 => e = .returned (.bool true) ∧ New w w1 := by
  have u1 := ((Upd.refl (fun _ => False) w).alloc (.cells #[.int .i64 1, .int .i64 2] 3)).alloc (.cells (btA w.heap.size).cells TRt)
  have I1 := hide (Ints.of_blk (xs := [1, 2]) ((Blk.new w 3 #[.int .i64 1, .int .i64 2]).alloc (.cells (btA w.heap.size).cells TRt)) rfl)
  have B1 := hide (Blk.at_ (w.alloc (.cells #[.int .i64 1, .int .i64 2] 3)) TRt (btA w.heap.size).cells (w.heap.size + 1) (by simp))
  have N1 := hide u1
  clear u1
  unfold btA RouteR.cells at *
  dsimp only [List.length_cons, List.length_nil] at *
  go_enter Try.func5, Try.ntmps5
  go_upto_region 2 with (fail)
  generalize ((w.alloc (.cells #[.int .i64 1, .int .i64 2] 3)).alloc (.cells #[.int .i64 0, .int .i64 0, .slice (some ⟨w.heap.size, 0, none⟩) 2 2, .int .i64 0, .int .i64 0, .int .i64 0, .slice none 0 0, .int .i64 1] TRt)) = W1 at *
  generalize w.heap.size + 1 = P at *
  generalize w.heap.size = G at *
  have u1 := ((Upd.refl (fun _ => False) W1).alloc (.cells #[.int .i64 3] 3)).alloc (.cells (btB W1.heap.size).cells TRt)
  have I2 := hide (Ints.of_blk (xs := [3]) ((Blk.new W1 3 #[.int .i64 3]).alloc (.cells (btB W1.heap.size).cells TRt)) rfl)
  have B2 := hide (Blk.at_ (W1.alloc (.cells #[.int .i64 3] 3)) TRt (btB W1.heap.size).cells (W1.heap.size + 1) (by simp))
  have N2 := hide (N1.out.trans_new u1)
  have I1 := hide (I1.out.new_ u1)
  have B1 := hide (B1.out.new_ u1)
  clear u1
  unfold btB RouteR.cells at *
  dsimp only [List.length_cons, List.length_nil] at *
  go_upto_region 3 with (fail)
  generalize ((W1.alloc (.cells #[.int .i64 3] 3)).alloc (.cells #[.int .i64 0, .int .i64 0, .slice (some ⟨W1.heap.size, 0, none⟩) 1 1, .int .i64 0, .int .i64 0, .int .i64 0, .slice none 0 0, .int .i64 3] TRt)) = W2 at *
  generalize W1.heap.size + 1 = Q at *
  generalize W1.heap.size = H at *
  have u3 := (Upd.refl (fun _ => False) W2).alloc (.cells #[.int .i64 0, .int .i64 0, .slice (some ⟨G, 0, none⟩) 2 2, .int .i64 0, .int .i64 0, .int .i64 0, .slice none 0 0, .int .i64 1, .int .i64 0, .int .i64 0, .slice (some ⟨H, 0, none⟩) 1 1, .int .i64 0, .int .i64 0, .int .i64 0, .slice none 0 0, .int .i64 3] TRt)
  have b3 := Blk.new W2 TRt #[.int .i64 0, .int .i64 0, .slice (some ⟨G, 0, none⟩) 2 2, .int .i64 0, .int .i64 0, .int .i64 0, .slice none 0 0, .int .i64 1, .int .i64 0, .int .i64 0, .slice (some ⟨H, 0, none⟩) 1 1, .int .i64 0, .int .i64 0, .int .i64 0, .slice none 0 0, .int .i64 3]
  have hok : ∀ r ∈ [btA G, btB H], AttrOk (W2.alloc (.cells #[.int .i64 0, .int .i64 0, .slice (some ⟨G, 0, none⟩) 2 2, .int .i64 0, .int .i64 0, .int .i64 0, .slice none 0 0, .int .i64 1, .int .i64 0, .int .i64 0, .slice (some ⟨H, 0, none⟩) 1 1, .int .i64 0, .int .i64 0, .int .i64 0, .slice none 0 0, .int .i64 3] TRt)) r.at_ := fun r hr => by
    simp only [List.mem_cons, List.not_mem_nil, or_false] at hr
    rcases hr with rfl | rfl
    · exact ⟨I1.out.new_ u3, Ints.nil, Nat.le_refl _, Nat.le_refl _⟩
    · exact ⟨I2.out.new_ u3, Ints.nil, Nat.le_refl _, Nat.le_refl _⟩
  have HR := hide (rts_of_blk (l := [btA G, btB H]) b3 hok)
  have N3 := hide (N2.out.trans_new u3)
  have I1 := hide (I1.out.new_ u3)
  have I2 := hide (I2.out.new_ u3)
  have bx := B1.out
  have by_ := B2.out
  have B1 := hide (B1.out.new_ u3)
  have B2 := hide (B2.out.new_ u3)
  have x0 := bx.cell 0
  have x1 := bx.cell 1
  have x2 := bx.cell 2
  have x3 := bx.cell 3
  have x4 := bx.cell 4
  have x5 := bx.cell 5
  have x6 := bx.cell 6
  have x7 := bx.cell 7
  have y0 := by_.cell 0
  have y1 := by_.cell 1
  have y2 := by_.cell 2
  have y3 := by_.cell 3
  have y4 := by_.cell 4
  have y5 := by_.cell 5
  have y6 := by_.cell 6
  have y7 := by_.cell 7
  have zx := bx.lt
  have zy := by_.lt
  simp only [List.getElem?_toArray, List.getElem?_cons_zero, List.getElem?_cons_succ] at x0 x1 x2 x3 x4 x5 x6 x7 y0 y1 y2 y3 y4 y5 y6 y7
  clear u3 b3 hok bx by_
  have Hb := hide (best_some [btA G, btB H] (some ⟨W2.heap.size, 0, none⟩) 2 2 _ rfl (by omega) (by omega) HR.out (fun r hr => by
    simp only [List.mem_cons, List.not_mem_nil, or_false] at hr
    rcases hr with rfl | rfl <;> simp [btA, btB]))
  go_wp2_with fail
  refine Hb.out.mono ?_
  rintro e w4 ⟨⟨ra, rn, ⟨rP, rpc, rp, rf, rm, ro, rT, rtc, rt⟩, rg⟩, r0, rfl, hm, hc, hmin, _, hu⟩
  have e0 : r0 = btB H := by
    simp only [List.mem_cons, List.not_mem_nil, or_false] at hm
    rcases hm with rfl | rfl
    · have := hmin (btB H) (by simp)
      rw [bt_lt] at this
      cases this
    · rfl
  obtain rfl : rg = 3 := (congrArg RtC.frm hc).trans (by rw [e0]; rfl)
  clear hm hc hmin e0 x0 x1 x2 x3 x4 x5 x6 x7 y0 y1 y2 y3 y4 y5 y6 y7 zx zy
  unfold RouteR.cells
  dsimp only
  have u5 := hu.trans_new ((Upd.refl (fun _ => False) w4).alloc (.cells #[.int .i64 ra, .int .i64 rn, .slice rP rp.length rpc, .int .i64 rf, .int .i64 rm, .int .i64 ro, .slice rT rt.length rtc, .int .i64 3] TRt))
  have bz := Blk.new w4 TRt #[.int .i64 ra, .int .i64 rn, .slice rP rp.length rpc, .int .i64 rf, .int .i64 rm, .int .i64 ro, .slice rT rt.length rtc, .int .i64 3]
  have bx := B1.out.new_ u5
  have by_ := B2.out.new_ u5
  have N5 := hide (N3.out.trans_new u5)
  have ia := I1.out.new_ u5
  have ib := I2.out.new_ u5
  have x0 := bx.cell 0
  have x1 := bx.cell 1
  have x2 := bx.cell 2
  have x3 := bx.cell 3
  have x4 := bx.cell 4
  have x5 := bx.cell 5
  have x6 := bx.cell 6
  have x7 := bx.cell 7
  have y0 := by_.cell 0
  have y1 := by_.cell 1
  have y2 := by_.cell 2
  have y3 := by_.cell 3
  have y4 := by_.cell 4
  have y5 := by_.cell 5
  have y6 := by_.cell 6
  have y7 := by_.cell 7
  have z7 := bz.cell 7
  have zx := bx.lt
  have zy := by_.lt
  have zz := bz.lt
  simp only [List.getElem?_toArray, List.getElem?_cons_zero, List.getElem?_cons_succ] at x0 x1 x2 x3 x4 x5 x6 x7 y0 y1 y2 y3 y4 y5 y6 y7 z7
  clear Hb u5 bx by_ bz hu
  go_upto_region 4 with (fail)
  generalize (w4.alloc (.cells #[.int .i64 ra, .int .i64 rn, .slice rP rp.length rpc, .int .i64 rf, .int .i64 rm, .int .i64 ro, .slice rT rt.length rtc, .int .i64 3] TRt)) = W5 at *
  have Hbt := hide (better_any (btB H) (btA G) W5 ⟨ib, Ints.nil, Nat.le_refl _, Nat.le_refl _⟩ ⟨ia, Ints.nil, Nat.le_refl _, Nat.le_refl _⟩ (by simp [btB]) (by simp [btA]))
  rw [bt_lt] at Hbt
  unfold btA btB RouteR.cells at Hbt
  clear ia ib
  go_wp2_with ((go_at_call 10; refine Hbt.out.mono ?_; rintro e w6 ⟨rfl, hu6⟩))
  go_ret
  exact ⟨rfl, N5.out.trans_new hu6⟩
end Go.Proofs.Ytlealjcllbpgkaa
