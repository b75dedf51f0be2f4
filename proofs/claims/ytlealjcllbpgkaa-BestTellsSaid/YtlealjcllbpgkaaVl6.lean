/- Package best: Sort. No condition but those that stand in each theorem. -/
import Derived.Test.YtlealjcllbpgkaaVl4
import Derived.Test.YtlealjcllbpgkaaRu1
namespace Go.Proofs.Ytlealjcllbpgkaa
open Go.RowKit Go.Maps Go.Shelf
/-- An attribute's rows lie in no block g. -/
def FarA (g : Nat) (a : AttrR) : Prop := (0 < a.path.length → ∀ b o, a.P = some ⟨b, o, none⟩ → b ≠ g) ∧ (0 < a.tags.length → ∀ b o, a.T = some ⟨b, o, none⟩ → b ≠ g)
theorem far_old {w : World} {g : Nat} {a : AttrR} (h : AttrOk w a) (hg : w.heap.size ≤ g) : FarA g a :=
  ⟨fun hl b o e => by obtain ⟨b2, o2, hA, hb, _⟩ := h.path hl; rw [hA] at e; injection e with e; injection e with e1; omega,
   fun hl b o e => by obtain ⟨b2, o2, hA, hb, _⟩ := h.tags hl; rw [hA] at e; injection e with e; injection e with e1; omega⟩
theorem AttrOk.far {w w1 : World} {g : Nat} {a : AttrR} (h : AttrOk w a) (hf : FarA g a) (hu : Upd (fun k => k = g) w w1) : AttrOk w1 a :=
  ⟨fun hl => (h.path.upd hu (fun b o e => hf.1 hl b o e)) hl, fun hl => (h.tags.upd hu (fun b o e => hf.2 hl b o e)) hl, h.pl, h.tl⟩
/-- What lies there between two rounds. -/
structure SoW (w wr : World) (g cap : Nat) (cs : List RtC) (rs : List RouteR) : Prop where
  new : New w wr
  own : wr.ownsRow w.heap.size TRt 8 (.slice (some ⟨g, 0, none⟩) rs.length cap) rs.length (flat (rs.map RouteR.cells))
  con : rs.map RouteR.con = cs
  ok : ∀ r ∈ rs, AttrOk wr r.at_ ∧ FarA g r.at_ ∧ r.at_.path.length ≤ 1000 ∧ r.at_.tags.length ≤ 1000
theorem flat_set5 (rs : List RouteR) (j : Nat) (xa xn xf xp xm xo xp' xm' xo' : Int) (P T P' T' : Option Addr) (pc tc pc' tc' : Nat) (p t p' t' : List Int) (h : rs[j]? = some ⟨xa, xn, ⟨P, pc, p, xp, xm, xo, T, tc, t⟩, xf⟩) :
    (((((flat (rs.map RouteR.cells)).set (j * 8 + 2) (.slice P' p'.length pc')).set (j * 8 + 2 + 1) (.int .i64 xp')).set (j * 8 + 2 + 2) (.int .i64 xm')).set (j * 8 + 2 + 3) (.int .i64 xo')).set (j * 8 + 2 + 4) (.slice T' t'.length tc') =
      flat ((rs.set j ⟨xa, xn, ⟨P', pc', p', xp', xm', xo', T', tc', t'⟩, xf⟩).map RouteR.cells) := by
  have hj := (List.getElem?_eq_some_iff.1 h).1
  have hl1 : (flat (rs.map RouteR.cells)).length = rs.length * 8 := by rw [flat_length _ (rt_sizeV rs)]; simp
  have hl2 : (flat ((rs.set j ⟨xa, xn, ⟨P', pc', p', xp', xm', xo', T', tc', t'⟩, xf⟩).map RouteR.cells)).length = rs.length * 8 := by rw [flat_length _ (rt_sizeV _)]; simp
  refine List.ext_getElem? fun i => ?_
  by_cases hi : i < rs.length * 8
  · have hq : i / 8 < rs.length := by omega
    have e : i / 8 * 8 + i % 8 = i := by omega
    have g2 := flat_get ((rs.set j ⟨xa, xn, ⟨P', pc', p', xp', xm', xo', T', tc', t'⟩, xf⟩).map RouteR.cells) (rt_sizeV _) (i / 8) ((rs.set j ⟨xa, xn, ⟨P', pc', p', xp', xm', xo', T', tc', t'⟩, xf⟩)[i / 8]'(by rw [List.length_set]; exact hq)).cells (by rw [List.getElem?_map, List.getElem?_eq_getElem (by rw [List.length_set]; exact hq)]; rfl) (i % 8) (by omega)
    rw [e] at g2
    rw [g2]
    have g1 := flat_get (rs.map RouteR.cells) (rt_sizeV _) (i / 8) (rs[i / 8]).cells (by rw [List.getElem?_map, List.getElem?_eq_getElem hq]; rfl) (i % 8) (by omega)
    rw [e] at g1
    by_cases hij : i / 8 = j
    · have hx : rs[i / 8] = ⟨xa, xn, ⟨P, pc, p, xp, xm, xo, T, tc, t⟩, xf⟩ := by
        subst hij
        rw [List.getElem?_eq_getElem hq] at h
        injection h
      have hy : (rs.set j ⟨xa, xn, ⟨P', pc', p', xp', xm', xo', T', tc', t'⟩, xf⟩)[i / 8]'(by rw [List.length_set]; exact hq) = ⟨xa, xn, ⟨P', pc', p', xp', xm', xo', T', tc', t'⟩, xf⟩ := by
        subst hij
        simp
      rw [hx] at g1
      rw [hy]
      have h8 : i % 8 = 0 ∨ i % 8 = 1 ∨ i % 8 = 2 ∨ i % 8 = 3 ∨ i % 8 = 4 ∨ i % 8 = 5 ∨ i % 8 = 6 ∨ i % 8 = 7 := by omega
      simp only [List.getElem?_set, List.length_set, hl1]
      rcases h8 with e8 | e8 | e8 | e8 | e8 | e8 | e8 | e8 <;> rw [e8] at g1 ⊢
      all_goals (repeat' split)
      all_goals first
        | rfl
        | (exfalso; omega)
        | (rw [g1]; rfl)
    · have hy : (rs.set j ⟨xa, xn, ⟨P', pc', p', xp', xm', xo', T', tc', t'⟩, xf⟩)[i / 8]'(by rw [List.length_set]; exact hq) = rs[i / 8] := by
        rw [List.getElem_set_ne (fun h => hij h.symm)]
      rw [hy, ← g1]
      simp only [List.getElem?_set, List.length_set, hl1]
      repeat' split
      all_goals first
        | rfl
        | (exfalso; omega)
  · rw [List.getElem?_eq_none (by simp only [List.length_set]; omega), List.getElem?_eq_none (by omega)]
theorem own_frozen {w : World} {base : Nat} {e : TypeId} {sz n g cap : Nat} {xs : List Value} (h : w.ownsRow base e sz (.slice (some ⟨g, 0, none⟩) n cap) n xs) (k : Nat) : w.frozen? ⟨g, k, none⟩ = false := by
  rcases h.2 with ⟨h', _⟩ | ⟨g', cap', cur, h', hb, hg, _⟩
  · cases h'
  · injection h' with h1
    injection h1 with h1
    injection h1 with h1
    subst h1
    exact (show Blk w g e cur from hg).frozen k
theorem set5_at {w W : World} {g o : Nat} {y0 y1 y2 y3 y4 : Value} (hn : New w W) (hg : w.heap.size ≤ g) :
    New w (((((W.setCell ⟨g, o, none⟩ y0).setCell ⟨g, o + 1, none⟩ y1).setCell ⟨g, o + 2, none⟩ y2).setCell ⟨g, o + 3, none⟩ y3).setCell ⟨g, o + 4, none⟩ y4) :=
  ((((hn.setCell (p := ⟨g, o, none⟩) (.inr hg) y0).setCell (p := ⟨g, o + 1, none⟩) (.inr hg) y1).setCell (p := ⟨g, o + 2, none⟩) (.inr hg) y2).setCell (p := ⟨g, o + 3, none⟩) (.inr hg) y3).setCell (p := ⟨g, o + 4, none⟩) (.inr hg) y4
theorem set5_updg {W : World} {g o : Nat} {y0 y1 y2 y3 y4 : Value} :
    Upd (fun k => k = g) W (((((W.setCell ⟨g, o, none⟩ y0).setCell ⟨g, o + 1, none⟩ y1).setCell ⟨g, o + 2, none⟩ y2).setCell ⟨g, o + 3, none⟩ y3).setCell ⟨g, o + 4, none⟩ y4) :=
  (((((Upd.refl (fun k => k = g) W).setCell (p := ⟨g, o, none⟩) (.inl rfl) y0).setCell (p := ⟨g, o + 1, none⟩) (.inl rfl) y1).setCell (p := ⟨g, o + 2, none⟩) (.inl rfl) y2).setCell (p := ⟨g, o + 3, none⟩) (.inl rfl) y3).setCell (p := ⟨g, o + 4, none⟩) (.inl rfl) y4
theorem SoW.step {w wr w3 : World} {g cap : Nat} {cs : List RtC} {rs : List RouteR} (h : SoW w wr g cap cs rs) (hg : w.heap.size ≤ g) (hu : New wr w3) {j : Nat} {xa xn xf xp xm xo xp' xm' xo' : Int} {P T P' T' : Option Addr} {pc tc pc' tc' : Nat} {p t p' t' : List Int} (hx : rs[j]? = some ⟨xa, xn, ⟨P, pc, p, xp, xm, xo, T, tc, t⟩, xf⟩)
    (hc : AttrR.con ⟨P', pc', p', xp', xm', xo', T', tc', t'⟩ = AttrR.con ⟨P, pc, p, xp, xm, xo, T, tc, t⟩) (hok : AttrOk w3 ⟨P', pc', p', xp', xm', xo', T', tc', t'⟩) (hf : FarA g ⟨P', pc', p', xp', xm', xo', T', tc', t'⟩) :
    SoW w (((((w3.setCell ⟨g, j * 8 + 2, none⟩ (.slice P' p'.length pc')).setCell ⟨g, j * 8 + 2 + 1, none⟩ (.int .i64 xp')).setCell ⟨g, j * 8 + 2 + 2, none⟩ (.int .i64 xm')).setCell ⟨g, j * 8 + 2 + 3, none⟩ (.int .i64 xo')).setCell ⟨g, j * 8 + 2 + 4, none⟩ (.slice T' t'.length tc')) g cap cs
      (rs.set j ⟨xa, xn, ⟨P', pc', p', xp', xm', xo', T', tc', t'⟩, xf⟩) := by
  have hj := (List.getElem?_eq_some_iff.1 hx).1
  have hl1 : (flat (rs.map RouteR.cells)).length = rs.length * 8 := by rw [flat_length _ (rt_sizeV rs)]; simp
  have hs2 := @set5_updg w3 g (j * 8 + 2) (.slice P' p'.length pc') (.int .i64 xp') (.int .i64 xm') (.int .i64 xo') (.slice T' t'.length tc')
  refine ⟨set5_at (h.new.trans_new hu) hg, ?_, ?_, fun r hr => ?_⟩
  · have e := flat_set5 rs j xa xn xf xp xm xo xp' xm' xo' P T P' T' pc tc pc' tc' p t p' t' hx
    rw [List.length_set, ← e]
    have o0 := own_new h.own hu
    have o1 := (o0.stored (j * 8 + 2) (.slice P' p'.length pc')).1
    have o2 := (o1.stored (j * 8 + 2 + 1) (.int .i64 xp')).1
    have o3 := (o2.stored (j * 8 + 2 + 2) (.int .i64 xm')).1
    have o4 := (o3.stored (j * 8 + 2 + 3) (.int .i64 xo')).1
    exact (o4.stored (j * 8 + 2 + 4) (.slice T' t'.length tc')).1
  · rw [← h.con, List.map_set]
    have e : RouteR.con ⟨xa, xn, ⟨P', pc', p', xp', xm', xo', T', tc', t'⟩, xf⟩ = RouteR.con ⟨xa, xn, ⟨P, pc, p, xp, xm, xo, T, tc, t⟩, xf⟩ := by
      unfold RouteR.con
      rw [hc]
    rw [e]
    refine List.ext_getElem? fun i => ?_
    rw [List.getElem?_set]
    split
    · rename_i hij
      subst hij
      rw [if_pos (by simpa using hj), List.getElem?_map, hx]
      rfl
    · rfl
  · have hl := congrArg AtC.path hc
    have hl2 := congrArg AtC.tags hc
    rcases List.mem_or_eq_of_mem_set hr with hr | rfl
    · obtain ⟨h1, h2, h3⟩ := h.ok r hr
      exact ⟨(h1.new_ hu).far h2 hs2, h2, h3⟩
    · obtain ⟨h1, h2, h3⟩ := h.ok _ (List.mem_of_getElem? hx)
      exact ⟨hok.far hf hs2, hf, by rw [show p' = p from hl]; exact h3.1, by rw [show t' = t from hl2]; exact h3.2⟩
set_option maxRecDepth 20000 in
set_option maxHeartbeats 4000000 in
theorem bestSort_any (ls : List RouteR) (A : Option Addr) (N cap : Nat) (w : World) (hN : ls.length = N) (hr : Rts w A ls) (hl : ∀ r ∈ ls, r.at_.path.length ≤ 1000 ∧ r.at_.tags.length ≤ 1000) (hN2 : N ≤ 39) :
    Calls Try.prog 9 #[.slice A N cap] w fun e w1 => ∃ A' cap' rs, e = .returned (.slice A' rs.length cap') ∧ Rts w1 A' rs ∧ (rs.map RouteR.con).Perm (ls.map RouteR.con) ∧ (rs.map RouteR.con).Pairwise (fun x y => leL ltC x y) ∧ New w w1 := by
  have hok : ∀ r ∈ ls, AttrOk w r.at_ ∧ r.at_.path.length ≤ 1000 ∧ r.at_.tags.length ≤ 1000 := fun r h => by
    obtain ⟨i, hi⟩ := List.getElem?_of_mem h
    exact ⟨hr.attr i r hi, hl r h⟩
  have nv := (Upd.refl (fun _ => False) w).alloc (.cells #[.slice A N cap] TRs)
  have Hs := hide (sortedSF_any (ls := ls) (A := A) (cap := cap) (bx := w.heap.size) (w := w.alloc (.cells #[.slice A N cap] TRs)) hN (hr.rows.new_ nv) (Blk.new w _ _) (fun r h => ⟨(hok r h).1.new_ nv, (hok r h).2⟩) hN2)
  have Nv := hide nv
  have HN := hide (show ls.length ≤ 39 by omega)
  have Hok := hide hok
  have Hl := hide hl
  clear nv hok hN hr hl
  go_enter Try.func9, Try.ntmps9
  go_upto_region 2 with (first
    | (go_at_call 20; refine (values_any A N cap w).mono ?_; rintro e w1 ⟨rfl, rfl⟩)
    | (go_at_call 19; refine Hs.out.mono ?_; rintro e w2 ⟨v, ls', rfl, hp, hso, ho, hu⟩))
  have hpl := hp.length_eq
  rcases ho.2 with ⟨rfl, h0⟩ | ⟨g, cap1, cur, rfl, hb, hh, hnn, hm, hcs, ht⟩
  · obtain rfl : ls' = [] := List.eq_nil_of_length_eq_zero h0
    have Hf := hide (And.intro hp (And.intro hso hu))
    clear hp hso ho hu hpl h0
    go_upto_region 3 with (fail)
    go_loopw [10, 4] (fun vi _ wr => vi = .int .i64 0 ∧ w2 = wr) (fun _ _ _ => 0)
    case atStart => exact ⟨rfl, rfl⟩
    case round =>
      obtain ⟨rfl, rfl⟩ := hrel
      go_wp2_with fail
      go_ret
      exact ⟨none, 0, [], rfl, ⟨fun h => absurd h (by simp), fun i r h => by simp at h⟩, by simpa using Hf.out.1.map RouteR.con, List.Pairwise.nil, Nv.out.trans_new Hf.out.2.2⟩
  · have hS : SoW w w2 g cap1 (ls'.map RouteR.con) ls' := ⟨Nv.out.trans_new hu, by
      have h := ho
      exact ⟨h.1, .inr ⟨g, cap1, cur, rfl, Nat.le_trans Nv.out.size hb, hh, hnn, hm, hcs, ht⟩⟩, rfl, fun r hr => by
        have hr2 := hp.mem_iff.1 hr
        obtain ⟨h1, h2⟩ := Hok.out r hr2
        exact ⟨(h1.new_ Nv.out).new_ hu, far_old h1 (Nat.le_trans Nv.out.size hb), h2⟩⟩
    have HS := hide hS
    have Hf := hide (And.intro hp hso)
    have hg0 := Nat.le_trans Nv.out.size hb
    generalize hnl : ls'.length = n at *
    have Hnl := hide hnl
    have hn39 : n ≤ 39 := by have := HN.out; omega
    clear hp hso ho hu hh hcs ht hS hnl hpl
    go_upto_region 3 with (fail)
    go_loopw [10, 4] (fun vi _ wr => ∃ (j : Nat) (rs : List RouteR), j ≤ n ∧ vi = .int .i64 j ∧ rs.length = n ∧ SoW w wr g cap1 (ls'.map RouteR.con) rs) (fun vi _ _ => n - (intOf vi).toNat)
    case atStart => exact ⟨0, ls', by omega, rfl, Hnl.out, HS.out⟩
    case round =>
      clear HS
      obtain ⟨j, rs, hj, rfl, hrl, hs⟩ := hrel
      have Hrl := hide hrl
      by_cases hlt : j < n
      · have i1 : (j : Int) < (n : Int) := by omega
        obtain ⟨A3, c3, hv3, _, _, hrw, _, _⟩ := rws_of_own (by omega) hs.own (rt_sizeV rs)
        injection hv3 with e1 e2 e3
        subst e1
        clear e2 e3
        obtain ⟨b3, o3, hA3, hb3, hcc⟩ := hrw (by rw [List.length_map]; omega)
        injection hA3 with hA3
        injection hA3 with e4 e5 e6
        subst e4
        subst e5
        obtain ⟨x, hx⟩ : ∃ x, rs[j]? = some x := ⟨_, List.getElem?_eq_getElem (by omega)⟩
        have hc := hcc j x.cells (by simp [hx])
        obtain ⟨xa, xn, ⟨P, pc, p, xp, xm, xo, T, tc, t⟩, xf⟩ := x
        have d2 : wr.cell? ⟨g, j * 8 + 2, none⟩ = some (.slice P p.length pc) := by have := hc 2 _ rfl; rw [Nat.zero_add] at this; exact this
        have d3 : wr.cell? ⟨g, j * 8 + 2 + 1, none⟩ = some (.int .i64 xp) := by have := hc 3 _ rfl; rw [Nat.zero_add] at this; exact this
        have d4 : wr.cell? ⟨g, j * 8 + 2 + 2, none⟩ = some (.int .i64 xm) := by have := hc 4 _ rfl; rw [Nat.zero_add] at this; exact this
        have d5 : wr.cell? ⟨g, j * 8 + 2 + 3, none⟩ = some (.int .i64 xo) := by have := hc 5 _ rfl; rw [Nat.zero_add] at this; exact this
        have d6 : wr.cell? ⟨g, j * 8 + 2 + 4, none⟩ = some (.slice T t.length tc) := by have := hc 6 _ rfl; rw [Nat.zero_add] at this; exact this
        have hxk := hs.ok _ (List.mem_of_getElem? hx)
        have Hc := hide (copy_any ⟨P, pc, p, xp, xm, xo, T, tc, t⟩ wr hxk.1 hxk.2.2.1 hxk.2.2.2)
        unfold AttrR.cells at Hc
        have Hs2 := hide hs
        have Hx := hide hx
        clear hs hrw hcc hc hx hxk hrl
        go_wp2_with ((go_at_call 17; refine Hc.out.mono ?_; rintro e w3 ⟨a', z, rfl, hcon, hok3, ho3, hP3, hz3, hu3⟩; obtain ⟨P', pc', p', xp', xm', xo', T', tc', t'⟩ := a'
                      have H3 := hide (And.intro hcon (And.intro hok3 (And.intro ho3 (And.intro hP3 (And.intro hz3 hu3)))))
                      have e2 := (hu3.cell (o := j * 8 + 2) hb3 fun z => z).trans d2
                      have e3 := (hu3.cell (o := j * 8 + 2 + 1) hb3 fun z => z).trans d3
                      have e4 := (hu3.cell (o := j * 8 + 2 + 2) hb3 fun z => z).trans d4
                      have e5 := (hu3.cell (o := j * 8 + 2 + 3) hb3 fun z => z).trans d5
                      have e6 := (hu3.cell (o := j * 8 + 2 + 4) hb3 fun z => z).trans d6
                      have F := own_frozen (own_new Hs2.out.own hu3)
                      have f2 := F (j * 8 + 2)
                      have f3 := F (j * 8 + 2 + 1)
                      have f4 := F (j * 8 + 2 + 2)
                      have f5 := F (j * 8 + 2 + 3)
                      have f6 := F (j * 8 + 2 + 4)
                      clear F hcon hok3 ho3 hP3 hz3 hu3 d2 d3 d4 d5 d6))
        obtain ⟨hcon, hok3, ho3, hP3, hz3, hu3⟩ := H3.out
        refine ⟨⟨j + 1, _, by omega, by go_num, by rw [List.length_set]; exact Hrl.out, Hs2.out.step hg0 hu3 Hx.out hcon hok3 ⟨fun _ b o e => by have := (hP3 b o e).1; omega, fun _ b o e => ?_⟩⟩, by simp [intOf]; omega⟩
        obtain ⟨T9, k9, h9, _, _, _, hb9, _⟩ := ints_of_own ho3
        injection h9 with q1
        have := hb9 b o (q1 ▸ e)
        omega
      · have i1 : ¬ (j : Int) < (n : Int) := by omega
        clear hlt
        go_wp2_with fail
        go_ret
        have hrl2 := Hrl.out
        obtain ⟨A3, c3, hv3, _, _, hrw, _, _⟩ := rws_of_own (by omega) hs.own (rt_sizeV rs)
        injection hv3 with e1 e2 e3
        subst e1
        refine ⟨some ⟨g, 0, none⟩, cap1, rs, by rw [Hrl.out]; rfl, ⟨hrw, fun i r hi => (hs.ok r (List.mem_of_getElem? hi)).1⟩, by rw [hs.con]; exact Hf.out.1.map _, by rw [hs.con]; exact Hf.out.2, hs.new⟩
end Go.Proofs.Ytlealjcllbpgkaa
