/- slices.AppendSeq, Collect of routes. No condition but those that stand in each theorem. -/
import Derived.Test.YtlealjcllbpgkaaVl1
namespace Go.Proofs.Ytlealjcllbpgkaa
open Go.RowKit Go.Maps Go.Shelf
attribute [local go_sem] Oper.semAt_some
/-- The box of AppendSeq; what has come. -/
structure ApW (w W : World) (l : List RouteR) (v : Value) : Prop where
  new : New w W
  o : Blk W w.heap.size TRs #[v]
  row : W.ownsRow w.heap.size TRt 8 v l.length (flat (l.map RouteR.cells))
theorem row_notV {W : World} {base : Nat} {e : TypeId} {size n : Nat} {v : Value} {xs : List Value} (h : W.ownsRow base e size v n xs) {g : Nat} {t : TypeId} {cs : Array Value} (hb : Blk W g t cs) (hne : t ≠ e) : v.ownBlock ≠ some g := fun he => by
  rcases h.2 with ⟨rfl, _⟩ | ⟨g1, cap, cur, rfl, _, hh, _⟩
  · simp [Value.ownBlock] at he
  · have : g1 = g := by simpa [Value.ownBlock] using he
    subst this
    unfold Blk at hb
    rw [hb] at hh
    injection hh with hh
    injection hh with _ hh
    exact hne hh
theorem new_grownFromV {w W W2 : World} {row : Option Nat} {B : Nat} (h : New w W) (hB : w.heap.size ≤ B) (hg : W.grownBy W2 row) (hr : ∀ r, row = some r → B ≤ r) : New w W2 :=
  h.trans (Upd.of_grown (S := fun k => B ≤ k) hg fun k _ e => hr k e) fun k hk hx => by omega
theorem Blk.grownFromV {W W2 : World} {row : Option Nat} {B g : Nat} {t : TypeId} {cs : Array Value} (h : Blk W g t cs) (hb : g < B) (hg : W.grownBy W2 row) (hr : ∀ r, row = some r → B ≤ r) : Blk W2 g t cs :=
  (hg.block g h.lt fun e => by have := hr g e.symm; omega).trans h
theorem ApW.start (w : World) : ApW w (w.alloc (.cells #[.slice none 0 0] TRs)) [] (.slice none 0 0) := ⟨(Upd.refl _ w).alloc _, Blk.new w _ _, World.ownsRow_nil _ _ _ _⟩
theorem ApW.new_ {w W W2 : World} {l : List RouteR} {v : Value} (h : ApW w W l v) (hu : New W W2) : ApW w W2 l v := ⟨h.new.trans_new hu, h.o.new_ hu, own_new h.row hu⟩
theorem ApW.grown {w W W2 : World} {l : List RouteR} {v : Value} {row : Option Nat} {B : Nat} (h : ApW w W l v) (hB : w.heap.size + 1 ≤ B) (hg : W.grownBy W2 row) (hr : ∀ r, row = some r → B ≤ r ∧ ∃ o : Obj, W.heap[r]? = some o ∧ o.isCells = false) : ApW w W2 l v := by
  have hr1 : ∀ r, row = some r → B ≤ r := fun r e => (hr r e).1
  refine ⟨new_grownFromV h.new (by omega) hg hr1, h.o.grownFromV (by omega) hg hr1, h.row.kept hg ?_⟩
  rcases h.row.2 with ⟨rfl, _⟩ | ⟨g, cap, cur, rfl, _, hgb, _⟩
  · exact .inl rfl
  · refine .inr fun e => ?_
    obtain ⟨_, o, ho, hc⟩ := hr g (by simpa [Value.ownBlock] using e.symm)
    rw [hgb] at ho
    cases ho
    cases hc
/-- One more has come. -/
theorem ApW.app {w W W2 : World} {l : List RouteR} {v v2 : Value} {r : RouteR} {o : Obj} (h : ApW w W l v) (h2 : W2.ownsRow w.heap.size TRt 8 v2 (l.length + 1) (flat (l.map RouteR.cells) ++ r.cells.toList)) (hg : (W.alloc o).grownBy W2 v.ownBlock) :
    ApW w (W2.setCell ⟨w.heap.size, 0, none⟩ v2) (l ++ [r]) v2 ∧ W2.cell? ⟨w.heap.size, 0, none⟩ = some v ∧ W2.frozen? ⟨w.heap.size, 0, none⟩ = false ∧ ∀ B, w.heap.size + 1 ≤ B → Upd (ownB w.heap.size B W) W (W2.setCell ⟨w.heap.size, 0, none⟩ v2) := by
  have ua : New W (W.alloc o) := (Upd.refl _ W).alloc o
  have hs0 := h.new.size
  have hrow : (W.alloc o).ownsRow w.heap.size TRt 8 v l.length (flat (l.map RouteR.cells)) := own_new h.row ua
  have hge : ∀ k, v.ownBlock = some k → w.heap.size ≤ k := fun k hk => (row_ge hrow hk).1
  have b2 : Blk W2 w.heap.size TRs #[v] := (hg.block _ (h.o.new_ ua).lt fun e => row_notV hrow (h.o.new_ ua) (by decide) e.symm).trans (h.o.new_ ua)
  have nw : New w W2 := (h.new.trans_new ua).trans (Upd.of_grown (S := fun k => w.heap.size ≤ k) hg fun k _ e => hge k e) fun k hk hx => by omega
  have r2 : W2.ownsRow w.heap.size TRt 8 v2 (l ++ [r]).length (flat ((l ++ [r]).map RouteR.cells)) := by
    rw [List.map_append, List.length_append, show flat (l.map RouteR.cells ++ [r].map RouteR.cells) = flat (l.map RouteR.cells) ++ r.cells.toList by simp [flat]]
    exact h2
  refine ⟨⟨nw.setCell (p := ⟨w.heap.size, 0, none⟩) (.inr (Nat.le_refl _)) _, b2.set_ 0 v2, ?_⟩, b2.cell 0, b2.frozen 0, fun B hB => ?_⟩
  · exact row_upd r2 ((Upd.refl (fun k => k = w.heap.size) W2).setCell (p := ⟨w.heap.size, 0, none⟩) (.inl rfl) v2) fun g hg he => row_notV r2 (he ▸ b2) (by decide) hg
  · have u2 : Upd (ownB w.heap.size B W) W W2 := (Upd.of_new ua).trans (Upd.of_grown (S := fun k => v.ownBlock = some k) hg fun k _ e => e) fun k hk hx => by
      refine ⟨hge k hx, .inr ?_⟩
      rcases h.row.2 with ⟨rfl, _⟩ | ⟨g, cap, cur, rfl, _, hgb, _⟩
      · simp [Value.ownBlock] at hx
      · obtain rfl : g = k := by simpa [Value.ownBlock] using hx
        exact ⟨_, _, _, hgb⟩
    exact u2.setCell (p := ⟨w.heap.size, 0, none⟩) (.inl ⟨Nat.le_refl _, .inl (by show w.heap.size < B; omega)⟩) _
set_option maxRecDepth 20000 in
set_option maxHeartbeats 4000000 in
theorem appSeq_any (ls : List RouteR) (A : Option Addr) (N cap bx : Nat) (w : World) (hN : ls.length = N) (hN2 : N ≤ 1000) (hr : Rws w A 8 (ls.map RouteR.cells)) (hb : Blk w bx TRs #[.slice A N cap]) :
    Calls Try.prog 34 #[.slice none 0 0, .func (.func 31) #[] #[.pointer (some ⟨bx, 0, none⟩)]] w fun e w1 => ∃ v, e = .returned v ∧ w1.ownsRow w.heap.size TRt 8 v ls.length (flat (ls.map RouteR.cells)) ∧ New w w1 := by
  refine (callsIn_wide (n := 9)).1 ?_
  refine callsIn_of_wp_marks Try.func34 rfl trivial ?_
  simp only [Try.ntmps34, List.size_toArray, List.length_cons, List.length_nil, Nat.reduceAdd, Nat.reduceSub, Array.replicate_succ, Array.replicate_zero, List.push_toArray, List.append_toArray, List.nil_append, List.cons_append]
  refine wpIn_wide.2 ?_
  have HW := hide (ApW.start w)
  have Hsz := hide (show (w.alloc (.cells #[.slice none 0 0] TRs)).heap.size = w.heap.size + 1 by simp)
  have z0 := hb.lt
  have Hb := hide hb
  have Hr := hide hr
  have HN := hide hN
  clear hb hr hN
  go_upto_region 1 with (fail)
  generalize (w.alloc (.cells #[.slice none 0 0] TRs)) = W0 at *
  go_wp2_with fail
  refine wp_range_mk (n := 9) (gf := 31) (fb := #[.pointer (some ⟨bx, 0, none⟩)]) rfl (enters_of Try.func31 (by kernel_rfl) rfl)
    (vals_seq 8 ls A N cap bx w.heap.size W0 HN.out (by omega) (Hb.out.new_ HW.out.new) (fun W2 h2 => Hr.out.new_ (New.of_below (HW.out.new.below.trans h2))) z0 HW.out.new.size) (Below.refl _ _) HW.out.new.size (fun _ => rfl)
    (fun pre W => ∃ v, ApW w W pre v) (fun _ _ => False)
    (fun s A B row hs hg hr => by
      obtain ⟨v, hv⟩ := hs
      exact ⟨v, hv.grown (by rw [Hsz.out]; exact Nat.le_refl _) hg hr⟩)
    (fun s A B row hs hg hr => hs.elim)
    ⟨.slice none 0 0, HW.out⟩
    (fun x q => { tmps := #[.slice none 0 0, .func (.func 31) #[] #[.pointer (some ⟨bx, 0, none⟩)], .pointer (some ⟨w.heap.size, 0, none⟩), undef, .slice none 0 0, .pointer (some ⟨q, 0, none⟩), .func (.func 31) #[] #[.pointer (some ⟨bx, 0, none⟩)], .agg x.cells, undef, undef, undef, undef, undef], defers := [] })
    (fun x => .cells x.cells TRt) ?assign ?body ?done ?stop
  case assign =>
    intro l x W K hK
    obtain ⟨xa, xn, ⟨P, pc, p, xp, xm, xo, T, tc, t⟩, xf⟩ := x
    unfold encR
    unfold RouteR.cells at hK ⊢
    gi_wp2
    exact hK
  case body =>
    rintro l pre x W q ⟨v, hf⟩ ⟨hpre, hx⟩ hle hq hqB
    obtain ⟨xa, xn, ⟨P, pc, p, xp, xm, xo, T, tc, t⟩, xf⟩ := x
    unfold RouteR.cells at hq ⊢
    have bq : Blk W q TRt #[.int .i64 xa, .int .i64 xn, .slice P p.length pc, .int .i64 xp, .int .i64 xm, .int .i64 xo, .slice T t.length tc, .int .i64 xf] := hq
    have b2 : W.cell? ⟨w.heap.size, 0, none⟩ = some v := hf.o.cell 0
    have q0 := bq.cell 0
    have q1 := bq.cell 1
    have q2 := bq.cell 2
    have q3 := bq.cell 3
    have q4 := bq.cell 4
    have q5 := bq.cell 5
    have q6 := bq.cell 6
    have q7 := bq.cell 7
    simp only [List.getElem?_toArray, List.getElem?_cons_zero, List.getElem?_cons_succ] at q0 q1 q2 q3 q4 q5 q6 q7
    have y2 := hf.o.lt
    have yq := bq.lt
    have hpl : pre.length < N := by have := (List.getElem?_eq_some_iff.1 hx).1; have := HN.out; omega
    obtain ⟨i0, hi0, hz0, hz1, hz2⟩ := info_parts info_TRt
    have Hf := hide hf
    have Hws := hide hf.new.size
    clear hf hq bq hpre hx
    gi_wp2_with (first
      | (gi_at_builtin; go_loud (refine wpListIn_append_own_at _ rfl (.tmp 8) (.tmp 10) TRs rfl w.heap.size TRt i0 _ 8 96 Try.underlying22 hi0 hz0 hz1 hz2 rfl (by decide) v pre.length (flat (pre.map RouteR.cells)) rfl (own_new Hf.out.row ((Upd.refl _ W).alloc _)) ⟨W.heap.size, 0, none⟩ 1 1 [.int .i64 xa, .int .i64 xn, .slice P p.length pc, .int .i64 xp, .int .i64 xm, .int .i64 xo, .slice T t.length tc, .int .i64 xf] rfl rfl (fun j u hu => by
          have e := (Blk.new W TRt #[.int .i64 xa, .int .i64 xn, .slice P p.length pc, .int .i64 xp, .int .i64 xm, .int .i64 xo, .slice T t.length tc, .int .i64 xf]).cell j
          rw [show (⟨W.heap.size, 0, none⟩ : Addr).add j = ⟨W.heap.size, j, none⟩ by rcases Nat.eq_zero_or_pos j with h | h <;> simp [Addr.add, h] <;> omega]
          rw [e]; simpa using hu) (fun u hu => by simp at hu; rcases hu with rfl | rfl | rfl | rfl | rfl | rfl | rfl | rfl <;> rfl) (by unfold maxLen; omega) (by omega) (by have := Hws.out; simp; omega) ?_); intro v2 w2 ho2 hg2 hn2 hb2; obtain ⟨g2, cp2, rfl⟩ := ownsRow_succ ho2; obtain ⟨hA2, hc2, hf2, hU2⟩ := Hf.out.app (r := ⟨xa, xn, ⟨P, pc, p, xp, xm, xo, T, tc, t⟩, xf⟩) ho2 hg2; go_frame)
      | gi_in)
    exact ⟨hU2 _ (by rw [Hsz.out]; exact Nat.le_refl _), _, hA2⟩
  case done =>
    rintro D ys W hD rfl ⟨v, hf⟩ hK
    have b2 : W.cell? ⟨w.heap.size, 0, none⟩ = some v := hf.o.cell 0
    go_wp2_with fail
    refine ⟨by simp, .inl ⟨_, _, rfl, run_takeDeferred hK, ?_⟩⟩
    have hF := hf.grown (B := w.heap.size + 1) (Nat.le_refl _) (grownBy_putObj' _ D (.deferred none)) (fun r e => by cases e; have := Hsz.out; exact ⟨by omega, _, hK, rfl⟩)
    exact ⟨_, results_tmp rfl _ _ _, v, rfl, hF.row, hF.new⟩
  case stop =>
    intro D pre W _ _ hx
    exact hx.elim
end Go.Proofs.Ytlealjcllbpgkaa
