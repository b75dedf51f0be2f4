/- slices.Values of routes: what comes when. No condition but those that stand in each theorem. -/
import Derived.Test.YtlealjcllbpgkaaRc
import Derived.Test.YtlealjcllbpgkaaBm1
import Derived.Test.YtlealjcllbpgkaaSy3
import Derived.Test.YtlealjcllbpgkaaOw3
namespace Go.Proofs.Ytlealjcllbpgkaa
open Go.RowKit Go.Shelf
attribute [local go_sem] Oper.semAt_some
abbrev TRs : TypeId := 22
def encR (r : RouteR) : Array Value := #[.agg r.cells]
theorem new_grownV {w w1 : World} (h : New w w1) : w.grownBy w1 none := ⟨h.os, h.tape, h.output, h.size, fun k hk _ => h.block k hk fun x => x⟩
theorem new_belowV {n0 : Nat} {w w1 : World} (h : New w w1) (hn : n0 ≤ w.heap.size) : Below n0 w w1 := Upd.below h hn fun _ _ x => x
theorem Blk.belowV {n0 : Nat} {w w1 : World} {b : Nat} {t : TypeId} {cs : Array Value} (h : Blk w b t cs) (hb : Below n0 w w1) (hn : b < n0) : Blk w1 b t cs := (hb.block b hn).trans h
set_option maxRecDepth 20000 in
set_option maxHeartbeats 2000000 in
theorem vals_in (n : Nat) (ls : List RouteR) (A : Option Addr) (N cap bx l n0 : Nat) (J Jx : List RouteR → World → Prop) (W : World) (hJ : AbidesFrom W.heap.size J) (hN : ls.length = N) (hN2 : N ≤ 100000)
    (hY : ∀ pre x W1, J pre W1 → (pre = ls.take pre.length ∧ ls[pre.length]? = some x) → YieldAt Fence.wide (n - 1) Try.prog l (encR x) W1 fun e W2 => (e = .returned (.bool true) ∧ J (pre ++ [x]) W2 ∧ Below n0 W1 W2) ∨ (e = .returned (.bool false) ∧ Jx (pre ++ [x]) W2))
    (hb : Blk W bx TRs #[.slice A N cap]) (hr : ∀ W2, Below n0 W W2 → Rws W2 A 8 (ls.map RouteR.cells)) (hk : bx < n0) (hn0 : n0 ≤ W.heap.size) (h0 : J [] W) :
    CallsIn Fence.wide n Try.prog 31 (#[.func (.yield l) #[] #[]] ++ #[.pointer (some ⟨bx, 0, none⟩)]) W fun e W2 => (∃ v, e = .returned v) ∧
      ((∃ xs, xs = ls ∧ J xs W2) ∨ ∃ pre, pre <+: ls ∧ Jx pre W2) := by
  refine callsIn_of_wp Try.func31 rfl trivial ?_
  simp only [Try.ntmps31, List.size_toArray, List.length_cons, List.length_nil, Nat.reduceAdd, Nat.reduceSub, Array.replicate_succ, Array.replicate_zero, List.push_toArray, List.append_toArray, List.nil_append, List.cons_append]
  refine wpIn_wide.2 ?_
  have c0 : W.cell? ⟨bx, 0, none⟩ = some (.slice A N cap) := hb.cell 0
  have z0 := hb.lt
  have Hb := hide hb
  have Hr := hide hr
  have HN := hide hN
  clear hb hr hN
  go_wp2_with fail
  go_loopw [7] (fun i wr => ∃ j : Nat, j ≤ N ∧ i = .int .i64 j ∧ J (ls.take j) wr ∧ Below n0 W wr ∧ W.heap.size ≤ wr.heap.size) (fun i _ => N - (intOf i).toNat)
  case atStart => exact ⟨0, by omega, rfl, by rw [List.take_zero]; exact h0, Below.refl _ _, Nat.le_refl _⟩
  case round =>
    obtain ⟨j, hj, rfl, hJs, hbw, hsz⟩ := hrel
    by_cases hlt : j < N
    · have i1 : (j : Int) < (N : Int) := by omega
      have wj : wrap64 ((j : Int) + 1) = (j : Int) + 1 := IntWalk.wrap64_in _ (by omega)
      obtain ⟨x, hx⟩ : ∃ x, ls[j]? = some x := ⟨_, List.getElem?_eq_getElem (by have := HN.out; omega)⟩
      obtain ⟨b, o, hA, hbl, hcc⟩ := Hr.out wr hbw (by have := HN.out; simp; omega)
      subst hA
      have hc := hcc j x.cells (by simp [hx])
      obtain ⟨xa, xn, ⟨P, pc, p, xp, xm, xo, T, tc, t⟩, xf⟩ := x
      have d0 : wr.cell? ⟨b, o + j * 8, none⟩ = some (.int .i64 xa) := hc 0 _ rfl
      have d1 : wr.cell? ⟨b, o + j * 8 + 1, none⟩ = some (.int .i64 xn) := hc 1 _ rfl
      have d2 : wr.cell? ⟨b, o + j * 8 + 2, none⟩ = some (.slice P p.length pc) := hc 2 _ rfl
      have d3 : wr.cell? ⟨b, o + j * 8 + 3, none⟩ = some (.int .i64 xp) := hc 3 _ rfl
      have d4 : wr.cell? ⟨b, o + j * 8 + 4, none⟩ = some (.int .i64 xm) := hc 4 _ rfl
      have d5 : wr.cell? ⟨b, o + j * 8 + 5, none⟩ = some (.int .i64 xo) := hc 5 _ rfl
      have d6 : wr.cell? ⟨b, o + j * 8 + 6, none⟩ = some (.slice T t.length tc) := hc 6 _ rfl
      have d7 : wr.cell? ⟨b, o + j * 8 + 7, none⟩ = some (.int .i64 xf) := hc 7 _ rfl
      have Hx := hide hx
      have Hbw := hide hbw
      clear hcc hc hx hbw
      go_upto_region 3 with (fail)
      have nq := (Upd.refl (fun _ => False) wr).alloc (.cells #[.int .i64 xa, .int .i64 xn, .slice P p.length pc, .int .i64 xp, .int .i64 xm, .int .i64 xo, .slice T t.length tc, .int .i64 xf] TRo)
      have bq := Blk.new wr TRo #[.int .i64 xa, .int .i64 xn, .slice P p.length pc, .int .i64 xp, .int .i64 xm, .int .i64 xo, .slice T t.length tc, .int .i64 xf]
      obtain ⟨fn, tmps, assign, body, hy, hR⟩ := hY (ls.take j) ⟨xa, xn, ⟨P, pc, p, xp, xm, xo, T, tc, t⟩, xf⟩ _ (hJ _ _ _ _ hJs (new_grownV nq) fun r e => by cases e) ⟨by rw [List.length_take]; congr 1; have := HN.out; omega, by rw [List.length_take, Nat.min_eq_left (by have := HN.out; omega)]; exact Hx.out⟩
      unfold encR RouteR.cells at hy
      have Nq := hide nq
      have Bq := hide bq
      clear nq bq d0 d1 d2 d3 d4 d5 d6 d7
      generalize (wr.alloc (.cells #[.int .i64 xa, .int .i64 xn, .slice P p.length pc, .int .i64 xp, .int .i64 xm, .int .i64 xo, .slice T t.length tc, .int .i64 xf] TRo)) = wq at *
      have q0 := Bq.out.cell 0
      have q1 := Bq.out.cell 1
      have q2 := Bq.out.cell 2
      have q3 := Bq.out.cell 3
      have q4 := Bq.out.cell 4
      have q5 := Bq.out.cell 5
      have q6 := Bq.out.cell 6
      have q7 := Bq.out.cell 7
      simp only [List.getElem?_toArray, List.getElem?_cons_zero, List.getElem?_cons_succ] at q0 q1 q2 q3 q4 q5 q6 q7
      refine (wpIn_wide (n := n)).1 ?_
      gi_wp2
      refine ⟨fun h => absurd h (by simp [Fence.wide]), hR.mono ?_⟩
      rintro e W3 (⟨rfl, hJ3, hk3⟩ | ⟨rfl, hJx3⟩)
      · have hb3 := hide ((Hbw.out.trans ((new_belowV Nq.out (Nat.le_refl _)).mono (Nat.le_trans hn0 hsz))).trans hk3)
        have hW3 := hide (Nat.le_trans hsz (Nat.le_trans Nq.out.size hk3.size))
        have hJ4 := hide hJ3
        clear hJ3 hk3
        gi_wp2
        go_wp2_with fail
        exact ⟨⟨j + 1, by omega, by go_num, by
          have h := hJ4.out
          have e : ls.take (j + 1) = ls.take j ++ [⟨xa, xn, ⟨P, pc, p, xp, xm, xo, T, tc, t⟩, xf⟩] := by
            rw [List.take_add_one, Hx.out]; rfl
          rw [e]; exact h, hb3.out, hW3.out⟩, by simp [intOf]; omega⟩
      · have hJ4 := hide hJx3
        clear hJx3
        gi_wp2
        go_wp2_with fail
        refine bodyPost_ret (results_none rfl _ _ _) rfl ?_
        exact ⟨⟨_, rfl⟩, .inr ⟨_, by
          have e : ls.take j ++ [⟨xa, xn, ⟨P, pc, p, xp, xm, xo, T, tc, t⟩, xf⟩] = ls.take (j + 1) := by
            rw [List.take_add_one, Hx.out]; rfl
          rw [e]; exact List.take_prefix _ _, hJ4.out⟩⟩
    · have i1 : ¬ (j : Int) < (N : Int) := by omega
      have hjn := hide (show ls.take j = ls by rw [List.take_of_length_le]; have := HN.out; omega)
      go_wp2_with fail
      go_end0
      have hJl : J ls wr := by have h := hJs; rw [hjn.out] at h; exact h
      exact ⟨⟨_, rfl⟩, .inl (by first | exact hJl | exact ⟨_, rfl, hJl⟩)⟩
theorem vals_seq (n : Nat) (ls : List RouteR) (A : Option Addr) (N cap bx n0 : Nat) (w : World) (hN : ls.length = N) (hN2 : N ≤ 100000) (hb : Blk w bx TRs #[.slice A N cap]) (hr : ∀ W2, Below n0 w W2 → Rws W2 A 8 (ls.map RouteR.cells)) (hk : bx < n0) (hn0 : n0 ≤ w.heap.size) :
    SeqC n Try.prog 31 #[.pointer (some ⟨bx, 0, none⟩)] encR (fun pre x => pre = ls.take pre.length ∧ ls[pre.length]? = some x) n0 (fun xs => xs = ls) (fun pre => pre <+: ls) w := fun l J Jx W hW hJ _ hY h0 =>
  vals_in n ls A N cap bx l n0 J Jx W hJ hN hN2 hY (hb.below hW hb.lt) (fun W2 h2 => hr W2 ((hW.mono hn0).trans h2)) hk (Nat.le_trans hn0 hW.size) h0
end Go.Proofs.Ytlealjcllbpgkaa
