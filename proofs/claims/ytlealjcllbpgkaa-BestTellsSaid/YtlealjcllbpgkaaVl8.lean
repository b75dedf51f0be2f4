/- Package best: Best. No condition but those that stand in each theorem. -/
import Derived.Test.YtlealjcllbpgkaaVl5
import Derived.Test.YtlealjcllbpgkaaVl6
namespace Go.Proofs.Ytlealjcllbpgkaa
open Go.RowKit Go.Maps Go.Shelf
theorem rt_out2 {fn : Func} {t s : Tmp} {tmps : Array Value} {w : World} {R : Nat} {b : Bool} {x0 x1 x2 x3 x4 x5 x6 x7 : Value} (h : fn.results = #[.cell t TRt, .tmp s]) (hp : tmps.getD t undef = .pointer (some ⟨R, 0, none⟩)) (hs : tmps.getD s undef = .bool b) (hb : Blk w R TRt #[x0, x1, x2, x3, x4, x5, x6, x7]) :
    (results fn tmps).run Try.prog w = .ok (.tuple #[.agg #[x0, x1, x2, x3, x4, x5, x6, x7], .bool b]) w := by
  have hp' : tmps[t]?.getD undef = .pointer (some ⟨R, 0, none⟩) := by simpa using hp
  have hs' : tmps[s]?.getD undef = .bool b := by simpa using hs
  simp [results, h, hp', hs', asAddr, run_loadVar_row w R TRt TRt #[x0, x1, x2, x3, x4, x5, x6, x7] (0, 0) _ hb Try.underlying31 rfl (by rw [TRt_info]; rfl)]
set_option maxRecDepth 20000 in
set_option maxHeartbeats 4000000 in
theorem best_none (cap : Nat) (A : Option Addr) (w : World) : Calls Try.prog 7 #[.slice A 0 cap] w fun e w1 => e = .returned (.tuple #[.agg (RouteR.cells ⟨0, 0, ⟨none, 0, [], 0, 0, 0, none, 0, []⟩, 0⟩), .bool false]) ∧ New w w1 := by
  have Hb := hide (Blk.new w TRt #[.int .i64 0, .int .i64 0, .slice none 0 0, .int .i64 0, .int .i64 0, .int .i64 0, .slice none 0 0, .int .i64 0])
  have Hu := hide ((Upd.refl (fun _ => False) w).alloc (.cells #[.int .i64 0, .int .i64 0, .slice none 0 0, .int .i64 0, .int .i64 0, .int .i64 0, .slice none 0 0, .int .i64 0] TRt))
  go_enter Try.func7, Try.ntmps7
  go_wp2_with fail
  refine bodyPost_ret (rt_out2 Try.results7 rfl rfl Hb.out) rfl ?_
  exact ⟨rfl, Hu.out⟩
set_option maxRecDepth 20000 in
set_option maxHeartbeats 4000000 in
theorem best_some (ls : List RouteR) (A : Option Addr) (N cap : Nat) (w : World) (hN : ls.length = N) (h1 : 0 < N) (hN2 : N ≤ 1000) (hr : Rts w A ls) (hl : ∀ r ∈ ls, r.at_.path.length ≤ 1000 ∧ r.at_.tags.length ≤ 1000) :
    Calls Try.prog 7 #[.slice A N cap] w fun e w1 => ∃ r r0 : RouteR, e = .returned (.tuple #[.agg r.cells, .bool true]) ∧ r0 ∈ ls ∧ r.con = r0.con ∧ (∀ s ∈ ls, ltC s.con r0.con = false) ∧ AttrOk w1 r.at_ ∧ New w w1 := by
  have u := (Upd.refl (fun _ => False) w).alloc (.cells #[.int .i64 0, .int .i64 0, .slice none 0 0, .int .i64 0, .int .i64 0, .int .i64 0, .slice none 0 0, .int .i64 0] TRt)
  have Hb := hide (Blk.new w TRt #[.int .i64 0, .int .i64 0, .slice none 0 0, .int .i64 0, .int .i64 0, .int .i64 0, .slice none 0 0, .int .i64 0])
  have Hm := hide (minFunc_any ls A N cap _ hN h1 hN2 (hr.new_ u) hl)
  have Hok := hide (fun (r : RouteR) (hm : r ∈ ls) => show AttrOk w r.at_ from by
    obtain ⟨i, hi⟩ := List.getElem?_of_mem hm
    exact hr.attr i r hi)
  have Hu := hide u
  have Hl := hide hl
  have n1 : ¬ ((N : Int) = 0) := by omega
  have n2 : ((N : Int) == 0) = false := by simp; omega
  clear hr u hl hN h1 hN2
  go_enter Try.func7, Try.ntmps7
  go_upto_region 4 with ((go_at_call 15; refine Hm.out.mono ?_; rintro e w1 ⟨r, hmem, rfl, hle, hu1⟩; obtain ⟨ra, rn, ⟨rP, rpc, rp, rf, rm, ro, rT, rtc, rt⟩, rg⟩ := r; unfold RouteR.cells))
  have u2 := hu1.trans_new ((Upd.refl (fun _ => False) w1).alloc (.cells #[.int .i64 ra, .int .i64 rn, .slice rP rp.length rpc, .int .i64 rf, .int .i64 rm, .int .i64 ro, .slice rT rt.length rtc, .int .i64 rg] TRt))
  have Hb2 := hide (Blk.new w1 TRt #[.int .i64 ra, .int .i64 rn, .slice rP rp.length rpc, .int .i64 rf, .int .i64 rm, .int .i64 ro, .slice rT rt.length rtc, .int .i64 rg])
  have Hr2 := hide (Hb.out.new_ u2)
  have hok1 := (Hok.out _ hmem).new_ (Hu.out.trans_new u2)
  have hll := Hl.out _ hmem
  have Hu2 := hide (Hu.out.trans_new u2)
  have Hf := hide (And.intro hmem hle)
  have zb := hu1.size
  clear hmem hle hu1 u2
  generalize hM : w1.heap.size = M at *
  generalize (w1.alloc (.cells #[.int .i64 ra, .int .i64 rn, .slice rP rp.length rpc, .int .i64 rf, .int .i64 rm, .int .i64 ro, .slice rT rt.length rtc, .int .i64 rg] TRt)) = W at *
  have hMw : w.heap.size < M := by have h9 : (w.alloc (.cells #[.int .i64 0, .int .i64 0, .slice none 0 0, .int .i64 0, .int .i64 0, .int .i64 0, .slice none 0 0, .int .i64 0] TRt)).heap.size = w.heap.size + 1 := by simp
                                   omega
  have Hc := hide (copy_any ⟨rP, rpc, rp, rf, rm, ro, rT, rtc, rt⟩ W hok1 hll.1 hll.2)
  unfold AttrR.cells at Hc
  have c2 := Hb2.out.cell 2
  have c3 := Hb2.out.cell 3
  have c4 := Hb2.out.cell 4
  have c5 := Hb2.out.cell 5
  have c6 := Hb2.out.cell 6
  have zM := Hb2.out.lt
  simp only [List.getElem?_toArray, List.getElem?_cons_zero, List.getElem?_cons_succ] at c2 c3 c4 c5 c6
  have HMw := hide hMw
  clear hok1 hll zb hM hMw
  go_wp2_with ((go_at_call 17; refine Hc.out.mono ?_; rintro e w3 ⟨a', z, rfl, hcon, hok3, ho3, hP3, hz3, hu3⟩; obtain ⟨P', pc', p', xp', xm', xo', T', tc', t'⟩ := a'
                have H3 := hide (And.intro hcon (And.intro hok3 (And.intro ho3 (And.intro hP3 (And.intro hz3 hu3)))))
                have b3 := Hb2.out.new_ hu3
                have r3 := Hr2.out.new_ hu3
                have d0 := b3.cell 0
                have d1 := b3.cell 1
                have d2 := b3.cell 2
                have d3 := b3.cell 3
                have d4 := b3.cell 4
                have d5 := b3.cell 5
                have d6 := b3.cell 6
                have d7 := b3.cell 7
                simp only [List.getElem?_toArray, List.getElem?_cons_zero, List.getElem?_cons_succ] at d0 d1 d2 d3 d4 d5 d6 d7
                have f2 := b3.frozen 2
                have f3 := b3.frozen 3
                have f4 := b3.frozen 4
                have f5 := b3.frozen 5
                have f6 := b3.frozen 6
                have x0 := r3.cell 0
                have x1 := r3.cell 1
                have x2 := r3.cell 2
                have x3 := r3.cell 3
                have x4 := r3.cell 4
                have x5 := r3.cell 5
                have x6 := r3.cell 6
                have x7 := r3.cell 7
                simp only [List.getElem?_toArray, List.getElem?_cons_zero, List.getElem?_cons_succ] at x0 x1 x2 x3 x4 x5 x6 x7
                have y0 := r3.frozen 0
                have y1 := r3.frozen 1
                have y2 := r3.frozen 2
                have y3 := r3.frozen 3
                have y4 := r3.frozen 4
                have y5 := r3.frozen 5
                have y6 := r3.frozen 6
                have y7 := r3.frozen 7
                have hne : ¬ w.heap.size = M := by have := HMw.out; omega
                have hne2 : ¬ M = w.heap.size := by have := HMw.out; omega
                have HB3 := hide b3
                have HR3 := hide r3
                clear hcon hok3 ho3 hP3 hz3 hu3 b3 r3 c2 c3 c4 c5 c6))
  refine bodyPost_ret (rt_out2 Try.results7 rfl rfl (set8 (HR3.out.upd (set5_updg (g := M) (o := 2)) hne))) rfl ?_
  obtain ⟨hcon, hok3, ho3, hP3, hz3, hu3⟩ := H3.out
  have hT : ∀ b o, T' = some ⟨b, o, none⟩ → W.heap.size ≤ b := fun b o e => by
    obtain ⟨T9, k9, h9, _, _, _, hb9, _⟩ := ints_of_own ho3
    injection h9 with q1
    exact Nat.le_trans hz3 (hb9 b o (q1 ▸ e))
  have hfar : ∀ g, g < W.heap.size → FarA g ⟨P', pc', p', xp', xm', xo', T', tc', t'⟩ := fun g hg => ⟨fun _ b o e => by have := (hP3 b o e).1; omega, fun _ b o e => by have := hT b o e; omega⟩
  have hMw := HMw.out
  exact ⟨⟨ra, rn, ⟨P', pc', p', xp', xm', xo', T', tc', t'⟩, rg⟩, ⟨ra, rn, ⟨rP, rpc, rp, rf, rm, ro, rT, rtc, rt⟩, rg⟩, rfl, Hf.out.1, by unfold RouteR.con; rw [hcon], Hf.out.2,
    (hok3.far (hfar M zM) (set5_updg (g := M) (o := 2))).far (hfar w.heap.size (by omega)) (set8_upd (S := fun k => k = w.heap.size) rfl),
    (set5_at (o := 2) (Hu2.out.trans_new hu3) (by omega)).trans (set8_upd (S := fun k => k = w.heap.size) rfl) fun k hk hx => by omega⟩
end Go.Proofs.Ytlealjcllbpgkaa
