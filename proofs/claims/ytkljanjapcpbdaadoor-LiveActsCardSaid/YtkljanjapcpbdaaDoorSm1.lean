/- What two sessions send is the same. No condition but those that stand in each theorem. -/
import Derived.Test.YtkljanjapcpbdaaDoorRs2
import Derived.Test.YtkljanjapcpbdaaDoorLv1
namespace Go.Proofs.YtkljanjapcpbdaaDoor
open Go.RowKit

set_option maxRecDepth 8000 in
set_option maxHeartbeats 2000000 in
theorem sameMsg_plain (k : ByteArray) (n : Int) (w : World) : Calls Tryd.prog 96 #[.agg (msgCells k n), .agg (msgCells k n)] w fun e w1 => e = .returned (.bool true) ∧ New w w1 := by
  have u := ((Upd.refl (fun _ => False) w).alloc (.cells (msgCells k n) TM)).alloc (.cells (msgCells k n) TM)
  have b0 := (Blk.new w TM (msgCells k n)).alloc (.cells (msgCells k n) TM)
  have b1 := Blk.at_ (w.alloc (.cells (msgCells k n) TM)) TM (msgCells k n) (w.heap.size + 1) (by simp)
  have Hu := hide u
  have Hb0 := hide b0
  have Hb1 := hide b1
  clear u b0 b1
  unfold msgCells at *
  go_enter Tryd.func96, Tryd.ntmps96
  go_upto_region 1 with (fail)
  generalize ((w.alloc (.cells #[.string k, .int .i64 n, .slice none 0 0, .slice none 0 0] TM)).alloc (.cells #[.string k, .int .i64 n, .slice none 0 0, .slice none 0 0] TM)) = W at *
  have c0 := Hb0.out.cell 0
  have c1 := Hb0.out.cell 1
  have c2 := Hb0.out.cell 2
  have c3 := Hb0.out.cell 3
  have d0 := Hb1.out.cell 0
  have d1 := Hb1.out.cell 1
  have d2 := Hb1.out.cell 2
  have d3 := Hb1.out.cell 3
  have z0 := Hb0.out.lt
  have z1 := Hb1.out.lt
  simp only [List.getElem?_toArray, List.getElem?_cons_zero, List.getElem?_cons_succ] at c0 c1 c2 c3 d0 d1 d2 d3
  refine wp_region_seq W (Upd.refl _ _) ?_
  repeat (go_big_quiet_step (first
    | (go_at_call 136; exact new_call (samePrefixes_nil 0 0 _))
    | (go_at_call 137; exact new_call (sameRoutes_nil 0 0 _))))
  refine wpQuiet_nil ?_
  rintro _ ⟨nq, rfl⟩
  go_wp2_with fail
  go_ret
  exact ⟨rfl, Hu.out.trans_new nq.h⟩

set_option maxRecDepth 8000 in
set_option maxHeartbeats 2000000 in
theorem sameMsgs_any {B B2 : Nat} {w : World} {v u : Value} {l : List (ByteArray × Int)} (h1 : OutAt B w v l) (h2 : OutAt B2 w u l) : Calls Tryd.prog 46 #[v, u] w fun e w1 => e = .returned (.bool true) ∧ New w w1 := by
  cases l with
  | nil =>
    obtain rfl : v = .slice none 0 0 := h1
    obtain rfl : u = .slice none 0 0 := h2
    go_enter Tryd.func46, Tryd.ntmps46
    go_wp2_with fail
    refine wp_loop_rounds 1 ?_
    rw [rounds_succ]
    go_wp2_with fail
    go_ret
    exact ⟨rfl, Upd.refl _ _⟩
  | cons a l =>
    obtain ⟨k, n⟩ := a
    obtain ⟨g, rfl, hb, _⟩ := h1
    obtain ⟨g2, rfl, hb2, _⟩ := h2
    have Hc := hide (fun w1 => sameMsg_plain k n w1)
    unfold msgCells at *
    have c0 := hb.cell 0
    have c1 := hb.cell 1
    have c2 := hb.cell 2
    have c3 := hb.cell 3
    have d0 := hb2.cell 0
    have d1 := hb2.cell 1
    have d2 := hb2.cell 2
    have d3 := hb2.cell 3
    have z0 := hb.lt
    have z1 := hb2.lt
    simp only [List.getElem?_toArray, List.getElem?_cons_zero, List.getElem?_cons_succ] at c0 c1 c2 c3 d0 d1 d2 d3
    clear hb hb2
    go_enter Tryd.func46, Tryd.ntmps46
    go_wp2_with fail
    refine wp_loop_rounds 2 ?_
    rw [rounds_succ]
    go_upto_region 6 with (fail)
    refine wp_region_new w (Upd.refl _ _) (by kernel_rfl) (by kernel_rfl) ?_
    repeat (go_big_quiet_step ((go_at_call 96; exact new_call (Hc.out _))))
    refine wpQuiet_nil ?_
    rintro _ ⟨nq, rfl⟩
    have nn := nq.h
    go_wp2_with fail
    rw [rounds_succ]
    go_wp2_with fail
    go_ret
    exact ⟨rfl, nn⟩
end Go.Proofs.YtkljanjapcpbdaaDoor
