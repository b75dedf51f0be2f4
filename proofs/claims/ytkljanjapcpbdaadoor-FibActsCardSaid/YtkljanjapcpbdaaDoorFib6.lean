/- Package fib: a table: Drop, Count. No condition but those that stand in each theorem. -/
import Derived.Test.YtkljanjapcpbdaaDoorFib5
namespace Go.Proofs.YtkljanjapcpbdaaDoor
open Go.RowKit

set_option maxHeartbeats 1000000 in
theorem drop_bad (a n : Int) (t : Nat) (E : Nat → Addr) (w : World) (h2 : Sen w gBound (E 2)) (h3 : Sen w gShape (E 3)) (h : chk a n ≠ 0) :
    Calls Tryd.prog 27 #[.pointer (some ⟨t, 0, none⟩), .agg #[.int .i64 a, .int .i64 n]] w fun e w1 => e = .returned (errv (E (chk a n))) ∧ New w w1 := by
  have h2' := h2.new ((Upd.refl (fun _ => False) w).alloc (.cells #[.int .i64 a, .int .i64 n] TP))
  have h3' := h3.new ((Upd.refl (fun _ => False) w).alloc (.cells #[.int .i64 a, .int .i64 n] TP))
  have Hc := hide (check_no a n E _ h2' h3' h)
  clear h2 h3 h h2' h3'
  go_enter Tryd.func27, Tryd.ntmps27
  go_wp2_with fail
  refine Hc.out.mono ?_
  rintro e w1 ⟨rfl, hu⟩
  unfold errv
  go_wp2_with fail
  go_ret
  exact ⟨rfl, (((Upd.refl _ _).alloc _).trans_new hu)⟩

set_option maxHeartbeats 1000000 in
theorem drop_none (a n ms cn : Int) (t r : Nat) (N : Nat → Nat → Option Nat) (V : Fm.VM) (E : Nat → Addr) (w : World) (h2 : Sen w gBound (E 2)) (h3 : Sen w gShape (E 3)) (h5 : Sen w gNone (E 5)) (h : chk a n = 0)
    (hT : TabAt w t ms cn r N V) (hv : at1 V a n = none) :
    Calls Tryd.prog 27 #[.pointer (some ⟨t, 0, none⟩), .agg #[.int .i64 a, .int .i64 n]] w fun e w1 => e = .returned (errv (E 5)) ∧ New w w1 := by
  have ub := (Upd.refl (fun _ => False) w).alloc (.cells #[.int .i64 a, .int .i64 n] TP)
  have bb : Blk (w.alloc (.cells #[.int .i64 a, .int .i64 n] TP)) w.heap.size TP #[.int .i64 a, .int .i64 n] := Blk.new _ _ _
  have Hc := hide (check_yes a n E _ (h2.new ub) (h3.new ub) h)
  have HT := hide (hT.new ub)
  have H5 := hide (h5.new ub)
  have Hv := hide hv
  have Hh := hide h
  clear h2 h3 h5 h hT hv ub
  go_enter Tryd.func27, Tryd.ntmps27
  go_wp2_with fail
  refine Hc.out.mono ?_
  rintro e w1 ⟨rfl, hu⟩
  have bb1 := bb.new_ hu
  have c0 := bb1.cell 0
  have c1 := bb1.cell 1
  have zb := bb1.lt
  simp only [List.getElem?_toArray, List.getElem?_cons_zero, List.getElem?_cons_succ] at c0 c1
  go_wp2_with fail
  have T1 := HT.out.new hu
  have S5 : Sen w1 gNone (E 5) := H5.out.new hu
  refine (at_find a n t r _ _ N V Hh.out _ T1.tab T1.nodes).mono ?_
  rintro e w2 ⟨rfl, hu2⟩
  have T2 := T1.new hu2
  have S5' := S5.new hu2
  have z5 : 4 < w2.heap.size := S5'.lt
  have c5 : w2.cell? ⟨4, 0, none⟩ = some (errv (E 5)) := S5'
  have fin : New w w2 := (((Upd.refl _ _).alloc _).trans_new hu).trans_new hu2
  obtain ⟨c, hc⟩ : ∃ c, c = N n.toNat (Fm.top a.toNat n.toNat) := ⟨_, rfl⟩
  have Hc := hide hc
  rw [← hc]
  have hN2 := T2.nodes
  rcases c with _ | b
  case' some =>
    have hb := hN2.blk _ _ _ hc.symm
    have b2 := hb.cell 2
    have zb2 := hb.lt
    have e : V n.toNat (Fm.top a.toNat n.toNat) = none := Hv.out
    rw [e] at b2
    simp only [List.getElem?_toArray, List.getElem?_cons_zero, List.getElem?_cons_succ, Option.isSome_none] at b2
    clear hb e
  all_goals
    clear hc T1 T2 S5 S5' hN2
    simp only [ptr]
    go_wp2_with fail
    go_ret
    exact ⟨rfl, fin⟩

set_option maxHeartbeats 1000000 in
theorem drop_yes (a n ms cn x : Int) (t r : Nat) (N : Nat → Nat → Option Nat) (V : Fm.VM) (E : Nat → Addr) (w : World) (h2 : Sen w gBound (E 2)) (h3 : Sen w gShape (E 3)) (h : chk a n = 0)
    (hT : TabAt w t ms cn r N V) (hv : at1 V a n = some x) (hc0 : 0 < cn) (hc1 : cn ≤ 60) :
    Calls Tryd.prog 27 #[.pointer (some ⟨t, 0, none⟩), .agg #[.int .i64 a, .int .i64 n]] w fun e w1 =>
      e = .returned .nilIface ∧ TabAt w1 t ms (cn - 1) r N (put1 V a n none) ∧ Upd (inT t N) w w1 := by
  have ub := (Upd.refl (fun _ => False) w).alloc (.cells #[.int .i64 a, .int .i64 n] TP)
  have bb : Blk (w.alloc (.cells #[.int .i64 a, .int .i64 n] TP)) w.heap.size TP #[.int .i64 a, .int .i64 n] := Blk.new _ _ _
  have Hc := hide (check_yes a n E _ (h2.new ub) (h3.new ub) h)
  have HT := hide (hT.new ub)
  have Hv := hide hv
  have Hh := hide h
  clear h2 h3 h hT hv ub
  go_enter Tryd.func27, Tryd.ntmps27
  go_wp2_with fail
  refine Hc.out.mono ?_
  rintro e w1 ⟨rfl, hu⟩
  have bb1 := bb.new_ hu
  have c0 := bb1.cell 0
  have c1 := bb1.cell 1
  have zb := bb1.lt
  simp only [List.getElem?_toArray, List.getElem?_cons_zero, List.getElem?_cons_succ] at c0 c1
  go_wp2_with fail
  have T1 := HT.out.new hu
  refine (at_find a n t r _ _ N V Hh.out _ T1.tab T1.nodes).mono ?_
  rintro e w2 ⟨rfl, hu2⟩
  have T2 := T1.new hu2
  have fin : New w w2 := (((Upd.refl _ _).alloc _).trans_new hu).trans_new hu2
  obtain ⟨c, hc⟩ : ∃ c, c = N n.toNat (Fm.top a.toNat n.toNat) := ⟨_, rfl⟩
  have HT2 := hide T2
  have Hc := hide hc
  rw [← hc]
  have hN2 := T2.nodes
  have e : V n.toNat (Fm.top a.toNat n.toNat) = some x := Hv.out
  rcases c with _ | b
  · rw [hN2.said _ _ hc.symm] at e; cases e
  · have hb := hN2.blk _ _ _ hc.symm
    have b2 := hb.cell 2
    have b3 := hb.cell 3
    have k2 := hb.frozen 2
    have k3 := hb.frozen 3
    have zb3 := hb.lt
    have t2 := T2.tab.cell 2
    have f2 := T2.tab.frozen 2
    have zt := T2.tab.lt
    have hne := hb.ne_ T2.tab (by decide)
    have hne2 : t ≠ b := hne.symm
    rw [e] at b2 b3
    simp only [List.getElem?_toArray, List.getElem?_cons_zero, List.getElem?_cons_succ, Option.isSome_some] at b2 b3 t2
    clear hb e
    clear hc T1 T2 hN2
    simp only [ptr]
    go_wp2_with fail
    go_ret
    have hin : inN N b := ⟨_, _, Hc.out.symm⟩
    refine ⟨rfl, (HT2.out.say Hc.out.symm none).count (cn - 1), (((Upd.of_new fin).setCell (p := ⟨b, 2, none⟩) (.inl (.inr hin)) _).setCell (p := ⟨b, 3, none⟩) (.inl (.inr hin)) _).setCell (p := ⟨t, 2, none⟩) (.inl (.inl rfl)) _⟩

set_option maxHeartbeats 400000 in
theorem count_any (ms cn : Int) (t r : Nat) (N : Nat → Nat → Option Nat) (V : Fm.VM) (w : World) (hT : TabAt w t ms cn r N V) :
    Calls Tryd.prog 35 #[.pointer (some ⟨t, 0, none⟩)] w fun e w1 => e = .returned (.int .i64 cn) ∧ w = w1 := by
  have t2 := hT.tab.cell 2
  have zt := hT.tab.lt
  simp only [List.getElem?_toArray, List.getElem?_cons_zero, List.getElem?_cons_succ] at t2
  clear hT
  go_enter Tryd.func35, Tryd.ntmps35
  go_wp2_with fail
  go_ret
  exact ⟨rfl, rfl⟩
end Go.Proofs.YtkljanjapcpbdaaDoor
