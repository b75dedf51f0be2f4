/- Package fib: a table: Put where it is taken. No condition but those that stand in each theorem. -/
import Derived.Test.YtkljanjapcpbdaaDoorFib4
namespace Go.Proofs.YtkljanjapcpbdaaDoor
open Go.RowKit

theorem Nodes.say {w : World} {r : Nat} {N : Nat → Nat → Option Nat} {V : Fm.VM} (h : Nodes w r N V) {k v b : Nat} (hb : N k v = some b) (x : Option Int) :
    Nodes ((w.setCell ⟨b, 2, none⟩ (.bool x.isSome)).setCell ⟨b, 3, none⟩ (.int .i64 (x.getD 0))) r N (Fm.up V k v x) := by
  refine ⟨h.root, ?_, h.inj, h.gone, ?_⟩
  · intro i u c hc
    by_cases he : i = k ∧ u = v
    · obtain ⟨rfl, rfl⟩ := he
      rw [hb] at hc; injection hc with hc; subst hc
      have hh := ((h.blk _ _ _ hb).set_ 2 (.bool x.isSome)).set_ 3 (.int .i64 (x.getD 0))
      have e : Fm.up V i u x i u = x := by simp [Fm.up]
      rw [e]
      simpa using hh
    · have e : Fm.up V k v x i u = V i u := by simp [Fm.up, he]
      rw [e]
      have hne : c ≠ b := by
        rintro rfl
        exact he (h.inj _ _ _ _ _ hc hb)
      exact ((h.blk _ _ _ hc).far (p := ⟨b, 2, none⟩) hne _).far (p := ⟨b, 3, none⟩) hne _
  · intro i u hiu
    have e : Fm.up V k v x i u = V i u := by
      unfold Fm.up
      rw [if_neg]
      rintro ⟨rfl, rfl⟩
      rw [hb] at hiu; cases hiu
    rw [e]
    exact h.said i u hiu

theorem TabAt.count {w : World} {t r : Nat} {ms n : Int} {N : Nat → Nat → Option Nat} {V : Fm.VM} (h : TabAt w t ms n r N V) (m : Int) : TabAt (w.setCell ⟨t, 2, none⟩ (.int .i64 m)) t ms m r N V := by
  refine ⟨by simpa using h.tab.set_ 2 (.int .i64 m), ?_⟩
  exact h.nodes.upd ((Upd.refl (fun k => k = t) w).setCell (p := ⟨t, 2, none⟩) (.inl rfl) _) fun i v b hb e => h.t_notin ⟨i, v, e ▸ hb⟩

theorem TabAt.say {w : World} {t r : Nat} {ms n : Int} {N : Nat → Nat → Option Nat} {V : Fm.VM} (h : TabAt w t ms n r N V) {k v b : Nat} (hb : N k v = some b) (x : Option Int) :
    TabAt ((w.setCell ⟨b, 2, none⟩ (.bool x.isSome)).setCell ⟨b, 3, none⟩ (.int .i64 (x.getD 0))) t ms n r N (Fm.up V k v x) := by
  have hne : t ≠ b := fun e => h.t_notin ⟨k, v, e ▸ hb⟩
  exact ⟨(h.tab.far (p := ⟨b, 2, none⟩) hne _).far (p := ⟨b, 3, none⟩) hne _, h.nodes.say hb x⟩

theorem TabAt.drewN {w : World} {t r : Nat} {ms n : Int} {N : Nat → Nat → Option Nat} {V : Fm.VM} (h : TabAt w t ms n r N V) (m : Nat) : TabAt (w.drewN m) t ms n r N V := ⟨h.tab.drewN m, h.nodes.drewN m⟩

theorem More.mono {B C : Nat} {N M : Nat → Nat → Option Nat} (h : More B N M) (hb : C ≤ B) : More C N M :=
  ⟨h.old, fun i v b hm => (h.new i v b hm).imp id fun hx => Nat.le_trans hb hx⟩

/-- Set at the place of a prefix. -/
def put1 (V : Fm.VM) (a n : Int) (x : Option Int) : Fm.VM := Fm.up V n.toNat (Fm.top a.toNat n.toNat) x

set_option maxHeartbeats 1000000 in
theorem put_new (a n hop ms cn : Int) (t r : Nat) (N : Nat → Nat → Option Nat) (V : Fm.VM) (E : Nat → Addr) (w : World) (h2 : Sen w gBound (E 2)) (h3 : Sen w gShape (E 3)) (h : chk a n = 0)
    (hT : TabAt w t ms cn r N V) (hv : at1 V a n = none) (hfull : cn < ms) (hcn : 0 ≤ cn) (hms : ms ≤ 60) :
    Calls Tryd.prog 25 #[.pointer (some ⟨t, 0, none⟩), .agg #[.int .i64 a, .int .i64 n], .int .i64 hop] w fun e w1 =>
      ∃ M, e = .returned .nilIface ∧ TabAt w1 t ms (cn + 1) r M (put1 V a n (some hop)) ∧ More w.heap.size N M ∧ Upd (inT t N) w w1 := by
  have ub := (Upd.refl (fun _ => False) w).alloc (.cells #[.int .i64 a, .int .i64 n] TP)
  have bb : Blk (w.alloc (.cells #[.int .i64 a, .int .i64 n] TP)) w.heap.size TP #[.int .i64 a, .int .i64 n] := Blk.new _ _ _
  have Hc := hide (check_yes a n E _ (h2.new ub) (h3.new ub) h)
  have HT := hide (hT.new ub)
  have Hv := hide hv
  have Hh := hide h
  clear h2 h3 h hT hv ub
  go_enter Tryd.func25, Tryd.ntmps25
  go_wp2_with fail
  refine Hc.out.mono ?_
  rintro e w1 ⟨rfl, hu⟩
  have bb1 := bb.new_ hu
  have c0 := bb1.cell 0
  have c1 := bb1.cell 1
  have zb := bb1.lt
  simp only [List.getElem?_toArray, List.getElem?_cons_zero, List.getElem?_cons_succ] at c0 c1
  go_wp2_with fail
  have T1 := HT.out.new hu
  refine (at_find a n t r _ _ N V Hh.out _ T1.tab T1.nodes).mono ?_
  rintro e w2 ⟨rfl, hu2⟩
  have T2 := T1.new hu2
  have t1 := T2.tab.cell 1
  have t2 := T2.tab.cell 2
  have f2 := T2.tab.frozen 2
  have zt := T2.tab.lt
  have bb2 := bb1.new_ hu2
  have d0 := bb2.cell 0
  have d1 := bb2.cell 1
  have zb2 := bb2.lt
  have hne := bb2.ne_ T2.tab (by decide)
  simp only [List.getElem?_toArray, List.getElem?_cons_zero, List.getElem?_cons_succ] at t1 t2 d0 d1
  have fin : New w w2 := (((Upd.refl _ _).alloc _).trans_new hu).trans_new hu2
  obtain ⟨c, hc⟩ : ∃ c, c = N n.toNat (Fm.top a.toNat n.toNat) := ⟨_, rfl⟩
  have HT2 := hide T2
  have Hc := hide hc
  rw [← hc]
  have hN2 := T2.nodes
  rcases c with _ | b
  case' some =>
    have hb := hN2.blk _ _ _ hc.symm
    have b2 := hb.cell 2
    have zb3 := hb.lt
    have e : V n.toNat (Fm.top a.toNat n.toNat) = none := Hv.out
    rw [e] at b2
    simp only [List.getElem?_toArray, List.getElem?_cons_zero, List.getElem?_cons_succ, Option.isSome_none] at b2
    clear hb e
  all_goals
    clear hc T1 T2 hN2
    simp only [ptr]
    go_wp2_with fail
    go_quiet (fail)
    go_wp2_with fail
    refine (at_make a n t r _ _ N V Hh.out _ (by exact ((HT2.out.count (cn + 1)).drewN _).tab) (by exact ((HT2.out.count (cn + 1)).drewN _).nodes)).mono ?_
    rintro e w4 ⟨b4, M, rfl, hM, hN4, hm, hu4⟩
    have T4 : TabAt w4 t ms (cn + 1) r M V := ⟨((HT2.out.count (cn + 1)).drewN _).tab.upd hu4 HT2.out.t_notin, hN4⟩
    have hb4 := hN4.blk _ _ _ hM
    have g2 := hb4.cell 2
    have g3 := hb4.cell 3
    have k2 := hb4.frozen 2
    have k3 := hb4.frozen 3
    have zb4 := hb4.lt
    simp only [List.getElem?_toArray, List.getElem?_cons_zero, List.getElem?_cons_succ] at g2 g3
    have HM := hide hM
    have HT4 := hide T4
    clear hM T4 hN4 hb4
    go_wp2_with fail
    go_ret
    have hin : inN N b4 ∨ w.heap.size ≤ b4 := by
      rcases hm.new _ _ _ HM.out with h | h
      · exact .inl ⟨_, _, h⟩
      · exact .inr (Nat.le_trans fin.size (by simpa using h))
    refine ⟨M, rfl, HT4.out.say HM.out (some hop), hm.mono (Nat.le_trans fin.size (by simp)), ?_⟩
    have u1 : Upd (inT t N) w w4 := ((Upd.of_new fin).setCell (p := ⟨t, 2, none⟩) (.inl (.inl rfl)) (.int .i64 (cn + 1))).drewN _ |>.trans hu4 fun _ _ h => .inr h
    exact (u1.setCell (p := ⟨b4, 2, none⟩) (hin.imp .inr id) _).setCell (p := ⟨b4, 3, none⟩) (hin.imp .inr id) _

set_option maxHeartbeats 1000000 in
theorem put_old (a n hop ms cn x : Int) (t r : Nat) (N : Nat → Nat → Option Nat) (V : Fm.VM) (E : Nat → Addr) (w : World) (h2 : Sen w gBound (E 2)) (h3 : Sen w gShape (E 3)) (h : chk a n = 0)
    (hT : TabAt w t ms cn r N V) (hv : at1 V a n = some x) :
    Calls Tryd.prog 25 #[.pointer (some ⟨t, 0, none⟩), .agg #[.int .i64 a, .int .i64 n], .int .i64 hop] w fun e w1 =>
      e = .returned .nilIface ∧ TabAt w1 t ms cn r N (put1 V a n (some hop)) ∧ Upd (inT t N) w w1 := by
  have ub := (Upd.refl (fun _ => False) w).alloc (.cells #[.int .i64 a, .int .i64 n] TP)
  have bb : Blk (w.alloc (.cells #[.int .i64 a, .int .i64 n] TP)) w.heap.size TP #[.int .i64 a, .int .i64 n] := Blk.new _ _ _
  have Hc := hide (check_yes a n E _ (h2.new ub) (h3.new ub) h)
  have HT := hide (hT.new ub)
  have Hv := hide hv
  have Hh := hide h
  clear h2 h3 h hT hv ub
  go_enter Tryd.func25, Tryd.ntmps25
  go_wp2_with fail
  refine Hc.out.mono ?_
  rintro e w1 ⟨rfl, hu⟩
  have bb1 := bb.new_ hu
  have c0 := bb1.cell 0
  have c1 := bb1.cell 1
  have zb := bb1.lt
  simp only [List.getElem?_toArray, List.getElem?_cons_zero, List.getElem?_cons_succ] at c0 c1
  go_wp2_with fail
  have T1 := HT.out.new hu
  refine (at_find a n t r _ _ N V Hh.out _ T1.tab T1.nodes).mono ?_
  rintro e w2 ⟨rfl, hu2⟩
  have T2 := T1.new hu2
  have fin : New w w2 := (((Upd.refl _ _).alloc _).trans_new hu).trans_new hu2
  obtain ⟨c, hc⟩ : ∃ c, c = N n.toNat (Fm.top a.toNat n.toNat) := ⟨_, rfl⟩
  have HT2 := hide T2
  have Hc := hide hc
  rw [← hc]
  have hN2 := T2.nodes
  have e : V n.toNat (Fm.top a.toNat n.toNat) = some x := Hv.out
  rcases c with _ | b
  · rw [hN2.said _ _ hc.symm] at e; cases e
  · have hb := hN2.blk _ _ _ hc.symm
    have b2 := hb.cell 2
    have b3 := hb.cell 3
    have k2 := hb.frozen 2
    have k3 := hb.frozen 3
    have zb3 := hb.lt
    rw [e] at b2 b3
    simp only [List.getElem?_toArray, List.getElem?_cons_zero, List.getElem?_cons_succ, Option.isSome_some] at b2 b3
    clear hb e
    clear hc T1 T2 hN2
    simp only [ptr]
    go_wp2_with fail
    go_ret
    have hin : inN N b := ⟨_, _, Hc.out.symm⟩
    exact ⟨rfl, HT2.out.say Hc.out.symm (some hop), ((Upd.of_new fin).setCell (p := ⟨b, 2, none⟩) (.inl (.inr hin)) _).setCell (p := ⟨b, 3, none⟩) (.inl (.inr hin)) _⟩
end Go.Proofs.YtkljanjapcpbdaaDoor
