/- Package live: Hear of an open, when one was sent. No condition but those that stand in each theorem. -/
import Derived.Test.YtkljanjapcpbdaaDoorLv2
namespace Go.Proofs.YtkljanjapcpbdaaDoor
open Go.RowKit

set_option maxRecDepth 8000 in
set_option maxHeartbeats 4000000 in
theorem hear_same (x : Nat) (p t : Int) (m : MsgR) (E : Nat → Addr) (w : World) (h : HearIn x m.n ⟨p, t, 1⟩ m E w) (h0 : (checkC m).1 = 0) (hK : kindN m.kind = 1) :
    Calls Tryd.prog 17 #[.pointer (some ⟨x, 0, none⟩), .agg m.cells] w (HearPost x m.n E (hearS m.n ⟨p, t, 1⟩ m) (checkC m) w) := by
  have hc := h.check (.cells m.cells TM)
  have u := (Upd.refl (fun _ => False) w).alloc (.cells m.cells TM)
  have Hq := hide (Blk.new w TM m.cells)
  have hl := Blk.new_ h.lv u
  generalize hn : m.drops.length = n at *
  generalize hk : m.adds.length = k at *
  have hcs : m.cells = #[.string m.kind, .int .i64 m.n, .slice m.D n m.dc, .slice m.A k m.ac] := by unfold MsgR.cells; rw [hn, hk]
  rw [hcs] at hc u hl Hq ⊢
  have Hc := hide hc
  have U := hide u
  have Hl := hide hl
  clear hc u hl hn hk hcs h
  go_enter Tryd.func17, Tryd.ntmps17
  go_wp2_with fail
  refine Hc.out.mono ?_
  rintro e w1 ⟨v, rfl, hv, hu⟩
  have n1 : New w w1 := U.out.trans_new hu
  have hl1 := Blk.new_ Hl.out hu
  have Hl1 := hide hl1
  have Hb1 := hide (Hq.out.new_ hu)
  have zx := Blk.lt hl1
  have x3 := Blk.cell hl1 3
  simp only [List.getElem?_toArray, List.getElem?_cons_zero, List.getElem?_cons_succ] at x3
  have zq := Hb1.out.lt
  have q0 := Hb1.out.cell 0
  have q1 := Hb1.out.cell 1
  simp only [List.getElem?_toArray, List.getElem?_cons_zero, List.getElem?_cons_succ] at q0 q1
  rw [stB1] at x3
  unfold stS at x3
  clear hl1 hu
  have Hr : Hid (hearS m.n ⟨p, t, 1⟩ m = idleS 2) := hide (by unfold hearS; rw [if_neg (by simp), if_neg (by simp [h0]), if_neg (by simp [hK]), if_neg (by simp [hK]), if_neg (by simp [hK]), if_pos rfl])
  obtain rfl : v = .nilIface := by
    rcases hv.form with ⟨_, _, h⟩ | ⟨h1, _⟩
    · exact h
    · exact absurd h0 h1
  have Hv := hide hv
  have hk := kind_text (s := m.kind).1 hK
  clear hv h0 hK
  have x0 := Blk.cell Hl1.out 0
  simp only [List.getElem?_toArray, List.getElem?_cons_zero] at x0
  have Hi := hide (fun k => idle_any x m.n 2 ⟨p, t, 1⟩ (w1.drewN k) (Blk.drewN Hl1.out k))
  go_wp2_with fail
  go_quiet (fail)
  go_wp2_with fail
  refine (Hi.out _).mono ?_
  rintro e w2 ⟨v2, rfl, hv2⟩
  have Hv2 := hide hv2
  clear hv2
  go_wp2_with fail
  go_ret2
  have u2 : Upd (fun k => k = x) w1 w2 := ((Upd.refl _ w1).drewN _).trans' Hv2.out.1
  exact ⟨_, _, rfl, by rw [Hr.out]; exact LvPost.trans_ ((Upd.of_new n1).drewN _) Hv2.out, Hv.out.updx u2 Hl1.out TFL⟩

set_option maxRecDepth 8000 in
set_option maxHeartbeats 4000000 in
theorem hear_up (x : Nat) (ya p t : Int) (m : MsgR) (E : Nat → Addr) (w : World) (h : HearIn x ya ⟨p, t, 1⟩ m E w) (h0 : (checkC m).1 = 0) (hK : kindN m.kind = 1) (hn : m.n ≠ ya) :
    Calls Tryd.prog 17 #[.pointer (some ⟨x, 0, none⟩), .agg m.cells] w (HearPost x ya E (hearS ya ⟨p, t, 1⟩ m) (checkC m) w) := by
  have hc := h.check (.cells m.cells TM)
  have u := (Upd.refl (fun _ => False) w).alloc (.cells m.cells TM)
  have Hq := hide (Blk.new w TM m.cells)
  have hl := Blk.new_ h.lv u
  generalize hn : m.drops.length = n at *
  generalize hk : m.adds.length = k at *
  have hcs : m.cells = #[.string m.kind, .int .i64 m.n, .slice m.D n m.dc, .slice m.A k m.ac] := by unfold MsgR.cells; rw [hn, hk]
  rw [hcs] at hc u hl Hq ⊢
  have Hc := hide hc
  have U := hide u
  have Hl := hide hl
  clear hc u hl hn hk hcs h
  go_enter Tryd.func17, Tryd.ntmps17
  go_wp2_with fail
  refine Hc.out.mono ?_
  rintro e w1 ⟨v, rfl, hv, hu⟩
  have n1 : New w w1 := U.out.trans_new hu
  have hl1 := Blk.new_ Hl.out hu
  have Hl1 := hide hl1
  have Hb1 := hide (Hq.out.new_ hu)
  have zx := Blk.lt hl1
  have x3 := Blk.cell hl1 3
  simp only [List.getElem?_toArray, List.getElem?_cons_zero, List.getElem?_cons_succ] at x3
  have zq := Hb1.out.lt
  have q0 := Hb1.out.cell 0
  have q1 := Hb1.out.cell 1
  simp only [List.getElem?_toArray, List.getElem?_cons_zero, List.getElem?_cons_succ] at q0 q1
  rw [stB1] at x3
  unfold stS at x3
  clear hl1 hu
  have Hr : Hid (hearS ya ⟨p, t, 1⟩ m = (⟨m.n, 0, 2⟩, [(sKeep, 0)])) := hide (by unfold hearS; rw [if_neg (by simp), if_neg (by simp [h0]), if_neg (by simp [hK]), if_neg (by simp [hK]), if_neg (by simp [hK]), if_neg hn])
  obtain rfl : v = .nilIface := by
    rcases hv.form with ⟨_, _, h⟩ | ⟨h1, _⟩
    · exact h
    · exact absurd h0 h1
  have Hv := hide hv
  have hk := kind_text (s := m.kind).1 hK
  clear hv h0 hK
  have x0 := Blk.cell Hl1.out 0
  simp only [List.getElem?_toArray, List.getElem?_cons_zero] at x0
  have x1 := Blk.cell Hl1.out 1
  have x2 := Blk.cell Hl1.out 2
  have f1 := Blk.frozen Hl1.out 1
  have f2 := Blk.frozen Hl1.out 2
  have f3 := Blk.frozen Hl1.out 3
  have hxq : x ≠ w.heap.size := Blk.ne_ Hl1.out Hb1.out (by decide)
  have hxq2 : w.heap.size ≠ x := fun e => hxq e.symm
  simp only [List.getElem?_toArray, List.getElem?_cons_zero, List.getElem?_cons_succ] at x1 x2
  have hb : (m.n == ya) = false := by simpa using hn
  have Hn := hide hn
  clear hn
  go_wp2_with fail
  go_quiet (fail)
  go_wp2_with fail
  go_region
  all_goals go_wp2_with fail
  go_ret2
  rw [Hr.out]
  have u3 : Upd (fun j => j = x) w1 (((w1.setCell ⟨x, 3, none⟩ (.string stU)).setCell ⟨x, 1, none⟩ (.int .i64 m.n)).setCell ⟨x, 2, none⟩ (.int .i64 0)) :=
    (((Upd.refl (fun j => j = x) w1).setCell (p := ⟨x, 3, none⟩) (.inl rfl) _).setCell (p := ⟨x, 1, none⟩) (.inl rfl) _).setCell (p := ⟨x, 2, none⟩) (.inl rfl) _
  have hb3 : Blk (((w1.setCell ⟨x, 3, none⟩ (.string stU)).setCell ⟨x, 1, none⟩ (.int .i64 m.n)).setCell ⟨x, 2, none⟩ (.int .i64 0)) x TL #[.int .i64 ya, .int .i64 m.n, .int .i64 0, .string (stB 2)] := by
    simpa [stB] using ((Blk.set_ Hl1.out 3 (.string stU)).set_ 1 (.int .i64 m.n)).set_ 2 (.int .i64 0)
  refine ⟨_, _, rfl, ⟨?_, ?_, ?_⟩, ?_⟩
  · exact (((Upd.of_new n1).trans' u3).alloc _).drewN _
  · exact Blk.drewN (Blk.alloc hb3 _) _
  · exact ⟨_, rfl, Blk.drewN (Blk.at_ _ _ _ _ (by simp)) _, n1.size⟩
  · exact Hv.out.updx ((u3.alloc _).drewN _) Hl1.out TFL

theorem hear_any (x : Nat) (ya : Int) (s : LS) (m : MsgR) (E : Nat → Addr) (w : World) (h : HearIn x ya s m E w) (hs : s.st ≤ 2) :
    Calls Tryd.prog 17 #[.pointer (some ⟨x, 0, none⟩), .agg m.cells] w (HearPost x ya E (hearS ya s m) (checkC m) w) := by
  obtain ⟨p, t, n⟩ := s
  match n, hs with
  | 0, _ => exact hear_idle x ya p t m E w h
  | 1, _ =>
    by_cases hc : (checkC m).1 = 0
    · have h0 := checkC_kind hc
      have h4 := kindN_le m.kind
      by_cases k1 : kindN m.kind = 1
      · by_cases hn : m.n = ya
        · subst hn
          exact hear_same x p t m E w h hc k1
        · exact hear_up x ya p t m E w h hc k1 hn
      · by_cases k2 : kindN m.kind = 2
        · exact hear_1_2 x ya p t m E w h hc k2
        · by_cases k3 : kindN m.kind = 3
          · exact hear_1_3 x ya p t m E w h hc k3
          · exact hear_1_4 x ya p t m E w h hc (by omega)
    · exact hear_bad1 x ya p t m E w h hc
  | 2, _ =>
    by_cases hc : (checkC m).1 = 0
    · have h0 := checkC_kind hc
      have h4 := kindN_le m.kind
      by_cases k1 : kindN m.kind = 1
      · exact hear_2_1 x ya p t m E w h hc k1
      · by_cases k2 : kindN m.kind = 2
        · exact hear_2_2 x ya p t m E w h hc k2
        · by_cases k3 : kindN m.kind = 3
          · exact hear_2_3 x ya p t m E w h hc k3
          · exact hear_2_4 x ya p t m E w h hc (by omega)
    · exact hear_bad2 x ya p t m E w h hc
end Go.Proofs.YtkljanjapcpbdaaDoor
