/- Package live: Hear. No condition but those that stand in each theorem. -/
import Derived.Test.YtkljanjapcpbdaaDoorLv1
import Derived.RegionTactic
namespace Go.Proofs.YtkljanjapcpbdaaDoor
open Go.RowKit

theorem ErrV.updx {w w1 : World} {E : Nat → Addr} {v : Value} {k x : Nat} {i : Int} {t : TypeId} {cs : Array Value} (h : ErrV w E v k i) (hu : Upd (fun j => j = x) w w1) (hx : Blk w x t cs) (ht : TF ≠ t) : ErrV w1 E v k i := by
  rcases h with h | h | ⟨h1, h9, p, hv, hb⟩
  · exact .inl h
  · exact .inr (.inl h)
  · exact .inr (.inr ⟨h1, h9, p, hv, hb.upd hu (Blk.ne_ hb hx ht)⟩)

def hearS (ya : Int) (s : LS) (m : MsgR) : LS × List (ByteArray × Int) :=
  if s.st = 0 then (s, []) else if (checkC m).1 ≠ 0 then idleS 1 else if kindN m.kind = 4 then (⟨0, 0, 0⟩, [])
  else if s.st = 2 ∧ kindN m.kind ≠ 1 then (⟨s.peer, 0, 2⟩, []) else if s.st = 2 ∨ kindN m.kind ≠ 1 then idleS 5
  else if m.n = ya then idleS 2 else (⟨m.n, 0, 2⟩, [(sKeep, 0)])

def HearPost (x : Nat) (ya : Int) (E : Nat → Addr) (r : LS × List (ByteArray × Int)) (c : Nat × Int) (w : World) (e : Ending) (w1 : World) : Prop :=
  ∃ v u, e = .returned (.tuple #[v, u]) ∧ (Upd (fun k => k = x) w w1 ∧ LvAt w1 x ya r.1 ∧ OutAt w.heap.size w1 v r.2) ∧ ErrV w1 E u c.1 c.2

theorem checkC_kind {m : MsgR} (h : (checkC m).1 = 0) : kindN m.kind ≠ 0 := by
  intro h0
  unfold checkC at h
  rw [if_pos h0] at h
  cases h
theorem TFL : TF ≠ TL := by decide

/-- What the walks of Hear want. -/
structure HearIn (x : Nat) (ya : Int) (s : LS) (m : MsgR) (E : Nat → Addr) (w : World) : Prop where
  lv : LvAt w x ya s
  h2 : Sen w gBound (E 2)
  h3 : Sen w gShape (E 3)
  h4 : Sen w gKind (E 4)
  h6 : Sen w gExist_ (E 6)
  h7 : Sen w gFull_ (E 7)
  h8 : Sen w gOrder (E 8)
  ok : MsgOk w m
  sh : Short m
  dl : m.drops.length ≤ 1000
  al : m.adds.length ≤ 1000
theorem HearIn.check {x : Nat} {ya : Int} {s : LS} {m : MsgR} {E : Nat → Addr} {w : World} (h : HearIn x ya s m E w) (o : Obj) : Calls Tryd.prog 19 #[.agg m.cells] (w.alloc o) (ErrPost E (checkC m).1 (checkC m).2 (w.alloc o)) := by
  have u := (Upd.refl (fun _ => False) w).alloc o
  exact wireCheck_any m E _ (h.h2.new u) (h.h3.new u) (h.h4.new u) (h.h6.new u) (h.h7.new u) (h.h8.new u) (h.ok.new_ u) h.sh h.dl h.al

set_option maxRecDepth 8000 in
set_option maxHeartbeats 4000000 in
theorem hear_idle (x : Nat) (ya p t : Int) (m : MsgR) (E : Nat → Addr) (w : World) (h : HearIn x ya ⟨p, t, 0⟩ m E w) :
    Calls Tryd.prog 17 #[.pointer (some ⟨x, 0, none⟩), .agg m.cells] w (HearPost x ya E (hearS ya ⟨p, t, 0⟩ m) (checkC m) w) := by
  have hc := h.check (.cells m.cells TM)
  have u := (Upd.refl (fun _ => False) w).alloc (.cells m.cells TM)
  have Hq := hide (Blk.new w TM m.cells)
  have hl := Blk.new_ h.lv u
  generalize hn : m.drops.length = n at *
  generalize hk : m.adds.length = k at *
  have hcs : m.cells = #[.string m.kind, .int .i64 m.n, .slice m.D n m.dc, .slice m.A k m.ac] := by unfold MsgR.cells; rw [hn, hk]
  rw [hcs] at hc u hl Hq ⊢
  have Hc := hide hc
  have U := hide u
  have Hl := hide hl
  clear hc u hl hn hk hcs h
  go_enter Tryd.func17, Tryd.ntmps17
  go_wp2_with fail
  refine Hc.out.mono ?_
  rintro e w1 ⟨v, rfl, hv, hu⟩
  have n1 : New w w1 := U.out.trans_new hu
  have hl1 := Blk.new_ Hl.out hu
  have Hl1 := hide hl1
  have Hb1 := hide (Hq.out.new_ hu)
  have zx := Blk.lt hl1
  have x3 := Blk.cell hl1 3
  simp only [List.getElem?_toArray, List.getElem?_cons_zero, List.getElem?_cons_succ] at x3
  have zq := Hb1.out.lt
  have q0 := Hb1.out.cell 0
  have q1 := Hb1.out.cell 1
  simp only [List.getElem?_toArray, List.getElem?_cons_zero, List.getElem?_cons_succ] at q0 q1
  rw [stB0] at x3
  unfold stI at x3
  clear hl1 hu
  have Hv := hide hv
  clear hv
  go_wp2_with fail
  go_ret2
  exact ⟨_, _, rfl, ⟨Upd.of_new n1, Hl1.out, rfl⟩, Hv.out⟩

set_option maxRecDepth 8000 in
set_option maxHeartbeats 4000000 in
theorem hear_bad1 (x : Nat) (ya p t : Int) (m : MsgR) (E : Nat → Addr) (w : World) (h : HearIn x ya ⟨p, t, 1⟩ m E w) (hne : (checkC m).1 ≠ 0) :
    Calls Tryd.prog 17 #[.pointer (some ⟨x, 0, none⟩), .agg m.cells] w (HearPost x ya E (hearS ya ⟨p, t, 1⟩ m) (checkC m) w) := by
  have hc := h.check (.cells m.cells TM)
  have u := (Upd.refl (fun _ => False) w).alloc (.cells m.cells TM)
  have Hq := hide (Blk.new w TM m.cells)
  have hl := Blk.new_ h.lv u
  generalize hn : m.drops.length = n at *
  generalize hk : m.adds.length = k at *
  have hcs : m.cells = #[.string m.kind, .int .i64 m.n, .slice m.D n m.dc, .slice m.A k m.ac] := by unfold MsgR.cells; rw [hn, hk]
  rw [hcs] at hc u hl Hq ⊢
  have Hc := hide hc
  have U := hide u
  have Hl := hide hl
  clear hc u hl hn hk hcs h
  go_enter Tryd.func17, Tryd.ntmps17
  go_wp2_with fail
  refine Hc.out.mono ?_
  rintro e w1 ⟨v, rfl, hv, hu⟩
  have n1 : New w w1 := U.out.trans_new hu
  have hl1 := Blk.new_ Hl.out hu
  have Hl1 := hide hl1
  have Hb1 := hide (Hq.out.new_ hu)
  have zx := Blk.lt hl1
  have x3 := Blk.cell hl1 3
  simp only [List.getElem?_toArray, List.getElem?_cons_zero, List.getElem?_cons_succ] at x3
  have zq := Hb1.out.lt
  have q0 := Hb1.out.cell 0
  have q1 := Hb1.out.cell 1
  simp only [List.getElem?_toArray, List.getElem?_cons_zero, List.getElem?_cons_succ] at q0 q1
  rw [stB1] at x3
  unfold stS at x3
  clear hl1 hu
  have Hr : Hid (hearS ya ⟨p, t, 1⟩ m = idleS 1) := hide (by unfold hearS; rw [if_neg (by simp), if_pos hne])
  obtain ⟨t1, p1, rfl⟩ : ∃ t p, v = .iface t (.pointer (some p)) := by
    rcases hv.form with ⟨h0, _, _⟩ | ⟨_, h⟩
    · exact absurd h0 hne
    · exact h
  have Hv := hide hv
  clear hv hne
  have Hi := hide (idle_any x ya 1 ⟨p, t, 1⟩ w1 Hl1.out)
  go_wp2_with fail
  refine Hi.out.mono ?_
  rintro e w2 ⟨v2, rfl, hv2⟩
  have Hv2 := hide hv2
  clear hv2
  go_wp2_with fail
  go_ret2
  exact ⟨_, _, rfl, by rw [Hr.out]; exact LvPost.trans_ (Upd.of_new n1) Hv2.out, Hv.out.updx Hv2.out.1 Hl1.out TFL⟩

set_option maxRecDepth 8000 in
set_option maxHeartbeats 4000000 in
theorem hear_1_2 (x : Nat) (ya p t : Int) (m : MsgR) (E : Nat → Addr) (w : World) (h : HearIn x ya ⟨p, t, 1⟩ m E w) (h0 : (checkC m).1 = 0) (hK : kindN m.kind = 2) :
    Calls Tryd.prog 17 #[.pointer (some ⟨x, 0, none⟩), .agg m.cells] w (HearPost x ya E (hearS ya ⟨p, t, 1⟩ m) (checkC m) w) := by
  have hc := h.check (.cells m.cells TM)
  have u := (Upd.refl (fun _ => False) w).alloc (.cells m.cells TM)
  have Hq := hide (Blk.new w TM m.cells)
  have hl := Blk.new_ h.lv u
  generalize hn : m.drops.length = n at *
  generalize hk : m.adds.length = k at *
  have hcs : m.cells = #[.string m.kind, .int .i64 m.n, .slice m.D n m.dc, .slice m.A k m.ac] := by unfold MsgR.cells; rw [hn, hk]
  rw [hcs] at hc u hl Hq ⊢
  have Hc := hide hc
  have U := hide u
  have Hl := hide hl
  clear hc u hl hn hk hcs h
  go_enter Tryd.func17, Tryd.ntmps17
  go_wp2_with fail
  refine Hc.out.mono ?_
  rintro e w1 ⟨v, rfl, hv, hu⟩
  have n1 : New w w1 := U.out.trans_new hu
  have hl1 := Blk.new_ Hl.out hu
  have Hl1 := hide hl1
  have Hb1 := hide (Hq.out.new_ hu)
  have zx := Blk.lt hl1
  have x3 := Blk.cell hl1 3
  simp only [List.getElem?_toArray, List.getElem?_cons_zero, List.getElem?_cons_succ] at x3
  have zq := Hb1.out.lt
  have q0 := Hb1.out.cell 0
  have q1 := Hb1.out.cell 1
  simp only [List.getElem?_toArray, List.getElem?_cons_zero, List.getElem?_cons_succ] at q0 q1
  rw [stB1] at x3
  unfold stS at x3
  clear hl1 hu
  have Hr : Hid (hearS ya ⟨p, t, 1⟩ m = idleS 5) := hide (by unfold hearS; rw [if_neg (by simp), if_neg (by simp [h0]), if_neg (by simp [hK]), if_neg (by simp [hK]), if_pos (by simp [hK])])
  obtain rfl : v = .nilIface := by
    rcases hv.form with ⟨_, _, h⟩ | ⟨h1, _⟩
    · exact h
    · exact absurd h0 h1
  have Hv := hide hv
  have hk := kind_text (s := m.kind).2.1 hK
  clear hv h0 hK
  have Hi := hide (idle_any x ya 5 ⟨p, t, 1⟩ w1 Hl1.out)
  go_wp2_with fail
  refine Hi.out.mono ?_
  rintro e w2 ⟨v2, rfl, hv2⟩
  have Hv2 := hide hv2
  clear hv2
  go_wp2_with fail
  go_ret2
  exact ⟨_, _, rfl, by rw [Hr.out]; exact LvPost.trans_ (Upd.of_new n1) Hv2.out, Hv.out.updx Hv2.out.1 Hl1.out TFL⟩

set_option maxRecDepth 8000 in
set_option maxHeartbeats 4000000 in
theorem hear_1_3 (x : Nat) (ya p t : Int) (m : MsgR) (E : Nat → Addr) (w : World) (h : HearIn x ya ⟨p, t, 1⟩ m E w) (h0 : (checkC m).1 = 0) (hK : kindN m.kind = 3) :
    Calls Tryd.prog 17 #[.pointer (some ⟨x, 0, none⟩), .agg m.cells] w (HearPost x ya E (hearS ya ⟨p, t, 1⟩ m) (checkC m) w) := by
  have hc := h.check (.cells m.cells TM)
  have u := (Upd.refl (fun _ => False) w).alloc (.cells m.cells TM)
  have Hq := hide (Blk.new w TM m.cells)
  have hl := Blk.new_ h.lv u
  generalize hn : m.drops.length = n at *
  generalize hk : m.adds.length = k at *
  have hcs : m.cells = #[.string m.kind, .int .i64 m.n, .slice m.D n m.dc, .slice m.A k m.ac] := by unfold MsgR.cells; rw [hn, hk]
  rw [hcs] at hc u hl Hq ⊢
  have Hc := hide hc
  have U := hide u
  have Hl := hide hl
  clear hc u hl hn hk hcs h
  go_enter Tryd.func17, Tryd.ntmps17
  go_wp2_with fail
  refine Hc.out.mono ?_
  rintro e w1 ⟨v, rfl, hv, hu⟩
  have n1 : New w w1 := U.out.trans_new hu
  have hl1 := Blk.new_ Hl.out hu
  have Hl1 := hide hl1
  have Hb1 := hide (Hq.out.new_ hu)
  have zx := Blk.lt hl1
  have x3 := Blk.cell hl1 3
  simp only [List.getElem?_toArray, List.getElem?_cons_zero, List.getElem?_cons_succ] at x3
  have zq := Hb1.out.lt
  have q0 := Hb1.out.cell 0
  have q1 := Hb1.out.cell 1
  simp only [List.getElem?_toArray, List.getElem?_cons_zero, List.getElem?_cons_succ] at q0 q1
  rw [stB1] at x3
  unfold stS at x3
  clear hl1 hu
  have Hr : Hid (hearS ya ⟨p, t, 1⟩ m = idleS 5) := hide (by unfold hearS; rw [if_neg (by simp), if_neg (by simp [h0]), if_neg (by simp [hK]), if_neg (by simp [hK]), if_pos (by simp [hK])])
  obtain rfl : v = .nilIface := by
    rcases hv.form with ⟨_, _, h⟩ | ⟨h1, _⟩
    · exact h
    · exact absurd h0 h1
  have Hv := hide hv
  have hk := kind_text (s := m.kind).2.2.1 hK
  clear hv h0 hK
  have Hi := hide (idle_any x ya 5 ⟨p, t, 1⟩ w1 Hl1.out)
  go_wp2_with fail
  refine Hi.out.mono ?_
  rintro e w2 ⟨v2, rfl, hv2⟩
  have Hv2 := hide hv2
  clear hv2
  go_wp2_with fail
  go_ret2
  exact ⟨_, _, rfl, by rw [Hr.out]; exact LvPost.trans_ (Upd.of_new n1) Hv2.out, Hv.out.updx Hv2.out.1 Hl1.out TFL⟩

set_option maxRecDepth 8000 in
set_option maxHeartbeats 4000000 in
theorem hear_1_4 (x : Nat) (ya p t : Int) (m : MsgR) (E : Nat → Addr) (w : World) (h : HearIn x ya ⟨p, t, 1⟩ m E w) (h0 : (checkC m).1 = 0) (hK : kindN m.kind = 4) :
    Calls Tryd.prog 17 #[.pointer (some ⟨x, 0, none⟩), .agg m.cells] w (HearPost x ya E (hearS ya ⟨p, t, 1⟩ m) (checkC m) w) := by
  have hc := h.check (.cells m.cells TM)
  have u := (Upd.refl (fun _ => False) w).alloc (.cells m.cells TM)
  have Hq := hide (Blk.new w TM m.cells)
  have hl := Blk.new_ h.lv u
  generalize hn : m.drops.length = n at *
  generalize hk : m.adds.length = k at *
  have hcs : m.cells = #[.string m.kind, .int .i64 m.n, .slice m.D n m.dc, .slice m.A k m.ac] := by unfold MsgR.cells; rw [hn, hk]
  rw [hcs] at hc u hl Hq ⊢
  have Hc := hide hc
  have U := hide u
  have Hl := hide hl
  clear hc u hl hn hk hcs h
  go_enter Tryd.func17, Tryd.ntmps17
  go_wp2_with fail
  refine Hc.out.mono ?_
  rintro e w1 ⟨v, rfl, hv, hu⟩
  have n1 : New w w1 := U.out.trans_new hu
  have hl1 := Blk.new_ Hl.out hu
  have Hl1 := hide hl1
  have Hb1 := hide (Hq.out.new_ hu)
  have zx := Blk.lt hl1
  have x3 := Blk.cell hl1 3
  simp only [List.getElem?_toArray, List.getElem?_cons_zero, List.getElem?_cons_succ] at x3
  have zq := Hb1.out.lt
  have q0 := Hb1.out.cell 0
  have q1 := Hb1.out.cell 1
  simp only [List.getElem?_toArray, List.getElem?_cons_zero, List.getElem?_cons_succ] at q0 q1
  rw [stB1] at x3
  unfold stS at x3
  clear hl1 hu
  have Hr : Hid (hearS ya ⟨p, t, 1⟩ m = (⟨0, 0, 0⟩, [])) := hide (by unfold hearS; rw [if_neg (by simp), if_neg (by simp [h0]), if_pos hK])
  obtain rfl : v = .nilIface := by
    rcases hv.form with ⟨_, _, h⟩ | ⟨h1, _⟩
    · exact h
    · exact absurd h0 h1
  have Hv := hide hv
  have hk := kind_text (s := m.kind).2.2.2 hK
  clear hv h0 hK
  have Hi := hide (idle_any x ya 0 ⟨p, t, 1⟩ w1 Hl1.out)
  go_wp2_with fail
  refine Hi.out.mono ?_
  rintro e w2 ⟨v2, rfl, hv2⟩
  have Hv2 := hide hv2
  clear hv2
  go_wp2_with fail
  go_ret2
  exact ⟨_, _, rfl, by rw [Hr.out]; exact ⟨(Upd.of_new n1).trans' Hv2.out.1, Hv2.out.2.1, rfl⟩, Hv.out.updx Hv2.out.1 Hl1.out TFL⟩

set_option maxRecDepth 8000 in
set_option maxHeartbeats 4000000 in
theorem hear_bad2 (x : Nat) (ya p t : Int) (m : MsgR) (E : Nat → Addr) (w : World) (h : HearIn x ya ⟨p, t, 2⟩ m E w) (hne : (checkC m).1 ≠ 0) :
    Calls Tryd.prog 17 #[.pointer (some ⟨x, 0, none⟩), .agg m.cells] w (HearPost x ya E (hearS ya ⟨p, t, 2⟩ m) (checkC m) w) := by
  have hc := h.check (.cells m.cells TM)
  have u := (Upd.refl (fun _ => False) w).alloc (.cells m.cells TM)
  have Hq := hide (Blk.new w TM m.cells)
  have hl := Blk.new_ h.lv u
  generalize hn : m.drops.length = n at *
  generalize hk : m.adds.length = k at *
  have hcs : m.cells = #[.string m.kind, .int .i64 m.n, .slice m.D n m.dc, .slice m.A k m.ac] := by unfold MsgR.cells; rw [hn, hk]
  rw [hcs] at hc u hl Hq ⊢
  have Hc := hide hc
  have U := hide u
  have Hl := hide hl
  clear hc u hl hn hk hcs h
  go_enter Tryd.func17, Tryd.ntmps17
  go_wp2_with fail
  refine Hc.out.mono ?_
  rintro e w1 ⟨v, rfl, hv, hu⟩
  have n1 : New w w1 := U.out.trans_new hu
  have hl1 := Blk.new_ Hl.out hu
  have Hl1 := hide hl1
  have Hb1 := hide (Hq.out.new_ hu)
  have zx := Blk.lt hl1
  have x3 := Blk.cell hl1 3
  simp only [List.getElem?_toArray, List.getElem?_cons_zero, List.getElem?_cons_succ] at x3
  have zq := Hb1.out.lt
  have q0 := Hb1.out.cell 0
  have q1 := Hb1.out.cell 1
  simp only [List.getElem?_toArray, List.getElem?_cons_zero, List.getElem?_cons_succ] at q0 q1
  rw [stB2] at x3
  unfold stU at x3
  clear hl1 hu
  have Hr : Hid (hearS ya ⟨p, t, 2⟩ m = idleS 1) := hide (by unfold hearS; rw [if_neg (by simp), if_pos hne])
  obtain ⟨t1, p1, rfl⟩ : ∃ t p, v = .iface t (.pointer (some p)) := by
    rcases hv.form with ⟨h0, _, _⟩ | ⟨_, h⟩
    · exact absurd h0 hne
    · exact h
  have Hv := hide hv
  clear hv hne
  have Hi := hide (idle_any x ya 1 ⟨p, t, 2⟩ w1 Hl1.out)
  go_wp2_with fail
  refine Hi.out.mono ?_
  rintro e w2 ⟨v2, rfl, hv2⟩
  have Hv2 := hide hv2
  clear hv2
  go_wp2_with fail
  go_ret2
  exact ⟨_, _, rfl, by rw [Hr.out]; exact LvPost.trans_ (Upd.of_new n1) Hv2.out, Hv.out.updx Hv2.out.1 Hl1.out TFL⟩

set_option maxRecDepth 8000 in
set_option maxHeartbeats 4000000 in
theorem hear_2_1 (x : Nat) (ya p t : Int) (m : MsgR) (E : Nat → Addr) (w : World) (h : HearIn x ya ⟨p, t, 2⟩ m E w) (h0 : (checkC m).1 = 0) (hK : kindN m.kind = 1) :
    Calls Tryd.prog 17 #[.pointer (some ⟨x, 0, none⟩), .agg m.cells] w (HearPost x ya E (hearS ya ⟨p, t, 2⟩ m) (checkC m) w) := by
  have hc := h.check (.cells m.cells TM)
  have u := (Upd.refl (fun _ => False) w).alloc (.cells m.cells TM)
  have Hq := hide (Blk.new w TM m.cells)
  have hl := Blk.new_ h.lv u
  generalize hn : m.drops.length = n at *
  generalize hk : m.adds.length = k at *
  have hcs : m.cells = #[.string m.kind, .int .i64 m.n, .slice m.D n m.dc, .slice m.A k m.ac] := by unfold MsgR.cells; rw [hn, hk]
  rw [hcs] at hc u hl Hq ⊢
  have Hc := hide hc
  have U := hide u
  have Hl := hide hl
  clear hc u hl hn hk hcs h
  go_enter Tryd.func17, Tryd.ntmps17
  go_wp2_with fail
  refine Hc.out.mono ?_
  rintro e w1 ⟨v, rfl, hv, hu⟩
  have n1 : New w w1 := U.out.trans_new hu
  have hl1 := Blk.new_ Hl.out hu
  have Hl1 := hide hl1
  have Hb1 := hide (Hq.out.new_ hu)
  have zx := Blk.lt hl1
  have x3 := Blk.cell hl1 3
  simp only [List.getElem?_toArray, List.getElem?_cons_zero, List.getElem?_cons_succ] at x3
  have zq := Hb1.out.lt
  have q0 := Hb1.out.cell 0
  have q1 := Hb1.out.cell 1
  simp only [List.getElem?_toArray, List.getElem?_cons_zero, List.getElem?_cons_succ] at q0 q1
  rw [stB2] at x3
  unfold stU at x3
  clear hl1 hu
  have Hr : Hid (hearS ya ⟨p, t, 2⟩ m = idleS 5) := hide (by unfold hearS; rw [if_neg (by simp), if_neg (by simp [h0]), if_neg (by simp [hK]), if_neg (by simp [hK]), if_pos (by simp [hK])])
  obtain rfl : v = .nilIface := by
    rcases hv.form with ⟨_, _, h⟩ | ⟨h1, _⟩
    · exact h
    · exact absurd h0 h1
  have Hv := hide hv
  have hk := kind_text (s := m.kind).1 hK
  clear hv h0 hK
  have Hi := hide (idle_any x ya 5 ⟨p, t, 2⟩ w1 Hl1.out)
  go_wp2_with fail
  refine Hi.out.mono ?_
  rintro e w2 ⟨v2, rfl, hv2⟩
  have Hv2 := hide hv2
  clear hv2
  go_wp2_with fail
  go_ret2
  exact ⟨_, _, rfl, by rw [Hr.out]; exact LvPost.trans_ (Upd.of_new n1) Hv2.out, Hv.out.updx Hv2.out.1 Hl1.out TFL⟩

set_option maxRecDepth 8000 in
set_option maxHeartbeats 4000000 in
theorem hear_2_2 (x : Nat) (ya p t : Int) (m : MsgR) (E : Nat → Addr) (w : World) (h : HearIn x ya ⟨p, t, 2⟩ m E w) (h0 : (checkC m).1 = 0) (hK : kindN m.kind = 2) :
    Calls Tryd.prog 17 #[.pointer (some ⟨x, 0, none⟩), .agg m.cells] w (HearPost x ya E (hearS ya ⟨p, t, 2⟩ m) (checkC m) w) := by
  have hc := h.check (.cells m.cells TM)
  have u := (Upd.refl (fun _ => False) w).alloc (.cells m.cells TM)
  have Hq := hide (Blk.new w TM m.cells)
  have hl := Blk.new_ h.lv u
  generalize hn : m.drops.length = n at *
  generalize hk : m.adds.length = k at *
  have hcs : m.cells = #[.string m.kind, .int .i64 m.n, .slice m.D n m.dc, .slice m.A k m.ac] := by unfold MsgR.cells; rw [hn, hk]
  rw [hcs] at hc u hl Hq ⊢
  have Hc := hide hc
  have U := hide u
  have Hl := hide hl
  clear hc u hl hn hk hcs h
  go_enter Tryd.func17, Tryd.ntmps17
  go_wp2_with fail
  refine Hc.out.mono ?_
  rintro e w1 ⟨v, rfl, hv, hu⟩
  have n1 : New w w1 := U.out.trans_new hu
  have hl1 := Blk.new_ Hl.out hu
  have Hl1 := hide hl1
  have Hb1 := hide (Hq.out.new_ hu)
  have zx := Blk.lt hl1
  have x3 := Blk.cell hl1 3
  simp only [List.getElem?_toArray, List.getElem?_cons_zero, List.getElem?_cons_succ] at x3
  have zq := Hb1.out.lt
  have q0 := Hb1.out.cell 0
  have q1 := Hb1.out.cell 1
  simp only [List.getElem?_toArray, List.getElem?_cons_zero, List.getElem?_cons_succ] at q0 q1
  rw [stB2] at x3
  unfold stU at x3
  clear hl1 hu
  have Hr : Hid (hearS ya ⟨p, t, 2⟩ m = (⟨p, 0, 2⟩, [])) := hide (by unfold hearS; rw [if_neg (by simp), if_neg (by simp [h0]), if_neg (by simp [hK]), if_pos (by simp [hK])])
  obtain rfl : v = .nilIface := by
    rcases hv.form with ⟨_, _, h⟩ | ⟨h1, _⟩
    · exact h
    · exact absurd h0 h1
  have Hv := hide hv
  have hk := kind_text (s := m.kind).2.1 hK
  clear hv h0 hK
  have x2 := Blk.cell Hl1.out 2
  have f2 := Blk.frozen Hl1.out 2
  simp only [List.getElem?_toArray, List.getElem?_cons_zero, List.getElem?_cons_succ] at x2
  go_wp2_with fail
  go_ret2
  have u2 : Upd (fun j => j = x) w1 (w1.setCell ⟨x, 2, none⟩ (.int .i64 0)) := (Upd.refl (fun j => j = x) w1).setCell (p := ⟨x, 2, none⟩) (.inl rfl) _
  have hb : Blk (w1.setCell ⟨x, 2, none⟩ (.int .i64 0)) x TL #[.int .i64 ya, .int .i64 p, .int .i64 0, .string (stB 2)] := by
    simpa using Blk.set_ Hl1.out 2 (.int .i64 0)
  exact ⟨_, _, rfl, by rw [Hr.out]; exact ⟨(Upd.of_new n1).trans' u2, hb, rfl⟩, Hv.out.updx u2 Hl1.out TFL⟩

set_option maxRecDepth 8000 in
set_option maxHeartbeats 4000000 in
theorem hear_2_3 (x : Nat) (ya p t : Int) (m : MsgR) (E : Nat → Addr) (w : World) (h : HearIn x ya ⟨p, t, 2⟩ m E w) (h0 : (checkC m).1 = 0) (hK : kindN m.kind = 3) :
    Calls Tryd.prog 17 #[.pointer (some ⟨x, 0, none⟩), .agg m.cells] w (HearPost x ya E (hearS ya ⟨p, t, 2⟩ m) (checkC m) w) := by
  have hc := h.check (.cells m.cells TM)
  have u := (Upd.refl (fun _ => False) w).alloc (.cells m.cells TM)
  have Hq := hide (Blk.new w TM m.cells)
  have hl := Blk.new_ h.lv u
  generalize hn : m.drops.length = n at *
  generalize hk : m.adds.length = k at *
  have hcs : m.cells = #[.string m.kind, .int .i64 m.n, .slice m.D n m.dc, .slice m.A k m.ac] := by unfold MsgR.cells; rw [hn, hk]
  rw [hcs] at hc u hl Hq ⊢
  have Hc := hide hc
  have U := hide u
  have Hl := hide hl
  clear hc u hl hn hk hcs h
  go_enter Tryd.func17, Tryd.ntmps17
  go_wp2_with fail
  refine Hc.out.mono ?_
  rintro e w1 ⟨v, rfl, hv, hu⟩
  have n1 : New w w1 := U.out.trans_new hu
  have hl1 := Blk.new_ Hl.out hu
  have Hl1 := hide hl1
  have Hb1 := hide (Hq.out.new_ hu)
  have zx := Blk.lt hl1
  have x3 := Blk.cell hl1 3
  simp only [List.getElem?_toArray, List.getElem?_cons_zero, List.getElem?_cons_succ] at x3
  have zq := Hb1.out.lt
  have q0 := Hb1.out.cell 0
  have q1 := Hb1.out.cell 1
  simp only [List.getElem?_toArray, List.getElem?_cons_zero, List.getElem?_cons_succ] at q0 q1
  rw [stB2] at x3
  unfold stU at x3
  clear hl1 hu
  have Hr : Hid (hearS ya ⟨p, t, 2⟩ m = (⟨p, 0, 2⟩, [])) := hide (by unfold hearS; rw [if_neg (by simp), if_neg (by simp [h0]), if_neg (by simp [hK]), if_pos (by simp [hK])])
  obtain rfl : v = .nilIface := by
    rcases hv.form with ⟨_, _, h⟩ | ⟨h1, _⟩
    · exact h
    · exact absurd h0 h1
  have Hv := hide hv
  have hk := kind_text (s := m.kind).2.2.1 hK
  clear hv h0 hK
  have x2 := Blk.cell Hl1.out 2
  have f2 := Blk.frozen Hl1.out 2
  simp only [List.getElem?_toArray, List.getElem?_cons_zero, List.getElem?_cons_succ] at x2
  go_wp2_with fail
  go_ret2
  have u2 : Upd (fun j => j = x) w1 (w1.setCell ⟨x, 2, none⟩ (.int .i64 0)) := (Upd.refl (fun j => j = x) w1).setCell (p := ⟨x, 2, none⟩) (.inl rfl) _
  have hb : Blk (w1.setCell ⟨x, 2, none⟩ (.int .i64 0)) x TL #[.int .i64 ya, .int .i64 p, .int .i64 0, .string (stB 2)] := by
    simpa using Blk.set_ Hl1.out 2 (.int .i64 0)
  exact ⟨_, _, rfl, by rw [Hr.out]; exact ⟨(Upd.of_new n1).trans' u2, hb, rfl⟩, Hv.out.updx u2 Hl1.out TFL⟩

set_option maxRecDepth 8000 in
set_option maxHeartbeats 4000000 in
theorem hear_2_4 (x : Nat) (ya p t : Int) (m : MsgR) (E : Nat → Addr) (w : World) (h : HearIn x ya ⟨p, t, 2⟩ m E w) (h0 : (checkC m).1 = 0) (hK : kindN m.kind = 4) :
    Calls Tryd.prog 17 #[.pointer (some ⟨x, 0, none⟩), .agg m.cells] w (HearPost x ya E (hearS ya ⟨p, t, 2⟩ m) (checkC m) w) := by
  have hc := h.check (.cells m.cells TM)
  have u := (Upd.refl (fun _ => False) w).alloc (.cells m.cells TM)
  have Hq := hide (Blk.new w TM m.cells)
  have hl := Blk.new_ h.lv u
  generalize hn : m.drops.length = n at *
  generalize hk : m.adds.length = k at *
  have hcs : m.cells = #[.string m.kind, .int .i64 m.n, .slice m.D n m.dc, .slice m.A k m.ac] := by unfold MsgR.cells; rw [hn, hk]
  rw [hcs] at hc u hl Hq ⊢
  have Hc := hide hc
  have U := hide u
  have Hl := hide hl
  clear hc u hl hn hk hcs h
  go_enter Tryd.func17, Tryd.ntmps17
  go_wp2_with fail
  refine Hc.out.mono ?_
  rintro e w1 ⟨v, rfl, hv, hu⟩
  have n1 : New w w1 := U.out.trans_new hu
  have hl1 := Blk.new_ Hl.out hu
  have Hl1 := hide hl1
  have Hb1 := hide (Hq.out.new_ hu)
  have zx := Blk.lt hl1
  have x3 := Blk.cell hl1 3
  simp only [List.getElem?_toArray, List.getElem?_cons_zero, List.getElem?_cons_succ] at x3
  have zq := Hb1.out.lt
  have q0 := Hb1.out.cell 0
  have q1 := Hb1.out.cell 1
  simp only [List.getElem?_toArray, List.getElem?_cons_zero, List.getElem?_cons_succ] at q0 q1
  rw [stB2] at x3
  unfold stU at x3
  clear hl1 hu
  have Hr : Hid (hearS ya ⟨p, t, 2⟩ m = (⟨0, 0, 0⟩, [])) := hide (by unfold hearS; rw [if_neg (by simp), if_neg (by simp [h0]), if_pos hK])
  obtain rfl : v = .nilIface := by
    rcases hv.form with ⟨_, _, h⟩ | ⟨h1, _⟩
    · exact h
    · exact absurd h0 h1
  have Hv := hide hv
  have hk := kind_text (s := m.kind).2.2.2 hK
  clear hv h0 hK
  have Hi := hide (idle_any x ya 0 ⟨p, t, 2⟩ w1 Hl1.out)
  go_wp2_with fail
  refine Hi.out.mono ?_
  rintro e w2 ⟨v2, rfl, hv2⟩
  have Hv2 := hide hv2
  clear hv2
  go_wp2_with fail
  go_ret2
  exact ⟨_, _, rfl, by rw [Hr.out]; exact ⟨(Upd.of_new n1).trans' Hv2.out.1, Hv2.out.2.1, rfl⟩, Hv.out.updx Hv2.out.1 Hl1.out TFL⟩

end Go.Proofs.YtkljanjapcpbdaaDoor
