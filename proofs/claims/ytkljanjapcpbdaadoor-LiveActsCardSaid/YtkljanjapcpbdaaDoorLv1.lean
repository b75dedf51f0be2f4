/- Package live: what a session's calls do. No condition but those that stand in each theorem. -/
import Derived.Test.YtkljanjapcpbdaaDoorWi4
namespace Go.Proofs.YtkljanjapcpbdaaDoor
open Go.RowKit

abbrev TL : TypeId := 117
def stI : ByteArray := ⟨#[105, 100, 108, 101]⟩
def stS : ByteArray := ⟨#[115, 101, 110, 116]⟩
def stU : ByteArray := ⟨#[117, 112]⟩
def stB (n : Nat) : ByteArray := if n = 0 then stI else if n = 1 then stS else stU

/-- A session: whom it hears, ticks without a word, its state (0: idle; 1: sent; 2: up). -/
structure LS where
  peer : Int
  ticks : Int
  st : Nat
def LvAt (w : World) (x : Nat) (ya : Int) (s : LS) : Prop := Blk w x TL #[.int .i64 ya, .int .i64 s.peer, .int .i64 s.ticks, .string (stB s.st)]

def msgCells (k : ByteArray) (n : Int) : Array Value := #[.string k, .int .i64 n, .slice none 0 0, .slice none 0 0]
/-- What is sent: nothing, or one message in a block of its own. -/
def OutAt (B : Nat) (w : World) (v : Value) : List (ByteArray × Int) → Prop
  | [] => v = .slice none 0 0
  | (k, n) :: _ => ∃ g, v = .slice (some ⟨g, 0, none⟩) 1 1 ∧ Blk w g TM (msgCells k n) ∧ B ≤ g

/-- The call leaves this session, and sends this. -/
def LvPost (x : Nat) (ya : Int) (r : LS × List (ByteArray × Int)) (w : World) (e : Ending) (w1 : World) : Prop :=
  ∃ v, e = .returned v ∧ Upd (fun k => k = x) w w1 ∧ LvAt w1 x ya r.1 ∧ OutAt w.heap.size w1 v r.2

def idleS (c : Int) : LS × List (ByteArray × Int) := (⟨0, 0, 0⟩, [(sNote, c)])
def startS (ya : Int) (s : LS) : LS × List (ByteArray × Int) := if s.st = 0 then (⟨s.peer, 0, 1⟩, [(sOpen, ya)]) else (s, [])
def stopS (s : LS) : LS × List (ByteArray × Int) := if s.st = 0 then (s, []) else idleS 6
def tickS (s : LS) : LS × List (ByteArray × Int) :=
  if s.st = 0 then (s, []) else if 3 < s.ticks + 1 then idleS 4 else (⟨s.peer, s.ticks + 1, s.st⟩, if s.st = 2 then [(sKeep, 0)] else [])

set_option maxHeartbeats 1000000 in
theorem idle_any (x : Nat) (ya c : Int) (s : LS) (w : World) (h : LvAt w x ya s) : Calls Tryd.prog 71 #[.pointer (some ⟨x, 0, none⟩), .int .i64 c] w (LvPost x ya (idleS c) w) := by
  have H := hide h
  have z := Blk.lt h
  have f1 := Blk.frozen h 1
  have f2 := Blk.frozen h 2
  have f3 := Blk.frozen h 3
  have c1 := Blk.cell h 1
  have c2 := Blk.cell h 2
  have c3 := Blk.cell h 3
  simp only [List.getElem?_toArray, List.getElem?_cons_zero, List.getElem?_cons_succ] at c1 c2 c3
  clear h
  go_enter Tryd.func71, Tryd.ntmps71
  go_wp2
  go_ret
  refine ⟨_, rfl, ?_, ?_, ?_⟩
  · exact ((((Upd.refl (fun k => k = x) w).setCell (p := ⟨x, 3, none⟩) (.inl rfl) _).setCell (p := ⟨x, 1, none⟩) (.inl rfl) _).setCell (p := ⟨x, 2, none⟩) (.inl rfl) _).alloc _
  · have hb : Blk (((w.setCell ⟨x, 3, none⟩ (.string stI)).setCell ⟨x, 1, none⟩ (.int .i64 0)).setCell ⟨x, 2, none⟩ (.int .i64 0)) x TL #[.int .i64 ya, .int .i64 0, .int .i64 0, .string stI] := by
      simpa using ((Blk.set_ H.out 3 (.string stI)).set_ 1 (.int .i64 0)).set_ 2 (.int .i64 0)
    exact Blk.alloc hb _
  · exact ⟨_, rfl, Blk.at_ _ _ _ _ (by simp), by simp⟩

theorem stB0 : stB 0 = stI := rfl
theorem stB1 : stB 1 = stS := rfl
theorem stB2 : stB 2 = stU := rfl

set_option maxHeartbeats 1000000 in
theorem start_any (x : Nat) (ya : Int) (s : LS) (w : World) (h : LvAt w x ya s) (hs : s.st ≤ 2) : Calls Tryd.prog 14 #[.pointer (some ⟨x, 0, none⟩)] w (LvPost x ya (startS ya s) w) := by
  have H := hide h
  obtain ⟨p, t, n⟩ := s
  have z := Blk.lt h
  have f2 := Blk.frozen h 2
  have f3 := Blk.frozen h 3
  have c0 := Blk.cell h 0
  have c2 := Blk.cell h 2
  have c3 := Blk.cell h 3
  simp only [List.getElem?_toArray, List.getElem?_cons_zero, List.getElem?_cons_succ] at c0 c2 c3
  clear h
  match n, hs with
  | 0, _ =>
    rw [stB0] at c3
    unfold stI at c3
    go_enter Tryd.func14, Tryd.ntmps14
    go_wp2
    go_ret
    refine ⟨_, rfl, ?_, ?_, ?_⟩
    · exact (((Upd.refl (fun k => k = x) w).setCell (p := ⟨x, 3, none⟩) (.inl rfl) _).setCell (p := ⟨x, 2, none⟩) (.inl rfl) _).alloc _
    · have hb : Blk ((w.setCell ⟨x, 3, none⟩ (.string stS)).setCell ⟨x, 2, none⟩ (.int .i64 0)) x TL #[.int .i64 ya, .int .i64 p, .int .i64 0, .string stS] := by
        simpa using (Blk.set_ H.out 3 (.string stS)).set_ 2 (.int .i64 0)
      exact Blk.alloc hb _
    · exact ⟨_, rfl, Blk.at_ _ _ _ _ (by simp), by simp⟩
  | 1, _ =>
    rw [stB1] at c3
    unfold stS at c3
    go_enter Tryd.func14, Tryd.ntmps14
    go_wp2
    go_ret
    exact ⟨_, rfl, Upd.refl _ _, H.out, rfl⟩
  | 2, _ =>
    rw [stB2] at c3
    unfold stU at c3
    go_enter Tryd.func14, Tryd.ntmps14
    go_wp2
    go_ret
    exact ⟨_, rfl, Upd.refl _ _, H.out, rfl⟩

set_option maxHeartbeats 1000000 in
theorem stop_any (x : Nat) (ya : Int) (s : LS) (w : World) (h : LvAt w x ya s) (hs : s.st ≤ 2) : Calls Tryd.prog 15 #[.pointer (some ⟨x, 0, none⟩)] w (LvPost x ya (stopS s) w) := by
  have H := hide h
  have Hi := hide (idle_any x ya 6 s w h)
  obtain ⟨p, t, n⟩ := s
  have z := Blk.lt h
  have c3 := Blk.cell h 3
  simp only [List.getElem?_toArray, List.getElem?_cons_zero, List.getElem?_cons_succ] at c3
  clear h
  match n, hs with
  | 0, _ =>
    rw [stB0] at c3
    unfold stI at c3
    go_enter Tryd.func15, Tryd.ntmps15
    go_wp2
    go_ret
    exact ⟨_, rfl, Upd.refl _ _, H.out, rfl⟩
  | 1, _ =>
    rw [stB1] at c3
    unfold stS at c3
    go_enter Tryd.func15, Tryd.ntmps15
    go_wp2_with fail
    refine Hi.out.mono ?_
    rintro e w1 ⟨v, rfl, hu, ho⟩
    have Ho := hide ho
    clear ho
    go_wp2_with fail
    go_ret
    exact ⟨_, rfl, hu, Ho.out⟩
  | 2, _ =>
    rw [stB2] at c3
    unfold stU at c3
    go_enter Tryd.func15, Tryd.ntmps15
    go_wp2_with fail
    refine Hi.out.mono ?_
    rintro e w1 ⟨v, rfl, hu, ho⟩
    have Ho := hide ho
    clear ho
    go_wp2_with fail
    go_ret
    exact ⟨_, rfl, hu, Ho.out⟩

theorem LvPost.trans_ {x : Nat} {ya : Int} {r : LS × List (ByteArray × Int)} {w w1 w2 : World} {v : Value} (hu : Upd (fun k => k = x) w w1) (hv : Upd (fun k => k = x) w1 w2 ∧ LvAt w2 x ya r.1 ∧ OutAt w1.heap.size w2 v r.2) :
    Upd (fun k => k = x) w w2 ∧ LvAt w2 x ya r.1 ∧ OutAt w.heap.size w2 v r.2 := by
  refine ⟨hu.trans' hv.1, hv.2.1, ?_⟩
  have h := hv.2.2
  cases hr : r.2 with
  | nil => rw [hr] at h; exact h
  | cons a l =>
    rw [hr] at h
    obtain ⟨g, h1, h2, h3⟩ := h
    exact ⟨g, h1, h2, Nat.le_trans hu.size h3⟩

set_option maxHeartbeats 2000000 in
theorem tick_any (x : Nat) (ya : Int) (s : LS) (w : World) (h : LvAt w x ya s) (hs : s.st ≤ 2) (ht : 0 ≤ s.ticks ∧ s.ticks ≤ 1000) : Calls Tryd.prog 16 #[.pointer (some ⟨x, 0, none⟩)] w (LvPost x ya (tickS s) w) := by
  have H := hide h
  have hu1 : Upd (fun k => k = x) w (w.setCell ⟨x, 2, none⟩ (.int .i64 (s.ticks + 1))) := (Upd.refl (fun k => k = x) w).setCell (p := ⟨x, 2, none⟩) (.inl rfl) _
  have hb1 : LvAt (w.setCell ⟨x, 2, none⟩ (.int .i64 (s.ticks + 1))) x ya ⟨s.peer, s.ticks + 1, s.st⟩ := by
    have hb := Blk.set_ h 2 (.int .i64 (s.ticks + 1))
    unfold LvAt
    simpa using hb
  have Hi := hide (idle_any x ya 4 _ _ hb1)
  have Hu := hide hu1
  have Hb := hide hb1
  obtain ⟨p, t, n⟩ := s
  have t0 : 0 ≤ t := ht.1
  have t1 : t ≤ 1000 := ht.2
  clear ht
  have z := Blk.lt h
  have c2 := Blk.cell h 2
  have c3 := Blk.cell h 3
  have f2 := Blk.frozen h 2
  simp only [List.getElem?_toArray, List.getElem?_cons_zero, List.getElem?_cons_succ] at c2 c3
  clear h hu1 hb1
  match n, hs with
  | 0, _ =>
    rw [stB0] at c3
    unfold stI at c3
    go_enter Tryd.func16, Tryd.ntmps16
    go_wp2
    go_ret
    exact ⟨_, rfl, Upd.refl _ _, H.out, rfl⟩
  | 1, _ =>
    rw [stB1] at c3
    unfold stS at c3
    by_cases h3 : 3 < t + 1
    · have Hr : Hid (tickS ⟨p, t, 1⟩ = idleS 4) := hide (by unfold tickS; rw [if_neg (by simp), if_pos h3])
      go_enter Tryd.func16, Tryd.ntmps16
      go_wp2_with fail
      refine Hi.out.mono ?_
      rintro e w1 ⟨v, rfl, hv⟩
      have Hv := hide hv
      clear hv
      go_wp2_with fail
      go_ret
      exact ⟨_, rfl, by rw [Hr.out]; exact LvPost.trans_ Hu.out Hv.out⟩
    · have Hr : Hid (tickS ⟨p, t, 1⟩ = (⟨p, t + 1, 1⟩, [])) := hide (by unfold tickS; rw [if_neg (by simp), if_neg h3]; rfl)
      go_enter Tryd.func16, Tryd.ntmps16
      go_wp2_with fail
      go_ret
      exact ⟨_, rfl, by rw [Hr.out]; exact ⟨Hu.out, Hb.out, rfl⟩⟩
  | 2, _ =>
    rw [stB2] at c3
    unfold stU at c3
    by_cases h3 : 3 < t + 1
    · have Hr : Hid (tickS ⟨p, t, 2⟩ = idleS 4) := hide (by unfold tickS; rw [if_neg (by simp), if_pos h3])
      go_enter Tryd.func16, Tryd.ntmps16
      go_wp2_with fail
      refine Hi.out.mono ?_
      rintro e w1 ⟨v, rfl, hv⟩
      have Hv := hide hv
      clear hv
      go_wp2_with fail
      go_ret
      exact ⟨_, rfl, by rw [Hr.out]; exact LvPost.trans_ Hu.out Hv.out⟩
    · have Hr : Hid (tickS ⟨p, t, 2⟩ = (⟨p, t + 1, 2⟩, [(sKeep, 0)])) := hide (by unfold tickS; rw [if_neg (by simp), if_neg h3]; rfl)
      go_enter Tryd.func16, Tryd.ntmps16
      go_wp2_with fail
      go_ret
      exact ⟨_, rfl, by rw [Hr.out]; exact ⟨Hu.out.alloc _, Blk.alloc Hb.out _, _, rfl, Blk.at_ _ _ _ _ (by simp), by simp⟩⟩

theorem state_any (x : Nat) (ya : Int) (s : LS) (w : World) (h : LvAt w x ya s) : Calls Tryd.prog 13 #[.pointer (some ⟨x, 0, none⟩)] w fun e w1 => e = .returned (.string (stB s.st)) ∧ w = w1 := by
  have z := Blk.lt h
  have c3 := Blk.cell h 3
  simp only [List.getElem?_toArray, List.getElem?_cons_zero, List.getElem?_cons_succ] at c3
  clear h
  go_enter Tryd.func13, Tryd.ntmps13
  go_wp2
  go_ret
  exact ⟨rfl, rfl⟩
theorem peer_any (x : Nat) (ya : Int) (s : LS) (w : World) (h : LvAt w x ya s) : Calls Tryd.prog 18 #[.pointer (some ⟨x, 0, none⟩)] w fun e w1 => e = .returned (.int .i64 s.peer) ∧ w = w1 := by
  have z := Blk.lt h
  have c3 := Blk.cell h 1
  simp only [List.getElem?_toArray, List.getElem?_cons_zero, List.getElem?_cons_succ] at c3
  clear h
  go_enter Tryd.func18, Tryd.ntmps18
  go_wp2
  go_ret
  exact ⟨rfl, rfl⟩
end Go.Proofs.YtkljanjapcpbdaaDoor
