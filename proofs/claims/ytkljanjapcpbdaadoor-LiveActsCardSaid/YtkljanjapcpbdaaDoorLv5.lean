/- The statement's own words on sessions: lived. No condition but those that stand in each theorem. -/
import Derived.Test.YtkljanjapcpbdaaDoorLv3
import Derived.Test.YtkljanjapcpbdaaDoorLv4
namespace Go.Proofs.YtkljanjapcpbdaaDoor
open Go.RowKit

/-- The errors that a message's check may give. -/
structure WSen (w : World) (E : Nat → Addr) : Prop where
  h2 : Sen w gBound (E 2)
  h3 : Sen w gShape (E 3)
  h4 : Sen w gKind (E 4)
  h6 : Sen w gExist_ (E 6)
  h7 : Sen w gFull_ (E 7)
  h8 : Sen w gOrder (E 8)
theorem WSen.new {w w1 : World} {E : Nat → Addr} (h : WSen w E) (hu : New w w1) : WSen w1 E := ⟨h.h2.new hu, h.h3.new hu, h.h4.new hu, h.h6.new hu, h.h7.new hu, h.h8.new hu⟩
theorem new_x {w w1 w2 : World} {x : Nat} (h : New w w1) (hu : Upd (fun k => k = x) w1 w2) (hx : w.heap.size ≤ x) : New w w2 := h.trans hu fun k hk e => by omega

/-- A message of one's own without routes. -/
def plainMsg (k : ByteArray) (n : Int) : MsgR := ⟨k, n, none, 0, [], none, 0, []⟩
theorem plainMsg_ok (k : ByteArray) (n : Int) (w : World) : MsgOk w (plainMsg k n) :=
  ⟨fun h => absurd h (by simp [plainMsg]), ⟨fun h => absurd h (by simp [plainMsg]), fun i r h => by simp [plainMsg] at h⟩, Nat.le_refl _, Nat.le_refl _⟩
theorem plainMsg_short (k : ByteArray) (n : Int) : Short (plainMsg k n) := fun i r h => by simp [plainMsg] at h
theorem plainMsg_cells (k : ByteArray) (n : Int) : (plainMsg k n).cells = msgCells k n := rfl
theorem kOpen : kindN sOpen = 1 := by kernel_rfl
theorem kKeep : kindN sKeep = 2 := by kernel_rfl
theorem kNote : kindN sNote = 4 := by kernel_rfl
theorem check_open {n : Int} (h : 1 ≤ n ∧ n ≤ 1000) : checkC (plainMsg sOpen n) = (0, -1) := by
  unfold checkC
  rw [show kindN (plainMsg sOpen n).kind = 1 from kOpen, show (plainMsg sOpen n).n = n from rfl, if_neg (by omega), if_neg (by omega), if_neg (by omega), if_neg (by simp [plainMsg]), if_neg (by omega)]
theorem check_keep : checkC (plainMsg sKeep 0) = (0, -1) := by
  unfold checkC
  rw [show kindN (plainMsg sKeep 0).kind = 2 from kKeep, show (plainMsg sKeep 0).n = 0 from rfl, if_neg (by omega), if_neg (by omega), if_neg (by omega), if_neg (by simp [plainMsg]), if_neg (by omega)]
theorem check_note {n : Int} (h : 0 ≤ n ∧ n ≤ 1000) : checkC (plainMsg sNote n) = (0, -1) := by
  unfold checkC
  rw [show kindN (plainMsg sNote n).kind = 4 from kNote, show (plainMsg sNote n).n = n from rfl, if_neg (by omega), if_neg (by omega), if_neg (by omega), if_neg (by simp [plainMsg]), if_neg (by omega)]
theorem hearIn_plain {x : Nat} {ya n : Int} {s : LS} {k : ByteArray} {E : Nat → Addr} {w : World} (hl : LvAt w x ya s) (h : WSen w E) : HearIn x ya s (plainMsg k n) E w :=
  ⟨hl, h.h2, h.h3, h.h4, h.h6, h.h7, h.h8, plainMsg_ok _ _ _, plainMsg_short _ _, by simp [plainMsg], by simp [plainMsg]⟩

set_option maxRecDepth 8000 in
set_option maxHeartbeats 4000000 in
theorem lived_any (E : Nat → Addr) (w : World) (h : WSen w E) : Calls Tryd.prog 10 #[] w fun e w1 => e = .returned (.bool true) ∧ New w w1 := by
  have Hn := hide (liveNew_yes 5 w (by omega))
  have H := hide h
  clear h
  go_enter Tryd.func10, Tryd.ntmps10
  go_wp2_with fail
  refine Hn.out.mono ?_
  rintro e w1 ⟨rfl, hu1, hl1⟩
  have Hs := hide (start_any w.heap.size 5 ⟨0, 0, 0⟩ w1 hl1 (by decide))
  have Hu1 := hide hu1
  have Zx1 := hide (Blk.lt hl1)
  clear hl1 hu1
  go_wp2_with fail
  refine Hs.out.mono ?_
  rintro e w2 ⟨v, rfl, hu2, hl2, ho2⟩
  obtain ⟨g, rfl, hb2, hg2⟩ : ∃ g, v = .slice (some ⟨g, 0, none⟩) 1 1 ∧ Blk w2 g TM (msgCells sOpen 5) ∧ w1.heap.size ≤ g := ho2
  have n2 : New w w2 := new_x Hu1.out hu2 (Nat.le_refl _)
  have hh := hear_any w.heap.size 5 ⟨0, 0, 1⟩ (plainMsg sOpen 7) E w2 (hearIn_plain hl2 (H.out.new n2)) (by decide)
  rw [check_open (by omega), show hearS 5 ⟨0, 0, 1⟩ (plainMsg sOpen 7) = (⟨7, 0, 2⟩, [(sKeep, 0)]) from by
    unfold hearS
    rw [check_open (by omega), show kindN (plainMsg sOpen 7).kind = 1 from kOpen]
    simp [plainMsg]] at hh
  rw [plainMsg_cells] at hh
  unfold msgCells sOpen at hh
  have Hh := hide hh
  have Hb2 := hide hb2
  have hgx : g ≠ w.heap.size := by have := Zx1.out; omega
  clear hh hb2 hl2
  go_wp2_with fail
  refine Hh.out.mono ?_
  rintro e w3 ⟨v3, u3, rfl, ⟨hu3, hl3, ho3⟩, he3⟩
  obtain ⟨g3, rfl, hb3, hg3⟩ : ∃ g, v3 = .slice (some ⟨g, 0, none⟩) 1 1 ∧ Blk w3 g TM (msgCells sKeep 0) ∧ w2.heap.size ≤ g := ho3
  obtain rfl : u3 = .nilIface := by
    rcases he3.form with ⟨_, _, h⟩ | ⟨h1, _⟩
    · exact h
    · exact absurd rfl h1
  have hb23 := Hb2.out.upd hu3 hgx
  have d1 := hb23.cell 1
  have d2 := hb3.cell 0
  have zg := hb23.lt
  have zg3 := hb3.lt
  unfold msgCells at d1 d2
  simp only [List.getElem?_toArray, List.getElem?_cons_zero, List.getElem?_cons_succ] at d1 d2
  unfold sKeep at d2
  have hst := state_any w.heap.size 5 _ w3 hl3
  rw [show stB (((⟨7, 0, 2⟩, [(sKeep, 0)]) : LS × List (ByteArray × Int)).1.st) = ⟨#[117, 112]⟩ from rfl] at hst
  have Hst := hide hst
  clear hst
  have Hpe := hide (peer_any w.heap.size 5 _ w3 hl3)
  have n3 := new_x n2 hu3 (Nat.le_refl _)
  clear hb23 hb3 hl3 he3 hu3 hu2
  go_wp2_with (first
    | (go_at_call 13; refine Hst.out.mono ?_; rintro e w' ⟨rfl, rfl⟩)
    | (go_at_call 18; refine Hpe.out.mono ?_; rintro e w' ⟨rfl, rfl⟩))
  go_ret
  exact ⟨rfl, n3⟩
end Go.Proofs.YtkljanjapcpbdaaDoor
