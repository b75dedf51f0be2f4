/- Package live: New; what is too long for a statement. No condition but those that stand in each theorem. -/
import Derived.Test.YtkljanjapcpbdaaDoorLv1
namespace Go.Proofs.YtkljanjapcpbdaaDoor
open Go.RowKit

set_option maxHeartbeats 1000000 in
theorem liveNew_yes (n : Int) (w : World) (h : 1 ≤ n ∧ n ≤ 1000) :
    Calls Tryd.prog 12 #[.int .i64 n] w fun e w1 => e = .returned (.tuple #[.pointer (some ⟨w.heap.size, 0, none⟩), .nilIface]) ∧ New w w1 ∧ LvAt w1 w.heap.size n ⟨0, 0, 0⟩ := by
  obtain ⟨h1, h2⟩ := h
  go_enter Tryd.func12, Tryd.ntmps12
  go_wp2_with fail
  go_ret2
  exact ⟨rfl, (Upd.refl _ _).alloc _, Blk.new _ _ _⟩

set_option maxHeartbeats 1000000 in
theorem liveNew_no (n : Int) (E : Nat → Addr) (w : World) (h2 : Sen w gBound (E 2)) (h : ¬ (1 ≤ n ∧ n ≤ 1000)) :
    Calls Tryd.prog 12 #[.int .i64 n] w fun e w1 => e = .returned (.tuple #[.pointer none, errv (E 2)]) ∧ New w w1 := by
  have z2 : 0 < w.heap.size := h2.lt
  have c2 : w.cell? ⟨0, 0, none⟩ = some (errv (E 2)) := h2
  unfold errv at c2 ⊢
  clear h2
  by_cases h1 : n < 1
  · go_enter Tryd.func12, Tryd.ntmps12
    go_wp2_with fail
    go_quiet (fail)
    go_wp2_with fail
    go_ret2
    exact ⟨rfl, (Upd.refl _ _).drewN _⟩
  · have h3 : 1000 < n := by omega
    clear h
    go_enter Tryd.func12, Tryd.ntmps12
    go_wp2_with fail
    go_quiet (fail)
    go_wp2_with fail
    go_ret2
    exact ⟨rfl, (Upd.refl _ _).drewN _⟩

/-- Is what is told too long for a statement? -/
def longA (a : AttrR) : Bool := decide (20 < a.path.length ∨ 15 < a.tags.length)
def longN (a : AttrR) : Int := if longA a then 1 else 0
set_option maxHeartbeats 1000000 in
theorem longAttr_any (a : AttrR) (w : World) : Calls Tryd.prog 38 #[.agg a.cells] w fun e w1 => e = .returned (.int .i64 (longN a)) ∧ New w w1 := by
  unfold AttrR.cells
  generalize hn : a.path.length = n
  generalize hm : a.tags.length = m
  have Hn := hide hn
  have Hm := hide hm
  clear hn hm
  by_cases h1 : 20 < n
  · have Hl : Hid (longA a = true) := hide (by unfold longA; rw [Hn.out]; simp [h1])
    have i1 : (20 : Int) < (n : Int) := by omega
    go_enter Tryd.func38, Tryd.ntmps38
    go_wp2_with fail
    go_ret
    exact ⟨ret_int (by unfold longN; rw [Hl.out]; rfl), (Upd.refl _ _).alloc _⟩
  · have i1 : ¬ (20 : Int) < (n : Int) := by omega
    by_cases h2 : 15 < m
    · have Hl : Hid (longA a = true) := hide (by unfold longA; rw [Hm.out]; simp [h2])
      have i2 : (15 : Int) < (m : Int) := by omega
      go_enter Tryd.func38, Tryd.ntmps38
      go_wp2_with fail
      go_ret
      exact ⟨ret_int (by unfold longN; rw [Hl.out]; rfl), (Upd.refl _ _).alloc _⟩
    · have Hl : Hid (longA a = false) := hide (by unfold longA; rw [Hn.out, Hm.out]; simp; omega)
      have i2 : ¬ (15 : Int) < (m : Int) := by omega
      go_enter Tryd.func38, Tryd.ntmps38
      go_wp2_with fail
      go_ret
      exact ⟨ret_int (by unfold longN; rw [Hl.out]; rfl), (Upd.refl _ _).alloc _⟩
end Go.Proofs.YtkljanjapcpbdaaDoor
