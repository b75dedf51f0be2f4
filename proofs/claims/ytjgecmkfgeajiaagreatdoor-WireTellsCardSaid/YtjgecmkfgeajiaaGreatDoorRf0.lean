/- A fault that a call hands back. No condition but those that stand in each theorem. -/
import Derived.Test.YtjgecmkfgeajiaaGreatDoorRf1
namespace Go.Proofs.YtjgecmkfgeajiaaGreatDoor
open Go.RowKit

theorem TRF_info : (Tryz.prog.info? TRF).map (·.size) = some 2 := by kernel_rfl
/-- A fault that a call hands back, out of its own block. -/
theorem fault_out {fn : Func} {p : Tmp} {tmps : Array Value} {w : World} {R : Nat} {x y : Value} (h : fn.results = #[.cell p TRF]) (hp : tmps.getD p undef = .pointer (some ⟨R, 0, none⟩)) (hb : Blk w R TRF #[x, y]) :
    (results fn tmps).run Tryz.prog w = .ok (.agg #[x, y]) w := by
  exact results_cell_row h tmps w R TRF #[x, y] (0, 0) _ hp hb Tryz.underlying50 rfl (by rw [TRF_info]; rfl)
theorem fault_set {w : World} {R : Nat} {x y u v : Value} (hb : Blk w R TRF #[x, y]) : Blk ((w.setCell ⟨R, 0, none⟩ u).setCell ⟨R, 1, none⟩ v) R TRF #[u, v] := by
  have := (hb.set_ 0 u).set_ 1 v
  simpa using this
theorem new_set2 {w w2 : World} {R : Nat} {u v : Value} (hn : New w w2) (hR : w.heap.size ≤ R) : New w ((w2.setCell ⟨R, 0, none⟩ u).setCell ⟨R, 1, none⟩ v) :=
  (hn.setCell (p := ⟨R, 0, none⟩) (.inr hR) u).setCell (p := ⟨R, 1, none⟩) (.inr hR) v
end Go.Proofs.YtjgecmkfgeajiaaGreatDoor
