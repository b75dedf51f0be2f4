/- Prefixes as results: how they lie. No condition but those that stand in each theorem. -/
import Derived.Test.YtjgecmkfgeajiaaGreatDoorRg
import Derived.Test.YtjgecmkfgeajiaaGreatDoorProg
namespace Go.Proofs.YtjgecmkfgeajiaaGreatDoor
open Go.RowKit

abbrev TPf : TypeId := 43
theorem TPf_info : (Tryz.prog.info? TPf).map (·.size) = some 2 := by kernel_rfl
theorem pf_err_out {fn : Func} {p t : Tmp} {tmps : Array Value} {w : World} {R : Nat} {x y : Value} (h : fn.results = #[.cell p TPf, .tmp t]) (hp : tmps.getD p undef = .pointer (some ⟨R, 0, none⟩)) (hb : Blk w R TPf #[x, y]) :
    (results fn tmps).run Tryz.prog w = .ok (.tuple #[.agg #[x, y], tmps.getD t undef]) w := by
  have hp' : tmps[p]?.getD undef = .pointer (some ⟨R, 0, none⟩) := by simpa using hp
  simp [results, h, hp', asAddr, run_loadVar_row w R TPf TPf #[x, y] (0, 0) _ hb Tryz.underlying43 rfl (by rw [TPf_info]; rfl)]
theorem pf_set {w : World} {R : Nat} {x y u v : Value} {t : TypeId} (hb : Blk w R t #[x, y]) : Blk ((w.setCell ⟨R, 0, none⟩ u).setCell ⟨R, 1, none⟩ v) R t #[u, v] := by
  have := (hb.set_ 0 u).set_ 1 v
  simpa using this
theorem pf_new {w w2 : World} {R : Nat} {u v : Value} (hn : New w w2) (hR : w.heap.size ≤ R) : New w ((w2.setCell ⟨R, 0, none⟩ u).setCell ⟨R, 1, none⟩ v) :=
  (hn.setCell (p := ⟨R, 0, none⟩) (.inr hR) u).setCell (p := ⟨R, 1, none⟩) (.inr hR) v
end Go.Proofs.YtjgecmkfgeajiaaGreatDoor
