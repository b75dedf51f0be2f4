/- Own memory for what came in: attributes, prefixes. No condition but those that stand in each theorem. -/
import Derived.Test.YtimhbgpnkodlaaaGreatDoorPfo
import Derived.Test.YtimhbgpnkodlaaaGreatDoorRs1
import Derived.Test.YtimhbgpnkodlaaaGreatDoorAt2
import Derived.Deep.Cut
import Derived.Test.YtimhbgpnkodlaaaGreatDoorWi1
namespace Go.Proofs.YtimhbgpnkodlaaaGreatDoor
open Go.RowKit

/-- Its rows lie in blocks of ints. -/
def AttrTy (w : World) (a : AttrR) : Prop := Typed w a.P 3 ∧ Typed w a.T 3
theorem info_TI : (Tryz.prog.info? 3).map (fun i => (i.zero, i.size, i.bytes)) = some (some (.int .i64 0), 1, 8) := by kernel_rfl
theorem set5 {w : World} {R : Nat} {x0 x1 x2 x3 x4 y0 y1 y2 y3 y4 : Value} {t : TypeId} (hb : Blk w R t #[x0, x1, x2, x3, x4]) :
    Blk (((((w.setCell ⟨R, 0, none⟩ y0).setCell ⟨R, 1, none⟩ y1).setCell ⟨R, 2, none⟩ y2).setCell ⟨R, 3, none⟩ y3).setCell ⟨R, 4, none⟩ y4) R t #[y0, y1, y2, y3, y4] := by
  have := ((((hb.set_ 0 y0).set_ 1 y1).set_ 2 y2).set_ 3 y3).set_ 4 y4
  simpa using this
theorem set5_new {w W : World} {R : Nat} {y0 y1 y2 y3 y4 : Value} (hn : New w W) (hR : w.heap.size ≤ R) :
    New w (((((W.setCell ⟨R, 0, none⟩ y0).setCell ⟨R, 1, none⟩ y1).setCell ⟨R, 2, none⟩ y2).setCell ⟨R, 3, none⟩ y3).setCell ⟨R, 4, none⟩ y4) :=
  ((((hn.setCell (p := ⟨R, 0, none⟩) (.inr hR) y0).setCell (p := ⟨R, 1, none⟩) (.inr hR) y1).setCell (p := ⟨R, 2, none⟩) (.inr hR) y2).setCell (p := ⟨R, 3, none⟩) (.inr hR) y3).setCell (p := ⟨R, 4, none⟩) (.inr hR) y4

theorem set5_upd {y0 y1 y2 y3 y4 : Value} (w2 : World) (M R k : Nat) (y : Value) :
    Upd (fun b => b = M ∨ b = R) w2 ((((((w2.setCell ⟨M, k, none⟩ y).setCell ⟨R, 0, none⟩ y0).setCell ⟨R, 1, none⟩ y1).setCell ⟨R, 2, none⟩ y2).setCell ⟨R, 3, none⟩ y3).setCell ⟨R, 4, none⟩ y4) :=
  ((((((Upd.refl (fun b => b = M ∨ b = R) w2).setCell (p := ⟨M, k, none⟩) (.inl (.inl rfl)) y).setCell (p := ⟨R, 0, none⟩) (.inl (.inr rfl)) y0).setCell (p := ⟨R, 1, none⟩) (.inl (.inr rfl)) y1).setCell (p := ⟨R, 2, none⟩) (.inl (.inr rfl)) y2).setCell (p := ⟨R, 3, none⟩) (.inl (.inr rfl)) y3).setCell (p := ⟨R, 4, none⟩) (.inl (.inr rfl)) y4

end Go.Proofs.YtimhbgpnkodlaaaGreatDoor

namespace Go.Proofs.YtimhbgpnkodlaaaGreatDoor
open Go.RowKit

theorem info_TPf : (Tryz.prog.info? 23).map (fun i => (i.zero, i.size, i.bytes)) = some (some (.agg #[.int .i64 0, .int .i64 0]), 2, 16) := by kernel_rfl
theorem pf_size (ps : List Pf) : ∀ r ∈ ps.map Pf.cells, r.size = 2 := fun r hr => by obtain ⟨p, _, rfl⟩ := List.mem_map.1 hr; rfl
theorem pf_one (ps : List Pf) : ∀ u ∈ flat (ps.map Pf.cells), u.oneCell' = true := fun u hu => by
  obtain ⟨r, hr, hu⟩ := List.mem_flatMap.1 hu
  obtain ⟨p, _, rfl⟩ := List.mem_map.1 hr
  simp [Pf.cells] at hu
  rcases hu with rfl | rfl <;> rfl

end Go.Proofs.YtimhbgpnkodlaaaGreatDoor
