/- Acts of blocks that came in as an argument: what their reading gives. No condition but those that stand in each theorem. -/
import Derived.Test.YtimhbgpnkodlaaaGreatDoorLaw
import Derived.Test.YtimhbgpnkodlaaaGreatDoorBpE
namespace Go.Proofs.YtimhbgpnkodlaaaGreatDoor
open Go.ChangeShapes Go.WideShapes Go.RowKit Go.Deep
theorem cellsTk : Tryz.prog.cellsOf 36 = 2 := by kernel_rfl
theorem cellsBool1 : Tryz.prog.cellsOf 4 = 1 := by kernel_rfl
theorem cellsInt1 : Tryz.prog.cellsOf 3 = 1 := by kernel_rfl
set_option maxRecDepth 100000 in
theorem tk_reads (W : World) : Reads W 36 TkC.cells (fun _ => True) := fun H enc sp held fuel cs x h => by
  have hl := struct_len Tryz.underlying36 h
  rw [cellsTk] at hl
  obtain ⟨n0, y0, g0⟩ := field_read Tryz.underlying36 h 0 _ rfl 4 0 1 rfl rfl cellsBool1
  obtain ⟨n1, y1, g1⟩ := field_read Tryz.underlying36 h 1 _ rfl 3 1 1 rfl rfl cellsInt1
  match cs, hl with
  | [c0, c1], _ =>
    obtain ⟨a, e0, _⟩ := DataW.trod_bool Tryz.underlying4 g0
    obtain ⟨n, e1, _⟩ := DataW.trod_int Tryz.underlying3 g1
    obtain rfl : c0 = .bool a := by simpa using e0
    obtain rfl : c1 = .int .i64 n := by simpa using e1
    exact ⟨⟨a, n⟩, rfl, trivial⟩
theorem pf_of_trodK {H : Type} {enc : TypeId × Value → H} {W : World} {sp : Nat → Bool} {held : Bool} {fuel : Nat} {cs : Array Value} {x : DataW H × List MemPlace}
    (h : DataW.trod enc Tryz.prog W 0 sp held fuel 23 cs.toList = some x) : ∃ a n, cs = #[.int .i64 a, .int .i64 n] := by
  obtain ⟨p, e, _⟩ := pf_reads W _ _ _ _ _ _ _ h
  exact ⟨p.a, p.n, Array.toList_inj.1 e⟩
end Go.Proofs.YtimhbgpnkodlaaaGreatDoor
