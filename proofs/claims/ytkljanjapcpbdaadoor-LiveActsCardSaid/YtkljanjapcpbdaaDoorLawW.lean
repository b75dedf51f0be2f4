/- Events of a session that came in as an argument: what their reading gives. No condition but those that stand in each theorem. -/
import Derived.Test.YtkljanjapcpbdaaDoorLawV
import Derived.Test.YtkljanjapcpbdaaDoorLv6
namespace Go.Proofs.YtkljanjapcpbdaaDoor
open Go.ChangeShapes Go.WideShapes Go.RowKit Go.Deep

theorem cellsEvent : Tryd.prog.cellsOf 37 = 5 := by kernel_rfl
set_option maxRecDepth 100000 in
theorem event_reads (W : World) : Reads W 37 EvR.cells (fun e => MsgOk W e.m) := fun H enc sp held fuel cs x h => by
  have hl := struct_len Tryd.underlying37 h
  rw [cellsEvent] at hl
  obtain ⟨n0, y0, g0⟩ := field_read Tryd.underlying37 h 0 _ rfl 9 0 1 rfl rfl cellsStr1
  obtain ⟨n1, y1, g1⟩ := field_read Tryd.underlying37 h 1 _ rfl 35 1 4 rfl rfl cellsMsg
  match cs, hl with
  | [c0, c1, c2, c3, c4], _ =>
    obtain ⟨s, e0, _⟩ := DataW.trod_string Tryd.underlying9 g0
    obtain ⟨m, e1, hm⟩ := msg_reads W _ _ _ _ _ _ _ g1
    obtain rfl : c0 = .string s := by simpa using e0
    obtain ⟨rfl, rfl, rfl, rfl⟩ : c1 = .string m.kind ∧ c2 = .int .i64 m.n ∧ c3 = .slice m.D m.drops.length m.dc ∧ c4 = .slice m.A m.adds.length m.ac := by simpa [MsgR.cells] using e1
    exact ⟨⟨s, m⟩, rfl, hm⟩

theorem evs_of_trod {H : Type} {enc : TypeId × Value → H} {W : World} {sp : Nat → Bool} {held : Bool} {fuel : Nat} {A : Option Addr} {len cap : Nat} {x : DataW H × List MemPlace}
    (h : DataW.trod enc Tryd.prog W 0 sp held fuel 22 [.slice A len cap] = some x) : ∃ es, Evs W A es ∧ es.length = len := by
  obtain ⟨A1, cap1, es, e, _, hr, ho⟩ := rows_read (event_reads W) Tryd.underlying22 cellsEvent (by omega) h
  injection e with e
  injection e with e1 e2 e3
  subst e1
  exact ⟨es, ⟨hr, ho⟩, e2.symm⟩
end Go.Proofs.YtkljanjapcpbdaaDoor
