/- Rules, a prefix, what is told, that came in as arguments. No condition but those that stand in each theorem. -/
import Derived.Test.YtkljanjapcpbdaaDoorRu4
import Derived.Test.YtkljanjapcpbdaaDoorLawV
namespace Go.Proofs.YtkljanjapcpbdaaDoor
open Go.ChangeShapes Go.WideShapes Go.RowKit Go.Deep

theorem cellsRu : Tryd.prog.cellsOf 87 = 11 := by kernel_rfl
theorem cellsBool : Tryd.prog.cellsOf 4 = 1 := by kernel_rfl
set_option maxRecDepth 100000 in
theorem ru_reads (W : World) : Reads W 87 RuR.cells (fun _ => True) := fun H enc sp held fuel cs x h => by
  have hl := struct_len Tryd.underlying87 h
  rw [cellsRu] at hl
  obtain ⟨n0, y0, g0⟩ := field_read Tryd.underlying87 h 0 _ rfl 51 0 2 rfl rfl cellsPf
  obtain ⟨n1, y1, g1⟩ := field_read Tryd.underlying87 h 1 _ rfl 3 2 1 rfl rfl cellsInt
  obtain ⟨n2, y2, g2⟩ := field_read Tryd.underlying87 h 2 _ rfl 3 3 1 rfl rfl cellsInt
  obtain ⟨n3, y3, g3⟩ := field_read Tryd.underlying87 h 3 _ rfl 3 4 1 rfl rfl cellsInt
  obtain ⟨n4, y4, g4⟩ := field_read Tryd.underlying87 h 4 _ rfl 3 5 1 rfl rfl cellsInt
  obtain ⟨n5, y5, g5⟩ := field_read Tryd.underlying87 h 5 _ rfl 4 6 1 rfl rfl cellsBool
  obtain ⟨n6, y6, g6⟩ := field_read Tryd.underlying87 h 6 _ rfl 3 7 1 rfl rfl cellsInt
  obtain ⟨n7, y7, g7⟩ := field_read Tryd.underlying87 h 7 _ rfl 3 8 1 rfl rfl cellsInt
  obtain ⟨n8, y8, g8⟩ := field_read Tryd.underlying87 h 8 _ rfl 3 9 1 rfl rfl cellsInt
  obtain ⟨n9, y9, g9⟩ := field_read Tryd.underlying87 h 9 _ rfl 3 10 1 rfl rfl cellsInt
  match cs, hl with
  | [c0, c1, c2, c3, c4, c5, c6, c7, c8, c9, c10], _ =>
    obtain ⟨p, e0, _⟩ := pf_reads W _ _ _ _ _ _ _ g0
    obtain ⟨a1, e1, _⟩ := DataW.trod_int Tryd.underlying3 g1
    obtain ⟨a2, e2, _⟩ := DataW.trod_int Tryd.underlying3 g2
    obtain ⟨a3, e3, _⟩ := DataW.trod_int Tryd.underlying3 g3
    obtain ⟨a4, e4, _⟩ := DataW.trod_int Tryd.underlying3 g4
    obtain ⟨b5, e5, _⟩ := DataW.trod_bool Tryd.underlying4 g5
    obtain ⟨a6, e6, _⟩ := DataW.trod_int Tryd.underlying3 g6
    obtain ⟨a7, e7, _⟩ := DataW.trod_int Tryd.underlying3 g7
    obtain ⟨a8, e8, _⟩ := DataW.trod_int Tryd.underlying3 g8
    obtain ⟨a9, e9, _⟩ := DataW.trod_int Tryd.underlying3 g9
    obtain ⟨rfl, rfl⟩ : c0 = .int .i64 p.a ∧ c1 = .int .i64 p.n := by simpa [Pf.cells] using e0
    obtain rfl : c2 = .int .i64 a1 := by simpa using e1
    obtain rfl : c3 = .int .i64 a2 := by simpa using e2
    obtain rfl : c4 = .int .i64 a3 := by simpa using e3
    obtain rfl : c5 = .int .i64 a4 := by simpa using e4
    obtain rfl : c6 = .bool b5 := by simpa using e5
    obtain rfl : c7 = .int .i64 a6 := by simpa using e6
    obtain rfl : c8 = .int .i64 a7 := by simpa using e7
    obtain rfl : c9 = .int .i64 a8 := by simpa using e8
    obtain rfl : c10 = .int .i64 a9 := by simpa using e9
    exact ⟨⟨p.a, p.n, a1, a2, a3, a4, b5, a6, a7, a8, a9⟩, rfl, trivial⟩
theorem rules_of_trod {H : Type} {enc : TypeId × Value → H} {W : World} {sp : Nat → Bool} {held : Bool} {fuel : Nat} {A : Option Addr} {len cap : Nat} {x : DataW H × List MemPlace}
    (h : DataW.trod enc Tryd.prog W 0 sp held fuel 77 [.slice A len cap] = some x) : ∃ l, Rules W A l ∧ l.length = len ∧ len ≤ cap := by
  obtain ⟨A1, cap1, l, e, hc, hr, _⟩ := rows_read (ru_reads W) Tryd.underlying77 cellsRu (by omega) h
  injection e with e
  injection e with e1 e2 e3
  subst e1; subst e3
  exact ⟨l, hr, e2.symm, by omega⟩
theorem pfx_of_trod {H : Type} {enc : TypeId × Value → H} {W : World} {sp : Nat → Bool} {held : Bool} {fuel : Nat} {cs : Array Value} {x : DataW H × List MemPlace}
    (h : DataW.trod enc Tryd.prog W 0 sp held fuel 51 cs.toList = some x) : ∃ a n, cs = #[.int .i64 a, .int .i64 n] := by
  obtain ⟨p, e, _⟩ := pf_reads W _ _ _ _ _ _ _ h
  exact ⟨p.a, p.n, Array.toList_inj.1 e⟩
theorem attr_of_trod {H : Type} {enc : TypeId × Value → H} {W : World} {sp : Nat → Bool} {held : Bool} {fuel : Nat} {cs : Array Value} {x : DataW H × List MemPlace}
    (h : DataW.trod enc Tryd.prog W 0 sp held fuel 80 cs.toList = some x) : ∃ a : AttrR, cs = a.cells ∧ AttrOk W a := by
  obtain ⟨a, e, ha⟩ := attr_reads W _ _ _ _ _ _ _ h
  exact ⟨a, Array.toList_inj.1 e, ha⟩
end Go.Proofs.YtkljanjapcpbdaaDoor
