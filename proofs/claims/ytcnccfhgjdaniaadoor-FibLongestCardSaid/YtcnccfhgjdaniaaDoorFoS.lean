/- Entries of a list that came in: two at once. No condition but those that stand in each theorem. -/
import Derived.Test.YtcnccfhgjdaniaaDoorFoA
import Derived.Test.YtcnccfhgjdaniaaDoorEq
import Derived.Test.YtcnccfhgjdaniaaDoorIp3
import Derived.Deep.RegionHeld3
namespace Go.Proofs.YtcnccfhgjdaniaaDoor
open Go.RowKit

theorem six {w : World} {b o k m : Nat} {xs : List E3} {x y : E3} (h : Ents w b o xs) (hx : xs[k]? = some x) (hy : xs[m]? = some y) :
    w.cell? ⟨b, o + k * 3, none⟩ = some (.int .i64 x.a) ∧ w.cell? ⟨b, o + k * 3 + 1, none⟩ = some (.int .i64 x.n) ∧ w.cell? ⟨b, o + k * 3 + 2, none⟩ = some (.int .i64 x.h)
      ∧ w.cell? ⟨b, o + m * 3, none⟩ = some (.int .i64 y.a) ∧ w.cell? ⟨b, o + m * 3 + 1, none⟩ = some (.int .i64 y.n) ∧ w.cell? ⟨b, o + m * 3 + 2, none⟩ = some (.int .i64 y.h) :=
  have h1 := h k x hx
  have h2 := h m y hy
  ⟨h1.1, h1.2.1, h1.2.2, h2.1, h2.2.1, h2.2.2⟩
theorem Ents.drew {w : World} {b o : Nat} {xs : List E3} (h : Ents w b o xs) : Ents w.drew b o xs := h
end Go.Proofs.YtcnccfhgjdaniaaDoor
