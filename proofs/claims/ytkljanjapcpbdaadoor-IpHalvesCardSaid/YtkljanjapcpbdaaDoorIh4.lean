/- The law IpHalves: its walk. No condition but those that stand in the theorem. -/
import Derived.Test.YtkljanjapcpbdaaDoorIh4a
import Derived.Test.YtkljanjapcpbdaaDoorIh4b
import Derived.Test.YtkljanjapcpbdaaDoorIh4c
namespace Go.Proofs.YtkljanjapcpbdaaDoor
open Go.RowKit

theorem ipHalves_any (a n b m x : Int) (E : Nat → Addr) (w : World) (h : TxtOk w) (h1 : Sen w gText1 (E 1)) (h2 : Sen w gBound (E 2)) (h3 : Sen w gShape (E 3)) (h5 : Sen w gNone (E 5)) :
    Calls Tryd.prog 9 #[.agg #[.int .i64 a, .int .i64 n], .agg #[.int .i64 b, .int .i64 m], .int .i64 x] w fun e w1 => e = .returned (.bool true) ∧ New w w1 := by
  by_cases h32 : n < 32
  · by_cases h0 : 0 < n
    · exact ipHalves_b a n b m x ⟨h0, h32⟩ E w h h1 h2 h3 h5
    · exact ipHalves_a a n b m x (by omega) E w h h1 h2 h3 h5
  · exact ipHalves_c a n b m x h32 E w h h1 h2 h3 h5
end Go.Proofs.YtkljanjapcpbdaaDoor
