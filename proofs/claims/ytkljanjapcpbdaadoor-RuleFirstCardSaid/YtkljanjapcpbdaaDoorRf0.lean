/- The law RuleFirst: its answer is true, whatever comes. No condition but those that stand in each theorem. -/
import Derived.Test.YtkljanjapcpbdaaDoorRg1
import Derived.Test.YtkljanjapcpbdaaDoorRgE
import Derived.Test.YtkljanjapcpbdaaDoorRgM
import Derived.Test.YtkljanjapcpbdaaDoorRgN
namespace Go.Proofs.YtkljanjapcpbdaaDoor
open Go.RowKit

theorem ruleFirst_any (A : Option Addr) (n c : Nat) (l : List RuR) (s x m : Int) (a : AttrR) (at1 : Int) (E : Nat → Addr) (w : World) (h2 : Sen w gBound (E 2)) (h3 : Sen w gShape (E 3)) (h7 : Sen w gFull_ (E 7)) (h8 : Sen w gOrder (E 8))
    (hx : Rules w A l) (hn : l.length = n) (hnc : n ≤ c) (ha : AttrOk w a) :
    Calls Tryd.prog 5 #[.slice A n c, .int .i64 s, .agg #[.int .i64 x, .int .i64 m], .agg a.cells, .int .i64 at1] w fun e w1 => e = .returned (.bool true) ∧ New w w1 := by
  by_cases h : 9 < n ∨ 20 < a.path.length ∨ 15 < a.tags.length ∨ at1 < 0 ∨ (n : Int) ≤ at1
  · exact rf_early A n c l s x m a a.con E w h2 h3 h7 h8 hx hn hnc ha rfl at1 h
  · obtain ⟨k, rfl⟩ : ∃ k : Nat, at1 = k := ⟨at1.toNat, by omega⟩
    by_cases hF : (apF l s x m a.con).1 = 0
    · cases hB : apB l s x m a.con with
      | false => exact rf_M A n c l s x m a a.con E w h2 h3 h7 h8 hx hn hnc ha rfl (by omega) (by omega) (by omega) k (by omega) hF hB
      | true => exact rf_N A n c l s x m a a.con E w h2 h3 h7 h8 hx hn hnc ha rfl (by omega) (by omega) (by omega) k (by omega) hF hB
    · exact rf_E A n c l s x m a a.con E w h2 h3 h7 h8 hx hn hnc ha rfl (by omega) (by omega) (by omega) k (by omega) hF
end Go.Proofs.YtkljanjapcpbdaaDoor
