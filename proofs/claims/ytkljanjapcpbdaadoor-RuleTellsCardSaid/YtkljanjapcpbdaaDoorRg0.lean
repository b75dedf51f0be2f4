/- The law RuleFirst: what its walk wants besides. No condition but those that stand in each theorem. -/
import Derived.Test.YtkljanjapcpbdaaDoorRuE
namespace Go.Proofs.YtkljanjapcpbdaaDoor
open Go.RowKit

theorem grown_own_new {w w1 w2 : World} {e : TypeId} {size n : Nat} {v : Value} {xs : List Value} (h1 : New w w1) (ho : w1.ownsRow w.heap.size e size v n xs) (hg : w1.grownBy w2 v.ownBlock) : New w w2 :=
  h1.trans (grown_upd (S := fun g => v.ownBlock = some g) hg (fun _ h => h)) (fun q hq hx => by have := (World.ownsRow.lt ho q hx).1; omega)
end Go.Proofs.YtkljanjapcpbdaaDoor
