/- A slot that is a bool, behind a name. No condition. -/
import Derived.Test.YtkljanjapcpbdaaDoorRg
namespace Go.Proofs.YtkljanjapcpbdaaDoor
open Go.RowKit

/-- A slot is this bool. -/
def IsB (v : Value) (b : Bool) : Prop := v = .bool b
end Go.Proofs.YtkljanjapcpbdaaDoor
