/- Package ip: Text. No condition but those that stand in each theorem. -/
import Derived.Test.YtignngpligicjaaDoorTx3
import Derived.Test.YtignngpligicjaaDoorRg
import Derived.Test.YtignngpligicjaaDoorPfo
namespace Go.Proofs.YtignngpligicjaaDoor
open Go.RowKit

/-- A prefix in words; what is none is empty. -/
def prefT (a n : Int) : List UInt8 := if chk a n = 0 then addrT a ++ 47 :: Lib.itoa n else []
theorem addrT_len (a : Int) : (addrT a).length ≤ 16 := by
  unfold addrT
  split
  · have := textK_len a.toNat 4
    rw [List.length_drop]; omega
  · simp
end Go.Proofs.YtignngpligicjaaDoor
