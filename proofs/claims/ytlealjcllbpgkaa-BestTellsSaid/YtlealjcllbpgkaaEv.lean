/- What an error of the program's is: nil, one of package api's, a fault around one. No condition but those that stand in each theorem. -/
import Derived.Test.YtlealjcllbpgkaaIp1
namespace Go.Proofs.Ytlealjcllbpgkaa
open Go.RowKit

theorem block_lt_of_row {w : World} {b : Nat} {o : Obj} (h : w.heap[b]? = some o) : b < w.heap.size := by
  rcases Nat.lt_or_ge b w.heap.size with hlt | hge
  · exact hlt
  · rw [Array.getElem?_eq_none hge] at h; cases h

end Go.Proofs.Ytlealjcllbpgkaa
