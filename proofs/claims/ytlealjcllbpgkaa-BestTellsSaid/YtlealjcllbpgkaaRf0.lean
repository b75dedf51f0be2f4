/- A fault that a call hands back. No condition but those that stand in each theorem. -/
import Derived.Test.YtlealjcllbpgkaaRf1
namespace Go.Proofs.Ytlealjcllbpgkaa
open Go.RowKit

theorem new_set2 {w w2 : World} {R : Nat} {u v : Value} (hn : New w w2) (hR : w.heap.size ≤ R) : New w ((w2.setCell ⟨R, 0, none⟩ u).setCell ⟨R, 1, none⟩ v) :=
  (hn.setCell (p := ⟨R, 0, none⟩) (.inr hR) u).setCell (p := ⟨R, 1, none⟩) (.inr hR) v
end Go.Proofs.Ytlealjcllbpgkaa
