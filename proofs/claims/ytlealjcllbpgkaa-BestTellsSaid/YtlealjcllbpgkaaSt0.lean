/- Laid numberings of the library at this program: bits.Len, bits.TrailingZeros64, slices.Sort of ints, slices.SortFunc of spans. No condition. (Written by the kit's plain-laying tool for this program.) -/
import Derived.Shelf.Small.Bits
import Derived.Shelf.Sort.Plain
import Derived.Shelf.Spec.TrailingZeros
import Derived.Shelf.SlSortCmp.NoneTotal
import Derived.Test.YtlealjcllbpgkaaProg
namespace Go.Proofs.Ytlealjcllbpgkaa
open Go.Shelf
end Go.Proofs.Ytlealjcllbpgkaa
