/- A laid numbering of the library at this program: slices.SortFunc of prefixes. No condition. (Written by the kit's plain-laying tool, turned to prefixes.) -/
import Derived.Shelf.Sort.Plain
import Derived.Shelf.SlSortCmp.NoneTotal
import Derived.Test.YtlealjcllbpgkaaProg
namespace Go.Proofs.Ytlealjcllbpgkaa
open Go.Shelf
end Go.Proofs.Ytlealjcllbpgkaa
