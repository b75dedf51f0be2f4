/- The one above a prefix. No condition but those that stand in each theorem. -/
import Derived.Test.YtignngpligicjaaGreatDoorPfo
import Derived.Test.YtignngpligicjaaGreatDoorIp4
namespace Go.Proofs.YtignngpligicjaaGreatDoor
open Go.RowKit

end Go.Proofs.YtignngpligicjaaGreatDoor
