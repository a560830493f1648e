/- Walks: laws.FnRowTextMore. -/
import Derived.Test.YthampfkicnakgaaGreatDoorT13List
import Derived.Test.YthampfkicnakgaaGreatDoorB4Row
import Derived.Test.YthampfkicnakgaaGreatDoorA9Deep
namespace Go.Proofs.YthampfkicnakgaaGreatDoor
open Go.RowKit
end Go.Proofs.YthampfkicnakgaaGreatDoor
