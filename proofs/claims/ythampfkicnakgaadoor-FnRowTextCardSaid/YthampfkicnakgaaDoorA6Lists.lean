/- Words for memory: slices of rows of integers. Conditions: none. -/
import Derived.Test.YthampfkicnakgaaDoorA3Mem
import Derived.Test.YthampfkicnakgaaDoorA4Vals
namespace Go.Proofs.YthampfkicnakgaaDoor
open Go.RowKit

end Go.Proofs.YthampfkicnakgaaDoor
