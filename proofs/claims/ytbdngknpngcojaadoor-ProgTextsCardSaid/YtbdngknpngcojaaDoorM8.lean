/- How a statement's arguments, rows of limbs, are read. No condition. -/
import Derived.Test.YtbdngknpngcojaaDoorM7
import Derived.Lay

namespace Go.Proofs.YtbdngknpngcojaaDoor
open Go.RowKit Anv Go.ChangeShapes Go.WideShapes Go.ChangeAt Go.Joins
end Go.Proofs.YtbdngknpngcojaaDoor
