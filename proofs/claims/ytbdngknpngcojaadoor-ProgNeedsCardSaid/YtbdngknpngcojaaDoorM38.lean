/- The reference's divide, bit by bit. No condition. -/
import Derived.Test.YtbdngknpngcojaaDoorM37
import Derived.Deep.CutRange

namespace Go.Proofs.YtbdngknpngcojaaDoor
open Go.RowKit Anv
end Go.Proofs.YtbdngknpngcojaaDoor
