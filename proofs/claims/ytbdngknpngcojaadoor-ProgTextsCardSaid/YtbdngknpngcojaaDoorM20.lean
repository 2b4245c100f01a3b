/- limb.digit: a limb of a quotient. No condition. -/
import Derived.Test.YtbdngknpngcojaaDoorM19
import Derived.Test.YtbdngknpngcojaaDoorM3
import Derived.Deep.CutBlock
import Derived.WalkMore

namespace Go.Proofs.YtbdngknpngcojaaDoor
open Go.RowKit Anv
end Go.Proofs.YtbdngknpngcojaaDoor
