/- limb.digit: a limb of a quotient. No condition. -/
import Derived.Test.YtoojllfijfjmoaaDoorM19
import Derived.Test.YtoojllfijfjmoaaDoorM3
import Derived.Deep.CutBlock
import Derived.WalkMore

namespace Go.Proofs.YtoojllfijfjmoaaDoor
open Go.RowKit Anv
end Go.Proofs.YtoojllfijfjmoaaDoor
