/- Spots: '=='. No condition. -/
import Derived.Test.YtoojllfijfjmoaaDoorM31
import Derived.Test.YtoojllfijfjmoaaDoorM6
import Derived.KernelRfl

namespace Go.Proofs.YtoojllfijfjmoaaDoor.W
open Go.RowKit Anv
end Go.Proofs.YtoojllfijfjmoaaDoor.W
