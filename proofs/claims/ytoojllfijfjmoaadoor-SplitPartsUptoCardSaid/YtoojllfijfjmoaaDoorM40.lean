/- Spots: '=='. No condition. -/
import Derived.Test.YtoojllfijfjmoaaDoorM33
import Derived.Test.YtoojllfijfjmoaaDoorM12
import Derived.KernelRfl

namespace Go.Proofs.YtoojllfijfjmoaaDoor.W
open Go.RowKit Anv
end Go.Proofs.YtoojllfijfjmoaaDoor.W
