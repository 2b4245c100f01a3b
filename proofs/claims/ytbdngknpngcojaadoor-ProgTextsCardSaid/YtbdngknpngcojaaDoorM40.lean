/- Spots: '=='. No condition. -/
import Derived.Test.YtbdngknpngcojaaDoorM33
import Derived.Test.YtbdngknpngcojaaDoorM12
import Derived.KernelRfl

namespace Go.Proofs.YtbdngknpngcojaaDoor.W
open Go.RowKit Anv
end Go.Proofs.YtbdngknpngcojaaDoor.W
