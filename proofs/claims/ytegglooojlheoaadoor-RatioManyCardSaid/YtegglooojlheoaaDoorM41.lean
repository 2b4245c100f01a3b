/- Spots: '=='. No condition. -/
import Derived.Test.YtegglooojlheoaaDoorM33
import Derived.Test.YtegglooojlheoaaDoorM12
import Derived.KernelRfl

namespace Go.Proofs.YtegglooojlheoaaDoor.W
open Go.RowKit Anv
end Go.Proofs.YtegglooojlheoaaDoor.W
