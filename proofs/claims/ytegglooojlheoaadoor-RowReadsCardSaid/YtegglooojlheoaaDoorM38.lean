/- Spots: '=='. No condition. -/
import Derived.Test.YtegglooojlheoaaDoorM31
import Derived.Test.YtegglooojlheoaaDoorM6
import Derived.KernelRfl

namespace Go.Proofs.YtegglooojlheoaaDoor.W
open Go.RowKit Anv
end Go.Proofs.YtegglooojlheoaaDoor.W
