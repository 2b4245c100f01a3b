/- Spots: '=='. No condition. -/
import Derived.Test.YtegglooojlheoaaDoorM32
import Derived.Test.YtegglooojlheoaaDoorM9
import Derived.KernelRfl

namespace Go.Proofs.YtegglooojlheoaaDoor.W
open Go.RowKit Anv
end Go.Proofs.YtegglooojlheoaaDoor.W
