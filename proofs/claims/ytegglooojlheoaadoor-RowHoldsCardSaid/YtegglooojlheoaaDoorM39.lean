/- The reference's divide, bit by bit. No condition. -/
import Derived.Test.YtegglooojlheoaaDoorM38
import Derived.Deep.CutRange

namespace Go.Proofs.YtegglooojlheoaaDoor
open Go.RowKit Anv
end Go.Proofs.YtegglooojlheoaaDoor
