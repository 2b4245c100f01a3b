/- The reference's Gcd. No condition. -/
import Derived.Test.YtegglooojlheoaaDoorM38
import Derived.Test.YtegglooojlheoaaDoorM42

namespace Go.Proofs.YtegglooojlheoaaDoor
open Go.RowKit Anv
end Go.Proofs.YtegglooojlheoaaDoor
