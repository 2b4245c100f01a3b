/- The reference's Gcd. No condition. -/
import Derived.Test.YtegglooojlheoaaDoorM36
import Derived.Test.YtegglooojlheoaaDoorM40

namespace Go.Proofs.YtegglooojlheoaaDoor
open Go.RowKit Anv
end Go.Proofs.YtegglooojlheoaaDoor
