/- The reference's Gcd. No condition. -/
import Derived.Test.YtegglooojlheoaaDoorM39
import Derived.Test.YtegglooojlheoaaDoorM43

namespace Go.Proofs.YtegglooojlheoaaDoor
open Go.RowKit Anv
end Go.Proofs.YtegglooojlheoaaDoor
