/- The reference's Gcd. No condition. -/
import Derived.Test.YtegglooojlheoaaDoorM35
import Derived.Test.YtegglooojlheoaaDoorM39

namespace Go.Proofs.YtegglooojlheoaaDoor
open Go.RowKit Anv
end Go.Proofs.YtegglooojlheoaaDoor
