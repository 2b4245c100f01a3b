/- limb.digit: a limb of a quotient. No condition. -/
import Derived.Test.YtegglooojlheoaaDoorM17
import Derived.Test.YtegglooojlheoaaDoorM7
import Derived.Deep.CutBlock
import Derived.WalkMore

namespace Go.Proofs.YtegglooojlheoaaDoor
open Go.RowKit Anv
end Go.Proofs.YtegglooojlheoaaDoor
