/- limb.digit: a limb of a quotient. No condition. -/
import Derived.Test.YtegglooojlheoaaDoorM19
import Derived.Test.YtegglooojlheoaaDoorM3
import Derived.Deep.CutBlock
import Derived.WalkMore

namespace Go.Proofs.YtegglooojlheoaaDoor
open Go.RowKit Anv
end Go.Proofs.YtegglooojlheoaaDoor
