/- limb.digit: a limb of a quotient. No condition. -/
import Derived.Test.YtghaenkacjgdnaaDoorM19
import Derived.Test.YtghaenkacjgdnaaDoorM3
import Derived.Deep.CutBlock
import Derived.WalkMore

namespace Go.Proofs.YtghaenkacjgdnaaDoor
open Go.RowKit Anv
end Go.Proofs.YtghaenkacjgdnaaDoor
