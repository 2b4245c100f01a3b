/- limb.digit: a limb of a quotient. No condition. -/
import Derived.Test.YtghaenkacjgdnaaDoorM17
import Derived.Test.YtghaenkacjgdnaaDoorM7
import Derived.Deep.CutBlock
import Derived.WalkMore

namespace Go.Proofs.YtghaenkacjgdnaaDoor
open Go.RowKit Anv
end Go.Proofs.YtghaenkacjgdnaaDoor
