/- The reference's Gcd. No condition. -/
import Derived.Test.YtghaenkacjgdnaaDoorM38
import Derived.Test.YtghaenkacjgdnaaDoorM42

namespace Go.Proofs.YtghaenkacjgdnaaDoor
open Go.RowKit Anv
end Go.Proofs.YtghaenkacjgdnaaDoor
