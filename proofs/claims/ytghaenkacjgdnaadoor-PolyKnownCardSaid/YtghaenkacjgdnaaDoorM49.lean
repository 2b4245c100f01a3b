/- The reference's Gcd. No condition. -/
import Derived.Test.YtghaenkacjgdnaaDoorM36
import Derived.Test.YtghaenkacjgdnaaDoorM40

namespace Go.Proofs.YtghaenkacjgdnaaDoor
open Go.RowKit Anv
end Go.Proofs.YtghaenkacjgdnaaDoor
