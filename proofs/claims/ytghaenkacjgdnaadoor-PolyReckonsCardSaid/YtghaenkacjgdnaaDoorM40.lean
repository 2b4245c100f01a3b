/- Spots: '=='. No condition. -/
import Derived.Test.YtghaenkacjgdnaaDoorM33
import Derived.Test.YtghaenkacjgdnaaDoorM12
import Derived.KernelRfl

namespace Go.Proofs.YtghaenkacjgdnaaDoor.W
open Go.RowKit Anv
end Go.Proofs.YtghaenkacjgdnaaDoor.W
