/- integer.Gcd. No condition. -/
import Derived.Test.YtghaenkacjgdnaaDoorM21
import Derived.Deep.LoopGhost
import Derived.WalkMore

namespace Go.Proofs.YtghaenkacjgdnaaDoor
open Go.RowKit Anv
def stack (w : World) : List Obj → World
  | [] => w
  | o :: l => stack (w.alloc o) l
end Go.Proofs.YtghaenkacjgdnaaDoor
