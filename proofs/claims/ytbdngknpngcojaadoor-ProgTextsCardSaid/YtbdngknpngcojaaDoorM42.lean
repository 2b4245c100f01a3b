/- integer.Gcd. No condition. -/
import Derived.Test.YtbdngknpngcojaaDoorM23
import Derived.Deep.LoopGhost
import Derived.WalkMore

namespace Go.Proofs.YtbdngknpngcojaaDoor
open Go.RowKit Anv
def stack (w : World) : List Obj → World
  | [] => w
  | o :: l => stack (w.alloc o) l
end Go.Proofs.YtbdngknpngcojaaDoor
