/- integer.Gcd. No condition. -/
import Derived.Test.YtgopcdagnicekaaGreatDoorM1
import Derived.Test.YtgopcdagnicekaaGreatDoorM20
import Derived.Deep.LoopGhost
import Derived.WalkMore

set_option linter.unusedVariables false
set_option linter.unusedSimpArgs false
set_option linter.all false
namespace Go.Proofs.YtgopcdagnicekaaGreatDoor
open Go.RowKit Anv
def stack (w:World):List Obj->World
 | []=>w
 | o::l=>stack (w.alloc o) l
end Go.Proofs.YtgopcdagnicekaaGreatDoor
