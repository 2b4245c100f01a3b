/- integer.Gcd. No condition. -/
import Derived.Test.YtgopcdagnicekaaGreatDoorM20
set_option linter.all false
namespace Go.Proofs.YtgopcdagnicekaaGreatDoor
open Go.RowKit Anv
def stack (w:World):List Obj->World
 | []=>w
 | o::l=>stack (w.alloc o) l
end Go.Proofs.YtgopcdagnicekaaGreatDoor
