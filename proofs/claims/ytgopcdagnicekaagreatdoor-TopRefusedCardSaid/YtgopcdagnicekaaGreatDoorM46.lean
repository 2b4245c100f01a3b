/- The reference's Gcd. No condition. -/
import Derived.Test.YtgopcdagnicekaaGreatDoorM34
import Derived.Test.YtgopcdagnicekaaGreatDoorM38
set_option linter.all false
namespace Go.Proofs.YtgopcdagnicekaaGreatDoor
open Go.RowKit Anv
end Go.Proofs.YtgopcdagnicekaaGreatDoor
