/- The reference's Gcd. No condition. -/
import Derived.Test.YtgopcdagnicekaaGreatDoorM1
import Derived.Test.YtgopcdagnicekaaGreatDoorM34
import Derived.Test.YtgopcdagnicekaaGreatDoorM38

set_option linter.unusedVariables false
set_option linter.unusedSimpArgs false
set_option linter.all false
namespace Go.Proofs.YtgopcdagnicekaaGreatDoor
open Go.RowKit Anv
end Go.Proofs.YtgopcdagnicekaaGreatDoor
