/- limb.Text. Printed by pv/gen_text.py. No condition. -/
import Derived.Test.YtgopcdagnicekaaGreatDoorM1
import Derived.Test.YtgopcdagnicekaaGreatDoorM12
import Derived.Test.YtgopcdagnicekaaGreatDoorM22
import Derived.Test.YtgopcdagnicekaaGreatDoorM3
import Derived.Test.YtgopcdagnicekaaGreatDoorM6

set_option linter.unusedVariables false
set_option linter.unusedSimpArgs false
set_option linter.all false
namespace Go.Proofs.YtgopcdagnicekaaGreatDoor.W
open Go.RowKit Anv Go.Lib
end Go.Proofs.YtgopcdagnicekaaGreatDoor.W
