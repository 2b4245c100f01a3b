/- limb.Text. Printed by pv/gen_text.py. No condition. -/
import Derived.Test.YtgopcdagnicekaaGreatDoorM22
set_option linter.all false
namespace Go.Proofs.YtgopcdagnicekaaGreatDoor.W
open Go.RowKit Anv Go.Lib
end Go.Proofs.YtgopcdagnicekaaGreatDoor.W
