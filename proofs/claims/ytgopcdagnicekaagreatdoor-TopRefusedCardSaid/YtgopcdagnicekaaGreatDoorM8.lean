/- How a statement's arguments, rows of limbs, are read. No condition. -/
import Derived.Test.YtgopcdagnicekaaGreatDoorM7
import Derived.Lay
set_option linter.all false
namespace Go.Proofs.YtgopcdagnicekaaGreatDoor
open Go.RowKit Anv Go.ChangeShapes Go.WideShapes Go.ChangeAt Go.Joins
end Go.Proofs.YtgopcdagnicekaaGreatDoor
