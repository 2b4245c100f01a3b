/- How a statement's argument, a number with its limbs, is read. No condition. -/
import Derived.Test.YtgopcdagnicekaaGreatDoorM6
import Derived.Lib.SmallJoins
set_option linter.all false
open Go.Proofs.Tryz
namespace Go.Proofs.YtgopcdagnicekaaGreatDoor
open Go.RowKit Anv Go.ChangeShapes Go.WideShapes Go.ChangeAt Go.Joins
theorem own:ownKnob prog.godebug=none:=by kernel_rfl
theorem laidOut:laidOutB prog=true:=by kernel_rfl
end Go.Proofs.YtgopcdagnicekaaGreatDoor
