/- How a statement's argument, a number with its limbs, is read. No condition. -/
import Derived.Test.YtbdngknpngcojaaDoorM6
import Derived.ProofKit
import Derived.OpenShut
import Derived.ShutString
import Derived.ChangeOld
import Derived.Below
import Derived.Lib.SmallJoins

namespace Go.Proofs.YtbdngknpngcojaaDoor
open Go.RowKit Anv Go.ChangeShapes Go.WideShapes Go.ChangeAt Go.Joins
theorem own : ownKnob Tryd.prog.godebug = none := by kernel_rfl
theorem laidOut : laidOutB Tryd.prog = true := by kernel_rfl
end Go.Proofs.YtbdngknpngcojaaDoor
