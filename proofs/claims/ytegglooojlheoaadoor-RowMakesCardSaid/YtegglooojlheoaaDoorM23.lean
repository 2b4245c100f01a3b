/- limb.DivMod. No condition. -/
import Derived.Test.YtegglooojlheoaaDoorM20
import Derived.Test.YtegglooojlheoaaDoorM3
import Derived.Test.YtegglooojlheoaaDoorM4
import Derived.Test.YtegglooojlheoaaDoorM21
import Derived.Test.YtegglooojlheoaaDoorM22
import Derived.Test.YtegglooojlheoaaDoorM6
import Derived.Deep.DeepCutAuto

namespace Go.Proofs.YtegglooojlheoaaDoor
open Go.RowKit Anv
end Go.Proofs.YtegglooojlheoaaDoor

/- limb.DivMod by more than one limb. No condition. -/
namespace Go.Proofs.YtegglooojlheoaaDoor
open Go.RowKit Anv
end Go.Proofs.YtegglooojlheoaaDoor

/- integer.DivMod. No condition. -/
namespace Go.Proofs.YtegglooojlheoaaDoor
open Go.RowKit Anv
section
variable (w : World) (o o' o'' : Obj) (t : TypeId) (a b : Value)
end
end Go.Proofs.YtegglooojlheoaaDoor
