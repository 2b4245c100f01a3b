/- Spots: '=='. No condition. -/
import Derived.Test.YtegglooojlheoaaGreatDoorM32
import Derived.Test.YtegglooojlheoaaGreatDoorM9
import Derived.KernelRfl

namespace Go.Proofs.YtegglooojlheoaaGreatDoor.W
open Go.RowKit Anv
end Go.Proofs.YtegglooojlheoaaGreatDoor.W
