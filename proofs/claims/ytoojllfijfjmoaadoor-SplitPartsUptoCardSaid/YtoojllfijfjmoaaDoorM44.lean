/- Package ratio: what its functions leave, over core's Rat. Printed by pv/gen_ratio.py. No condition. -/
import Derived.Test.YtoojllfijfjmoaaDoorM35
import Derived.Test.YtoojllfijfjmoaaDoorM15
import Derived.Test.YtoojllfijfjmoaaDoorM41
import Derived.Test.YtoojllfijfjmoaaDoorM42
import Derived.Test.YtoojllfijfjmoaaDoorM43
import Derived.Test.YtoojllfijfjmoaaDoorM6

namespace Go.Proofs.YtoojllfijfjmoaaDoor.W
open Go.RowKit Anv Go.Lib
def textQ (x : Rat) : List UInt8 := if ql x = 0 then textZ (qn x) else textZ (qn x) ++ 47 :: textZ (qd x)
section
variable {N : Nat} {dq : List Deferred} {a : Act} {l : List (Nat × Value)} {w : World} {d : Nat} {ty : TypeId} {pos : String} {af : Array Edge} {gd : Option (Nat × Bool)}
end
end Go.Proofs.YtoojllfijfjmoaaDoor.W

/- integer.Int.Small at an int64. Printed by pv/gen_small.py. No condition. -/
namespace Go.Proofs.YtoojllfijfjmoaaDoor.W
open Go.RowKit Anv Go.Lib
end Go.Proofs.YtoojllfijfjmoaaDoor.W
