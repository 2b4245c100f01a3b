/- Package ratio: what its functions leave, over core's Rat. Printed by pv/gen_ratio.py. No condition. -/
import Derived.Test.YtbdngknpngcojaaDoorM35
import Derived.Test.YtbdngknpngcojaaDoorM15
import Derived.Test.YtbdngknpngcojaaDoorM36
import Derived.Test.YtbdngknpngcojaaDoorM41
import Derived.Test.YtbdngknpngcojaaDoorM42
import Derived.Test.YtbdngknpngcojaaDoorM43

namespace Go.Proofs.YtbdngknpngcojaaDoor.W
open Go.RowKit Anv Go.Lib
def textQ (x : Rat) : List UInt8 := if ql x = 0 then textZ (qn x) else textZ (qn x) ++ 47 :: textZ (qd x)
section
variable {N : Nat} {dq : List Deferred} {a : Act} {l : List (Nat × Value)} {w : World} {d : Nat} {ty : TypeId} {pos : String} {af : Array Edge} {gd : Option (Nat × Bool)}
end
end Go.Proofs.YtbdngknpngcojaaDoor.W
