/- Package ratio: what its functions leave, over core's Rat. Printed by pv/gen_ratio.py. No condition. -/
import Derived.Test.YtghaenkacjgdnaaDoorM33
import Derived.Test.YtghaenkacjgdnaaDoorM11
import Derived.Test.YtghaenkacjgdnaaDoorM39
import Derived.Test.YtghaenkacjgdnaaDoorM40
import Derived.Test.YtghaenkacjgdnaaDoorM41
import Derived.Test.YtghaenkacjgdnaaDoorM16

namespace Go.Proofs.YtghaenkacjgdnaaDoor.W
open Go.RowKit Anv Go.Lib
def textQ (x : Rat) : List UInt8 := if ql x = 0 then textZ (qn x) else textZ (qn x) ++ 47 :: textZ (qd x)
theorem textZ_bd (z : Int) : (textZ z).length ≤ 10 * zl z + 2 := by
  have h := textN_bd z.natAbs
  have hz : nl z.natAbs = zl z := rfl
  unfold textZ
  split <;> simp <;> omega
section
variable {N : Nat} {dq : List Deferred} {a : Act} {l : List (Nat × Value)} {w : World} {d : Nat} {ty : TypeId} {pos : String} {af : Array Edge} {gd : Option (Nat × Bool)}
end
end Go.Proofs.YtghaenkacjgdnaaDoor.W

/- integer.Int.Small at an int64. Printed by pv/gen_small.py. No condition. -/
namespace Go.Proofs.YtghaenkacjgdnaaDoor.W
open Go.RowKit Anv Go.Lib
end Go.Proofs.YtghaenkacjgdnaaDoor.W
