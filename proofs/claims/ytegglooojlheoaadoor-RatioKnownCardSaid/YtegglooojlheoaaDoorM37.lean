/- The reference's text of a number. Printed by pv/gen_rtext.py. No condition. -/
import Derived.Test.YtegglooojlheoaaDoorM32
import Derived.Test.YtegglooojlheoaaDoorM11
import Derived.Test.YtegglooojlheoaaDoorM33
import Derived.Test.YtegglooojlheoaaDoorM36

namespace Go.Proofs.YtegglooojlheoaaDoor.W
open Go.RowKit Anv Go.Lib
def txt0 (M : Nat) : List UInt8 := if M = 0 then [] else textN M
def swp (l : List UInt8) (i k : Nat) : UInt8 := if k < i ∨ l.length - i ≤ k then l.getD (l.length - 1 - k) 0 else l.getD k 0
end Go.Proofs.YtegglooojlheoaaDoor.W
