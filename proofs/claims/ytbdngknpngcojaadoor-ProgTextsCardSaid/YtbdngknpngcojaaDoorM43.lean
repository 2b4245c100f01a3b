/- integer.Bezout of a number that is not 0. No condition. Printed by pv/gen_bez.py. -/
import Derived.Test.YtbdngknpngcojaaDoorM22
import Derived.Test.YtbdngknpngcojaaDoorM23
import Derived.Test.YtbdngknpngcojaaDoorM35

namespace Go.Proofs.YtbdngknpngcojaaDoor
open Go.RowKit Anv
def BzPost (w : World) (x y : Int) (e : Ending) (w' : World) : Prop :=
  ∃ v1 v2 v3 u v, e = .returned (.tuple #[v1, v2, v3]) ∧ ZAt w' v1 (Int.gcd x y : Int) ∧ ZAt w' v2 u ∧ ZAt w' v3 v ∧ 0 ≤ u ∧ u < (y.natAbs : Int) / (Int.gcd x y : Int) ∧ u * x + v * y = (Int.gcd x y : Int) ∧ Below w.heap.size w w'
end Go.Proofs.YtbdngknpngcojaaDoor
