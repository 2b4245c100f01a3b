/- integer.Bezout of a number that is not 0. No condition. Printed by pv/gen_bez.py. -/
import Derived.Test.YtegglooojlheoaaDoorM20
import Derived.Test.YtegglooojlheoaaDoorM21
import Derived.Test.YtegglooojlheoaaDoorM33

namespace Go.Proofs.YtegglooojlheoaaDoor
open Go.RowKit Anv
def BzPost (w : World) (x y : Int) (e : Ending) (w' : World) : Prop :=
  ∃ v1 v2 v3 u v, e = .returned (.tuple #[v1, v2, v3]) ∧ ZAt w' v1 (Int.gcd x y : Int) ∧ ZAt w' v2 u ∧ ZAt w' v3 v ∧ 0 ≤ u ∧ u < (y.natAbs : Int) / (Int.gcd x y : Int) ∧ u * x + v * y = (Int.gcd x y : Int) ∧ Below w.heap.size w w'
theorem gcd_zl {x y : Int} (hy : y ≠ 0) : zl (Int.gcd x y : Int) ≤ zl y := nl_mono (by
  have h := Int.le_of_dvd (a := (Int.gcd x y : Int)) (b := (y.natAbs : Int)) (by omega) (Int.dvd_natAbs.2 (Int.gcd_dvd_right x y))
  omega)
end Go.Proofs.YtegglooojlheoaaDoor
