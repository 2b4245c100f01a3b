/- The reference's divide. No condition. -/
import Derived.Test.YtegglooojlheoaaDoorM27
import Derived.Test.YtegglooojlheoaaDoorM21
import Derived.BigRegion

namespace Go.Proofs.YtegglooojlheoaaDoor
open Go.RowKit Anv
def DivPost (w : World) (N M : Nat) (e : Ending) (w' : World) : Prop :=
  ∃ A1 c1 A2 c2, e = .returned (.tuple #[.slice A1 (dn (N / M)) c1, .slice A2 (dn (N % M)) c2]) ∧ U32 w' A1 (dn (N / M)) c1 (D (N / M)) ∧ U32 w' A2 (dn (N % M)) c2 (D (N % M)) ∧ Below w.heap.size w w'
end Go.Proofs.YtegglooojlheoaaDoor
