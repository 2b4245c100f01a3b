/- The reference's divide, bit by bit. No condition. -/
import Derived.Test.YtegglooojlheoaaDoorM35
import Derived.Deep.CutRange
import Derived.Test.YtegglooojlheoaaDoorM21

namespace Go.Proofs.YtegglooojlheoaaDoor
open Go.RowKit Anv
end Go.Proofs.YtegglooojlheoaaDoor

/- The reference's DivMod. No condition. -/
namespace Go.Proofs.YtegglooojlheoaaDoor
open Go.RowKit Anv
def NormX (w : World) (A : Option Addr) (c : Nat) (b : Bool) (N : Nat) (e : Ending) (w' : World) : Prop :=
  e = .returned (.agg #[.bool (neg (sg b N)), .slice A (dl (sg b N)) c]) ∧ ∃ o, w' = w.alloc o
end Go.Proofs.YtegglooojlheoaaDoor

/- The reference's Over. No condition. -/
namespace Go.Proofs.YtegglooojlheoaaDoor
open Go.RowKit Anv
end Go.Proofs.YtegglooojlheoaaDoor
