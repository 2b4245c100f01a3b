/- Over rows of limbs: slices.Equal, MulSmall, Gcd, works. Printed by pv/gen_limb.py. No condition. -/
import Derived.Test.YtbdngknpngcojaaDoorM24
import Derived.Test.YtbdngknpngcojaaDoorM12
import Derived.Test.YtbdngknpngcojaaDoorM26
import Derived.Test.YtbdngknpngcojaaDoorM3
import Derived.Test.YtbdngknpngcojaaDoorM25

namespace Go.Proofs.YtbdngknpngcojaaDoor.W
open Go.RowKit Anv
end Go.Proofs.YtbdngknpngcojaaDoor.W

/- The reference of layer 1: plain laws; results that are rows of the call's own. No condition. -/
namespace Go.Proofs.YtbdngknpngcojaaDoor.W
open Go.RowKit Anv
def vals (xs : List Nat) : List Value := xs.map fun n => Value.int .u32 (n : Nat)
section
variable {w0 w : World} {own ps : List PF} {k n E : Nat} {v : Value} {xs : List Nat}
end
theorem getD_ge {xs : List Nat} {i n : Nat} (h : xs.length = n) (hi : n ≤ i) : xs.getD i 0 = 0 := by simp [List.getD, h, hi]
end Go.Proofs.YtbdngknpngcojaaDoor.W

/- The reference of layer 1, walked. Printed by pv/gen_ref01.py. No condition. -/
namespace Go.Proofs.YtbdngknpngcojaaDoor.W
open Go.RowKit Anv
end Go.Proofs.YtbdngknpngcojaaDoor.W
