/- Numbers as lists of limbs: sizes, rows that the call has written out, results. No condition. -/
import Derived.Test.YtbdngknpngcojaaDoorM15
import Derived.Test.YtbdngknpngcojaaDoorM6
import Derived.Test.YtbdngknpngcojaaDoorM23

namespace Go.Proofs.YtbdngknpngcojaaDoor.W
open Go.RowKit Anv
theorem nl_val {w : World} {A : Option Addr} {n c : Nat} {xs : List Nat} (h : U32 w A n c xs) : nl (val 4294967296 xs) ≤ n := nl_len ⟨xs, h, rfl⟩
section
variable {w0 w w' : World} {own ps : List PF}
end
end Go.Proofs.YtbdngknpngcojaaDoor.W
