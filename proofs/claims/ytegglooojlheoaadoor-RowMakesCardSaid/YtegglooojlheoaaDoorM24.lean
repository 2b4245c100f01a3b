/- Numbers as lists of limbs: sizes, rows that the call has written out, results. No condition. -/
import Derived.Test.YtegglooojlheoaaDoorM15
import Derived.Test.YtegglooojlheoaaDoorM6
import Derived.Test.YtegglooojlheoaaDoorM23

namespace Go.Proofs.YtegglooojlheoaaDoor.W
open Go.RowKit Anv
theorem lt2 {q r : Nat} (h : q < 4294967296) (h' : r < 4294967296) : AllLt 4294967296 [q, r] := by intro x hx; simp at hx; omega
section
variable {w0 w w' : World} {own ps : List PF}
end
end Go.Proofs.YtegglooojlheoaaDoor.W
