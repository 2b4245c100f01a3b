/- row.Over, Content, Primitive; the reference's Over, Content, Zero, Primitive. Printed by pv/gen_row9.py. No condition. -/
import Derived.Test.YtegglooojlheoaaDoorM48
import Derived.Test.YtegglooojlheoaaDoorM15
import Derived.Test.YtegglooojlheoaaDoorM39
import Derived.Test.YtegglooojlheoaaDoorM51
import Derived.Test.YtegglooojlheoaaDoorM47
import Derived.Test.YtegglooojlheoaaDoorM24

namespace Go.Proofs.YtegglooojlheoaaDoor.W
open Go.RowKit Anv Go.Lib
def ovr (x y : Int) : Int := if x % y = 0 then x / y else 0
theorem divs_step {es : List NE} {xs : List Int} {j : Nat} {A : Option Addr} {c : Nat} {z m : Int} (hz : es.map zz = xs) (hd : divs m (xs.take j)) (he : es[j]? = some (A, c, z)) (h : z % m = 0) : divs m (xs.take (j + 1)) := by
  rw [ztake_snoc hz he]
  intro x hx
  rcases List.mem_append.1 hx with hx | hx
  · exact hd x hx
  · rw [List.mem_singleton.1 hx]; exact h
end Go.Proofs.YtegglooojlheoaaDoor.W

/- RowSums: the law's walk. Printed by pv/gen_rowA.py. No condition. -/
namespace Go.Proofs.YtegglooojlheoaaDoor.W
open Go.RowKit Anv Go.Lib
theorem Zk.zb {k : Nat} {es : List NE} (h : Zk k (es.map zz)) : ZB k es := h.es rfl
end Go.Proofs.YtegglooojlheoaaDoor.W
