/- Package row: what its functions leave. Printed by pv/gen_row.py. No condition. -/
import Derived.Test.YtbdngknpngcojaaDoorM36
import Derived.Test.YtbdngknpngcojaaDoorM15
import Derived.Test.YtbdngknpngcojaaDoorM44

namespace Go.Proofs.YtbdngknpngcojaaDoor.W
open Go.RowKit Anv Go.Lib
end Go.Proofs.YtbdngknpngcojaaDoor.W

/- Plain laws of rows of whole numbers: sums of products, contents, primitive rows. No program. No condition. -/
namespace Go.Proofs.YtbdngknpngcojaaDoor.W
def gcdL (zs : List Int) : Int := zs.foldl (fun g z => ((Int.gcd g z : Nat) : Int)) 0
def sumL (zs : List Int) : Int := zs.foldl (fun g z => g + z) 0
def dotL (xs ys : List Int) : Int := sumL (List.zipWith (· * ·) xs ys)
def lead (zs : List Int) : Int := (zs.find? fun z => z ≠ 0).getD 0
def primN (zs : List Int) : Int := if lead zs < 0 then -gcdL zs else gcdL zs
def prim (zs : List Int) : List Int := zs.map (· / primN zs)
def divs (c : Int) (zs : List Int) : Prop := ∀ z ∈ zs, z % c = 0
end Go.Proofs.YtbdngknpngcojaaDoor.W
