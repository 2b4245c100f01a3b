/- How many binary digits a number has: limb.Bits, Bits of both. No condition. -/
import Derived.Test.YtbdngknpngcojaaDoorM6
import Derived.Test.YtbdngknpngcojaaDoorM21

namespace Go.Proofs.YtbdngknpngcojaaDoor
open Go.RowKit Anv
def blen (n : Nat) : Nat := if n = 0 then 0 else n.log2 + 1
end Go.Proofs.YtbdngknpngcojaaDoor

/- Powers: anvilref02.Pow. No condition. -/
namespace Go.Proofs.YtbdngknpngcojaaDoor
open Go.RowKit Anv
end Go.Proofs.YtbdngknpngcojaaDoor

/- Plain arithmetic of quotients and remainders of whole numbers. No program in sight. No condition. -/
namespace Go.Proofs.YtbdngknpngcojaaDoor
open Go.RowKit Anv
theorem zl_ediv (x y : Int) : zl (x / y) ≤ zl x := nl_mono (Int.natAbs_ediv_le_natAbs x y)
end Go.Proofs.YtbdngknpngcojaaDoor

/- Plain laws of Bezout's numbers. No program in sight. No condition. -/
namespace Go.Proofs.YtbdngknpngcojaaDoor
open Go.RowKit Anv
def Ph (x y a b u v : Int) : Prop :=
  (a = x ∧ b = y ∧ u = 1 ∧ v = 0) ∨ (a = y ∧ b = x % y ∧ u = 0 ∧ v = 1) ∨
    ∃ m n : Nat, a = m ∧ b = n ∧ m ≤ y.natAbs ∧ n ≤ y.natAbs ∧ v.natAbs * m + u.natAbs * n ≤ 3 * y.natAbs
structure Bz (x y a b u v : Int) : Prop where
  gcd : Int.gcd a b = Int.gcd x y
  da : y ∣ a - u * x
  db : y ∣ b - v * x
  ub : u.natAbs ≤ 3 * y.natAbs
  vb : v.natAbs ≤ 3 * y.natAbs
  ph : Ph x y a b u v
end Go.Proofs.YtbdngknpngcojaaDoor
