/- Over rows of limbs: slices.Equal, MulSmall, Gcd, works. Printed by pv/gen_limb.py. No condition. -/
import Derived.Test.YtgopcdagnicekaaGreatDoorM21
import Derived.Test.YtgopcdagnicekaaGreatDoorM23
set_option linter.all false
namespace Go.Proofs.YtgopcdagnicekaaGreatDoor.W
open Go.RowKit Anv
def vals (xs:List Nat):List Value:=xs.map fun n=>Value.int .u32 (n:Nat)
section
variable {w0 w:World} {own ps:List PF} {k n E:Nat} {v:Value} {xs:List Nat}
end
theorem qj {xs:List Nat} {i n:Nat} (h:xs.length=n) (hi:n<=i):xs.getD i 0=0:=by simp [List.getD,h,hi]
end Go.Proofs.YtgopcdagnicekaaGreatDoor.W
