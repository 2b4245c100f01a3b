/- Numbers as lists of limbs: sizes, rows that the call has written out, results. No condition. -/
import Derived.Test.YtgopcdagnicekaaGreatDoorM12
import Derived.Test.YtgopcdagnicekaaGreatDoorM20
set_option linter.all false
namespace Go.Proofs.YtgopcdagnicekaaGreatDoor.W
open Go.RowKit Anv
theorem acj {w:World} {A:Option Addr} {n c:Nat} {xs:List Nat} (h:kp w A n c xs):nl (val 4294967296 xs)<=n:=EE ⟨xs,h,rfl⟩
theorem lt2 {q r:Nat} (h:q<4294967296) (h':r<4294967296):dZ 4294967296 [q,r]:=by intro x hx; simp at hx; omega
section
variable {w0 w w':World} {own ps:List PF}
end
end Go.Proofs.YtgopcdagnicekaaGreatDoor.W
