/- The reference's divide. No condition. -/
import Derived.Test.YtgopcdagnicekaaGreatDoorM26
import Derived.Test.YtgopcdagnicekaaGreatDoorM20
set_option linter.all false
namespace Go.Proofs.YtgopcdagnicekaaGreatDoor
open Go.RowKit Anv
def aly (w:World) (N M:Nat) (e:Ending) (w':World):Prop:=
 ∃A1 c1 A2 c2,e=.returned (.tuple #[.slice A1 (dn (N / M)) c1,.slice A2 (dn (N%M)) c2])/\kp w' A1 (dn (N / M)) c1 (D (N / M))/\kp w' A2 (dn (N%M)) c2 (D (N%M))/\Below w.heap.size w w'
end Go.Proofs.YtgopcdagnicekaaGreatDoor
