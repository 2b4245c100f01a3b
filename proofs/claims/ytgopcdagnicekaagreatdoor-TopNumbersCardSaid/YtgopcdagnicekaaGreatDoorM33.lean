/- The reference's divide. No condition. -/
import Derived.Test.YtgopcdagnicekaaGreatDoorM1
import Derived.Test.YtgopcdagnicekaaGreatDoorM26
import Derived.Test.YtgopcdagnicekaaGreatDoorM20
import Derived.BigRegion

set_option linter.unusedVariables false
set_option linter.unusedSimpArgs false
set_option linter.all false
namespace Go.Proofs.YtgopcdagnicekaaGreatDoor
open Go.RowKit Anv
def ajl (w:World) (N M:Nat) (e:Ending) (w':World):Prop:=
 ∃A1 c1 A2 c2,e=.returned (.tuple #[.slice A1 (dn (N / M)) c1,.slice A2 (dn (N%M)) c2])/\eT w' A1 (dn (N / M)) c1 (D (N / M))/\eT w' A2 (dn (N%M)) c2 (D (N%M))/\Below w.heap.size w w'
end Go.Proofs.YtgopcdagnicekaaGreatDoor
