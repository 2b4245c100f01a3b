/- The reference's divide, bit by bit. No condition. -/
import Derived.Test.YtgopcdagnicekaaGreatDoorM1
import Derived.Test.YtgopcdagnicekaaGreatDoorM33
import Derived.Deep.CutRange
import Derived.Test.YtgopcdagnicekaaGreatDoorM20

set_option linter.unusedVariables false
set_option linter.unusedSimpArgs false
set_option linter.all false
namespace Go.Proofs.YtgopcdagnicekaaGreatDoor
open Go.RowKit Anv
def aqR (w:World) (A:Option Addr) (c:Nat) (b:Bool) (N:Nat) (e:Ending) (w':World):Prop:=
 e=.returned (.agg #[.bool (neg (sg b N)),.slice A (dl (sg b N)) c])/\∃o,w'=w.alloc o
end Go.Proofs.YtgopcdagnicekaaGreatDoor
