/- The reference's divide, bit by bit. No condition. -/
import Derived.Test.YtgopcdagnicekaaGreatDoorM33
set_option linter.all false
namespace Go.Proofs.YtgopcdagnicekaaGreatDoor
open Go.RowKit Anv
def atr (w:World) (A:Option Addr) (c:Nat) (b:Bool) (N:Nat) (e:Ending) (w':World):Prop:=
 e=.returned (.agg #[.bool (neg (sg b N)),.slice A (dl (sg b N)) c])/\∃o,w'=w.alloc o
end Go.Proofs.YtgopcdagnicekaaGreatDoor
