/- The reference's text of a number. Printed by pv/gen_rtext.py. No condition. -/
import Derived.Test.YtgopcdagnicekaaGreatDoorM32
import Derived.Test.YtgopcdagnicekaaGreatDoorM30
import Derived.Test.YtgopcdagnicekaaGreatDoorM34
set_option linter.all false
namespace Go.Proofs.YtgopcdagnicekaaGreatDoor.W
open Go.RowKit Anv Go.Lib
def avc (M:Nat):List UInt8:=if M=0 then [] else QW M
def swp (l:List UInt8) (i k:Nat):UInt8:=if k<i∨l.length - i<=k then l.getD (l.length - 1 - k) 0 else l.getD k 0
end Go.Proofs.YtgopcdagnicekaaGreatDoor.W
