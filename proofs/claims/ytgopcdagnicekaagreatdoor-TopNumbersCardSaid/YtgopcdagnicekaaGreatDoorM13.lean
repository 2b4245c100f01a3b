/- strings.Builder: what its two writers leave, with the whole frame. No condition. -/
import Derived.Test.YtgopcdagnicekaaGreatDoorM1
import Derived.Test.YtgopcdagnicekaaGreatDoorM12
import Derived.Lib.AppendStr
import Derived.Shelf.Strings.Builder1

set_option linter.unusedVariables false
set_option linter.unusedSimpArgs false
set_option linter.all false
namespace Go.Proofs.YtgopcdagnicekaaGreatDoor.W
open Go.RowKit Anv Go.Lib
def apb (b:Nat) (p:Value):Prop:=p=.pointer none∨p=bB b
end Go.Proofs.YtgopcdagnicekaaGreatDoor.W
