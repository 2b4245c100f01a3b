/- strings.Builder: what its two writers leave, with the whole frame. No condition. -/
import Derived.Test.YtgopcdagnicekaaGreatDoorM12
import Derived.Shelf.Strings.Builder1
set_option linter.all false
namespace Go.Proofs.YtgopcdagnicekaaGreatDoor.W
open Go.RowKit Anv Go.Lib
def arD (b:Nat) (p:Value):Prop:=p=.pointer none∨p=cY b
end Go.Proofs.YtgopcdagnicekaaGreatDoor.W
