/- Contracts of the library, laid by the kit's commands (gen_shelf.py). No condition. -/
import Derived.Test.YtgopcdagnicekaaGreatDoorM1
import Derived.Shelf.Strings.BuilderK
import Derived.Shelf.Strings.Trim
import Derived.Shelf.SlicesE.Clone
import Derived.Test.YtgopcdagnicekaaGreatDoorRows
set_option linter.all false
namespace Go.Proofs.YtgopcdagnicekaaGreatDoor
open Go.Shelf Go.Proofs
def Gs:Go.Shelf.Ren:=⟨fun | 41=>94 | n=>n,fun | 22=>26 | 23=>3 | 4=>4 | n=>n,fun | n=>n⟩
end Go.Proofs.YtgopcdagnicekaaGreatDoor
