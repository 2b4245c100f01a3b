/- integer.Bezout of a number that is not 0. No condition. Printed by pv/gen_bez.py. -/
import Derived.Test.YtgopcdagnicekaaGreatDoorM20
import Derived.Test.YtgopcdagnicekaaGreatDoorM12
set_option linter.all false
namespace Go.Proofs.YtgopcdagnicekaaGreatDoor
open Go.RowKit Anv
def ane (w:World) (x y:Int) (e:Ending) (w':World):Prop:=
 ∃v1 v2 v3 u v,e=.returned (.tuple #[v1,v2,v3])/\sL w' v1 (Int.gcd x y:Int)/\sL w' v2 u/\sL w' v3 v/\0<=u/\u<(y.natAbs:Int) / (Int.gcd x y:Int)/\u*x+v*y=(Int.gcd x y:Int)/\Below w.heap.size w w'
end Go.Proofs.YtgopcdagnicekaaGreatDoor
