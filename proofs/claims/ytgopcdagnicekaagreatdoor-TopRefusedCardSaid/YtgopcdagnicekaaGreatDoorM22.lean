/- A number's text: what the walk of limb.Text needs. No condition. -/
import Derived.Test.YtgopcdagnicekaaGreatDoorM9
import Derived.Test.YtgopcdagnicekaaGreatDoorM15
set_option linter.all false
namespace Go.Proofs.YtgopcdagnicekaaGreatDoor.W
open Go.RowKit Anv Go.Lib
def pcs (N j:Nat):List Nat:=(List.range j).map fun i=>N / 1000000000 ^ i%1000000000
def au2 (X k:Nat):List Nat:=(List.range 9).map fun i=>if i<k then 0 else 48+X / 10 ^ (8 - i)%10
def au3 (N j k:Nat):List UInt8:=if k=j then [] else QW (N / 1000000000 ^ k)
section
variable {P:Program} {N:Nat} {dq:List Deferred} {a:Act} {l:List (Nat×Value)} {w:World}
variable {d:Nat} {ty:TypeId} {pos:String} {af:Array Edge} {gd:Option (Nat×Bool)}
end
end Go.Proofs.YtgopcdagnicekaaGreatDoor.W
