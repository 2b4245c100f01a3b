/- A number's text, piece by piece: plain laws, no program. No condition. -/
import Derived.Test.YtgopcdagnicekaaGreatDoorM1
import Derived.Lib.TrimByte
set_option linter.all false
namespace Go.Proofs.YtgopcdagnicekaaGreatDoor
open Anv
def dch (d:Nat):UInt8:=UInt8.ofNat (48+d)
def QW (N:Nat):List UInt8:=if N=0 then [48] else (vI 10 N).reverse.map dch
def aut (j X:Nat):List UInt8:=(List.range j).map fun i=>dch (X / 10 ^ (j - 1 - i)%10)
end Go.Proofs.YtgopcdagnicekaaGreatDoor
