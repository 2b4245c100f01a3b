/- A number's text: what the walk of limb.Text needs. No condition. -/
import Derived.Test.YtbdngknpngcojaaDoorM9
import Derived.Test.YtbdngknpngcojaaDoorM18
import Derived.Test.YtbdngknpngcojaaDoorM3
import Derived.Test.YtbdngknpngcojaaDoorM12

namespace Go.Proofs.YtbdngknpngcojaaDoor.W
open Go.RowKit Anv Go.Lib
def pcs (N j : Nat) : List Nat := (List.range j).map fun i => N / 1000000000 ^ i % 1000000000
def padl (X k : Nat) : List Nat := (List.range 9).map fun i => if i < k then 0 else 48 + X / 10 ^ (8 - i) % 10
def outN (N j k : Nat) : List UInt8 := if k = j then [] else textN (N / 1000000000 ^ k)
theorem byteCells_app (l s : List UInt8) : byteCells l ++ strCells ⟨s.toArray⟩ = byteCells (l ++ s) := by simp [byteCells, strCells]
theorem ba_size (s : List UInt8) : (⟨s.toArray⟩ : ByteArray).size = s.length := by simp [ByteArray.size]
section
variable {P : Program} {N : Nat} {dq : List Deferred} {a : Act} {l : List (Nat × Value)} {w : World}
variable {d : Nat} {ty : TypeId} {pos : String} {af : Array Edge} {gd : Option (Nat × Bool)}
end
end Go.Proofs.YtbdngknpngcojaaDoor.W
