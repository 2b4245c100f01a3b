/- A number's text: what the walk of limb.Text needs. No condition. -/
import Derived.Test.YtbdngknpngcojaaDoorM9
import Derived.Test.YtbdngknpngcojaaDoorM18
import Derived.Test.YtbdngknpngcojaaDoorM3
import Derived.Test.YtbdngknpngcojaaDoorM12

namespace Go.Proofs.YtbdngknpngcojaaDoor.W
open Go.RowKit Anv Go.Lib
def pcs (N j : Nat) : List Nat := (List.range j).map fun i => N / 1000000000 ^ i % 1000000000
def padl (X k : Nat) : List Nat := (List.range 9).map fun i => if i < k then 0 else 48 + X / 10 ^ (8 - i) % 10
theorem dch_nat {d : Nat} (h : d < 10) : (dch d).toNat = 48 + d := by
  have : ∀ d : Fin 10, (dch d.1).toNat = 48 + d.1 := by decide
  exact this ⟨d, h⟩
def outN (N j k : Nat) : List UInt8 := if k = j then [] else textN (N / 1000000000 ^ k)
theorem byteCells_app (l s : List UInt8) : byteCells l ++ strCells ⟨s.toArray⟩ = byteCells (l ++ s) := by simp [byteCells, strCells]
theorem ba_size (s : List UInt8) : (⟨s.toArray⟩ : ByteArray).size = s.length := by simp [ByteArray.size]
section
variable {P : Program} {N : Nat} {dq : List Deferred} {a : Act} {l : List (Nat × Value)} {w : World}
variable {d : Nat} {ty : TypeId} {pos : String} {af : Array Edge} {gd : Option (Nat × Bool)}
theorem rn_lenR {x : Operand} {T E E' n z : Nat} {v : Value} {vs : List Value} (h : EnvD dq N a l) (hT : P.underlying T = some (.slice E)) (hx : evl l x = some v) (hr : w.ownsRow 0 E' z v n vs) :
    (execOp a.eval ⟨some d, .call ⟨.builtin .len, #[x], #[T]⟩, ty, pos, af, gd⟩).run P w = .ok (.value (.int .i64 n)) w := by
  rcases hr.2 with ⟨rfl, rfl⟩ | ⟨g, cap, cur, rfl, _⟩
  · exact rn_len h hT hx
  · exact rn_len h hT hx
end
end Go.Proofs.YtbdngknpngcojaaDoor.W
