/- Operations over naturals and strings, one rule each. Over any program. No condition. -/
import Derived.Test.YtegglooojlheoaaDoorM26
import Derived.Test.YtegglooojlheoaaDoorM27
import Derived.Test.YtegglooojlheoaaDoorM29
import Derived.Laws.Strings2
import Derived.Laws.Cover3

namespace Go.Proofs.YtegglooojlheoaaDoor.W
open Go.RowKit Anv Go.Lib
section
variable {P : Program} {N : Nat} {dq : List Deferred} {a : Act} {l : List (Nat × Value)} {w : World} {d : Nat} {ty : TypeId} {pos : String} {af : Array Edge} {gd : Option (Nat × Bool)}
theorem rn_nilN {x : Operand} {T E yt n c : Nat} {A : Option Addr} (h : EnvD dq N a l) (hT : P.underlying T = some (.slice E)) (hx : evl l x = some (.slice A n c)) :
    (execOp a.eval ⟨some d, .binOp .neq T x (.const (.slice none 0 0)) yt, ty, pos, af, gd⟩).run P w = .ok (.value (.bool (!A.isNone))) w := by
  refine rn_bin h hx (by rfl) ?_
  have := run_neq_slice_nil (P := P) w T E A n c hT
  simp [eqGuard, this]
theorem rn_catS {x y : Operand} {T yt : Nat} {s t : List UInt8} (h : EnvD dq N a l) (hx : evl l x = some (.string ⟨s.toArray⟩)) (hy : evl l y = some (.string ⟨t.toArray⟩)) (hl : s.length + t.length ≤ 9223372036854775807) :
    (execOp a.eval ⟨some d, .binOp .add T x y yt, ty, pos, af, gd⟩).run P w = .ok (.value (.string ⟨(s ++ t).toArray⟩)) w := by
  refine rn_bin h hx hy ?_
  simp [eqGuard, binOp, Op.stringOp, go_sem]
  rw [if_neg (by omega)]
  have e : (⟨s.toArray⟩ ++ ⟨t.toArray⟩ : ByteArray) = ⟨(s ++ t).toArray⟩ := by
    apply ByteArray.ext
    simp
  simp [e]
end
end Go.Proofs.YtegglooojlheoaaDoor.W
