/- Operations over naturals and strings, one rule each. Over any program. No condition. -/
import Derived.Test.YtoojllfijfjmoaaDoorM28
import Derived.Test.YtoojllfijfjmoaaDoorM29
import Derived.Test.YtoojllfijfjmoaaDoorM31
import Derived.Laws.Strings2
import Derived.Laws.Cover3

namespace Go.Proofs.YtoojllfijfjmoaaDoor.W
open Go.RowKit Anv Go.Lib
theorem tdiv_nat (t c : Nat) : ((t : Nat) : Int).tdiv ((c : Nat) : Int) = ((t / c : Nat) : Int) := rfl
theorem quo_i64 {t c : Nat} (h : t < 9223372036854775808) : IntKind.i64.wrap (((t : Nat) : Int).tdiv ((c : Nat) : Int)) = ((t / c : Nat) : Int) := by
  rw [tdiv_nat]
  have := Nat.div_le_self t c
  generalize t / c = q at *
  exact IntWalk.i64_in _ (by omega)
section
variable {P : Program} {N : Nat} {dq : List Deferred} {a : Act} {l : List (Nat × Value)} {w : World} {d : Nat} {ty : TypeId} {pos : String} {af : Array Edge} {gd : Option (Nat × Bool)}
end
end Go.Proofs.YtoojllfijfjmoaaDoor.W
