/- Over rows of limbs: slices.Equal, MulSmall, Gcd, works. Printed by pv/gen_limb.py. No condition. -/
import Derived.Test.YtoojllfijfjmoaaDoorM24
import Derived.Test.YtoojllfijfjmoaaDoorM12
import Derived.Test.YtoojllfijfjmoaaDoorM26
import Derived.Test.YtoojllfijfjmoaaDoorM3
import Derived.Test.YtoojllfijfjmoaaDoorM25

namespace Go.Proofs.YtoojllfijfjmoaaDoor.W
open Go.RowKit Anv
theorem text_num {A : Option Addr} {n c N : Nat} {w : World} (h : NumIn w A n c N) (hn : n ≤ 1000000) :
    Calls Tryd.prog 61 #[.slice A n c] w fun e w' => e = .returned (.string ⟨(textN N).toArray⟩) ∧ Below w.heap.size w w' := by
  obtain ⟨xs, hx, rfl⟩ := h
  exact text_any hx hn
end Go.Proofs.YtoojllfijfjmoaaDoor.W

/- The reference of layer 1: plain laws; results that are rows of the call's own. No condition. -/
namespace Go.Proofs.YtoojllfijfjmoaaDoor.W
open Go.RowKit Anv
def vals (xs : List Nat) : List Value := xs.map fun n => Value.int .u32 (n : Nat)
section
variable {w0 w : World} {own ps : List PF} {k n E : Nat} {v : Value} {xs : List Nat}
end
theorem getD_ge {xs : List Nat} {i n : Nat} (h : xs.length = n) (hi : n ≤ i) : xs.getD i 0 = 0 := by simp [List.getD, h, hi]
end Go.Proofs.YtoojllfijfjmoaaDoor.W

/- The reference of layer 1, walked. Printed by pv/gen_ref01.py. No condition. -/
namespace Go.Proofs.YtoojllfijfjmoaaDoor.W
open Go.RowKit Anv
end Go.Proofs.YtoojllfijfjmoaaDoor.W
