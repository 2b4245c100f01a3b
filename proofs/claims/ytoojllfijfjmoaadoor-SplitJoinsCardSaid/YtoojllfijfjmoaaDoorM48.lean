/- How a statement's argument, a row of int64, is read. No condition. -/
import Derived.Test.YtoojllfijfjmoaaDoorM8
import Derived.Test.YtoojllfijfjmoaaDoorM47

namespace Go.Proofs.YtoojllfijfjmoaaDoor
open Go.RowKit Anv Go.ChangeShapes Go.WideShapes Go.ChangeAt Go.Joins W
theorem fl_fI (es : List Int) : fl fI es = es.map fun x => .int .i64 x := by
  induction es with
  | nil => rfl
  | cons e es ih => rw [List.map_cons, ← ih]; rfl
theorem es_fI (es : List Int) (w : World) : (pfEs FI es).P w := fun _ _ => trivial
end Go.Proofs.YtoojllfijfjmoaaDoor
