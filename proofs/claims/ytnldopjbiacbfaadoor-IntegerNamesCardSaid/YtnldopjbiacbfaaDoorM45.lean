/- How a statement's arguments, rows of limbs, are read. No condition. -/
import Derived.Test.YtnldopjbiacbfaaDoorM43
import Derived.Lay

namespace Go.Proofs.YtnldopjbiacbfaaDoor
open Go.RowKit Anv Go.ChangeShapes Go.WideShapes Go.ChangeAt Go.Joins

set_option maxRecDepth 100000 in
theorem open_row {H : Type} {enc : TypeId × Value → H} {W : World} {r : Reach} {b0 : Nat} {v : Value} {d : DataW H} {p : List MemPlace}
    (hv : Value.okWide Tryd.prog W r b0 22 v) (h : DataW.Trod enc Tryd.prog W 0 (fun _ => true) true 22 v d p) :
    ∃ A n c xs, v = .slice A n c ∧ U32 W A n c xs := by
  obtain ⟨A, n, c, rfl⟩ := okWide_slice Tryd.underlying22 hv
  obtain ⟨m, hm⟩ := h
  obtain ⟨xs, hx⟩ := open_u32 hm
  exact ⟨A, n, c, xs, rfl, hx⟩
end Go.Proofs.YtnldopjbiacbfaaDoor
