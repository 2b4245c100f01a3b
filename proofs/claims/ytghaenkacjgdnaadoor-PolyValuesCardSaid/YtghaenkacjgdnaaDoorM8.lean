/- How a statement's arguments, rows of limbs, are read. No condition. -/
import Derived.Test.YtghaenkacjgdnaaDoorM7
import Derived.Lay

namespace Go.Proofs.YtghaenkacjgdnaaDoor
open Go.RowKit Anv Go.ChangeShapes Go.WideShapes Go.ChangeAt Go.Joins
end Go.Proofs.YtghaenkacjgdnaaDoor

/- How a statement's argument, a point (two numbers), is read. No condition. -/
namespace Go.Proofs.YtghaenkacjgdnaaDoor
open Go.RowKit Anv Go.ChangeShapes Go.WideShapes Go.ChangeAt Go.Joins
theorem cellsPoint : Tryd.prog.cellsOf 24 = 2 := by kernel_rfl
set_option maxRecDepth 100000 in
theorem open_point {H : Type} {enc : TypeId × Value → H} {W : World} {r : Reach} {b0 : Nat} {v : Value} {d : DataW H} {p : List MemPlace}
    (hv : Value.okWide Tryd.prog W r b0 24 v) (h : DataW.Trod enc Tryd.prog W 0 (fun _ => true) true 24 v d p) :
    ∃ a b : Int, v = .agg #[.int .i64 a, .int .i64 b] := by
  obtain ⟨c0, c1, y0, y1, m, rfl, rfl, rfl, hy0, hy1⟩ := open_agg2 Tryd.underlying24 (by kernel_rfl) cellsPoint hv h
  obtain ⟨s, e0, _, _⟩ := DataW.trod_int Tryd.underlying3 hy0
  obtain ⟨t, e1, _, _⟩ := DataW.trod_int Tryd.underlying3 hy1
  simp at e0 e1
  subst e0 e1
  exact ⟨_, _, rfl⟩
end Go.Proofs.YtghaenkacjgdnaaDoor
