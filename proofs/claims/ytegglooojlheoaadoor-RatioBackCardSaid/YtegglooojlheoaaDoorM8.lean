/- How a statement's arguments, rows of limbs, are read. No condition. -/
import Derived.Test.YtegglooojlheoaaDoorM7
import Derived.Lay

namespace Go.Proofs.YtegglooojlheoaaDoor
open Go.RowKit Anv Go.ChangeShapes Go.WideShapes Go.ChangeAt Go.Joins
end Go.Proofs.YtegglooojlheoaaDoor

/- How a statement's argument, a pair of texts, is read. No condition. -/
namespace Go.Proofs.YtegglooojlheoaaDoor
open Go.RowKit Anv Go.ChangeShapes Go.WideShapes Go.ChangeAt Go.Joins
theorem cellsFrac : Tryd.prog.cellsOf 89 = 2 := by kernel_rfl
set_option maxRecDepth 100000 in
theorem open_frac {H : Type} {enc : TypeId × Value → H} {W : World} {r : Reach} {b0 : Nat} {v : Value} {d : DataW H} {p : List MemPlace}
    (hv : Value.okWide Tryd.prog W r b0 89 v) (h : DataW.Trod enc Tryd.prog W 0 (fun _ => true) true 89 v d p) :
    ∃ s t : List UInt8, v = .agg #[.string ⟨s.toArray⟩, .string ⟨t.toArray⟩] ∧ s.length ≤ maxLen ∧ t.length ≤ maxLen := by
  obtain ⟨c0, c1, y0, y1, m, rfl, rfl, rfl, hy0, hy1⟩ := open_agg2 Tryd.underlying89 (by kernel_rfl) cellsFrac hv h
  obtain ⟨s, e0, _, hs⟩ := DataW.trod_string Tryd.underlying9 hy0
  obtain ⟨t, e1, _, ht⟩ := DataW.trod_string Tryd.underlying9 hy1
  simp at e0 e1
  subst e0 e1
  exact ⟨s.data.toList, t.data.toList, by simp, by rw [Array.length_toList]; exact hs, by rw [Array.length_toList]; exact ht⟩
end Go.Proofs.YtegglooojlheoaaDoor
