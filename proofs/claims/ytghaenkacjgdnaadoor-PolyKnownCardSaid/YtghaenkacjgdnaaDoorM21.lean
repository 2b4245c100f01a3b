/- limb.DivMod. No condition. -/
import Derived.Test.YtghaenkacjgdnaaDoorM18
import Derived.Test.YtghaenkacjgdnaaDoorM7
import Derived.Test.YtghaenkacjgdnaaDoorM8
import Derived.Test.YtghaenkacjgdnaaDoorM19
import Derived.Test.YtghaenkacjgdnaaDoorM20
import Derived.Test.YtghaenkacjgdnaaDoorM16
import Derived.Deep.DeepCutAuto

namespace Go.Proofs.YtghaenkacjgdnaaDoor
open Go.RowKit Anv
end Go.Proofs.YtghaenkacjgdnaaDoor

/- limb.DivMod by more than one limb. No condition. -/
namespace Go.Proofs.YtghaenkacjgdnaaDoor
open Go.RowKit Anv
theorem nl_len {w : World} {A : Option Addr} {n c N : Nat} (h : NumIn w A n c N) : nl N ≤ n := by
  obtain ⟨xs, hx, rfl⟩ := h
  have h1 := val_lt hx.lt
  rw [hx.len] at h1
  exact nl_le_of_lt h1
end Go.Proofs.YtghaenkacjgdnaaDoor

/- integer.DivMod. No condition. -/
namespace Go.Proofs.YtghaenkacjgdnaaDoor
open Go.RowKit Anv
section
variable (w : World) (o o' o'' : Obj) (t : TypeId) (a b : Value)
end
end Go.Proofs.YtghaenkacjgdnaaDoor
