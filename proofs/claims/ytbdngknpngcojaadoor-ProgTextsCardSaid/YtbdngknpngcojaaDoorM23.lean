/- limb.DivMod. No condition. -/
import Derived.Test.YtbdngknpngcojaaDoorM20
import Derived.Test.YtbdngknpngcojaaDoorM3
import Derived.Test.YtbdngknpngcojaaDoorM4
import Derived.Test.YtbdngknpngcojaaDoorM21
import Derived.Test.YtbdngknpngcojaaDoorM22
import Derived.Test.YtbdngknpngcojaaDoorM6
import Derived.Deep.DeepCutAuto

namespace Go.Proofs.YtbdngknpngcojaaDoor
open Go.RowKit Anv
end Go.Proofs.YtbdngknpngcojaaDoor

/- limb.DivMod by more than one limb. No condition. -/
namespace Go.Proofs.YtbdngknpngcojaaDoor
open Go.RowKit Anv
theorem nl_len {w : World} {A : Option Addr} {n c N : Nat} (h : NumIn w A n c N) : nl N ≤ n := by
  obtain ⟨xs, hx, rfl⟩ := h
  have h1 := val_lt hx.lt
  rw [hx.len] at h1
  exact nl_le_of_lt h1
end Go.Proofs.YtbdngknpngcojaaDoor

/- integer.DivMod. No condition. -/
namespace Go.Proofs.YtbdngknpngcojaaDoor
open Go.RowKit Anv
section
variable (w : World) (o o' o'' : Obj) (t : TypeId) (a b : Value)
end
end Go.Proofs.YtbdngknpngcojaaDoor
