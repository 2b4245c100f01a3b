/- Spots: '=='. No condition. -/
import Derived.Test.YtghaenkacjgdnaaDoorM31
import Derived.Test.YtghaenkacjgdnaaDoorM6
import Derived.KernelRfl

namespace Go.Proofs.YtghaenkacjgdnaaDoor.W
open Go.RowKit Anv
theorem spotI : IntS Tryd.prog 71 2 := ⟨by kernel_rfl, by kernel_rfl, by kernel_rfl, by kernel_rfl, by kernel_rfl⟩
end Go.Proofs.YtghaenkacjgdnaaDoor.W
