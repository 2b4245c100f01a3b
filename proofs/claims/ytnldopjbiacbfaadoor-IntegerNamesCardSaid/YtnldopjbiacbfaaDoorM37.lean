/- Spots: '=='. No condition. -/
import Derived.Test.YtnldopjbiacbfaaDoorM31
import Derived.Test.YtnldopjbiacbfaaDoorM6
import Derived.KernelRfl

namespace Go.Proofs.YtnldopjbiacbfaaDoor.W
open Go.RowKit Anv
theorem spotI : IntS Tryd.prog 58 2 := ⟨by kernel_rfl, by kernel_rfl, by kernel_rfl, by kernel_rfl, by kernel_rfl⟩
end Go.Proofs.YtnldopjbiacbfaaDoor.W
