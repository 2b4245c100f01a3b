/- Spots: '=='. No condition. -/
import Derived.Test.YtegglooojlheoaaDoorM31
import Derived.Test.YtegglooojlheoaaDoorM6
import Derived.KernelRfl

namespace Go.Proofs.YtegglooojlheoaaDoor.W
open Go.RowKit Anv
theorem spotI : IntS Tryd.prog 79 2 := ⟨by kernel_rfl, by kernel_rfl, by kernel_rfl, by kernel_rfl, by kernel_rfl⟩
end Go.Proofs.YtegglooojlheoaaDoor.W
