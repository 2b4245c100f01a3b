/- Spots: '=='. No condition. -/
import Derived.Test.YtgopcdagnicekaaGreatDoorM29
set_option linter.all false
open Go.Proofs.Tryz
namespace Go.Proofs.YtgopcdagnicekaaGreatDoor.W
open Go.RowKit Anv
theorem ahM:G5 prog 69 2:=⟨by kernel_rfl,by kernel_rfl,by kernel_rfl,by kernel_rfl,by kernel_rfl⟩
end Go.Proofs.YtgopcdagnicekaaGreatDoor.W
