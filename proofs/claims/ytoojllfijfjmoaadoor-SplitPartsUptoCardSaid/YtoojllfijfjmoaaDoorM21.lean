/- math/bits.Len32: the kit's own text for it, turned to this claim by its template. No condition. -/
import Derived.Test.YtoojllfijfjmoaaDoorRows
import Derived.Lib.Strings
import Derived.Lib.Slices
import Derived.Lib.Small
import Derived.Lib.Walk
import Derived.Lib.BitFns

namespace Go.Proofs.YtoojllfijfjmoaaDoor
open Go
end Go.Proofs.YtoojllfijfjmoaaDoor

/- math/bits.LeadingZeros32: the kit's own text for it, turned to this claim by its template. No condition. -/
namespace Go.Proofs.YtoojllfijfjmoaaDoor
open Go
end Go.Proofs.YtoojllfijfjmoaaDoor
