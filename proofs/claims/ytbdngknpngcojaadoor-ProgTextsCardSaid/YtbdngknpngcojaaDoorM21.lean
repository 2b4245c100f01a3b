/- math/bits.Len32: the kit's own text for it, turned to this claim by its template. No condition. -/
import Derived.Test.YtbdngknpngcojaaDoorRows
import Derived.Lib.Strings
import Derived.Lib.Slices
import Derived.Lib.Small
import Derived.Lib.Walk
import Derived.Lib.BitFns

namespace Go.Proofs.YtbdngknpngcojaaDoor
open Go
end Go.Proofs.YtbdngknpngcojaaDoor

/- math/bits.LeadingZeros32: the kit's own text for it, turned to this claim by its template. No condition. -/
namespace Go.Proofs.YtbdngknpngcojaaDoor
open Go
end Go.Proofs.YtbdngknpngcojaaDoor
