/- limb.Text. Printed by pv/gen_text.py. No condition. -/
import Derived.Test.YtbdngknpngcojaaDoorM25
import Derived.Test.YtbdngknpngcojaaDoorM15
import Derived.Test.YtbdngknpngcojaaDoorM3
import Derived.Test.YtbdngknpngcojaaDoorM6

namespace Go.Proofs.YtbdngknpngcojaaDoor.W
open Go.RowKit Anv Go.Lib
end Go.Proofs.YtbdngknpngcojaaDoor.W
