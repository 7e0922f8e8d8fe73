/-
  Go's library, walked.
-/
import Derived.Test.YtcfmccafbknleaaDoorYaCaSpec
import Derived.Test.YtcfmccafbknleaaDoorYbL
import Derived.Test.YtcfmccafbknleaaDoorYbJ
import Derived.Test.YtcfmccafbknleaaDoorYbK
import Derived.Test.YtcfmccafbknleaaDoorYbK
namespace Go.Proofs.YtcfmccafbknleaaDoor.Ya
open Go.Ya
set_option linter.unusedVariables false
set_option linter.unusedSimpArgs false
set_option maxRecDepth 100000
set_option maxHeartbeats 8000000
end Go.Proofs.YtcfmccafbknleaaDoor.Ya
