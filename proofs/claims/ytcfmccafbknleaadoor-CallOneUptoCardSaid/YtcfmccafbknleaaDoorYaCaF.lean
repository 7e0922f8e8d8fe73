/-
  Calls: the document.
-/
import Derived.Test.YtcfmccafbknleaaDoorYaCaE
import Derived.Test.YtcfmccafbknleaaDoorYbL
namespace Go.Proofs.YtcfmccafbknleaaDoor.Ya
open Go.Ya Go.Ya.Na
set_option linter.unusedVariables false
set_option linter.unusedSimpArgs false
set_option maxRecDepth 100000
set_option maxHeartbeats 8000000
end Go.Proofs.YtcfmccafbknleaaDoor.Ya
