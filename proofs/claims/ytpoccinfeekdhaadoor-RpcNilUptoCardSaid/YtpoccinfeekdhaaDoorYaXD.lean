/-
  The document's writer, and its numbers.
-/
import Derived.Test.YtpoccinfeekdhaaDoorYaXT
import Derived.Test.YtpoccinfeekdhaaDoorYbL
namespace Go.Proofs.YtpoccinfeekdhaaDoor.Ya
open Go.Ya
set_option linter.unusedVariables false
set_option linter.unusedSimpArgs false
set_option maxRecDepth 100000
set_option maxHeartbeats 8000000
end Go.Proofs.YtpoccinfeekdhaaDoor.Ya
