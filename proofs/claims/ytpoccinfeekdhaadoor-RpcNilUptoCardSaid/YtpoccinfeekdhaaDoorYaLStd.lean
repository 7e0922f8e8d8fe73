/-
  Go's library, walked.
-/
import Derived.Test.YtpoccinfeekdhaaDoorYaRpSpec
import Derived.Test.YtpoccinfeekdhaaDoorYbL
import Derived.Test.YtpoccinfeekdhaaDoorYbJ
import Derived.Test.YtpoccinfeekdhaaDoorYbK
import Derived.Test.YtpoccinfeekdhaaDoorYbK
namespace Go.Proofs.YtpoccinfeekdhaaDoor.Ya
open Go.Ya
set_option linter.unusedVariables false
set_option linter.unusedSimpArgs false
set_option maxRecDepth 100000
set_option maxHeartbeats 8000000
end Go.Proofs.YtpoccinfeekdhaaDoor.Ya
