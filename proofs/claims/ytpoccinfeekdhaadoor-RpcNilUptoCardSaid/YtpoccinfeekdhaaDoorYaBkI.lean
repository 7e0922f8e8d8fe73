/-
  Replies: what is laid is told, and back.
-/
import Derived.Test.YtpoccinfeekdhaaDoorYaBkG
import Derived.Test.YtpoccinfeekdhaaDoorYbL
import Derived.Test.YtpoccinfeekdhaaDoorYaXP
namespace Go.Proofs.YtpoccinfeekdhaaDoor.Ya.B
open Go.Ya Go.Ya.Na
set_option linter.unusedVariables false
set_option linter.unusedSimpArgs false
set_option maxRecDepth 100000
set_option maxHeartbeats 8000000
end Go.Proofs.YtpoccinfeekdhaaDoor.Ya.B
