/-
  Go's library, walked.
-/
import Derived.Test.YtpoccinfeekdhaaDoorYaRpSpec
import Derived.Test.YtpoccinfeekdhaaDoorYbL
import Derived.Test.YtpoccinfeekdhaaDoorYbJ
import Derived.Test.YtpoccinfeekdhaaDoorYbK
import Derived.Test.YtpoccinfeekdhaaDoorYbK
namespace Go.Proofs.YtpoccinfeekdhaaDoor.Ya
open Go.Ya
set_option linter.unusedVariables false
set_option linter.unusedSimpArgs false
set_option maxRecDepth 100000
set_option maxHeartbeats 8000000
theorem bytes_Clone {v : AV} {bs : List Int} {h : Heap} (hb : BytesAt h v bs) (hl : bs.length ≤ 140737488355328) : Runs (xcall X1 tab (.fn 15) [v] h) fun v' h' => Grow h h' ∧ NewBytes h h' v' bs ∧ (v = .nilsl ↔ v' = .nilsl) := by
  obtain ⟨v', h', e, g, n⟩ := clone_spec (X := X1) (SP := tab) (f := 15) (fun _ _ => rfl) (show tab 15 = some cloneS from rfl) hb hl
  exact ⟨v', h', e, g, n⟩
end Go.Proofs.YtpoccinfeekdhaaDoor.Ya
