/-
  Replies: the document's Get.
-/
import Derived.Test.YtpoccinfeekdhaaDoorYaBkE
import Derived.Test.YtpoccinfeekdhaaDoorYbL
namespace Go.Proofs.YtpoccinfeekdhaaDoor.Ya.B
open Go.Ya Go.Ya.Na
set_option linter.unusedVariables false
set_option linter.unusedSimpArgs false
set_option maxRecDepth 100000
set_option maxHeartbeats 8000000
theorem own_le {h : Heap} {v : AV} {bs : List Int} (hb : BytesAt h v bs) : own v ≤ h.next := by
  rcases hb with ⟨rfl, _⟩ | ⟨id, off, cap, ex, c, ro, rfl, e2, e3, e4⟩
  · exact Nat.zero_le _
  · exact Heap.lt_of_get e3
end Go.Proofs.YtpoccinfeekdhaaDoor.Ya.B
