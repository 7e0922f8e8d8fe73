/-
  Lines: what is known.
-/
import Derived.Test.YtpoccinfeekdhaaDoorYaTab
import Derived.Test.YtpoccinfeekdhaaDoorYbL
import Derived.Test.YtpoccinfeekdhaaDoorYaUtfD
import Derived.Test.YtpoccinfeekdhaaDoorYaLay
import Derived.Test.YtpoccinfeekdhaaDoorYbI
import Derived.Test.YtpoccinfeekdhaaDoorYbK
import Derived.Test.YtpoccinfeekdhaaDoorYbH
namespace Go.Proofs.YtpoccinfeekdhaaDoor.Ya
open Go.Ya
set_option linter.unusedVariables false
set_option linter.unusedSimpArgs false
set_option maxRecDepth 100000
set_option maxHeartbeats 4000000
theorem decX : XOk Tryd.prog (decK 74) := decK_ok Tryd.lays197 (by kernel_rfl) (by kernel_rfl) rfl
theorem lives : (acallF (decK 74) tab 300 (.fn 7) [] emptyHeap).map (·.1) = some (.bool true) := by kernel_rfl
def X1 : Known := orK (decK 74) (knownBare [(7, [], .bool true)])
theorem kbOk : XOk Tryd.prog (knownBare [(7, [], .bool true)]) := knownBare_ok decX conv mixed (by
  intro x hx
  simp only [List.mem_singleton] at hx
  subst hx
  exact ⟨rfl, rfl, 300, by dsimp only; rw [← acallF_eq]; exact lives⟩)
theorem x1ok : XOk Tryd.prog X1 := decX.or kbOk
theorem lives8 (h : Heap) : xcall X1 tab (.fn 7) [] h = some (.bool true, h) := ofRun (n := 1) (by kernel_rfl)
theorem lives_r (h : Heap) : Runs (xcall X1 tab (.fn 7) [] h) fun v h' => v = .bool true ∧ h = h' := Runs.eq (lives8 h)
end Go.Proofs.YtpoccinfeekdhaaDoor.Ya
