/-
  Calls: what is known.
-/
import Derived.Test.YtcfmccafbknleaaDoorYaTab
import Derived.Test.YtcfmccafbknleaaDoorYbL
import Derived.Test.YtcfmccafbknleaaDoorYaUtfD
import Derived.Test.YtcfmccafbknleaaDoorYaLay
import Derived.Test.YtcfmccafbknleaaDoorYbI
import Derived.Test.YtcfmccafbknleaaDoorYbK
import Derived.Test.YtcfmccafbknleaaDoorYbH
namespace Go.Proofs.YtcfmccafbknleaaDoor.Ya
open Go.Ya
set_option linter.unusedVariables false
set_option linter.unusedSimpArgs false
set_option maxRecDepth 100000
set_option maxHeartbeats 4000000
theorem decX : XOk Tryd.prog (decK 70) := decK_ok Tryd.lays197 (by kernel_rfl) (by kernel_rfl) rfl
theorem lives : (acallF (decK 70) tab 300 (.fn 19) [] emptyHeap).map (·.1) = some (.bool true) := by kernel_rfl
def X1 : Known := orK (decK 70) (orK (knownBare [(19, [], .bool true)]) (leftK 18))
theorem kbOk : XOk Tryd.prog (knownBare [(19, [], .bool true)]) := knownBare_ok decX conv mixed (by
  intro x hx
  simp only [List.mem_singleton] at hx
  subst hx
  exact ⟨rfl, rfl, 300, by dsimp only; rw [← acallF_eq]; exact lives⟩)
theorem lkOk : XOk Tryd.prog (leftK 18) := leftK_ok conv mixed (f := 18) (fS := 13) (by kernel_rfl) (by kernel_rfl)
theorem x1ok : XOk Tryd.prog X1 := decX.or (kbOk.or lkOk)
theorem lives8 (h : Heap) : xcall X1 tab (.fn 19) [] h = some (.bool true, h) := ofRun (n := 1) (by kernel_rfl)
theorem lives_r (h : Heap) : Runs (xcall X1 tab (.fn 19) [] h) fun v h' => v = .bool true ∧ h = h' := Runs.eq (lives8 h)
end Go.Proofs.YtcfmccafbknleaaDoor.Ya
