/-
  Replies: what is known.
-/
import Derived.Test.YtdmabiefaeidmaaDoorYaTab
import Derived.Test.YtdmabiefaeidmaaDoorYbL
import Derived.Test.YtdmabiefaeidmaaDoorYaUtfD
import Derived.Test.YtdmabiefaeidmaaDoorYaLay
import Derived.Test.YtdmabiefaeidmaaDoorYbI
import Derived.Test.YtdmabiefaeidmaaDoorYbK
import Derived.Test.YtdmabiefaeidmaaDoorYbH
namespace Go.Proofs.YtdmabiefaeidmaaDoor.Ya
open Go.Ya
set_option linter.unusedVariables false
set_option linter.unusedSimpArgs false
set_option maxRecDepth 100000
set_option maxHeartbeats 4000000
theorem decX : XOk Tryd.prog (decK 72) := decK_ok Tryd.lays197 (by kernel_rfl) (by kernel_rfl) rfl
theorem lives : (acallF (decK 72) tab 300 (.fn 9) [] emptyHeap).map (·.1) = some (.bool true) := by kernel_rfl
def X1 : Known := orK (decK 72) (orK (knownBare [(9, [], .bool true)]) (orK (leftK 20) (spoilK 7)))
theorem kbOk : XOk Tryd.prog (knownBare [(9, [], .bool true)]) := knownBare_ok decX conv mixed (by
  intro x hx
  simp only [List.mem_singleton] at hx
  subst hx
  exact ⟨rfl, rfl, 300, by dsimp only; rw [← acallF_eq]; exact lives⟩)
theorem lkOk : XOk Tryd.prog (leftK 20) := leftK_ok conv mixed (f := 20) (fS := 16) (by kernel_rfl) (by kernel_rfl)
theorem skOk : XOk Tryd.prog (spoilK 7) := spoilK_ok conv mixed (f := 7) (by kernel_rfl)
theorem x1ok : XOk Tryd.prog X1 := decX.or (kbOk.or (lkOk.or skOk))
theorem lives8 (h : Heap) : xcall X1 tab (.fn 9) [] h = some (.bool true, h) := ofRun (n := 1) (by kernel_rfl)
theorem lives_r (h : Heap) : Runs (xcall X1 tab (.fn 9) [] h) fun v h' => v = .bool true ∧ h = h' := Runs.eq (lives8 h)
end Go.Proofs.YtdmabiefaeidmaaDoor.Ya
