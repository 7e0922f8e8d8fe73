/-
  Names: what is known.
-/
import Derived.Test.YtpdfpbdkiaekpaaDoorYaTab
import Derived.Test.YtpdfpbdkiaekpaaDoorYbL
import Derived.Test.YtpdfpbdkiaekpaaDoorYaUtf
import Derived.Test.YtpdfpbdkiaekpaaDoorYaLay
import Derived.Test.YtpdfpbdkiaekpaaDoorYbI
import Derived.Test.YtpdfpbdkiaekpaaDoorYbK
import Derived.Test.YtpdfpbdkiaekpaaDoorYbH
namespace Go.Proofs.YtpdfpbdkiaekpaaDoor.Ya
open Go.Ya
set_option linter.unusedVariables false
set_option linter.unusedSimpArgs false
set_option maxRecDepth 100000
set_option maxHeartbeats 4000000

theorem bldX : Builder.Extra Tryd.prog Tryd.lays156_ren := { sizeBuilder := by kernel_rfl, liesBuilder := by kernel_rfl, t5 := Tryd.underlying5, a5 := Tryd.isAgg5, z5 := Tryd.sizeOf5, v5 := Tryd.zeroValue5, infoByte := by kernel_rfl, cellsByte := by kernel_rfl, sizeByte := by kernel_rfl, neB5 := by decide }
def XD : Known := orK (decK 28) (orK (cntK 35) (orK (idxK 36) (joinK 27)))
theorem xdOk : XOk Tryd.prog XD := (decK_ok Tryd.lays197 (by kernel_rfl) (by kernel_rfl) rfl).or ((cntK_ok Tryd.lays138 rfl).or ((idxK_ok Tryd.lays143 rfl).or (joinK_ok Tryd.lays156 bldX rfl)))
theorem lives : (acallF XD tab 300 (.fn 11) [] emptyHeap).map (·.1) = some (.bool true) := by kernel_rfl
def X1 : Known := orK (knownBare [(11, [], .bool true)]) XD
theorem kbOk : XOk Tryd.prog (knownBare [(11, [], .bool true)]) := knownBare_ok xdOk conv mixed (by
  intro x hx
  simp only [List.mem_singleton] at hx
  subst hx
  exact ⟨rfl, rfl, 300, by dsimp only; rw [← acallF_eq]; exact lives⟩)
theorem x1ok : XOk Tryd.prog X1 := kbOk.or xdOk
theorem lives8 (h : Heap) : xcall X1 tab (.fn 11) [] h = some (.bool true, h) := ofRun (n := 1) (by kernel_rfl)
end Go.Proofs.YtpdfpbdkiaekpaaDoor.Ya
