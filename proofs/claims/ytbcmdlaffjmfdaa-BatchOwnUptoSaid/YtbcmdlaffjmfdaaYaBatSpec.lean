/-
  Batch: what is known.
-/
import Derived.Test.YtbcmdlaffjmfdaaYaCmpL
import Derived.Test.YtbcmdlaffjmfdaaRows
import Derived.Test.YtbcmdlaffjmfdaaYbI
import Derived.Test.YtbcmdlaffjmfdaaYbK
namespace Go.Proofs.Ytbcmdlaffjmfdaa.Ya
open Go.Ya
set_option linter.unusedVariables false
set_option linter.unusedSimpArgs false
set_option maxRecDepth 100000
set_option maxHeartbeats 4000000

theorem lives : (acallF (cmpK 67) tab 300 (.fn 8) [] emptyHeap).map (·.1) = some (.bool true) := by kernel_rfl
def X1 : Known := orK (cmpK 67) (orK (knownBare [(8, [], .bool true)]) (orK (leftK 20) (spoilK 31)))
theorem kbOk : XOk Try.prog (knownBare [(8, [], .bool true)]) := knownBare_ok cmpX conv mixed (by
  intro x hx
  simp only [List.mem_singleton] at hx
  subst hx
  exact ⟨rfl, rfl, 300, by dsimp only; rw [← acallF_eq]; exact lives⟩)
theorem lkOk : XOk Try.prog (leftK 20) := leftK_ok conv mixed (f := 20) (fS := 16) (by kernel_rfl) (by kernel_rfl)
theorem skOk : XOk Try.prog (spoilK 31) := spoilK_ok conv mixed (f := 31) (by kernel_rfl)
theorem x1ok : XOk Try.prog X1 := cmpX.or (kbOk.or (lkOk.or skOk))
theorem lives8 (h : Heap) : xcall X1 tab (.fn 8) [] h = some (.bool true, h) := ofRun (n := 1) (by kernel_rfl)
theorem hkLeft : ∀ args h r, leftK 20 20 args h = some r → X1 20 args h = some r := fun args h r e => by
  show (match leftK 20 20 args h with | some r => some r | none => spoilK 31 20 args h) = some r
  rw [e]
theorem hkSpoil : ∀ args h r, spoilK 31 31 args h = some r → X1 31 args h = some r := fun args h r e => by
  show (match leftK 20 31 args h with | some r => some r | none => spoilK 31 31 args h) = some r
  have : leftK 20 31 args h = none := by simp [leftK]
  rw [this]; exact e
end Go.Proofs.Ytbcmdlaffjmfdaa.Ya
