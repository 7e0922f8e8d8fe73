/-
  strings.Compare in this program.
-/
import Derived.Test.YtbcmdlaffjmfdaaYaTab
import Derived.Test.YtbcmdlaffjmfdaaYbM
namespace Go.Proofs.Ytbcmdlaffjmfdaa.Ya
open Go.Ya
set_option maxRecDepth 100000
def rho : Go.Shelf.Ren := { f := fun n => if n = 213 then 67 else if n = 265 then 71 else 0, t := fun n => n, g := fun n => n }
theorem lays213 : Go.Proofs.Lays.n213 Try.prog rho where
  mixed := mixed
  f213 := by kernel_rfl
  f265 := by kernel_rfl
  t3 := by kernel_rfl
  a3 := fun w => by kernel_rfl
  z3 := fun w => by kernel_rfl
  v3 := fun w => by kernel_rfl
  t9 := by kernel_rfl
  a9 := fun w => by kernel_rfl
  z9 := fun w => by kernel_rfl
  v9 := fun w => by kernel_rfl
theorem cmpX : XOk Try.prog (cmpK 67) := cmpK_ok lays213 (by kernel_rfl)
end Go.Proofs.Ytbcmdlaffjmfdaa.Ya
