/-
  The law DiskArmed: for every input it answers true, and each argument reads as it read before.
-/
import Derived.Test.YtekbgdmemenheaaRows
import Derived.WalkKit
import Derived.ProofKit
import Derived.OpenShut
import Derived.JoinedCond
import Derived.Test.YtekbgdmemenheaaYaDiE
import Derived.Test.YtekbgdmemenheaaYbL
namespace Go.Proofs.Ytekbgdmemenheaa.DiskArmed
open Go.ChangeShapes Go.WideShapes Go.ChangeAt Go.RowKit
set_option linter.unusedVariables false
set_option maxRecDepth 100000
theorem own : ownKnob Try.prog.godebug = none := by kernel_rfl
theorem said (H : Type) : ∀ ds : List (DataW H), ds.length = Try.f3.params.toList.length → (Rows.diskArmedSpec.fn H ds).results = [.lit (.bool true)] ∧ (Rows.diskArmedSpec.fn H ds).args = ds ∧ (Rows.diskArmedSpec.fn H ds).vars = [] := by
  intro ds h
  rw [Try.params3] at h
  match ds, h with
  | [d0, d1, d2], _ => exact ⟨rfl, rfl, rfl⟩
theorem lifted (os : Os) (started : os.Started) (H : Type) (enc : TypeId × Value → H) :
    ReturnsInHanded {} Try.checked os 3 .any (Rows.diskArmedSpec.pre6 enc Try.prog Try.f3 Rows.diskArmedRow.domain false) (Rows.diskArmedSpec.post enc Try.prog Try.f3 false true false false) := by
  refine returnsInHanded_of_change (C := Try.checked) own started (by kernel_rfl) Try.func3
    (ChangeSpec.witness6 (enc := enc) (C := Try.checked) false ⟨#[], #[.int .u8 0, .int .u8 0, .agg #[.int .u8 0, .int .u8 0, .int .u8 0, .int .u8 0, .int .u8 0, .int .u8 0, .int .u8 0, .int .u8 0, .int .u8 0, .int .u8 0, .int .u8 0, .int .u8 0, .int .u8 0, .int .u8 0, .int .u8 0, .int .u8 0, .int .u8 0, .int .u8 0, .int .u8 0, .int .u8 0, .int .u8 0, .int .u8 0, .int .u8 0, .int .u8 0, .int .u8 0, .int .u8 0, .int .u8 0, .int .u8 0, .int .u8 0, .int .u8 0, .int .u8 0, .int .u8 0, .int .u8 0, .int .u8 0, .int .u8 0, .int .u8 0, .int .u8 0, .int .u8 0, .int .u8 0, .int .u8 0, .int .u8 0, .int .u8 0, .int .u8 0, .int .u8 0, .int .u8 0, .int .u8 0, .int .u8 0, .int .u8 0, .int .u8 0, .int .u8 0, .int .u8 0, .int .u8 0, .int .u8 0, .int .u8 0, .int .u8 0, .int .u8 0, .int .u8 0, .int .u8 0, .int .u8 0, .int .u8 0, .int .u8 0, .int .u8 0, .int .u8 0, .int .u8 0]], []⟩ 8 (by kernel_rfl) (by kernel_rfl) (by kernel_rfl) (by kernel_rfl)) ?_
  intro W base args ds gs before hval hW _ _
  exact Go.Ya.contract2 (P := Try.prog) Ya.x1ok Ya.conv Ya.mixed Ya.laid (Go.Ya.bulks ds) 5 (List.all_eq_true.1 (by kernel_rfl : Try.f3.params.toList.all (fun t => Go.Ya.inTy Try.prog 5 t && Try.prog.readableRec t && decide (t < Try.prog.types.size)) = true)) (by kernel_rfl : Try.f3.resultTypes = #[4]) Try.underlying4 (by kernel_rfl) rfl (said H) (Ya.run_Armed _) hval hW (Nat.le_refl _)
theorem proved : Rows.DiskArmedSaid :=
  OpenClaim.holds_of_wide 3 Try.f3 rfl rfl rfl rfl rfl rfl rfl ⟨rfl, rfl, rfl, rfl, rfl⟩ rfl rfl rfl rfl rfl (by kernel_rfl) Try.func3 (by kernel_rfl)
    (of_decide_eq_true (by kernel_rfl)) (by unfold Func.isWrapper; first | (rw [if_pos (by decide +kernel)]; kernel_rfl) | (rw [if_neg (by decide +kernel)]; exact ⟨rfl, rfl⟩))
    (fun os started H enc _ => lifted os started H enc)
end Go.Proofs.Ytekbgdmemenheaa.DiskArmed
