/-
  The law BatchLeads: for every input it answers true, and each argument reads as it read before.
-/
import Derived.Test.YtbcmdlaffjmfdaaRows
import Derived.WalkKit
import Derived.ProofKit
import Derived.OpenShut
import Derived.JoinedCond
import Derived.Test.YtbcmdlaffjmfdaaYaBatP
import Derived.Test.YtbcmdlaffjmfdaaYbL
namespace Go.Proofs.Ytbcmdlaffjmfdaa.BatchLeads
open Go.ChangeShapes Go.WideShapes Go.ChangeAt Go.RowKit
set_option linter.unusedVariables false
set_option maxRecDepth 100000

theorem own : ownKnob Try.prog.godebug = none := by kernel_rfl

theorem said (H : Type) : ∀ ds : List (DataW H), ds.length = Try.f6.params.toList.length → (Rows.batchLeadsSpec.fn H ds).results = [.lit (.bool true)] ∧ (Rows.batchLeadsSpec.fn H ds).args = ds ∧ (Rows.batchLeadsSpec.fn H ds).vars = [] := by
  intro ds h
  rw [Try.params6] at h
  match ds, h with
  | [d0, d1, d2, d3], _ => exact ⟨rfl, rfl, rfl⟩

theorem lifted (os : Os) (started : os.Started) (H : Type) (enc : TypeId × Value → H) :
    ReturnsInHanded {} Try.checked os 6 .any (Rows.batchLeadsSpec.pre6 enc Try.prog Try.f6 Rows.batchLeadsRow.domain false) (Rows.batchLeadsSpec.post enc Try.prog Try.f6 false true false false) := by
  refine returnsInHanded_of_change (C := Try.checked) own started (by kernel_rfl) Try.func6
    (ChangeSpec.witness6 (enc := enc) (C := Try.checked) false ⟨#[], #[.slice none 0 0, .slice none 0 0, .slice none 0 0, .int .u8 0], []⟩ 8 (by kernel_rfl) (by kernel_rfl) (by kernel_rfl) (by kernel_rfl)) ?_
  intro W base args ds gs before hval hW _ _
  exact Go.Ya.contract2 (P := Try.prog) Ya.x1ok Ya.conv Ya.mixed Ya.laid (Go.Ya.bulks ds) 5 (List.all_eq_true.1 (by kernel_rfl : Try.f6.params.toList.all (fun t => Go.Ya.inTy Try.prog 5 t && Try.prog.readableRec t && decide (t < Try.prog.types.size)) = true)) (by kernel_rfl : Try.f6.resultTypes = #[4]) Try.underlying4 rfl (said H) (Ya.run_Leads _) hval hW (Nat.le_refl _)

theorem proved : Rows.BatchLeadsSaid :=
  OpenClaim.holds_of_wide 6 Try.f6 rfl rfl rfl rfl rfl rfl rfl ⟨rfl, rfl, rfl, rfl, rfl⟩ rfl rfl rfl rfl rfl (by kernel_rfl) Try.func6 (by kernel_rfl)
    (of_decide_eq_true (by kernel_rfl)) (by unfold Func.isWrapper; first | (rw [if_pos (by decide +kernel)]; kernel_rfl) | (rw [if_neg (by decide +kernel)]; exact ⟨rfl, rfl⟩))
    (fun os started H enc _ => lifted os started H enc)
end Go.Proofs.Ytbcmdlaffjmfdaa.BatchLeads
