/-
  The law BatchOwn: for every input it answers true, and each argument reads as it read before. Where what it reads is of bulk at most 1048576.
-/
import Derived.Test.YtbcmdlaffjmfdaaRows
import Derived.WalkKit
import Derived.ProofKit
import Derived.OpenShut
import Derived.JoinedCond
import Derived.Test.YtbcmdlaffjmfdaaYaBatQ
import Derived.Test.YtbcmdlaffjmfdaaYbL
namespace Go.Proofs.Ytbcmdlaffjmfdaa.BatchOwn
open Go.ChangeShapes Go.WideShapes Go.ChangeAt Go.RowKit
set_option linter.unusedVariables false
set_option maxRecDepth 100000

theorem own : ownKnob Try.prog.godebug = none := by kernel_rfl

theorem said (H : Type) : ∀ ds : List (DataW H), ds.length = Try.f7.params.toList.length → (Rows.batchOwnSpec.fn H ds).results = [.lit (.bool true)] ∧ (Rows.batchOwnSpec.fn H ds).args = ds ∧ (Rows.batchOwnSpec.fn H ds).vars = [] := by
  intro ds h
  rw [Try.params7] at h
  match ds, h with
  | [d0, d1, d2], _ => exact ⟨rfl, rfl, rfl⟩

mutual
theorem bulk_eq {H : Type} : ∀ d : DataW H, Rows.uptoBulk d = Go.Ya.bulk d
  | .lit (.string _) => rfl
  | .lit (.bool _) => rfl
  | .lit (.int ..) => rfl
  | .lit (.float ..) => rfl
  | .lit .nil => rfl
  | .nil => rfl
  | .ptr d => by simp [Rows.uptoBulk, Go.Ya.bulk, bulk_eq d]
  | .slice elems spare => by simp [Rows.uptoBulk, Go.Ya.bulk, bulks_eq elems, bulks_eq spare]
  | .agg parts => by simp [Rows.uptoBulk, Go.Ya.bulk, bulks_eq parts]
  | .iface _ d => by simp [Rows.uptoBulk, Go.Ya.bulk, bulk_eq d]
  | .map entries => by simp [Rows.uptoBulk, Go.Ya.bulk, bulkEs_eq entries]
  | .held _ => rfl
theorem bulks_eq {H : Type} : ∀ ds : List (DataW H), Rows.uptoBulkAll ds = Go.Ya.bulks ds
  | [] => rfl
  | d :: r => by simp [Rows.uptoBulkAll, Go.Ya.bulks, bulk_eq d, bulks_eq r]
theorem bulkEs_eq {H : Type} : ∀ es : List (Lit × DataW H), Rows.uptoBulkEntries es = Go.Ya.bulkEs es
  | [] => rfl
  | x :: r => by simp [Rows.uptoBulkEntries, Go.Ya.bulkEs, bulkE_eq x, bulkEs_eq r]
theorem bulkE_eq {H : Type} : ∀ x : Lit × DataW H, Rows.uptoBulkEntry x = Go.Ya.bulkE x
  | (.string _, d) => by simp [Rows.uptoBulkEntry, Go.Ya.bulkE, bulk_eq d]
  | (.bool _, d) => by simp [Rows.uptoBulkEntry, Go.Ya.bulkE, bulk_eq d]
  | (.int .., d) => by simp [Rows.uptoBulkEntry, Go.Ya.bulkE, bulk_eq d]
  | (.float .., d) => by simp [Rows.uptoBulkEntry, Go.Ya.bulkE, bulk_eq d]
  | (.nil, d) => by simp [Rows.uptoBulkEntry, Go.Ya.bulkE, bulk_eq d]
end

theorem lifted (os : Os) (started : os.Started) (H : Type) (enc : TypeId × Value → H) (F : Stop.Interp) :
    ReturnsInHanded {} Try.checked os 7 .any ((Rows.OpenSpec.upto Rows.batchOwnSpec).pre6 enc Try.prog Try.f7 Rows.batchOwnUptoRow.domain false) (((Rows.OpenSpec.upto Rows.batchOwnSpec).at F).post enc Try.prog Try.f7 false true false false) := by
  refine returnsInHanded_of_cond (C := Try.checked) (s := Rows.OpenSpec.upto Rows.batchOwnSpec) (k := Rows.uptoSmall) rfl own started (by kernel_rfl) Try.func7
    (OpenSpec.witness (enc := enc) (C := Try.checked) (s := Rows.OpenSpec.upto Rows.batchOwnSpec) (k := Rows.uptoSmall) rfl false ⟨#[], #[.slice none 0 0, .slice none 0 0, .int .u8 0], []⟩ 8 (by kernel_rfl) (by kernel_rfl) (by kernel_rfl)
      (x := ([.nil, .nil, .lit (.int .u8 0)], [], [])) (by kernel_rfl) rfl (by kernel_rfl)) ?_
  intro W base args ds gs before hval hW _ hk _
  have hb : Rows.uptoBulkAll (ds ++ gs) ≤ 1048576 := of_decide_eq_true hk
  rw [bulks_eq] at hb
  have hb : Go.Ya.bulks ds ≤ 1048576 := Nat.le_trans (Go.Ya.bulks_le ds gs) hb
  exact Go.Ya.contract2 (P := Try.prog) Ya.x1ok Ya.conv Ya.mixed Ya.laid 1048576 5 (List.all_eq_true.1 (by kernel_rfl : Try.f7.params.toList.all (fun t => Go.Ya.inTy Try.prog 5 t && Try.prog.readableRec t && decide (t < Try.prog.types.size)) = true)) (by kernel_rfl : Try.f7.resultTypes = #[4]) Try.underlying4 rfl (said H) (Ya.run_Own 1048576 (Nat.le_refl _)) hval hW hb

theorem proved : Rows.BatchOwnUptoSaid :=
  OpenClaim.holds_of_cond 7 Try.f7 rfl rfl rfl rfl rfl rfl rfl ⟨rfl, rfl, rfl, rfl, rfl⟩ rfl rfl rfl rfl rfl (by kernel_rfl) Try.func7 (by kernel_rfl)
    (of_decide_eq_true (by kernel_rfl)) (by unfold Func.isWrapper; first | (rw [if_pos (by decide +kernel)]; kernel_rfl) | (rw [if_neg (by decide +kernel)]; exact ⟨rfl, rfl⟩))
    (fun os started H enc _ F => lifted os started H enc F)
end Go.Proofs.Ytbcmdlaffjmfdaa.BatchOwn
