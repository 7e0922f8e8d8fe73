/-
  Replies: their bytes.
-/
import Derived.Test.YtpoccinfeekdhaaDoorYaBkB
import Derived.Test.YtpoccinfeekdhaaDoorYbL
namespace Go.Proofs.YtpoccinfeekdhaaDoor.Ya.B
open Go.Ya Go.Ya.Na
set_option linter.unusedVariables false
set_option linter.unusedSimpArgs false
set_option maxRecDepth 100000
set_option maxHeartbeats 8000000
def enc4 (l : List Int) (i : Nat) : List Int := (l.take i).flatMap fun n => beL n 4
def encA (z : Bk) : List Int := [] ++ beL z.client 4 ++ beL z.inc 4 ++ beL z.seq 8
def encC (z : Bk) : List Int := encA z ++ enc4 [z.status, z.boot, z.ino, z.gen] 4 ++ beL (if z.dir = true then 1 else 0) 4 ++ beL z.size 4 ++ beL z.change 8 ++ beL z.before 8 ++ encB z.data ++ beL z.names.length 4
theorem may_bd {z : Bk} (h : mayB z = true) : z.data.length ≤ 64 ∧ z.names.length ≤ 32 ∧ ∀ i, i < z.names.length → (z.names.getD i default).length ≤ 32 := by
  unfold mayB at h
  rw [Bool.and_eq_true, decide_eq_true_eq] at h
  refine ⟨h.1.2.2.2.2.2.1, h.1.2.2.2.2.2.2, fun i hi => ?_⟩
  have := h.2
  unfold mayN at this
  rw [List.all_eq_true] at this
  have := this i (List.mem_range.2 hi)
  unfold okN at this
  rw [Bool.and_eq_true] at this
  exact (isP_len this.1).2
theorem t9 : tab 9 = some ⟨100, [.tmp 2, .tmp 3], b9⟩ := rfl
end Go.Proofs.YtpoccinfeekdhaaDoor.Ya.B
