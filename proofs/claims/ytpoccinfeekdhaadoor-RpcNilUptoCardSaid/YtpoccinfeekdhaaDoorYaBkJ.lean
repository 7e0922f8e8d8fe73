/-
  Replies: the law BackBack walked.
-/
import Derived.Test.YtpoccinfeekdhaaDoorYaBkI
import Derived.Test.YtpoccinfeekdhaaDoorYbL
namespace Go.Proofs.YtpoccinfeekdhaaDoor.Ya.B
open Go.Ya Go.Ya.Na
set_option linter.unusedVariables false
set_option linter.unusedSimpArgs false
set_option maxRecDepth 100000
set_option maxHeartbeats 8000000
theorem beL_by (n : Int) : ∀ k, Bytes (beL n k)
  | 0 => fun c h => by cases h
  | k + 1 => fun c h => by
    rcases List.mem_cons.1 h with rfl | h
    · unfold beB; omega
    · exact beL_by n k c h
theorem encB_by {xs : List Int} (h : Bytes xs) : Bytes (encB xs) := fun c hc => by
  unfold encB at hc
  rcases List.mem_append.1 hc with hc | hc
  · rcases List.mem_append.1 hc with hc | hc
    · exact beL_by _ _ c hc
    · exact h c hc
  · rw [List.mem_replicate] at hc
    omega
theorem bytes_app {a b : List Int} (ha : Bytes a) (hb : Bytes b) : Bytes (a ++ b) := fun c hc => (List.mem_append.1 hc).elim (ha c) (hb c)
end Go.Proofs.YtpoccinfeekdhaaDoor.Ya.B
