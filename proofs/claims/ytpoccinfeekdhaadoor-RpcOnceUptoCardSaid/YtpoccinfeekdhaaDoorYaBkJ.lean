/-
  Replies: the law BackBack walked.
-/
import Derived.Test.YtpoccinfeekdhaaDoorYaBkI
import Derived.Test.YtpoccinfeekdhaaDoorYbL
namespace Go.Proofs.YtpoccinfeekdhaaDoor.Ya.B
open Go.Ya Go.Ya.Na
set_option linter.unusedVariables false
set_option linter.unusedSimpArgs false
set_option maxRecDepth 100000
set_option maxHeartbeats 8000000
theorem beL_by (n : Int) : ∀ k, Bytes (beL n k)
  | 0 => fun c h => by cases h
  | k + 1 => fun c h => by
    rcases List.mem_cons.1 h with rfl | h
    · unfold beB; omega
    · exact beL_by n k c h
theorem encB_by {xs : List Int} (h : Bytes xs) : Bytes (encB xs) := fun c hc => by
  unfold encB at hc
  rcases List.mem_append.1 hc with hc | hc
  · rcases List.mem_append.1 hc with hc | hc
    · exact beL_by _ _ c hc
    · exact h c hc
  · rw [List.mem_replicate] at hc
    omega
theorem encP_by {z : Bk} (hd : Bytes z.data) (hn : AllY z.names) : Bytes (encP z) := fun c hc => by
  rw [encP_eq] at hc
  simp only [List.mem_append, List.mem_flatMap] at hc
  rcases hc with hc | hc | hc | hc | hc | hc | hc | hc | hc | hc | hc | hc | hc | ⟨p, hp, hc⟩
  all_goals first | exact beL_by _ _ c hc | exact encB_by hd c hc | exact encB_by (hn _ (by assumption)) c hc
theorem got_enc0 {z : Bk} (ho : BkOk z) (hm : mayB z = true) {d : Hd} (hd : HdOk (encP z) d) : gotE (encP z) d = 0 ∧ gotP (encP z) d = z.en := by
  have hd' : HdOk (encP z ++ []) d := by rw [List.append_nil]; exact hd
  obtain ⟨h1, h2⟩ := got_enc ho hm hd'
  rw [List.append_nil] at h2
  have h3 := h2.2 rfl
  refine ⟨h3, ?_⟩
  unfold gotP
  rw [if_pos h3]; exact h1
theorem bytes_app {a b : List Int} (ha : Bytes a) (hb : Bytes b) : Bytes (a ++ b) := fun c hc => (List.mem_append.1 hc).elim (ha c) (hb c)
end Go.Proofs.YtpoccinfeekdhaaDoor.Ya.B
