/-
  Net, laws NetNil and NetFull: the runs.
-/
import Derived.Test.YtdgpjefbdocepaaYaTab
import Derived.Test.YtdgpjefbdocepaaRows
import Derived.Test.YtdgpjefbdocepaaYaArgs
namespace Go.Proofs.Ytdgpjefbdocepaa.Ya
open Go.Ya
set_option linter.unusedVariables false
def noX : Known := fun _ _ _ => none
set_option maxRecDepth 100000 in
theorem lives : (acall noX tab 200 (.fn 10) [] emptyHeap).map (·.1) = some (.bool true) := by kernel_rfl

def X1 : Known := knownBare [(10, [], .bool true)]
theorem x1ok : XOk Try.prog X1 := knownBare_ok (XOk.none _) conv mixed (by
  intro x hx
  simp only [List.mem_singleton] at hx
  subst hx
  exact ⟨rfl, rfl, 200, lives⟩)

theorem run5 (N : Nat) : ∀ h xs, argsT Try.prog N h 5 Try.f5.params.toList xs → argsX Try.prog N 5 Try.f5.params.toList emptyHeap xs h →
    ∃ n h', acall X1 tab n (.fn 5) xs h = some (.bool true, h') ∨ (AV.bares xs = true ∧ acall X1 tab n (.fn 5) xs emptyHeap = some (.bool true, h')) := by
  intro h xs _ hx
  rw [Try.params5] at hx
  obtain ⟨m, _, h1, rfl, hm, hx⟩ := argsX_cons hx
  obtain ⟨k, _, h2, rfl, hk, hx⟩ := argsX_cons hx
  obtain ⟨z, _, h3, rfl, hz, hx⟩ := argsX_cons hx
  obtain ⟨rfl, rfl⟩ := argsX_nil hx
  obtain ⟨k, rfl, wk, rfl⟩ := argX_int Try.underlying3 hk
  obtain ⟨z, rfl, rfl⟩ := argX_bool Try.underlying4 hz
  obtain ⟨l, hl, rfl⟩ := argX_struct Try.underlying28 hm
  obtain ⟨c1, _, h4, rfl, e1, hl⟩ := listX_cons hl
  obtain ⟨c2, _, h5, rfl, e2, hl⟩ := listX_cons hl
  obtain ⟨c3, _, h6, rfl, e3, hl⟩ := listX_cons hl
  obtain ⟨rfl, rfl⟩ := listX_nil hl
  obtain ⟨n1, rfl, w1, rfl⟩ := cellsX_int Try.underlying3 e1
  obtain ⟨b, rfl, rfl⟩ := cellsX_bool Try.underlying4 e2
  rcases cellsX_slice Try.underlying26 e3 with ⟨rfl, rfl⟩ | ⟨len, ys, h1, e4, _, _, rfl, rfl⟩
  · cases z
    · exact ran 200 (by kernel_rfl)
    · exact ran 200 (by kernel_rfl)
  · obtain ⟨rfl, l, _, _, e5⟩ := listX_ints Try.underlying5 e4
    cases z
    · exact ran 200 (by kernel_rfl)
    · exact ran 200 (by kernel_rfl)
end Go.Proofs.Ytdgpjefbdocepaa.Ya
