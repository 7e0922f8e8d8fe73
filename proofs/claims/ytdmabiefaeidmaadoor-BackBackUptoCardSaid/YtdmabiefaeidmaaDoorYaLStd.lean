/-
  Go's library, walked.
-/
import Derived.Test.YtdmabiefaeidmaaDoorYaBkSpec
import Derived.Test.YtdmabiefaeidmaaDoorYbL
import Derived.Test.YtdmabiefaeidmaaDoorYbJ
import Derived.Test.YtdmabiefaeidmaaDoorYbK
import Derived.Test.YtdmabiefaeidmaaDoorYbK
namespace Go.Proofs.YtdmabiefaeidmaaDoor.Ya
open Go.Ya
set_option linter.unusedVariables false
set_option linter.unusedSimpArgs false
set_option maxRecDepth 100000
set_option maxHeartbeats 8000000
theorem f0_Copy {v : AV} {bs : List Int} {h : Heap} (hb : BytesAt h v bs) (hl : bs.length ≤ 140737488355328) : Runs (xcall X1 tab (.fn 22) [v] h) fun v' h' => Grow h h' ∧ FreshBytes h h' v' bs := by
  obtain ⟨v', h', e, g, n⟩ := copy_spec (X := X1) (SP := tab) (f := 22) (fun _ _ => rfl) (show tab 22 = some copyS from rfl) hb hl
  exact ⟨v', h', e, g, n⟩
theorem f0_Same {a b : AV} {x y : List Int} {h : Heap} (ha : BytesAt h a x) (hb : BytesAt h b y) : Runs (xcall X1 tab (.fn 16) [a, b] h) fun v' h' => v' = .bool (x == y) ∧ h = h' := Runs.eq (same_spec (X := X1) (SP := tab) (f := 16) (fun _ _ => rfl) (show tab 16 = some sameS from rfl) ha hb)
end Go.Proofs.YtdmabiefaeidmaaDoor.Ya
