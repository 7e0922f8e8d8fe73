/-
  Go's library, walked.
-/
import Derived.Test.YtdmabiefaeidmaaDoorYaBkSpec
import Derived.Test.YtdmabiefaeidmaaDoorYbL
import Derived.Test.YtdmabiefaeidmaaDoorYbJ
import Derived.Test.YtdmabiefaeidmaaDoorYbK
import Derived.Test.YtdmabiefaeidmaaDoorYbK
namespace Go.Proofs.YtdmabiefaeidmaaDoor.Ya
open Go.Ya
set_option linter.unusedVariables false
set_option linter.unusedSimpArgs false
set_option maxRecDepth 100000
set_option maxHeartbeats 8000000
theorem f0_Copy {v : AV} {bs : List Int} {h : Heap} (hb : BytesAt h v bs) (hl : bs.length ≤ 140737488355328) : Runs (xcall X1 tab (.fn 22) [v] h) fun v' h' => Grow h h' ∧ FreshBytes h h' v' bs := by
  obtain ⟨v', h', e, g, n⟩ := copy_spec (X := X1) (SP := tab) (f := 22) (fun _ _ => rfl) (show tab 22 = some copyS from rfl) hb hl
  exact ⟨v', h', e, g, n⟩
theorem f0_Same {a b : AV} {x y : List Int} {h : Heap} (ha : BytesAt h a x) (hb : BytesAt h b y) : Runs (xcall X1 tab (.fn 16) [a, b] h) fun v' h' => v' = .bool (x == y) ∧ h = h' := Runs.eq (same_spec (X := X1) (SP := tab) (f := 16) (fun _ _ => rfl) (show tab 16 = some sameS from rfl) ha hb)
theorem f0_Wide {v : AV} {bs : List Int} {h : Heap} (hb : BytesAt h v bs) (hl : bs.length + 3 ≤ 140737488355328) : Runs (xcall X1 tab (.fn 10) [v] h) fun v' h' => Grow h h' ∧ ∃ w, v' = .slice w 0 bs.length (bs.length + 3) false 1 ∧ h.next ≤ w ∧ w < h'.next ∧ WideAt h' w bs := by
  obtain ⟨w, h', e, g, e1, e2, e3⟩ := wide_spec (X := X1) (SP := tab) (f := 10) (fC := 22) (fun _ _ => rfl) (fun _ _ => rfl) (show tab 10 = some (wideS 22) from rfl) (show tab 22 = some copyS from rfl) hb hl
  exact ⟨_, h', e, g, w, rfl, e1, Heap.lt_of_get e2, e2, e3⟩
theorem f0_Left {h : Heap} {w : Nat} {bs : List Int} {v : AV} (hw : WideAt h w bs) (hb : BytesAt h v bs) : Runs (xcall X1 tab (.fn 20) [.slice w 0 bs.length (bs.length + 3) false 1, v] h) fun v' h' => v' = .bool true ∧ h = h' := Runs.eq (left_wide hkLeft hw hb)
end Go.Proofs.YtdmabiefaeidmaaDoor.Ya
