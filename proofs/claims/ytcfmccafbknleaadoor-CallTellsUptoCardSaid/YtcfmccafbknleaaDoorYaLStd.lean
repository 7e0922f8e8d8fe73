/-
  Go's library, walked.
-/
import Derived.Test.YtcfmccafbknleaaDoorYaCaSpec
import Derived.Test.YtcfmccafbknleaaDoorYbL
import Derived.Test.YtcfmccafbknleaaDoorYbJ
import Derived.Test.YtcfmccafbknleaaDoorYbK
import Derived.Test.YtcfmccafbknleaaDoorYbK
namespace Go.Proofs.YtcfmccafbknleaaDoor.Ya
open Go.Ya
set_option linter.unusedVariables false
set_option linter.unusedSimpArgs false
set_option maxRecDepth 100000
set_option maxHeartbeats 8000000
theorem f0_Copy {v : AV} {bs : List Int} {h : Heap} (hb : BytesAt h v bs) (hl : bs.length ≤ 140737488355328) : Runs (xcall X1 tab (.fn 20) [v] h) fun v' h' => Grow h h' ∧ FreshBytes h h' v' bs := by
  obtain ⟨v', h', e, g, n⟩ := copy_spec (X := X1) (SP := tab) (f := 20) (fun _ _ => rfl) (show tab 20 = some copyS from rfl) hb hl
  exact ⟨v', h', e, g, n⟩
theorem f0_Same {a b : AV} {x y : List Int} {h : Heap} (ha : BytesAt h a x) (hb : BytesAt h b y) : Runs (xcall X1 tab (.fn 13) [a, b] h) fun v' h' => v' = .bool (x == y) ∧ h = h' := Runs.eq (same_spec (X := X1) (SP := tab) (f := 13) (fun _ _ => rfl) (show tab 13 = some sameS from rfl) ha hb)
theorem f0_Wide {v : AV} {bs : List Int} {h : Heap} (hb : BytesAt h v bs) (hl : bs.length + 3 ≤ 140737488355328) : Runs (xcall X1 tab (.fn 6) [v] h) fun v' h' => Grow h h' ∧ ∃ w, v' = .slice w 0 bs.length (bs.length + 3) false 1 ∧ h.next ≤ w ∧ w < h'.next ∧ WideAt h' w bs := by
  obtain ⟨w, h', e, g, e1, e2, e3⟩ := wide_spec (X := X1) (SP := tab) (f := 6) (fC := 20) (fun _ _ => rfl) (fun _ _ => rfl) (show tab 6 = some (wideS 20) from rfl) (show tab 20 = some copyS from rfl) hb hl
  exact ⟨_, h', e, g, w, rfl, e1, Heap.lt_of_get e2, e2, e3⟩
theorem f0_Left {h : Heap} {w : Nat} {bs : List Int} {v : AV} (hw : WideAt h w bs) (hb : BytesAt h v bs) : Runs (xcall X1 tab (.fn 18) [.slice w 0 bs.length (bs.length + 3) false 1, v] h) fun v' h' => v' = .bool true ∧ h = h' := Runs.eq (left_wide hkLeft hw hb)
end Go.Proofs.YtcfmccafbknleaaDoor.Ya
