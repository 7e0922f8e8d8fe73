/-
  Calls: the document's Put and Get.
-/
import Derived.Test.YtcfmccafbknleaaDoorYaCaF
import Derived.Test.YtcfmccafbknleaaDoorYbL
namespace Go.Proofs.YtcfmccafbknleaaDoor.Ya
open Go.Ya Go.Ya.Na
set_option linter.unusedVariables false
set_option linter.unusedSimpArgs false
set_option maxRecDepth 100000
set_option maxHeartbeats 8000000
theorem Qdr.mk0 {H : Heap} {p : Nat} {v : AV} {bs : List Int} (h1 : H.get p = some (.cells [v, .int .i64 0, .int .i64 0] false)) (h2 : BytesAt H v bs) (h3 : own v ≤ p) (h4 : Bytes bs) (h6 : bs.length ≤ 1000000000) : Qdr H p (bs, 0) := ⟨v, bs, 0, h1, h2, h3, h4, Nat.zero_le _, h6, rfl⟩
theorem own_le {h : Heap} {v : AV} {bs : List Int} (hb : BytesAt h v bs) : own v ≤ h.next := by
  rcases hb with ⟨rfl, _⟩ | ⟨id, off, cap, ex, c, ro, rfl, e2, e3, e4⟩
  · exact Nat.zero_le _
  · exact Heap.lt_of_get e3
end Go.Proofs.YtcfmccafbknleaaDoor.Ya
