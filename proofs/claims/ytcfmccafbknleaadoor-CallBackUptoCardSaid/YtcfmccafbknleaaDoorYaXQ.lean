/-
  The document's reader.
-/
import Derived.Test.YtcfmccafbknleaaDoorYaXD
import Derived.Test.YtcfmccafbknleaaDoorYbL
import Derived.Test.YtcfmccafbknleaaDoorYaLStd
namespace Go.Proofs.YtcfmccafbknleaaDoor.Ya
open Go.Ya
set_option linter.unusedVariables false
set_option linter.unusedSimpArgs false
set_option maxRecDepth 100000
set_option maxHeartbeats 8000000
def Qdr (H : Heap) (p : Nat) (s : List Int × Int) : Prop := ∃ v all a, H.get p = some (.cells [v, .int .i64 (a : Nat), .int .i64 s.2] false) ∧ BytesAt H v all ∧ own v ≤ p ∧ Bytes all ∧ a ≤ all.length ∧ all.length ≤ 1000000000 ∧ s.1 = all.drop a
theorem Qdr.opn {H : Heap} {p : Nat} {l : List Int} {e : Int} (f : Qdr H p (l, e)) : ∃ v all a, H.get p = some (.cells [v, .int .i64 (a : Nat), .int .i64 e] false) ∧ BytesAt H v all ∧ own v ≤ p ∧ Bytes all ∧ a ≤ all.length ∧ all.length ≤ 1000000000 ∧ l = all.drop a := f
theorem Qdr.mk {H : Heap} {p : Nat} {v : AV} {all : List Int} {a : Nat} {e : Int} (h1 : H.get p = some (.cells [v, .int .i64 (a : Nat), .int .i64 e] false)) (h2 : BytesAt H v all) (h3 : own v ≤ p) (h4 : Bytes all) (h5 : a ≤ all.length) (h6 : all.length ≤ 1000000000) {l : List Int} (h7 : l = all.drop a) : Qdr H p (l, e) := ⟨v, all, a, h1, h2, h3, h4, h5, h6, h7⟩
theorem Qdr.grow {H H' : Heap} {p : Nat} {s : List Int × Int} (f : Qdr H p s) (g : Grow H H') : Qdr H' p s := by
  obtain ⟨v, all, a, h1, h2, h3⟩ := f
  exact ⟨v, all, a, g.get h1, h2.grow g, h3⟩
theorem Qdr.pok {H H' : Heap} {p q : Nat} {s : List Int × Int} (f : Qdr H p s) (k : Pok q H H') (hq : p < q) : Qdr H' p s := by
  obtain ⟨v, all, a, h1, h2, h3, h4⟩ := f
  exact ⟨v, all, a, (k.2 p (Heap.lt_of_get h1) qo).trans h1, BytesAt.pok h2 k qo, h3, h4⟩
theorem Qdr.lt {H : Heap} {p : Nat} {s : List Int × Int} (f : Qdr H p s) : p < H.next := by
  obtain ⟨v, all, a, h1, _⟩ := f
  exact Heap.lt_of_get h1
end Go.Proofs.YtcfmccafbknleaaDoor.Ya
