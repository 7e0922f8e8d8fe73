/-
  No cell of these rows narrows 'for every input' (looked for: loops, veiled, ifaces, maps, wideKeys, modest, calm, conditions, laid).
  DERIVED. THE GIVEN ROWS OF THIS SEAT. 4 by the template 'for every input the law returns true; each argument reads behind the call as it read before'; 0 by the template 'total and deterministic' (their statements: YtndcokalnpnbgaaTotals.lean).
  GIVEN WITH THE SEED: the statements are not yours to turn. If you find one false, say at which input.
  Laid BY PROGRAM, IN A SANDBOX (cutbox-rows.mjs): the forced cells as the released guide's own fill.sh prints them over the translation 489cc825df189432… (all of the seat's roots in one cut). By AI agents, Wed Nov 11 2026. No macro, syntax, notation, axiom, sorry.
-/
import Derived.Test.YtndcokalnpnbgaaChecked
import GoSem.Claim
import GoSem.ClaimJoined
import GoSem.ClaimMapViews
import Derived.JoinedTies
import Derived.KernelRfl
namespace Go.Proofs.Ytndcokalnpnbgaa
/- THE CELL 'sum', in the pinned program and in every row, IS THE sha256 OF THE DUMP (.gsa) THAT YtndcokalnpnbgaaProg.lean LOADS. Nothing in Lean hashes anything: it is a label: what it is worth is what the hold of that sum in a sandbox is worth. -/
noncomputable def Try.pinned : Pinned := { name := "ytndcokalnpnbgaa", sum := "489cc825df18943292cc747d66a563f2754abac0343b8ee3877e678270d01fd2", checked := Try.checked }
namespace Rows
def none {H : Type} : Left H := { results := [], args := [] }

/-- 'wharfagelaw09.XdrLays': WHATEVER THE INPUT: true; the input reads as it did. -/
def xdrLaysSpec : ChangeSpec := { name := "xdrLays", fn := fun _ => fun
  | [d1, d2] => { results := [.lit (.bool true)], args := [d1, d2] }
  | _ => none }
def xdrLaysRow : OpenClaim := { program := "ytndcokalnpnbgaa", sum := "489cc825df18943292cc747d66a563f2754abac0343b8ee3877e678270d01fd2", func := "wharfage/wharfagelaw09.XdrLays", spec := "xdrLays", unfollowed := true, recurses := true, apart := false }
def XdrLaysSaid : Prop := xdrLaysRow.holds Try.pinned (OpenSpec.ofChange xdrLaysSpec)

/-- ITS FALSE NEIGHBOUR: 'it returns false'. Refute it at one input. -/
def xdrLaysWrong : ChangeSpec := { name := "xdrLays", fn := fun _ => fun
  | [d1, d2] => { results := [.lit (.bool false)], args := [d1, d2] }
  | _ => none }
def XdrLaysWrongFalsely : Prop := xdrLaysRow.holds Try.pinned (OpenSpec.ofChange xdrLaysWrong)

/-- 'wharfagelaw09.XdrTells': WHATEVER THE INPUT: true; the input reads as it did. -/
def xdrTellsSpec : ChangeSpec := { name := "xdrTells", fn := fun _ => fun
  | [d1, d2, d3] => { results := [.lit (.bool true)], args := [d1, d2, d3] }
  | _ => none }
def xdrTellsRow : OpenClaim := { program := "ytndcokalnpnbgaa", sum := "489cc825df18943292cc747d66a563f2754abac0343b8ee3877e678270d01fd2", func := "wharfage/wharfagelaw09.XdrTells", spec := "xdrTells", unfollowed := true, recurses := true, apart := false }
def XdrTellsSaid : Prop := xdrTellsRow.holds Try.pinned (OpenSpec.ofChange xdrTellsSpec)

/-- ITS FALSE NEIGHBOUR: 'it returns false'. Refute it at one input. -/
def xdrTellsWrong : ChangeSpec := { name := "xdrTells", fn := fun _ => fun
  | [d1, d2, d3] => { results := [.lit (.bool false)], args := [d1, d2, d3] }
  | _ => none }
def XdrTellsWrongFalsely : Prop := xdrTellsRow.holds Try.pinned (OpenSpec.ofChange xdrTellsWrong)

/-- 'wharfagelaw09.XdrBack': WHATEVER THE INPUT: true; the input reads as it did. -/
def xdrBackSpec : ChangeSpec := { name := "xdrBack", fn := fun _ => fun
  | [d1, d2] => { results := [.lit (.bool true)], args := [d1, d2] }
  | _ => none }
def xdrBackRow : OpenClaim := { program := "ytndcokalnpnbgaa", sum := "489cc825df18943292cc747d66a563f2754abac0343b8ee3877e678270d01fd2", func := "wharfage/wharfagelaw09.XdrBack", spec := "xdrBack", unfollowed := true, recurses := true, apart := false }
def XdrBackSaid : Prop := xdrBackRow.holds Try.pinned (OpenSpec.ofChange xdrBackSpec)

/-- ITS FALSE NEIGHBOUR: 'it returns false'. Refute it at one input. -/
def xdrBackWrong : ChangeSpec := { name := "xdrBack", fn := fun _ => fun
  | [d1, d2] => { results := [.lit (.bool false)], args := [d1, d2] }
  | _ => none }
def XdrBackWrongFalsely : Prop := xdrBackRow.holds Try.pinned (OpenSpec.ofChange xdrBackWrong)

/-- 'wharfagelaw09.XdrNil': WHATEVER THE INPUT: true; the input reads as it did. -/
def xdrNilSpec : ChangeSpec := { name := "xdrNil", fn := fun _ => fun
  | [d1, d2] => { results := [.lit (.bool true)], args := [d1, d2] }
  | _ => none }
def xdrNilRow : OpenClaim := { program := "ytndcokalnpnbgaa", sum := "489cc825df18943292cc747d66a563f2754abac0343b8ee3877e678270d01fd2", func := "wharfage/wharfagelaw09.XdrNil", spec := "xdrNil", unfollowed := true, recurses := true, apart := false }
def XdrNilSaid : Prop := xdrNilRow.holds Try.pinned (OpenSpec.ofChange xdrNilSpec)

/-- ITS FALSE NEIGHBOUR: 'it returns false'. Refute it at one input. -/
def xdrNilWrong : ChangeSpec := { name := "xdrNil", fn := fun _ => fun
  | [d1, d2] => { results := [.lit (.bool false)], args := [d1, d2] }
  | _ => none }
def XdrNilWrongFalsely : Prop := xdrNilRow.holds Try.pinned (OpenSpec.ofChange xdrNilWrong)

/- THE SECOND FORM. 'bulk': how many values and letters a reading holds, each counted each time it is reached (what is shared counts as often as it is met; a slice's spare places count too). A statement '..UptoSaid' is the law's where the arguments, and the package variables that the reading takes, are together of bulk at most 1048576: NARROWER than '..Said'. Prove '..Said' where nothing that the law and all that it calls make is longer than what came in: it says more and counts as full. Else prove '..UptoSaid'. A law counts once. -/
mutual
def uptoBulk {H : Type} : DataW H → Nat
  | .lit (.string bytes) => bytes.length + 1
  | .lit _ => 1
  | .nil => 1
  | .ptr d => uptoBulk d + 1
  | .slice elems spare => uptoBulkAll elems + uptoBulkAll spare + 1
  | .agg parts => uptoBulkAll parts + 1
  | .iface _ d => uptoBulk d + 1
  | .map entries => uptoBulkEntries entries + 1
  | .held _ => 1
def uptoBulkAll {H : Type} : List (DataW H) → Nat
  | [] => 0
  | d :: r => uptoBulk d + uptoBulkAll r
def uptoBulkEntries {H : Type} : List (Lit × DataW H) → Nat
  | [] => 0
  | x :: r => uptoBulkEntry x + uptoBulkEntries r
def uptoBulkEntry {H : Type} : Lit × DataW H → Nat
  | (.string bytes, d) => bytes.length + uptoBulk d + 1
  | (_, d) => uptoBulk d + 1
 end
def uptoSmall : (H : Type) → List (DataW H) → Bool := fun _ ds => decide (uptoBulkAll ds ≤ 1048576)
def OpenSpec.upto (s : _root_.Go.ChangeSpec) : _root_.Go.OpenSpec := { _root_.Go.OpenSpec.ofChange s with cond := some uptoSmall }

/-- 'wharfagelaw09.XdrLays', WHERE WHAT IT READS IS OF BULK AT MOST 1048576: true; the input reads as it did. -/
def xdrLaysUptoRow : OpenClaim := { program := "ytndcokalnpnbgaa", sum := "489cc825df18943292cc747d66a563f2754abac0343b8ee3877e678270d01fd2", func := "wharfage/wharfagelaw09.XdrLays", spec := "xdrLays", unfollowed := true, recurses := true, apart := false, narrowed := true }
def XdrLaysUptoSaid : Prop := xdrLaysUptoRow.holds Try.pinned (OpenSpec.upto xdrLaysSpec)

/-- 'wharfagelaw09.XdrTells', WHERE WHAT IT READS IS OF BULK AT MOST 1048576: true; the input reads as it did. -/
def xdrTellsUptoRow : OpenClaim := { program := "ytndcokalnpnbgaa", sum := "489cc825df18943292cc747d66a563f2754abac0343b8ee3877e678270d01fd2", func := "wharfage/wharfagelaw09.XdrTells", spec := "xdrTells", unfollowed := true, recurses := true, apart := false, narrowed := true }
def XdrTellsUptoSaid : Prop := xdrTellsUptoRow.holds Try.pinned (OpenSpec.upto xdrTellsSpec)

/-- 'wharfagelaw09.XdrBack', WHERE WHAT IT READS IS OF BULK AT MOST 1048576: true; the input reads as it did. -/
def xdrBackUptoRow : OpenClaim := { program := "ytndcokalnpnbgaa", sum := "489cc825df18943292cc747d66a563f2754abac0343b8ee3877e678270d01fd2", func := "wharfage/wharfagelaw09.XdrBack", spec := "xdrBack", unfollowed := true, recurses := true, apart := false, narrowed := true }
def XdrBackUptoSaid : Prop := xdrBackUptoRow.holds Try.pinned (OpenSpec.upto xdrBackSpec)

/-- 'wharfagelaw09.XdrNil', WHERE WHAT IT READS IS OF BULK AT MOST 1048576: true; the input reads as it did. -/
def xdrNilUptoRow : OpenClaim := { program := "ytndcokalnpnbgaa", sum := "489cc825df18943292cc747d66a563f2754abac0343b8ee3877e678270d01fd2", func := "wharfage/wharfagelaw09.XdrNil", spec := "xdrNil", unfollowed := true, recurses := true, apart := false, narrowed := true }
def XdrNilUptoSaid : Prop := xdrNilUptoRow.holds Try.pinned (OpenSpec.upto xdrNilSpec)

end Rows
end Go.Proofs.Ytndcokalnpnbgaa
