/-
  No cell of these rows narrows 'for every input' (looked for: loops, veiled, ifaces, maps, wideKeys, modest, calm, conditions, laid).
  DERIVED. THE GIVEN ROWS OF THIS SEAT. 5 by the template 'for every input the law returns true; each argument reads behind the call as it read before'; 0 by the template 'total and deterministic' (their statements: YtbcmdlaffjmfdaaTotals.lean).
  GIVEN WITH THE SEED: the statements are not yours to turn. If you find one false, say at which input.
  Laid BY PROGRAM, IN A SANDBOX (cutbox-rows.mjs): the forced cells as the released guide's own fill.sh prints them over the translation ecef9f42cb2c7a57… (all of the seat's roots in one cut). By AI agents, Wed Nov 11 2026. No macro, syntax, notation, axiom, sorry.
-/
import Derived.Test.YtbcmdlaffjmfdaaChecked
import GoSem.Claim
import GoSem.ClaimJoined
import GoSem.ClaimMapViews
import Derived.JoinedTies
import Derived.KernelRfl
namespace Go.Proofs.Ytbcmdlaffjmfdaa
/- THE CELL 'sum', in the pinned program and in every row, IS THE sha256 OF THE DUMP (.gsa) THAT YtbcmdlaffjmfdaaProg.lean LOADS. Nothing in Lean hashes anything: it is a label: what it is worth is what the hold of that sum in a sandbox is worth. -/
noncomputable def Try.pinned : Pinned := { name := "ytbcmdlaffjmfdaa", sum := "ecef9f42cb2c7a57ee78688c6fe918a14fadc7ce87a466eed3553cc0ded2d21b", checked := Try.checked }
namespace Rows
def none {H : Type} : Left H := { results := [], args := [] }

/-- 'wharfagelaw07.BatchTells': WHATEVER THE INPUT: true; the input reads as it did. -/
def batchTellsSpec : ChangeSpec := { name := "batchTells", fn := fun _ => fun
  | [d1, d2, d3, d4] => { results := [.lit (.bool true)], args := [d1, d2, d3, d4] }
  | _ => none }
def batchTellsRow : OpenClaim := { program := "ytbcmdlaffjmfdaa", sum := "ecef9f42cb2c7a57ee78688c6fe918a14fadc7ce87a466eed3553cc0ded2d21b", func := "wharfage/wharfagelaw07.BatchTells", spec := "batchTells", inPlace := ["internal/bytealg.abigen_runtime_cmpstring"], unfollowed := true, recurses := true, apart := false }
def BatchTellsSaid : Prop := batchTellsRow.holds Try.pinned (OpenSpec.ofChange batchTellsSpec)

/-- ITS FALSE NEIGHBOUR: 'it returns false'. Refute it at one input. -/
def batchTellsWrong : ChangeSpec := { name := "batchTells", fn := fun _ => fun
  | [d1, d2, d3, d4] => { results := [.lit (.bool false)], args := [d1, d2, d3, d4] }
  | _ => none }
def BatchTellsWrongFalsely : Prop := batchTellsRow.holds Try.pinned (OpenSpec.ofChange batchTellsWrong)

/-- 'wharfagelaw07.BatchTables': WHATEVER THE INPUT: true; the input reads as it did. -/
def batchTablesSpec : ChangeSpec := { name := "batchTables", fn := fun _ => fun
  | [d1, d2, d3, d4] => { results := [.lit (.bool true)], args := [d1, d2, d3, d4] }
  | _ => none }
def batchTablesRow : OpenClaim := { program := "ytbcmdlaffjmfdaa", sum := "ecef9f42cb2c7a57ee78688c6fe918a14fadc7ce87a466eed3553cc0ded2d21b", func := "wharfage/wharfagelaw07.BatchTables", spec := "batchTables", inPlace := ["internal/bytealg.abigen_runtime_cmpstring"], unfollowed := true, recurses := true, apart := false }
def BatchTablesSaid : Prop := batchTablesRow.holds Try.pinned (OpenSpec.ofChange batchTablesSpec)

/-- ITS FALSE NEIGHBOUR: 'it returns false'. Refute it at one input. -/
def batchTablesWrong : ChangeSpec := { name := "batchTables", fn := fun _ => fun
  | [d1, d2, d3, d4] => { results := [.lit (.bool false)], args := [d1, d2, d3, d4] }
  | _ => none }
def BatchTablesWrongFalsely : Prop := batchTablesRow.holds Try.pinned (OpenSpec.ofChange batchTablesWrong)

/-- 'wharfagelaw07.BatchCarries': WHATEVER THE INPUT: true; the input reads as it did. -/
def batchCarriesSpec : ChangeSpec := { name := "batchCarries", fn := fun _ => fun
  | [d1, d2, d3] => { results := [.lit (.bool true)], args := [d1, d2, d3] }
  | _ => none }
def batchCarriesRow : OpenClaim := { program := "ytbcmdlaffjmfdaa", sum := "ecef9f42cb2c7a57ee78688c6fe918a14fadc7ce87a466eed3553cc0ded2d21b", func := "wharfage/wharfagelaw07.BatchCarries", spec := "batchCarries", inPlace := ["internal/bytealg.abigen_runtime_cmpstring"], unfollowed := true, recurses := true, apart := false }
def BatchCarriesSaid : Prop := batchCarriesRow.holds Try.pinned (OpenSpec.ofChange batchCarriesSpec)

/-- ITS FALSE NEIGHBOUR: 'it returns false'. Refute it at one input. -/
def batchCarriesWrong : ChangeSpec := { name := "batchCarries", fn := fun _ => fun
  | [d1, d2, d3] => { results := [.lit (.bool false)], args := [d1, d2, d3] }
  | _ => none }
def BatchCarriesWrongFalsely : Prop := batchCarriesRow.holds Try.pinned (OpenSpec.ofChange batchCarriesWrong)

/-- 'wharfagelaw07.BatchLeads': WHATEVER THE INPUT: true; the input reads as it did. -/
def batchLeadsSpec : ChangeSpec := { name := "batchLeads", fn := fun _ => fun
  | [d1, d2, d3, d4] => { results := [.lit (.bool true)], args := [d1, d2, d3, d4] }
  | _ => none }
def batchLeadsRow : OpenClaim := { program := "ytbcmdlaffjmfdaa", sum := "ecef9f42cb2c7a57ee78688c6fe918a14fadc7ce87a466eed3553cc0ded2d21b", func := "wharfage/wharfagelaw07.BatchLeads", spec := "batchLeads", inPlace := ["internal/bytealg.abigen_runtime_cmpstring"], unfollowed := true, recurses := true, apart := false }
def BatchLeadsSaid : Prop := batchLeadsRow.holds Try.pinned (OpenSpec.ofChange batchLeadsSpec)

/-- ITS FALSE NEIGHBOUR: 'it returns false'. Refute it at one input. -/
def batchLeadsWrong : ChangeSpec := { name := "batchLeads", fn := fun _ => fun
  | [d1, d2, d3, d4] => { results := [.lit (.bool false)], args := [d1, d2, d3, d4] }
  | _ => none }
def BatchLeadsWrongFalsely : Prop := batchLeadsRow.holds Try.pinned (OpenSpec.ofChange batchLeadsWrong)

/-- 'wharfagelaw07.BatchOwn': WHATEVER THE INPUT: true; the input reads as it did. -/
def batchOwnSpec : ChangeSpec := { name := "batchOwn", fn := fun _ => fun
  | [d1, d2, d3] => { results := [.lit (.bool true)], args := [d1, d2, d3] }
  | _ => none }
def batchOwnRow : OpenClaim := { program := "ytbcmdlaffjmfdaa", sum := "ecef9f42cb2c7a57ee78688c6fe918a14fadc7ce87a466eed3553cc0ded2d21b", func := "wharfage/wharfagelaw07.BatchOwn", spec := "batchOwn", inPlace := ["internal/bytealg.abigen_runtime_cmpstring"], unfollowed := true, recurses := true, apart := false }
def BatchOwnSaid : Prop := batchOwnRow.holds Try.pinned (OpenSpec.ofChange batchOwnSpec)

/-- ITS FALSE NEIGHBOUR: 'it returns false'. Refute it at one input. -/
def batchOwnWrong : ChangeSpec := { name := "batchOwn", fn := fun _ => fun
  | [d1, d2, d3] => { results := [.lit (.bool false)], args := [d1, d2, d3] }
  | _ => none }
def BatchOwnWrongFalsely : Prop := batchOwnRow.holds Try.pinned (OpenSpec.ofChange batchOwnWrong)

/- THE SECOND FORM. 'bulk': how many values and letters a reading holds, each counted each time it is reached (what is shared counts as often as it is met; a slice's spare places count too). A statement '..UptoSaid' is the law's where the arguments, and the package variables that the reading takes, are together of bulk at most 1048576: NARROWER than '..Said'. Prove '..Said' where nothing that the law and all that it calls make is longer than what came in: it says more and counts as full. Else prove '..UptoSaid'. A law counts once. -/
mutual
def uptoBulk {H : Type} : DataW H → Nat
  | .lit (.string bytes) => bytes.length + 1
  | .lit _ => 1
  | .nil => 1
  | .ptr d => uptoBulk d + 1
  | .slice elems spare => uptoBulkAll elems + uptoBulkAll spare + 1
  | .agg parts => uptoBulkAll parts + 1
  | .iface _ d => uptoBulk d + 1
  | .map entries => uptoBulkEntries entries + 1
  | .held _ => 1
def uptoBulkAll {H : Type} : List (DataW H) → Nat
  | [] => 0
  | d :: r => uptoBulk d + uptoBulkAll r
def uptoBulkEntries {H : Type} : List (Lit × DataW H) → Nat
  | [] => 0
  | x :: r => uptoBulkEntry x + uptoBulkEntries r
def uptoBulkEntry {H : Type} : Lit × DataW H → Nat
  | (.string bytes, d) => bytes.length + uptoBulk d + 1
  | (_, d) => uptoBulk d + 1
 end
def uptoSmall : (H : Type) → List (DataW H) → Bool := fun _ ds => decide (uptoBulkAll ds ≤ 1048576)
def OpenSpec.upto (s : _root_.Go.ChangeSpec) : _root_.Go.OpenSpec := { _root_.Go.OpenSpec.ofChange s with cond := some uptoSmall }

/-- 'wharfagelaw07.BatchTells', WHERE WHAT IT READS IS OF BULK AT MOST 1048576: true; the input reads as it did. -/
def batchTellsUptoRow : OpenClaim := { program := "ytbcmdlaffjmfdaa", sum := "ecef9f42cb2c7a57ee78688c6fe918a14fadc7ce87a466eed3553cc0ded2d21b", func := "wharfage/wharfagelaw07.BatchTells", spec := "batchTells", inPlace := ["internal/bytealg.abigen_runtime_cmpstring"], unfollowed := true, recurses := true, apart := false, narrowed := true }
def BatchTellsUptoSaid : Prop := batchTellsUptoRow.holds Try.pinned (OpenSpec.upto batchTellsSpec)

/-- 'wharfagelaw07.BatchTables', WHERE WHAT IT READS IS OF BULK AT MOST 1048576: true; the input reads as it did. -/
def batchTablesUptoRow : OpenClaim := { program := "ytbcmdlaffjmfdaa", sum := "ecef9f42cb2c7a57ee78688c6fe918a14fadc7ce87a466eed3553cc0ded2d21b", func := "wharfage/wharfagelaw07.BatchTables", spec := "batchTables", inPlace := ["internal/bytealg.abigen_runtime_cmpstring"], unfollowed := true, recurses := true, apart := false, narrowed := true }
def BatchTablesUptoSaid : Prop := batchTablesUptoRow.holds Try.pinned (OpenSpec.upto batchTablesSpec)

/-- 'wharfagelaw07.BatchCarries', WHERE WHAT IT READS IS OF BULK AT MOST 1048576: true; the input reads as it did. -/
def batchCarriesUptoRow : OpenClaim := { program := "ytbcmdlaffjmfdaa", sum := "ecef9f42cb2c7a57ee78688c6fe918a14fadc7ce87a466eed3553cc0ded2d21b", func := "wharfage/wharfagelaw07.BatchCarries", spec := "batchCarries", inPlace := ["internal/bytealg.abigen_runtime_cmpstring"], unfollowed := true, recurses := true, apart := false, narrowed := true }
def BatchCarriesUptoSaid : Prop := batchCarriesUptoRow.holds Try.pinned (OpenSpec.upto batchCarriesSpec)

/-- 'wharfagelaw07.BatchLeads', WHERE WHAT IT READS IS OF BULK AT MOST 1048576: true; the input reads as it did. -/
def batchLeadsUptoRow : OpenClaim := { program := "ytbcmdlaffjmfdaa", sum := "ecef9f42cb2c7a57ee78688c6fe918a14fadc7ce87a466eed3553cc0ded2d21b", func := "wharfage/wharfagelaw07.BatchLeads", spec := "batchLeads", inPlace := ["internal/bytealg.abigen_runtime_cmpstring"], unfollowed := true, recurses := true, apart := false, narrowed := true }
def BatchLeadsUptoSaid : Prop := batchLeadsUptoRow.holds Try.pinned (OpenSpec.upto batchLeadsSpec)

/-- 'wharfagelaw07.BatchOwn', WHERE WHAT IT READS IS OF BULK AT MOST 1048576: true; the input reads as it did. -/
def batchOwnUptoRow : OpenClaim := { program := "ytbcmdlaffjmfdaa", sum := "ecef9f42cb2c7a57ee78688c6fe918a14fadc7ce87a466eed3553cc0ded2d21b", func := "wharfage/wharfagelaw07.BatchOwn", spec := "batchOwn", inPlace := ["internal/bytealg.abigen_runtime_cmpstring"], unfollowed := true, recurses := true, apart := false, narrowed := true }
def BatchOwnUptoSaid : Prop := batchOwnUptoRow.holds Try.pinned (OpenSpec.upto batchOwnSpec)

end Rows
end Go.Proofs.Ytbcmdlaffjmfdaa
