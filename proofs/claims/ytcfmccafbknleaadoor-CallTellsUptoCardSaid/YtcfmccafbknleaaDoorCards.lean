/-
  DERIVED. GIVEN WITH THE SEED: THE CARDS: each row of YtcfmccafbknleaaDoorRows.lean that lists a variable, with what it lists TIED to the program's text (the seventh form; the later family's looks); each row that meets fmt, with fmt's text TOLD by the authors' own Lean function (tested against real Go, not proved from fmt's source: count such statements apart). THE CARD IS WHAT COUNTS. Prove the row's statement (the work); the ties are given (YtcfmccafbknleaaDoorTie.lean); close each card by the builder's one call (the guide's Derived/Test/ToyasCard.lean, 'card_holds'). Laid BY PROGRAM, IN A SANDBOX (cutbox-door.mjs). By AI agents, Wed Nov 11 2026. No macro, syntax, notation, axiom, sorry.
-/
import Derived.Test.YtcfmccafbknleaaDoorRows
import GoSem.ClaimSeven
namespace Go.Proofs.YtcfmccafbknleaaDoor
namespace Rows

/-- THE TIED CARD OF 'wharfagelaw10.CallTells'. -/
def callTellsCard : Claim7 := { stood := { row := callTellsRow, standIns := [], harness := (true, "e749194eaa4df49814f7e09f391d2d4e1f969131d04797bfc6297e80021b9134"), looks := true }, kinds := [], alts := [], laidByText := true, laidKinds := [.data, .pinned], laidTests := true, laidLooks := .later }
def CallTellsCardSaid : Prop := Claim7.holds Tryd.pinned (.plain (OpenSpec.ofChange callTellsSpec)) callTellsCard

/-- THE TIED CARD OF 'wharfagelaw10.CallBack'. -/
def callBackCard : Claim7 := { stood := { row := callBackRow, standIns := [], harness := (true, "e749194eaa4df49814f7e09f391d2d4e1f969131d04797bfc6297e80021b9134"), looks := true }, kinds := [], alts := [], laidByText := true, laidKinds := [.data, .pinned], laidTests := true, laidLooks := .later }
def CallBackCardSaid : Prop := Claim7.holds Tryd.pinned (.plain (OpenSpec.ofChange callBackSpec)) callBackCard

/-- THE TIED CARD OF 'wharfagelaw10.CallOne'. -/
def callOneCard : Claim7 := { stood := { row := callOneRow, standIns := [], harness := (true, "e749194eaa4df49814f7e09f391d2d4e1f969131d04797bfc6297e80021b9134"), looks := true }, kinds := [], alts := [], laidByText := true, laidKinds := [.data, .pinned], laidTests := true, laidLooks := .later }
def CallOneCardSaid : Prop := Claim7.holds Tryd.pinned (.plain (OpenSpec.ofChange callOneSpec)) callOneCard

/-- THE SECOND FORM's CARD OF 'wharfagelaw10.CallTells'. -/
def callTellsUptoCard : Claim7 := { stood := { row := callTellsUptoRow, standIns := [], harness := (true, "e749194eaa4df49814f7e09f391d2d4e1f969131d04797bfc6297e80021b9134"), looks := true }, kinds := [], alts := [], laidByText := true, laidKinds := [.data, .pinned], laidTests := true, laidLooks := .later }
def CallTellsUptoCardSaid : Prop := Claim7.holds Tryd.pinned (.plain (OpenSpec.upto callTellsSpec)) callTellsUptoCard

/-- THE SECOND FORM's CARD OF 'wharfagelaw10.CallBack'. -/
def callBackUptoCard : Claim7 := { stood := { row := callBackUptoRow, standIns := [], harness := (true, "e749194eaa4df49814f7e09f391d2d4e1f969131d04797bfc6297e80021b9134"), looks := true }, kinds := [], alts := [], laidByText := true, laidKinds := [.data, .pinned], laidTests := true, laidLooks := .later }
def CallBackUptoCardSaid : Prop := Claim7.holds Tryd.pinned (.plain (OpenSpec.upto callBackSpec)) callBackUptoCard

/-- THE SECOND FORM's CARD OF 'wharfagelaw10.CallOne'. -/
def callOneUptoCard : Claim7 := { stood := { row := callOneUptoRow, standIns := [], harness := (true, "e749194eaa4df49814f7e09f391d2d4e1f969131d04797bfc6297e80021b9134"), looks := true }, kinds := [], alts := [], laidByText := true, laidKinds := [.data, .pinned], laidTests := true, laidLooks := .later }
def CallOneUptoCardSaid : Prop := Claim7.holds Tryd.pinned (.plain (OpenSpec.upto callOneSpec)) callOneUptoCard
end Rows
end Go.Proofs.YtcfmccafbknleaaDoor
