/-
  DERIVED. GIVEN WITH THE SEED: THE CARDS: each row of YtpdfpbdkiaekpaaDoorRows.lean that lists a variable, with what it lists TIED to the program's text (the seventh form; the later family's looks); each row that meets fmt, with fmt's text TOLD by the authors' own Lean function (tested against real Go, not proved from fmt's source: count such statements apart). THE CARD IS WHAT COUNTS. Prove the row's statement (the work); the ties are given (YtpdfpbdkiaekpaaDoorTie.lean); close each card by the builder's one call (the guide's Derived/Test/ToyasCard.lean, 'card_holds'). Laid BY PROGRAM, IN A SANDBOX (cutbox-door.mjs). By AI agents, Wed Nov 11 2026. No macro, syntax, notation, axiom, sorry.
-/
import Derived.Test.YtpdfpbdkiaekpaaDoorRows
import GoSem.ClaimSeven
namespace Go.Proofs.YtpdfpbdkiaekpaaDoor
namespace Rows

/-- THE TIED CARD OF 'wharfagelaw02.NameTells'. -/
def nameTellsCard : Claim7 := { stood := { row := nameTellsRow, standIns := [], harness := (true, "5b2a9b84983db2a2beeffe6eb473afffa0aa2384de3ce407d39e7722ead3740e"), looks := false }, kinds := [], alts := [], laidByText := true, laidKinds := [.data, .pinned], laidTests := true, laidLooks := .later }
def NameTellsCardSaid : Prop := Claim7.holds Tryd.pinned (.plain (OpenSpec.ofChange nameTellsSpec)) nameTellsCard

/-- THE TIED CARD OF 'wharfagelaw02.NamePaths'. -/
def namePathsCard : Claim7 := { stood := { row := namePathsRow, standIns := [], harness := (true, "5b2a9b84983db2a2beeffe6eb473afffa0aa2384de3ce407d39e7722ead3740e"), looks := false }, kinds := [], alts := [], laidByText := true, laidKinds := [.data, .pinned], laidTests := true, laidLooks := .later }
def NamePathsCardSaid : Prop := Claim7.holds Tryd.pinned (.plain (OpenSpec.ofChange namePathsSpec)) namePathsCard

/-- THE TIED CARD OF 'wharfagelaw02.NameBack'. -/
def nameBackCard : Claim7 := { stood := { row := nameBackRow, standIns := [], harness := (true, "5b2a9b84983db2a2beeffe6eb473afffa0aa2384de3ce407d39e7722ead3740e"), looks := false }, kinds := [], alts := [], laidByText := true, laidKinds := [.data, .pinned], laidTests := true, laidLooks := .later }
def NameBackCardSaid : Prop := Claim7.holds Tryd.pinned (.plain (OpenSpec.ofChange nameBackSpec)) nameBackCard

/-- THE TIED CARD OF 'wharfagelaw02.NamePieces'. -/
def namePiecesCard : Claim7 := { stood := { row := namePiecesRow, standIns := [], harness := (true, "5b2a9b84983db2a2beeffe6eb473afffa0aa2384de3ce407d39e7722ead3740e"), looks := false }, kinds := [], alts := [], laidByText := true, laidKinds := [.data, .pinned], laidTests := true, laidLooks := .later }
def NamePiecesCardSaid : Prop := Claim7.holds Tryd.pinned (.plain (OpenSpec.ofChange namePiecesSpec)) namePiecesCard

/-- THE SECOND FORM's CARD OF 'wharfagelaw02.NameTells'. -/
def nameTellsUptoCard : Claim7 := { stood := { row := nameTellsUptoRow, standIns := [], harness := (true, "5b2a9b84983db2a2beeffe6eb473afffa0aa2384de3ce407d39e7722ead3740e"), looks := false }, kinds := [], alts := [], laidByText := true, laidKinds := [.data, .pinned], laidTests := true, laidLooks := .later }
def NameTellsUptoCardSaid : Prop := Claim7.holds Tryd.pinned (.plain (OpenSpec.upto nameTellsSpec)) nameTellsUptoCard

/-- THE SECOND FORM's CARD OF 'wharfagelaw02.NamePaths'. -/
def namePathsUptoCard : Claim7 := { stood := { row := namePathsUptoRow, standIns := [], harness := (true, "5b2a9b84983db2a2beeffe6eb473afffa0aa2384de3ce407d39e7722ead3740e"), looks := false }, kinds := [], alts := [], laidByText := true, laidKinds := [.data, .pinned], laidTests := true, laidLooks := .later }
def NamePathsUptoCardSaid : Prop := Claim7.holds Tryd.pinned (.plain (OpenSpec.upto namePathsSpec)) namePathsUptoCard

/-- THE SECOND FORM's CARD OF 'wharfagelaw02.NameBack'. -/
def nameBackUptoCard : Claim7 := { stood := { row := nameBackUptoRow, standIns := [], harness := (true, "5b2a9b84983db2a2beeffe6eb473afffa0aa2384de3ce407d39e7722ead3740e"), looks := false }, kinds := [], alts := [], laidByText := true, laidKinds := [.data, .pinned], laidTests := true, laidLooks := .later }
def NameBackUptoCardSaid : Prop := Claim7.holds Tryd.pinned (.plain (OpenSpec.upto nameBackSpec)) nameBackUptoCard

/-- THE SECOND FORM's CARD OF 'wharfagelaw02.NamePieces'. -/
def namePiecesUptoCard : Claim7 := { stood := { row := namePiecesUptoRow, standIns := [], harness := (true, "5b2a9b84983db2a2beeffe6eb473afffa0aa2384de3ce407d39e7722ead3740e"), looks := false }, kinds := [], alts := [], laidByText := true, laidKinds := [.data, .pinned], laidTests := true, laidLooks := .later }
def NamePiecesUptoCardSaid : Prop := Claim7.holds Tryd.pinned (.plain (OpenSpec.upto namePiecesSpec)) namePiecesUptoCard
end Rows
end Go.Proofs.YtpdfpbdkiaekpaaDoor
