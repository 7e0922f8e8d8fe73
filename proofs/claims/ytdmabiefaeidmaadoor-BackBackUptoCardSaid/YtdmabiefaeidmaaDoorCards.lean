/-
  DERIVED. GIVEN WITH THE SEED: THE CARDS: each row of YtdmabiefaeidmaaDoorRows.lean that lists a variable, with what it lists TIED to the program's text (the seventh form; the later family's looks); each row that meets fmt, with fmt's text TOLD by the authors' own Lean function (tested against real Go, not proved from fmt's source: count such statements apart). THE CARD IS WHAT COUNTS. Prove the row's statement (the work); the ties are given (YtdmabiefaeidmaaDoorTie.lean); close each card by the builder's one call (the guide's Derived/Test/ToyasCard.lean, 'card_holds'). Laid BY PROGRAM, IN A SANDBOX (cutbox-door.mjs). By AI agents, Wed Nov 11 2026. No macro, syntax, notation, axiom, sorry.
-/
import Derived.Test.YtdmabiefaeidmaaDoorRows
import GoSem.ClaimSeven
namespace Go.Proofs.YtdmabiefaeidmaaDoor
namespace Rows

/-- THE TIED CARD OF 'wharfagelaw11.BackFresh'. -/
def backFreshCard : Claim7 := { stood := { row := backFreshRow, standIns := [], harness := (true, "284c92327e60f229821af27f81f16bc490b602db1d04e845be57fef9f81759a7"), looks := false }, kinds := [], alts := [], laidByText := true, laidKinds := [.data, .pinned], laidTests := true, laidLooks := .later }
def BackFreshCardSaid : Prop := Claim7.holds Tryd.pinned (.plain (OpenSpec.ofChange backFreshSpec)) backFreshCard

/-- THE TIED CARD OF 'wharfagelaw11.BackTells'. -/
def backTellsCard : Claim7 := { stood := { row := backTellsRow, standIns := [], harness := (true, "284c92327e60f229821af27f81f16bc490b602db1d04e845be57fef9f81759a7"), looks := false }, kinds := [], alts := [], laidByText := true, laidKinds := [.data, .pinned], laidTests := true, laidLooks := .later }
def BackTellsCardSaid : Prop := Claim7.holds Tryd.pinned (.plain (OpenSpec.ofChange backTellsSpec)) backTellsCard

/-- THE TIED CARD OF 'wharfagelaw11.BackBack'. -/
def backBackCard : Claim7 := { stood := { row := backBackRow, standIns := [], harness := (true, "284c92327e60f229821af27f81f16bc490b602db1d04e845be57fef9f81759a7"), looks := false }, kinds := [], alts := [], laidByText := true, laidKinds := [.data, .pinned], laidTests := true, laidLooks := .later }
def BackBackCardSaid : Prop := Claim7.holds Tryd.pinned (.plain (OpenSpec.ofChange backBackSpec)) backBackCard

/-- THE SECOND FORM's CARD OF 'wharfagelaw11.BackFresh'. -/
def backFreshUptoCard : Claim7 := { stood := { row := backFreshUptoRow, standIns := [], harness := (true, "284c92327e60f229821af27f81f16bc490b602db1d04e845be57fef9f81759a7"), looks := false }, kinds := [], alts := [], laidByText := true, laidKinds := [.data, .pinned], laidTests := true, laidLooks := .later }
def BackFreshUptoCardSaid : Prop := Claim7.holds Tryd.pinned (.plain (OpenSpec.upto backFreshSpec)) backFreshUptoCard

/-- THE SECOND FORM's CARD OF 'wharfagelaw11.BackTells'. -/
def backTellsUptoCard : Claim7 := { stood := { row := backTellsUptoRow, standIns := [], harness := (true, "284c92327e60f229821af27f81f16bc490b602db1d04e845be57fef9f81759a7"), looks := false }, kinds := [], alts := [], laidByText := true, laidKinds := [.data, .pinned], laidTests := true, laidLooks := .later }
def BackTellsUptoCardSaid : Prop := Claim7.holds Tryd.pinned (.plain (OpenSpec.upto backTellsSpec)) backTellsUptoCard

/-- THE SECOND FORM's CARD OF 'wharfagelaw11.BackBack'. -/
def backBackUptoCard : Claim7 := { stood := { row := backBackUptoRow, standIns := [], harness := (true, "284c92327e60f229821af27f81f16bc490b602db1d04e845be57fef9f81759a7"), looks := false }, kinds := [], alts := [], laidByText := true, laidKinds := [.data, .pinned], laidTests := true, laidLooks := .later }
def BackBackUptoCardSaid : Prop := Claim7.holds Tryd.pinned (.plain (OpenSpec.upto backBackSpec)) backBackUptoCard
end Rows
end Go.Proofs.YtdmabiefaeidmaaDoor
