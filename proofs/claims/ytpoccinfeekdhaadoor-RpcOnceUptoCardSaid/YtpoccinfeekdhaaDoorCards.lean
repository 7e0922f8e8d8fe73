/-
  DERIVED. GIVEN WITH THE SEED: THE CARDS: each row of YtpoccinfeekdhaaDoorRows.lean that lists a variable, with what it lists TIED to the program's text (the seventh form; the later family's looks); each row that meets fmt, with fmt's text TOLD by the authors' own Lean function (tested against real Go, not proved from fmt's source: count such statements apart). THE CARD IS WHAT COUNTS. Prove the row's statement (the work); the ties are given (YtpoccinfeekdhaaDoorTie.lean); close each card by the builder's one call (the guide's Derived/Test/ToyasCard.lean, 'card_holds'). Laid BY PROGRAM, IN A SANDBOX (cutbox-door.mjs). By AI agents, Wed Nov 11 2026. No macro, syntax, notation, axiom, sorry.
-/
import Derived.Test.YtpoccinfeekdhaaDoorRows
import GoSem.ClaimSeven
namespace Go.Proofs.YtpoccinfeekdhaaDoor
namespace Rows

/-- THE TIED CARD OF 'wharfagelaw20.RpcOnce'. -/
def rpcOnceCard : Claim7 := { stood := { row := rpcOnceRow, standIns := [], harness := (true, "1174ce764cda945e22fd1ed8df8d6e8625586acf1a25a01d4b544090aa3de838"), looks := true }, kinds := [], alts := [], laidByText := true, laidKinds := [.data, .pinned], laidTests := true, laidLooks := .later }
def RpcOnceCardSaid : Prop := Claim7.holds Tryd.pinned (.plain (OpenSpec.ofChange rpcOnceSpec)) rpcOnceCard

/-- THE TIED CARD OF 'wharfagelaw20.RpcNil'. -/
def rpcNilCard : Claim7 := { stood := { row := rpcNilRow, standIns := [], harness := (true, "1174ce764cda945e22fd1ed8df8d6e8625586acf1a25a01d4b544090aa3de838"), looks := true }, kinds := [], alts := [], laidByText := true, laidKinds := [.data, .pinned], laidTests := true, laidLooks := .later }
def RpcNilCardSaid : Prop := Claim7.holds Tryd.pinned (.plain (OpenSpec.ofChange rpcNilSpec)) rpcNilCard

/-- THE SECOND FORM's CARD OF 'wharfagelaw20.RpcOnce'. -/
def rpcOnceUptoCard : Claim7 := { stood := { row := rpcOnceUptoRow, standIns := [], harness := (true, "1174ce764cda945e22fd1ed8df8d6e8625586acf1a25a01d4b544090aa3de838"), looks := true }, kinds := [], alts := [], laidByText := true, laidKinds := [.data, .pinned], laidTests := true, laidLooks := .later }
def RpcOnceUptoCardSaid : Prop := Claim7.holds Tryd.pinned (.plain (OpenSpec.upto rpcOnceSpec)) rpcOnceUptoCard

/-- THE SECOND FORM's CARD OF 'wharfagelaw20.RpcNil'. -/
def rpcNilUptoCard : Claim7 := { stood := { row := rpcNilUptoRow, standIns := [], harness := (true, "1174ce764cda945e22fd1ed8df8d6e8625586acf1a25a01d4b544090aa3de838"), looks := true }, kinds := [], alts := [], laidByText := true, laidKinds := [.data, .pinned], laidTests := true, laidLooks := .later }
def RpcNilUptoCardSaid : Prop := Claim7.holds Tryd.pinned (.plain (OpenSpec.upto rpcNilSpec)) rpcNilUptoCard
end Rows
end Go.Proofs.YtpoccinfeekdhaaDoor
