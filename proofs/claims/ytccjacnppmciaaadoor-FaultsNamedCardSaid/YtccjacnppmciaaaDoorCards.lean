/-
  DERIVED. GIVEN WITH THE SEED: THE CARDS: each row of YtccjacnppmciaaaDoorRows.lean that lists a variable, with what it lists TIED to the program's text (the seventh form; the later family's looks); each row that meets fmt, with fmt's text TOLD by the authors' own Lean function (tested against real Go, not proved from fmt's source: count such statements apart). THE CARD IS WHAT COUNTS. Prove the row's statement (the work); the ties are given (YtccjacnppmciaaaDoorTie.lean); close each card by the builder's one call (the guide's Derived/Test/ToyasCard.lean, 'card_holds'). Laid BY PROGRAM, IN A SANDBOX (cutbox-door.mjs). By AI agents, Wed Nov 11 2026. No macro, syntax, notation, axiom, sorry.
-/
import Derived.Test.YtccjacnppmciaaaDoorRows
import GoSem.ClaimSeven
namespace Go.Proofs.YtccjacnppmciaaaDoor
namespace Rows

/-- THE TIED CARD OF 'newellaw10.FaultsNamed'. -/
def faultsNamedCard : Claim7 := { stood := { row := faultsNamedRow, standIns := [], harness := (true, "b79209b287d0cc8d6a8e6f3bd17412e9c859edf70690c4c3668f2a4c8d4b2f1a"), looks := false }, kinds := [], alts := [], laidByText := true, laidKinds := [.data, .data, .data], laidTests := true, laidLooks := .later }
def FaultsNamedCardSaid : Prop := Claim7.holds Tryd.pinned (.plain (OpenSpec.ofChange faultsNamedSpec)) faultsNamedCard

/-- THE SECOND FORM's CARD OF 'newellaw10.FaultsNamed'. -/
def faultsNamedUptoCard : Claim7 := { stood := { row := faultsNamedUptoRow, standIns := [], harness := (true, "b79209b287d0cc8d6a8e6f3bd17412e9c859edf70690c4c3668f2a4c8d4b2f1a"), looks := false }, kinds := [], alts := [], laidByText := true, laidKinds := [.data, .data, .data], laidTests := true, laidLooks := .later }
def FaultsNamedUptoCardSaid : Prop := Claim7.holds Tryd.pinned (.plain (OpenSpec.upto faultsNamedSpec)) faultsNamedUptoCard
end Rows
end Go.Proofs.YtccjacnppmciaaaDoor
