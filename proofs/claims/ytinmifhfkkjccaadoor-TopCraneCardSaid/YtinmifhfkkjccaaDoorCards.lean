/-
  DERIVED. GIVEN WITH THE SEED: THE CARDS: each row of YtinmifhfkkjccaaDoorRows.lean that lists a variable, with what it lists TIED to the program's text (the seventh form; the later family's looks); each row that meets fmt, with fmt's text TOLD by the authors' own Lean function (tested against real Go, not proved from fmt's source: count such statements apart). THE CARD IS WHAT COUNTS. Prove the row's statement (the work); the ties are given (YtinmifhfkkjccaaDoorTie.lean); close each card by the builder's one call (the guide's Derived/Test/ToyasCard.lean, 'card_holds'). Laid BY PROGRAM, IN A SANDBOX (cutbox-door.mjs). By AI agents, Wed Nov 11 2026. No macro, syntax, notation, axiom, sorry.
-/
import Derived.Test.YtinmifhfkkjccaaDoorRows
import GoSem.ClaimSeven
namespace Go.Proofs.YtinmifhfkkjccaaDoor
namespace Rows

/-- THE TIED CARD OF 'neweltop.TopCrane'. -/
def topCraneCard : Claim7 := { stood := { row := topCraneRow, standIns := [], harness := (true, "a46b5a0d30bb7c93e591a60107cb6cd087cb0745a6365d947d21e37aaebab42a"), looks := false }, kinds := [], alts := [], laidByText := true, laidKinds := [.widerDeep, .data], laidTests := true, laidLooks := .later }
def TopCraneCardSaid : Prop := Claim7.holds Tryd.pinned (.plain (OpenSpec.ofChange topCraneSpec)) topCraneCard

/-- THE SECOND FORM's CARD OF 'neweltop.TopCrane'. -/
def topCraneUptoCard : Claim7 := { stood := { row := topCraneUptoRow, standIns := [], harness := (true, "a46b5a0d30bb7c93e591a60107cb6cd087cb0745a6365d947d21e37aaebab42a"), looks := false }, kinds := [], alts := [], laidByText := true, laidKinds := [.widerDeep, .data], laidTests := true, laidLooks := .later }
def TopCraneUptoCardSaid : Prop := Claim7.holds Tryd.pinned (.plain (OpenSpec.upto topCraneSpec)) topCraneUptoCard
end Rows
end Go.Proofs.YtinmifhfkkjccaaDoor
