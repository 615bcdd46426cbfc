/-
  DERIVED. GIVEN WITH THE SEED: THE CARDS: each row of YtkoonfmgmgfmdaaDoorRows.lean that lists a variable, with what it lists TIED to the program's text (the seventh form; the later family's looks); each row that meets fmt, with fmt's text TOLD by the authors' own Lean function (tested against real Go, not proved from fmt's source: count such statements apart). THE CARD IS WHAT COUNTS. Prove the row's statement (the work); the ties are given (YtkoonfmgmgfmdaaDoorTie.lean); close each card by the builder's one call (the guide's Derived/Test/ToyasCard.lean, 'card_holds'). Laid BY PROGRAM, IN A SANDBOX (cutbox-door.mjs). By AI agents, Wed Nov 11 2026. No macro, syntax, notation, axiom, sorry.
-/
import Derived.Test.YtkoonfmgmgfmdaaDoorRows
import GoSem.ClaimSeven
namespace Go.Proofs.YtkoonfmgmgfmdaaDoor
namespace Rows

/-- THE TIED CARD OF 'neweltop.TopMetered'. -/
def topMeteredCard : Claim7 := { stood := { row := topMeteredRow, standIns := [], harness := (true, "76f12472b738c1a492c49dbbc2b573d04972cf2ed6dc3fddb107e4f9105d1c51"), looks := false }, kinds := [], alts := [], laidByText := true, laidKinds := [.data, .data], laidTests := true, laidLooks := .later }
def TopMeteredCardSaid : Prop := Claim7.holds Tryd.pinned (.plain (OpenSpec.ofChange topMeteredSpec)) topMeteredCard

/-- THE TIED CARD OF 'neweltop.TopCounted'. -/
def topCountedCard : Claim7 := { stood := { row := topCountedRow, standIns := [], harness := (true, "76f12472b738c1a492c49dbbc2b573d04972cf2ed6dc3fddb107e4f9105d1c51"), looks := false }, kinds := [], alts := [], laidByText := true, laidKinds := [.data, .data], laidTests := true, laidLooks := .later }
def TopCountedCardSaid : Prop := Claim7.holds Tryd.pinned (.plain (OpenSpec.ofChange topCountedSpec)) topCountedCard

/-- THE SECOND FORM's CARD OF 'neweltop.TopMetered'. -/
def topMeteredUptoCard : Claim7 := { stood := { row := topMeteredUptoRow, standIns := [], harness := (true, "76f12472b738c1a492c49dbbc2b573d04972cf2ed6dc3fddb107e4f9105d1c51"), looks := false }, kinds := [], alts := [], laidByText := true, laidKinds := [.data, .data], laidTests := true, laidLooks := .later }
def TopMeteredUptoCardSaid : Prop := Claim7.holds Tryd.pinned (.plain (OpenSpec.upto topMeteredSpec)) topMeteredUptoCard

/-- THE SECOND FORM's CARD OF 'neweltop.TopCounted'. -/
def topCountedUptoCard : Claim7 := { stood := { row := topCountedUptoRow, standIns := [], harness := (true, "76f12472b738c1a492c49dbbc2b573d04972cf2ed6dc3fddb107e4f9105d1c51"), looks := false }, kinds := [], alts := [], laidByText := true, laidKinds := [.data, .data], laidTests := true, laidLooks := .later }
def TopCountedUptoCardSaid : Prop := Claim7.holds Tryd.pinned (.plain (OpenSpec.upto topCountedSpec)) topCountedUptoCard
end Rows
end Go.Proofs.YtkoonfmgmgfmdaaDoor
