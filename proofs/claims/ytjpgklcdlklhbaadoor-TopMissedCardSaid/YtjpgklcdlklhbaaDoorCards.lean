/-
  DERIVED. GIVEN WITH THE SEED: THE CARDS: each row of YtjpgklcdlklhbaaDoorRows.lean that lists a variable, with what it lists TIED to the program's text (the seventh form; the later family's looks); each row that meets fmt, with fmt's text TOLD by the authors' own Lean function (tested against real Go, not proved from fmt's source: count such statements apart). THE CARD IS WHAT COUNTS. Prove the row's statement (the work); the ties are given (YtjpgklcdlklhbaaDoorTie.lean); close each card by the builder's one call (the guide's Derived/Test/ToyasCard.lean, 'card_holds'). Laid BY PROGRAM, IN A SANDBOX (cutbox-door.mjs). By AI agents, Wed Nov 11 2026. No macro, syntax, notation, axiom, sorry.
-/
import Derived.Test.YtjpgklcdlklhbaaDoorRows
import GoSem.ClaimSeven
namespace Go.Proofs.YtjpgklcdlklhbaaDoor
namespace Rows

/-- THE TIED CARD OF 'neweltop.TopTold'. -/
def topToldCard : Claim7 := { stood := { row := topToldRow, standIns := [], harness := (true, "76fc6add12e03f227fecc107ecb52866d5c3a9134be3a91e2436762860382762"), looks := false }, kinds := [], alts := [], laidByText := true, laidKinds := [.data, .data], laidTests := true, laidLooks := .later }
def TopToldCardSaid : Prop := Claim7.holds Tryd.pinned (.plain (OpenSpec.ofChange topToldSpec)) topToldCard

/-- THE TIED CARD OF 'neweltop.TopMissed'. -/
def topMissedCard : Claim7 := { stood := { row := topMissedRow, standIns := [], harness := (true, "76fc6add12e03f227fecc107ecb52866d5c3a9134be3a91e2436762860382762"), looks := false }, kinds := [], alts := [], laidByText := true, laidKinds := [.data, .data], laidTests := true, laidLooks := .later }
def TopMissedCardSaid : Prop := Claim7.holds Tryd.pinned (.plain (OpenSpec.ofChange topMissedSpec)) topMissedCard

/-- THE SECOND FORM's CARD OF 'neweltop.TopTold'. -/
def topToldUptoCard : Claim7 := { stood := { row := topToldUptoRow, standIns := [], harness := (true, "76fc6add12e03f227fecc107ecb52866d5c3a9134be3a91e2436762860382762"), looks := false }, kinds := [], alts := [], laidByText := true, laidKinds := [.data, .data], laidTests := true, laidLooks := .later }
def TopToldUptoCardSaid : Prop := Claim7.holds Tryd.pinned (.plain (OpenSpec.upto topToldSpec)) topToldUptoCard

/-- THE SECOND FORM's CARD OF 'neweltop.TopMissed'. -/
def topMissedUptoCard : Claim7 := { stood := { row := topMissedUptoRow, standIns := [], harness := (true, "76fc6add12e03f227fecc107ecb52866d5c3a9134be3a91e2436762860382762"), looks := false }, kinds := [], alts := [], laidByText := true, laidKinds := [.data, .data], laidTests := true, laidLooks := .later }
def TopMissedUptoCardSaid : Prop := Claim7.holds Tryd.pinned (.plain (OpenSpec.upto topMissedSpec)) topMissedUptoCard
end Rows
end Go.Proofs.YtjpgklcdlklhbaaDoor
