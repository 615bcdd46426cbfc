/-
  DERIVED. GIVEN WITH THE SEED: THE CARDS: each row of YtmlhjobmpjpmnaaDoorRows.lean that lists a variable, with what it lists TIED to the program's text (the seventh form; the later family's looks); each row that meets fmt, with fmt's text TOLD by the authors' own Lean function (tested against real Go, not proved from fmt's source: count such statements apart). THE CARD IS WHAT COUNTS. Prove the row's statement (the work); the ties are given (YtmlhjobmpjpmnaaDoorTie.lean); close each card by the builder's one call (the guide's Derived/Test/ToyasCard.lean, 'card_holds'). Laid BY PROGRAM, IN A SANDBOX (cutbox-door.mjs). By AI agents, Wed Nov 11 2026. No macro, syntax, notation, axiom, sorry.
-/
import Derived.Test.YtmlhjobmpjpmnaaDoorRows
import GoSem.ClaimSeven
namespace Go.Proofs.YtmlhjobmpjpmnaaDoor
namespace Rows

/-- THE TIED CARD OF 'newellaw03.CircuitTrials'. -/
def circuitTrialsCard : Claim7 := { stood := { row := circuitTrialsRow, standIns := [], harness := (true, "71bb992349db4c7a39d0fdfaa8bb12b00b68c776d19a2a7a1c5b4d1cda6c5052"), looks := false }, kinds := [], alts := [], laidByText := true, laidKinds := [.data, .data], laidTests := true, laidLooks := .later }
def CircuitTrialsCardSaid : Prop := Claim7.holds Tryd.pinned (.plain (OpenSpec.ofChange circuitTrialsSpec)) circuitTrialsCard

/-- THE TIED CARD OF 'newellaw03.CircuitCovers'. -/
def circuitCoversCard : Claim7 := { stood := { row := circuitCoversRow, standIns := [], harness := (true, "71bb992349db4c7a39d0fdfaa8bb12b00b68c776d19a2a7a1c5b4d1cda6c5052"), looks := false }, kinds := [], alts := [], laidByText := true, laidKinds := [.data, .data], laidTests := true, laidLooks := .later }
def CircuitCoversCardSaid : Prop := Claim7.holds Tryd.pinned (.plain (OpenSpec.ofChange circuitCoversSpec)) circuitCoversCard

/-- THE SECOND FORM's CARD OF 'newellaw03.CircuitTrials'. -/
def circuitTrialsUptoCard : Claim7 := { stood := { row := circuitTrialsUptoRow, standIns := [], harness := (true, "71bb992349db4c7a39d0fdfaa8bb12b00b68c776d19a2a7a1c5b4d1cda6c5052"), looks := false }, kinds := [], alts := [], laidByText := true, laidKinds := [.data, .data], laidTests := true, laidLooks := .later }
def CircuitTrialsUptoCardSaid : Prop := Claim7.holds Tryd.pinned (.plain (OpenSpec.upto circuitTrialsSpec)) circuitTrialsUptoCard

/-- THE SECOND FORM's CARD OF 'newellaw03.CircuitCovers'. -/
def circuitCoversUptoCard : Claim7 := { stood := { row := circuitCoversUptoRow, standIns := [], harness := (true, "71bb992349db4c7a39d0fdfaa8bb12b00b68c776d19a2a7a1c5b4d1cda6c5052"), looks := false }, kinds := [], alts := [], laidByText := true, laidKinds := [.data, .data], laidTests := true, laidLooks := .later }
def CircuitCoversUptoCardSaid : Prop := Claim7.holds Tryd.pinned (.plain (OpenSpec.upto circuitCoversSpec)) circuitCoversUptoCard
end Rows
end Go.Proofs.YtmlhjobmpjpmnaaDoor
