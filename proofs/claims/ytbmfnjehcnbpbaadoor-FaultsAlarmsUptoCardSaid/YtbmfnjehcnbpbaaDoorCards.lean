/-
  DERIVED. GIVEN WITH THE SEED: THE CARDS: each row of YtbmfnjehcnbpbaaDoorRows.lean that lists a variable, with what it lists TIED to the program's text (the seventh form; the later family's looks); each row that meets fmt, with fmt's text TOLD by the authors' own Lean function (tested against real Go, not proved from fmt's source: count such statements apart). THE CARD IS WHAT COUNTS. Prove the row's statement (the work); the ties are given (YtbmfnjehcnbpbaaDoorTie.lean); close each card by the builder's one call (the guide's Derived/Test/ToyasCard.lean, 'card_holds'). Laid BY PROGRAM, IN A SANDBOX (cutbox-door.mjs). By AI agents, Wed Nov 11 2026. No macro, syntax, notation, axiom, sorry.
-/
import Derived.Test.YtbmfnjehcnbpbaaDoorRows
import GoSem.ClaimSeven
namespace Go.Proofs.YtbmfnjehcnbpbaaDoor
namespace Rows

/-- THE TIED CARD OF 'newellaw10.FaultsFewest'. -/
def faultsFewestCard : Claim7 := { stood := { row := faultsFewestRow, standIns := [], harness := (true, "2651ddb41470b744aa449b70f0e0c1b6ccceb07d3d9406739bacbb61df467f7f"), looks := false }, kinds := [], alts := [], laidByText := true, laidKinds := [.data, .data], laidTests := true, laidLooks := .later }
def FaultsFewestCardSaid : Prop := Claim7.holds Tryd.pinned (.plain (OpenSpec.ofChange faultsFewestSpec)) faultsFewestCard

/-- THE TIED CARD OF 'newellaw10.FaultsAlarms'. -/
def faultsAlarmsCard : Claim7 := { stood := { row := faultsAlarmsRow, standIns := [], harness := (true, "2651ddb41470b744aa449b70f0e0c1b6ccceb07d3d9406739bacbb61df467f7f"), looks := false }, kinds := [], alts := [], laidByText := true, laidKinds := [.data, .data], laidTests := true, laidLooks := .later }
def FaultsAlarmsCardSaid : Prop := Claim7.holds Tryd.pinned (.plain (OpenSpec.ofChange faultsAlarmsSpec)) faultsAlarmsCard

/-- THE SECOND FORM's CARD OF 'newellaw10.FaultsFewest'. -/
def faultsFewestUptoCard : Claim7 := { stood := { row := faultsFewestUptoRow, standIns := [], harness := (true, "2651ddb41470b744aa449b70f0e0c1b6ccceb07d3d9406739bacbb61df467f7f"), looks := false }, kinds := [], alts := [], laidByText := true, laidKinds := [.data, .data], laidTests := true, laidLooks := .later }
def FaultsFewestUptoCardSaid : Prop := Claim7.holds Tryd.pinned (.plain (OpenSpec.upto faultsFewestSpec)) faultsFewestUptoCard

/-- THE SECOND FORM's CARD OF 'newellaw10.FaultsAlarms'. -/
def faultsAlarmsUptoCard : Claim7 := { stood := { row := faultsAlarmsUptoRow, standIns := [], harness := (true, "2651ddb41470b744aa449b70f0e0c1b6ccceb07d3d9406739bacbb61df467f7f"), looks := false }, kinds := [], alts := [], laidByText := true, laidKinds := [.data, .data], laidTests := true, laidLooks := .later }
def FaultsAlarmsUptoCardSaid : Prop := Claim7.holds Tryd.pinned (.plain (OpenSpec.upto faultsAlarmsSpec)) faultsAlarmsUptoCard
end Rows
end Go.Proofs.YtbmfnjehcnbpbaaDoor
