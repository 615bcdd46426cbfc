/-
  DERIVED. GIVEN WITH THE SEED: THE CARDS: each row of YtgkhgpphjhefaaaDoorRows.lean that lists a variable, with what it lists TIED to the program's text (the seventh form; the later family's looks); each row that meets fmt, with fmt's text TOLD by the authors' own Lean function (tested against real Go, not proved from fmt's source: count such statements apart). THE CARD IS WHAT COUNTS. Prove the row's statement (the work); the ties are given (YtgkhgpphjhefaaaDoorTie.lean); close each card by the builder's one call (the guide's Derived/Test/ToyasCard.lean, 'card_holds'). Laid BY PROGRAM, IN A SANDBOX (cutbox-door.mjs). By AI agents, Wed Nov 11 2026. No macro, syntax, notation, axiom, sorry.
-/
import Derived.Test.YtgkhgpphjhefaaaDoorRows
import GoSem.ClaimSeven
namespace Go.Proofs.YtgkhgpphjhefaaaDoor
namespace Rows

/-- THE TIED CARD OF 'neweltop.TopTraced'. -/
def topTracedCard : Claim7 := { stood := { row := topTracedRow, standIns := [], harness := (true, "db4e9cbca9ed2499c5bdf819801b7ff7409f0cdc37448fc3ba2f985215f52c23"), looks := false }, kinds := [], alts := [], laidByText := true, laidKinds := [.data], laidTests := true, laidLooks := .later }
def TopTracedCardSaid : Prop := Claim7.holds Tryd.pinned (.plain (OpenSpec.ofChange topTracedSpec)) topTracedCard

/-- THE TIED CARD OF 'neweltop.TopSilent'. -/
def topSilentCard : Claim7 := { stood := { row := topSilentRow, standIns := [], harness := (true, "db4e9cbca9ed2499c5bdf819801b7ff7409f0cdc37448fc3ba2f985215f52c23"), looks := false }, kinds := [], alts := [], laidByText := true, laidKinds := [.data], laidTests := true, laidLooks := .later }
def TopSilentCardSaid : Prop := Claim7.holds Tryd.pinned (.plain (OpenSpec.ofChange topSilentSpec)) topSilentCard

/-- THE TIED CARD OF 'neweltop.TopCharged'. -/
def topChargedCard : Claim7 := { stood := { row := topChargedRow, standIns := [], harness := (true, "db4e9cbca9ed2499c5bdf819801b7ff7409f0cdc37448fc3ba2f985215f52c23"), looks := false }, kinds := [], alts := [], laidByText := true, laidKinds := [.data], laidTests := true, laidLooks := .later }
def TopChargedCardSaid : Prop := Claim7.holds Tryd.pinned (.plain (OpenSpec.ofChange topChargedSpec)) topChargedCard

/-- THE TIED CARD OF 'neweltop.TopAlike'. -/
def topAlikeCard : Claim7 := { stood := { row := topAlikeRow, standIns := [], harness := (true, "db4e9cbca9ed2499c5bdf819801b7ff7409f0cdc37448fc3ba2f985215f52c23"), looks := false }, kinds := [], alts := [], laidByText := true, laidKinds := [.data], laidTests := true, laidLooks := .later }
def TopAlikeCardSaid : Prop := Claim7.holds Tryd.pinned (.plain (OpenSpec.ofChange topAlikeSpec)) topAlikeCard

/-- THE TIED CARD OF 'neweltop.TopSworn'. -/
def topSwornCard : Claim7 := { stood := { row := topSwornRow, standIns := [], harness := (true, "db4e9cbca9ed2499c5bdf819801b7ff7409f0cdc37448fc3ba2f985215f52c23"), looks := false }, kinds := [], alts := [], laidByText := true, laidKinds := [.data], laidTests := true, laidLooks := .later }
def TopSwornCardSaid : Prop := Claim7.holds Tryd.pinned (.plain (OpenSpec.ofChange topSwornSpec)) topSwornCard

/-- THE SECOND FORM's CARD OF 'neweltop.TopTraced'. -/
def topTracedUptoCard : Claim7 := { stood := { row := topTracedUptoRow, standIns := [], harness := (true, "db4e9cbca9ed2499c5bdf819801b7ff7409f0cdc37448fc3ba2f985215f52c23"), looks := false }, kinds := [], alts := [], laidByText := true, laidKinds := [.data], laidTests := true, laidLooks := .later }
def TopTracedUptoCardSaid : Prop := Claim7.holds Tryd.pinned (.plain (OpenSpec.upto topTracedSpec)) topTracedUptoCard

/-- THE SECOND FORM's CARD OF 'neweltop.TopSilent'. -/
def topSilentUptoCard : Claim7 := { stood := { row := topSilentUptoRow, standIns := [], harness := (true, "db4e9cbca9ed2499c5bdf819801b7ff7409f0cdc37448fc3ba2f985215f52c23"), looks := false }, kinds := [], alts := [], laidByText := true, laidKinds := [.data], laidTests := true, laidLooks := .later }
def TopSilentUptoCardSaid : Prop := Claim7.holds Tryd.pinned (.plain (OpenSpec.upto topSilentSpec)) topSilentUptoCard

/-- THE SECOND FORM's CARD OF 'neweltop.TopCharged'. -/
def topChargedUptoCard : Claim7 := { stood := { row := topChargedUptoRow, standIns := [], harness := (true, "db4e9cbca9ed2499c5bdf819801b7ff7409f0cdc37448fc3ba2f985215f52c23"), looks := false }, kinds := [], alts := [], laidByText := true, laidKinds := [.data], laidTests := true, laidLooks := .later }
def TopChargedUptoCardSaid : Prop := Claim7.holds Tryd.pinned (.plain (OpenSpec.upto topChargedSpec)) topChargedUptoCard

/-- THE SECOND FORM's CARD OF 'neweltop.TopAlike'. -/
def topAlikeUptoCard : Claim7 := { stood := { row := topAlikeUptoRow, standIns := [], harness := (true, "db4e9cbca9ed2499c5bdf819801b7ff7409f0cdc37448fc3ba2f985215f52c23"), looks := false }, kinds := [], alts := [], laidByText := true, laidKinds := [.data], laidTests := true, laidLooks := .later }
def TopAlikeUptoCardSaid : Prop := Claim7.holds Tryd.pinned (.plain (OpenSpec.upto topAlikeSpec)) topAlikeUptoCard

/-- THE SECOND FORM's CARD OF 'neweltop.TopSworn'. -/
def topSwornUptoCard : Claim7 := { stood := { row := topSwornUptoRow, standIns := [], harness := (true, "db4e9cbca9ed2499c5bdf819801b7ff7409f0cdc37448fc3ba2f985215f52c23"), looks := false }, kinds := [], alts := [], laidByText := true, laidKinds := [.data], laidTests := true, laidLooks := .later }
def TopSwornUptoCardSaid : Prop := Claim7.holds Tryd.pinned (.plain (OpenSpec.upto topSwornSpec)) topSwornUptoCard
end Rows
end Go.Proofs.YtgkhgpphjhefaaaDoor
