/-
  DERIVED. GIVEN WITH THE SEED: THE CARDS: each row of YtccjacnppmciaaaGreatDoorRows.lean that lists a variable, with what it lists TIED to the program's text (the seventh form; the later family's looks); each row that meets fmt, with fmt's text TOLD by the authors' own Lean function (tested against real Go, not proved from fmt's source: count such statements apart). THE CARD IS WHAT COUNTS. Prove the row's statement (the work); the ties are given (YtccjacnppmciaaaGreatDoorTie.lean); close each card by the builder's one call (the guide's Derived/Test/ToyasCard.lean, 'card_holds'). Laid BY PROGRAM, IN A SANDBOX (cutbox-door.mjs). By AI agents, Wed Nov 11 2026. No macro, syntax, notation, axiom, sorry.
-/
import Derived.Test.YtccjacnppmciaaaGreatDoorRows
import GoSem.ClaimSeven
namespace Go.Proofs.YtccjacnppmciaaaGreatDoor
namespace Rows

/-- THE TIED CARD OF 'newellaw10.FaultsTheories'. -/
def faultsTheoriesCard : Claim7 := { stood := { row := faultsTheoriesRow, standIns := [], harness := (true, "46e3172f99888f87dbd4698db3be4dedef5e3eff712f9b63a601451a9a281936"), looks := false }, kinds := [], alts := [], laidByText := true, laidKinds := [.data, .data, .data], laidTests := true, laidLooks := .later }
def FaultsTheoriesCardSaid : Prop := Claim7.holds Tryz.pinned (.plain (OpenSpec.ofChange faultsTheoriesSpec)) faultsTheoriesCard

/-- THE TIED CARD OF 'newellaw10.FaultsCourses'. -/
def faultsCoursesCard : Claim7 := { stood := { row := faultsCoursesRow, standIns := [], harness := (true, "46e3172f99888f87dbd4698db3be4dedef5e3eff712f9b63a601451a9a281936"), looks := false }, kinds := [], alts := [], laidByText := true, laidKinds := [.data, .data, .data], laidTests := true, laidLooks := .later }
def FaultsCoursesCardSaid : Prop := Claim7.holds Tryz.pinned (.plain (OpenSpec.ofChange faultsCoursesSpec)) faultsCoursesCard

/-- THE TIED CARD OF 'newellaw10.FaultsAlways'. -/
def faultsAlwaysCard : Claim7 := { stood := { row := faultsAlwaysRow, standIns := [], harness := (true, "46e3172f99888f87dbd4698db3be4dedef5e3eff712f9b63a601451a9a281936"), looks := false }, kinds := [], alts := [], laidByText := true, laidKinds := [.data, .data, .data], laidTests := true, laidLooks := .later }
def FaultsAlwaysCardSaid : Prop := Claim7.holds Tryz.pinned (.plain (OpenSpec.ofChange faultsAlwaysSpec)) faultsAlwaysCard

/-- THE TIED CARD OF 'newellaw10.FaultsRefutes'. -/
def faultsRefutesCard : Claim7 := { stood := { row := faultsRefutesRow, standIns := [], harness := (true, "46e3172f99888f87dbd4698db3be4dedef5e3eff712f9b63a601451a9a281936"), looks := false }, kinds := [], alts := [], laidByText := true, laidKinds := [.data, .data, .data], laidTests := true, laidLooks := .later }
def FaultsRefutesCardSaid : Prop := Claim7.holds Tryz.pinned (.plain (OpenSpec.ofChange faultsRefutesSpec)) faultsRefutesCard

/-- THE TIED CARD OF 'newellaw10.FaultsMore'. -/
def faultsMoreCard : Claim7 := { stood := { row := faultsMoreRow, standIns := [], harness := (true, "46e3172f99888f87dbd4698db3be4dedef5e3eff712f9b63a601451a9a281936"), looks := false }, kinds := [], alts := [], laidByText := true, laidKinds := [.data, .data, .data], laidTests := true, laidLooks := .later }
def FaultsMoreCardSaid : Prop := Claim7.holds Tryz.pinned (.plain (OpenSpec.ofChange faultsMoreSpec)) faultsMoreCard

/-- THE TIED CARD OF 'newellaw10.FaultsElse'. -/
def faultsElseCard : Claim7 := { stood := { row := faultsElseRow, standIns := [], harness := (true, "46e3172f99888f87dbd4698db3be4dedef5e3eff712f9b63a601451a9a281936"), looks := false }, kinds := [], alts := [], laidByText := true, laidKinds := [.data, .data, .data], laidTests := true, laidLooks := .later }
def FaultsElseCardSaid : Prop := Claim7.holds Tryz.pinned (.plain (OpenSpec.ofChange faultsElseSpec)) faultsElseCard

/-- THE SECOND FORM's CARD OF 'newellaw10.FaultsTheories'. -/
def faultsTheoriesUptoCard : Claim7 := { stood := { row := faultsTheoriesUptoRow, standIns := [], harness := (true, "46e3172f99888f87dbd4698db3be4dedef5e3eff712f9b63a601451a9a281936"), looks := false }, kinds := [], alts := [], laidByText := true, laidKinds := [.data, .data, .data], laidTests := true, laidLooks := .later }
def FaultsTheoriesUptoCardSaid : Prop := Claim7.holds Tryz.pinned (.plain (OpenSpec.upto faultsTheoriesSpec)) faultsTheoriesUptoCard

/-- THE SECOND FORM's CARD OF 'newellaw10.FaultsCourses'. -/
def faultsCoursesUptoCard : Claim7 := { stood := { row := faultsCoursesUptoRow, standIns := [], harness := (true, "46e3172f99888f87dbd4698db3be4dedef5e3eff712f9b63a601451a9a281936"), looks := false }, kinds := [], alts := [], laidByText := true, laidKinds := [.data, .data, .data], laidTests := true, laidLooks := .later }
def FaultsCoursesUptoCardSaid : Prop := Claim7.holds Tryz.pinned (.plain (OpenSpec.upto faultsCoursesSpec)) faultsCoursesUptoCard

/-- THE SECOND FORM's CARD OF 'newellaw10.FaultsAlways'. -/
def faultsAlwaysUptoCard : Claim7 := { stood := { row := faultsAlwaysUptoRow, standIns := [], harness := (true, "46e3172f99888f87dbd4698db3be4dedef5e3eff712f9b63a601451a9a281936"), looks := false }, kinds := [], alts := [], laidByText := true, laidKinds := [.data, .data, .data], laidTests := true, laidLooks := .later }
def FaultsAlwaysUptoCardSaid : Prop := Claim7.holds Tryz.pinned (.plain (OpenSpec.upto faultsAlwaysSpec)) faultsAlwaysUptoCard

/-- THE SECOND FORM's CARD OF 'newellaw10.FaultsRefutes'. -/
def faultsRefutesUptoCard : Claim7 := { stood := { row := faultsRefutesUptoRow, standIns := [], harness := (true, "46e3172f99888f87dbd4698db3be4dedef5e3eff712f9b63a601451a9a281936"), looks := false }, kinds := [], alts := [], laidByText := true, laidKinds := [.data, .data, .data], laidTests := true, laidLooks := .later }
def FaultsRefutesUptoCardSaid : Prop := Claim7.holds Tryz.pinned (.plain (OpenSpec.upto faultsRefutesSpec)) faultsRefutesUptoCard

/-- THE SECOND FORM's CARD OF 'newellaw10.FaultsMore'. -/
def faultsMoreUptoCard : Claim7 := { stood := { row := faultsMoreUptoRow, standIns := [], harness := (true, "46e3172f99888f87dbd4698db3be4dedef5e3eff712f9b63a601451a9a281936"), looks := false }, kinds := [], alts := [], laidByText := true, laidKinds := [.data, .data, .data], laidTests := true, laidLooks := .later }
def FaultsMoreUptoCardSaid : Prop := Claim7.holds Tryz.pinned (.plain (OpenSpec.upto faultsMoreSpec)) faultsMoreUptoCard

/-- THE SECOND FORM's CARD OF 'newellaw10.FaultsElse'. -/
def faultsElseUptoCard : Claim7 := { stood := { row := faultsElseUptoRow, standIns := [], harness := (true, "46e3172f99888f87dbd4698db3be4dedef5e3eff712f9b63a601451a9a281936"), looks := false }, kinds := [], alts := [], laidByText := true, laidKinds := [.data, .data, .data], laidTests := true, laidLooks := .later }
def FaultsElseUptoCardSaid : Prop := Claim7.holds Tryz.pinned (.plain (OpenSpec.upto faultsElseSpec)) faultsElseUptoCard
end Rows
end Go.Proofs.YtccjacnppmciaaaGreatDoor
