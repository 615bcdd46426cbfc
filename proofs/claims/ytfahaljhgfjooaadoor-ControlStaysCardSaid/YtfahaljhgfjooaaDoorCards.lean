/-
  DERIVED. GIVEN WITH THE SEED: THE CARDS: each row of YtfahaljhgfjooaaDoorRows.lean that lists a variable, with what it lists TIED to the program's text (the seventh form; the later family's looks); each row that meets fmt, with fmt's text TOLD by the authors' own Lean function (tested against real Go, not proved from fmt's source: count such statements apart). THE CARD IS WHAT COUNTS. Prove the row's statement (the work); the ties are given (YtfahaljhgfjooaaDoorTie.lean); close each card by the builder's one call (the guide's Derived/Test/ToyasCard.lean, 'card_holds'). Laid BY PROGRAM, IN A SANDBOX (cutbox-door.mjs). By AI agents, Wed Nov 11 2026. No macro, syntax, notation, axiom, sorry.
-/
import Derived.Test.YtfahaljhgfjooaaDoorRows
import GoSem.ClaimSeven
namespace Go.Proofs.YtfahaljhgfjooaaDoor
namespace Rows

/-- THE TIED CARD OF 'newellaw04.ControlReaches'. -/
def controlReachesCard : Claim7 := { stood := { row := controlReachesRow, standIns := [], harness := (true, "c97cae8cb796fe8fdb36143dd3cd02ac0eaefb614a2cc1ed3f6ecc1c9b07530e"), looks := false }, kinds := [], alts := [], laidByText := true, laidKinds := [.data], laidTests := true, laidLooks := .later }
def ControlReachesCardSaid : Prop := Claim7.holds Tryd.pinned (.plain (OpenSpec.ofChange controlReachesSpec)) controlReachesCard

/-- THE TIED CARD OF 'newellaw04.ControlStucks'. -/
def controlStucksCard : Claim7 := { stood := { row := controlStucksRow, standIns := [], harness := (true, "c97cae8cb796fe8fdb36143dd3cd02ac0eaefb614a2cc1ed3f6ecc1c9b07530e"), looks := false }, kinds := [], alts := [], laidByText := true, laidKinds := [.data], laidTests := true, laidLooks := .later }
def ControlStucksCardSaid : Prop := Claim7.holds Tryd.pinned (.plain (OpenSpec.ofChange controlStucksSpec)) controlStucksCard

/-- THE TIED CARD OF 'newellaw04.ControlBreaches'. -/
def controlBreachesCard : Claim7 := { stood := { row := controlBreachesRow, standIns := [], harness := (true, "c97cae8cb796fe8fdb36143dd3cd02ac0eaefb614a2cc1ed3f6ecc1c9b07530e"), looks := false }, kinds := [], alts := [], laidByText := true, laidKinds := [.data], laidTests := true, laidLooks := .later }
def ControlBreachesCardSaid : Prop := Claim7.holds Tryd.pinned (.plain (OpenSpec.ofChange controlBreachesSpec)) controlBreachesCard

/-- THE TIED CARD OF 'newellaw04.ControlFound'. -/
def controlFoundCard : Claim7 := { stood := { row := controlFoundRow, standIns := [], harness := (true, "c97cae8cb796fe8fdb36143dd3cd02ac0eaefb614a2cc1ed3f6ecc1c9b07530e"), looks := false }, kinds := [], alts := [], laidByText := true, laidKinds := [.data], laidTests := true, laidLooks := .later }
def ControlFoundCardSaid : Prop := Claim7.holds Tryd.pinned (.plain (OpenSpec.ofChange controlFoundSpec)) controlFoundCard

/-- THE TIED CARD OF 'newellaw04.ControlAlike'. -/
def controlAlikeCard : Claim7 := { stood := { row := controlAlikeRow, standIns := [], harness := (true, "c97cae8cb796fe8fdb36143dd3cd02ac0eaefb614a2cc1ed3f6ecc1c9b07530e"), looks := false }, kinds := [], alts := [], laidByText := true, laidKinds := [.data], laidTests := true, laidLooks := .later }
def ControlAlikeCardSaid : Prop := Claim7.holds Tryd.pinned (.plain (OpenSpec.ofChange controlAlikeSpec)) controlAlikeCard

/-- THE TIED CARD OF 'newellaw04.ControlStays'. -/
def controlStaysCard : Claim7 := { stood := { row := controlStaysRow, standIns := [], harness := (true, "c97cae8cb796fe8fdb36143dd3cd02ac0eaefb614a2cc1ed3f6ecc1c9b07530e"), looks := false }, kinds := [], alts := [], laidByText := true, laidKinds := [.data], laidTests := true, laidLooks := .later }
def ControlStaysCardSaid : Prop := Claim7.holds Tryd.pinned (.plain (OpenSpec.ofChange controlStaysSpec)) controlStaysCard

/-- THE TIED CARD OF 'newellaw04.ControlSteps'. -/
def controlStepsCard : Claim7 := { stood := { row := controlStepsRow, standIns := [], harness := (true, "c97cae8cb796fe8fdb36143dd3cd02ac0eaefb614a2cc1ed3f6ecc1c9b07530e"), looks := false }, kinds := [], alts := [], laidByText := true, laidKinds := [.data], laidTests := true, laidLooks := .later }
def ControlStepsCardSaid : Prop := Claim7.holds Tryd.pinned (.plain (OpenSpec.ofChange controlStepsSpec)) controlStepsCard

/-- THE TIED CARD OF 'newellaw04.ControlCertifies'. -/
def controlCertifiesCard : Claim7 := { stood := { row := controlCertifiesRow, standIns := [], harness := (true, "c97cae8cb796fe8fdb36143dd3cd02ac0eaefb614a2cc1ed3f6ecc1c9b07530e"), looks := false }, kinds := [], alts := [], laidByText := true, laidKinds := [.data], laidTests := true, laidLooks := .later }
def ControlCertifiesCardSaid : Prop := Claim7.holds Tryd.pinned (.plain (OpenSpec.ofChange controlCertifiesSpec)) controlCertifiesCard

/-- THE TIED CARD OF 'newellaw04.ControlCompares'. -/
def controlComparesCard : Claim7 := { stood := { row := controlComparesRow, standIns := [], harness := (true, "c97cae8cb796fe8fdb36143dd3cd02ac0eaefb614a2cc1ed3f6ecc1c9b07530e"), looks := false }, kinds := [], alts := [], laidByText := true, laidKinds := [.data], laidTests := true, laidLooks := .later }
def ControlComparesCardSaid : Prop := Claim7.holds Tryd.pinned (.plain (OpenSpec.ofChange controlComparesSpec)) controlComparesCard

/-- THE TIED CARD OF 'newellaw04.ControlHome'. -/
def controlHomeCard : Claim7 := { stood := { row := controlHomeRow, standIns := [], harness := (true, "c97cae8cb796fe8fdb36143dd3cd02ac0eaefb614a2cc1ed3f6ecc1c9b07530e"), looks := false }, kinds := [], alts := [], laidByText := true, laidKinds := [.data], laidTests := true, laidLooks := .later }
def ControlHomeCardSaid : Prop := Claim7.holds Tryd.pinned (.plain (OpenSpec.ofChange controlHomeSpec)) controlHomeCard

/-- THE TIED CARD OF 'newellaw04.ControlNever'. -/
def controlNeverCard : Claim7 := { stood := { row := controlNeverRow, standIns := [], harness := (true, "c97cae8cb796fe8fdb36143dd3cd02ac0eaefb614a2cc1ed3f6ecc1c9b07530e"), looks := false }, kinds := [], alts := [], laidByText := true, laidKinds := [.data], laidTests := true, laidLooks := .later }
def ControlNeverCardSaid : Prop := Claim7.holds Tryd.pinned (.plain (OpenSpec.ofChange controlNeverSpec)) controlNeverCard

/-- THE TIED CARD OF 'newellaw04.ControlTwin'. -/
def controlTwinCard : Claim7 := { stood := { row := controlTwinRow, standIns := [], harness := (true, "c97cae8cb796fe8fdb36143dd3cd02ac0eaefb614a2cc1ed3f6ecc1c9b07530e"), looks := false }, kinds := [], alts := [], laidByText := true, laidKinds := [.data], laidTests := true, laidLooks := .later }
def ControlTwinCardSaid : Prop := Claim7.holds Tryd.pinned (.plain (OpenSpec.ofChange controlTwinSpec)) controlTwinCard

/-- THE SECOND FORM's CARD OF 'newellaw04.ControlReaches'. -/
def controlReachesUptoCard : Claim7 := { stood := { row := controlReachesUptoRow, standIns := [], harness := (true, "c97cae8cb796fe8fdb36143dd3cd02ac0eaefb614a2cc1ed3f6ecc1c9b07530e"), looks := false }, kinds := [], alts := [], laidByText := true, laidKinds := [.data], laidTests := true, laidLooks := .later }
def ControlReachesUptoCardSaid : Prop := Claim7.holds Tryd.pinned (.plain (OpenSpec.upto controlReachesSpec)) controlReachesUptoCard

/-- THE SECOND FORM's CARD OF 'newellaw04.ControlStucks'. -/
def controlStucksUptoCard : Claim7 := { stood := { row := controlStucksUptoRow, standIns := [], harness := (true, "c97cae8cb796fe8fdb36143dd3cd02ac0eaefb614a2cc1ed3f6ecc1c9b07530e"), looks := false }, kinds := [], alts := [], laidByText := true, laidKinds := [.data], laidTests := true, laidLooks := .later }
def ControlStucksUptoCardSaid : Prop := Claim7.holds Tryd.pinned (.plain (OpenSpec.upto controlStucksSpec)) controlStucksUptoCard

/-- THE SECOND FORM's CARD OF 'newellaw04.ControlBreaches'. -/
def controlBreachesUptoCard : Claim7 := { stood := { row := controlBreachesUptoRow, standIns := [], harness := (true, "c97cae8cb796fe8fdb36143dd3cd02ac0eaefb614a2cc1ed3f6ecc1c9b07530e"), looks := false }, kinds := [], alts := [], laidByText := true, laidKinds := [.data], laidTests := true, laidLooks := .later }
def ControlBreachesUptoCardSaid : Prop := Claim7.holds Tryd.pinned (.plain (OpenSpec.upto controlBreachesSpec)) controlBreachesUptoCard

/-- THE SECOND FORM's CARD OF 'newellaw04.ControlFound'. -/
def controlFoundUptoCard : Claim7 := { stood := { row := controlFoundUptoRow, standIns := [], harness := (true, "c97cae8cb796fe8fdb36143dd3cd02ac0eaefb614a2cc1ed3f6ecc1c9b07530e"), looks := false }, kinds := [], alts := [], laidByText := true, laidKinds := [.data], laidTests := true, laidLooks := .later }
def ControlFoundUptoCardSaid : Prop := Claim7.holds Tryd.pinned (.plain (OpenSpec.upto controlFoundSpec)) controlFoundUptoCard

/-- THE SECOND FORM's CARD OF 'newellaw04.ControlAlike'. -/
def controlAlikeUptoCard : Claim7 := { stood := { row := controlAlikeUptoRow, standIns := [], harness := (true, "c97cae8cb796fe8fdb36143dd3cd02ac0eaefb614a2cc1ed3f6ecc1c9b07530e"), looks := false }, kinds := [], alts := [], laidByText := true, laidKinds := [.data], laidTests := true, laidLooks := .later }
def ControlAlikeUptoCardSaid : Prop := Claim7.holds Tryd.pinned (.plain (OpenSpec.upto controlAlikeSpec)) controlAlikeUptoCard

/-- THE SECOND FORM's CARD OF 'newellaw04.ControlStays'. -/
def controlStaysUptoCard : Claim7 := { stood := { row := controlStaysUptoRow, standIns := [], harness := (true, "c97cae8cb796fe8fdb36143dd3cd02ac0eaefb614a2cc1ed3f6ecc1c9b07530e"), looks := false }, kinds := [], alts := [], laidByText := true, laidKinds := [.data], laidTests := true, laidLooks := .later }
def ControlStaysUptoCardSaid : Prop := Claim7.holds Tryd.pinned (.plain (OpenSpec.upto controlStaysSpec)) controlStaysUptoCard

/-- THE SECOND FORM's CARD OF 'newellaw04.ControlSteps'. -/
def controlStepsUptoCard : Claim7 := { stood := { row := controlStepsUptoRow, standIns := [], harness := (true, "c97cae8cb796fe8fdb36143dd3cd02ac0eaefb614a2cc1ed3f6ecc1c9b07530e"), looks := false }, kinds := [], alts := [], laidByText := true, laidKinds := [.data], laidTests := true, laidLooks := .later }
def ControlStepsUptoCardSaid : Prop := Claim7.holds Tryd.pinned (.plain (OpenSpec.upto controlStepsSpec)) controlStepsUptoCard

/-- THE SECOND FORM's CARD OF 'newellaw04.ControlCertifies'. -/
def controlCertifiesUptoCard : Claim7 := { stood := { row := controlCertifiesUptoRow, standIns := [], harness := (true, "c97cae8cb796fe8fdb36143dd3cd02ac0eaefb614a2cc1ed3f6ecc1c9b07530e"), looks := false }, kinds := [], alts := [], laidByText := true, laidKinds := [.data], laidTests := true, laidLooks := .later }
def ControlCertifiesUptoCardSaid : Prop := Claim7.holds Tryd.pinned (.plain (OpenSpec.upto controlCertifiesSpec)) controlCertifiesUptoCard

/-- THE SECOND FORM's CARD OF 'newellaw04.ControlCompares'. -/
def controlComparesUptoCard : Claim7 := { stood := { row := controlComparesUptoRow, standIns := [], harness := (true, "c97cae8cb796fe8fdb36143dd3cd02ac0eaefb614a2cc1ed3f6ecc1c9b07530e"), looks := false }, kinds := [], alts := [], laidByText := true, laidKinds := [.data], laidTests := true, laidLooks := .later }
def ControlComparesUptoCardSaid : Prop := Claim7.holds Tryd.pinned (.plain (OpenSpec.upto controlComparesSpec)) controlComparesUptoCard

/-- THE SECOND FORM's CARD OF 'newellaw04.ControlHome'. -/
def controlHomeUptoCard : Claim7 := { stood := { row := controlHomeUptoRow, standIns := [], harness := (true, "c97cae8cb796fe8fdb36143dd3cd02ac0eaefb614a2cc1ed3f6ecc1c9b07530e"), looks := false }, kinds := [], alts := [], laidByText := true, laidKinds := [.data], laidTests := true, laidLooks := .later }
def ControlHomeUptoCardSaid : Prop := Claim7.holds Tryd.pinned (.plain (OpenSpec.upto controlHomeSpec)) controlHomeUptoCard

/-- THE SECOND FORM's CARD OF 'newellaw04.ControlNever'. -/
def controlNeverUptoCard : Claim7 := { stood := { row := controlNeverUptoRow, standIns := [], harness := (true, "c97cae8cb796fe8fdb36143dd3cd02ac0eaefb614a2cc1ed3f6ecc1c9b07530e"), looks := false }, kinds := [], alts := [], laidByText := true, laidKinds := [.data], laidTests := true, laidLooks := .later }
def ControlNeverUptoCardSaid : Prop := Claim7.holds Tryd.pinned (.plain (OpenSpec.upto controlNeverSpec)) controlNeverUptoCard

/-- THE SECOND FORM's CARD OF 'newellaw04.ControlTwin'. -/
def controlTwinUptoCard : Claim7 := { stood := { row := controlTwinUptoRow, standIns := [], harness := (true, "c97cae8cb796fe8fdb36143dd3cd02ac0eaefb614a2cc1ed3f6ecc1c9b07530e"), looks := false }, kinds := [], alts := [], laidByText := true, laidKinds := [.data], laidTests := true, laidLooks := .later }
def ControlTwinUptoCardSaid : Prop := Claim7.holds Tryd.pinned (.plain (OpenSpec.upto controlTwinSpec)) controlTwinUptoCard
end Rows
end Go.Proofs.YtfahaljhgfjooaaDoor
