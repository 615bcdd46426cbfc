/-
  DERIVED. GIVEN WITH THE SEED: THE CARDS: each row of YtaccbljgojdfjaaDoorRows.lean that lists a variable, with what it lists TIED to the program's text (the seventh form; the later family's looks); each row that meets fmt, with fmt's text TOLD by the authors' own Lean function (tested against real Go, not proved from fmt's source: count such statements apart). THE CARD IS WHAT COUNTS. Prove the row's statement (the work); the ties are given (YtaccbljgojdfjaaDoorTie.lean); close each card by the builder's one call (the guide's Derived/Test/ToyasCard.lean, 'card_holds'). Laid BY PROGRAM, IN A SANDBOX (cutbox-door.mjs). By AI agents, Wed Nov 11 2026. No macro, syntax, notation, axiom, sorry.
-/
import Derived.Test.YtaccbljgojdfjaaDoorRows
import GoSem.ClaimSeven
namespace Go.Proofs.YtaccbljgojdfjaaDoor
namespace Rows

/-- THE TIED CARD OF 'newellaw10.FaultsSensors'. -/
def faultsSensorsCard : Claim7 := { stood := { row := faultsSensorsRow, standIns := [], harness := (true, "2ccda8a5663079de826103f602c5f2735ad090a3926fd251abcedd7483cf0fbf"), looks := false }, kinds := [], alts := [], laidByText := true, laidKinds := [.data, .data], laidTests := true, laidLooks := .later }
def FaultsSensorsCardSaid : Prop := Claim7.holds Tryd.pinned (.plain (OpenSpec.ofChange faultsSensorsSpec)) faultsSensorsCard

/-- THE TIED CARD OF 'newellaw10.FaultsTruth'. -/
def faultsTruthCard : Claim7 := { stood := { row := faultsTruthRow, standIns := [], harness := (true, "2ccda8a5663079de826103f602c5f2735ad090a3926fd251abcedd7483cf0fbf"), looks := false }, kinds := [], alts := [], laidByText := true, laidKinds := [.data, .data], laidTests := true, laidLooks := .later }
def FaultsTruthCardSaid : Prop := Claim7.holds Tryd.pinned (.plain (OpenSpec.ofChange faultsTruthSpec)) faultsTruthCard

/-- THE TIED CARD OF 'newellaw10.FaultsFewest'. -/
def faultsFewestCard : Claim7 := { stood := { row := faultsFewestRow, standIns := [], harness := (true, "2ccda8a5663079de826103f602c5f2735ad090a3926fd251abcedd7483cf0fbf"), looks := false }, kinds := [], alts := [], laidByText := true, laidKinds := [.data, .data], laidTests := true, laidLooks := .later }
def FaultsFewestCardSaid : Prop := Claim7.holds Tryd.pinned (.plain (OpenSpec.ofChange faultsFewestSpec)) faultsFewestCard

/-- THE TIED CARD OF 'newellaw10.FaultsAlarms'. -/
def faultsAlarmsCard : Claim7 := { stood := { row := faultsAlarmsRow, standIns := [], harness := (true, "2ccda8a5663079de826103f602c5f2735ad090a3926fd251abcedd7483cf0fbf"), looks := false }, kinds := [], alts := [], laidByText := true, laidKinds := [.data, .data], laidTests := true, laidLooks := .later }
def FaultsAlarmsCardSaid : Prop := Claim7.holds Tryd.pinned (.plain (OpenSpec.ofChange faultsAlarmsSpec)) faultsAlarmsCard

/-- THE SECOND FORM's CARD OF 'newellaw10.FaultsSensors'. -/
def faultsSensorsUptoCard : Claim7 := { stood := { row := faultsSensorsUptoRow, standIns := [], harness := (true, "2ccda8a5663079de826103f602c5f2735ad090a3926fd251abcedd7483cf0fbf"), looks := false }, kinds := [], alts := [], laidByText := true, laidKinds := [.data, .data], laidTests := true, laidLooks := .later }
def FaultsSensorsUptoCardSaid : Prop := Claim7.holds Tryd.pinned (.plain (OpenSpec.upto faultsSensorsSpec)) faultsSensorsUptoCard

/-- THE SECOND FORM's CARD OF 'newellaw10.FaultsTruth'. -/
def faultsTruthUptoCard : Claim7 := { stood := { row := faultsTruthUptoRow, standIns := [], harness := (true, "2ccda8a5663079de826103f602c5f2735ad090a3926fd251abcedd7483cf0fbf"), looks := false }, kinds := [], alts := [], laidByText := true, laidKinds := [.data, .data], laidTests := true, laidLooks := .later }
def FaultsTruthUptoCardSaid : Prop := Claim7.holds Tryd.pinned (.plain (OpenSpec.upto faultsTruthSpec)) faultsTruthUptoCard

/-- THE SECOND FORM's CARD OF 'newellaw10.FaultsFewest'. -/
def faultsFewestUptoCard : Claim7 := { stood := { row := faultsFewestUptoRow, standIns := [], harness := (true, "2ccda8a5663079de826103f602c5f2735ad090a3926fd251abcedd7483cf0fbf"), looks := false }, kinds := [], alts := [], laidByText := true, laidKinds := [.data, .data], laidTests := true, laidLooks := .later }
def FaultsFewestUptoCardSaid : Prop := Claim7.holds Tryd.pinned (.plain (OpenSpec.upto faultsFewestSpec)) faultsFewestUptoCard

/-- THE SECOND FORM's CARD OF 'newellaw10.FaultsAlarms'. -/
def faultsAlarmsUptoCard : Claim7 := { stood := { row := faultsAlarmsUptoRow, standIns := [], harness := (true, "2ccda8a5663079de826103f602c5f2735ad090a3926fd251abcedd7483cf0fbf"), looks := false }, kinds := [], alts := [], laidByText := true, laidKinds := [.data, .data], laidTests := true, laidLooks := .later }
def FaultsAlarmsUptoCardSaid : Prop := Claim7.holds Tryd.pinned (.plain (OpenSpec.upto faultsAlarmsSpec)) faultsAlarmsUptoCard
end Rows
end Go.Proofs.YtaccbljgojdfjaaDoor
