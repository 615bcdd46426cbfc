/- FaultsAlways is true of every input. -/
import Derived.Test.YtccjacnppmciaaaGreatDoorAMLawAlways
import Derived.Test.YtccjacnppmciaaaGreatDoorP5
set_option linter.all false
namespace Go.Proofs.YtccjacnppmciaaaGreatDoor
open Go.Nw Go.Nw.AM
theorem faultsAlways_holds : Rows.FaultsAlwaysUptoCardSaid := FaultsAlways.over (x6f (Nat.le_refl _))
#print axioms faultsAlways_holds
end Go.Proofs.YtccjacnppmciaaaGreatDoor
