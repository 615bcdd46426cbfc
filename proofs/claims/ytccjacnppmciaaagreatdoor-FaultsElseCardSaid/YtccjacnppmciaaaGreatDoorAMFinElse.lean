/- FaultsElse is true of every input. -/
import Derived.Test.YtccjacnppmciaaaGreatDoorAMLawElse
import Derived.Test.YtccjacnppmciaaaGreatDoorP6
set_option linter.all false
namespace Go.Proofs.YtccjacnppmciaaaGreatDoor
open Go.Nw Go.Nw.AM
theorem faultsElse_holds : Rows.FaultsElseCardSaid := FaultsElse.over (L0r)
#print axioms faultsElse_holds
end Go.Proofs.YtccjacnppmciaaaGreatDoor
