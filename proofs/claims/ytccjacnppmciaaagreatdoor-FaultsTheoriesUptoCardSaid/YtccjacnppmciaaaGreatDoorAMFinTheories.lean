/- FaultsTheories is true of every input. -/
import Derived.Test.YtccjacnppmciaaaGreatDoorAMLawTheories
import Derived.Test.YtccjacnppmciaaaGreatDoorP6
set_option linter.all false
namespace Go.Proofs.YtccjacnppmciaaaGreatDoor
open Go.Nw Go.Nw.AM
theorem faultsTheories_holds : Rows.FaultsTheoriesUptoCardSaid := FaultsTheories.over (K84 (Nat.le_refl _))
#print axioms faultsTheories_holds
end Go.Proofs.YtccjacnppmciaaaGreatDoor
