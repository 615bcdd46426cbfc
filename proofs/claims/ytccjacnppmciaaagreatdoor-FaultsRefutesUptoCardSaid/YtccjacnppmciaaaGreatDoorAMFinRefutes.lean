/- FaultsRefutes is true of every input. -/
import Derived.Test.YtccjacnppmciaaaGreatDoorAMLawRefutes
import Derived.Test.YtccjacnppmciaaaGreatDoorP5
set_option linter.all false
namespace Go.Proofs.YtccjacnppmciaaaGreatDoor
open Go.Nw Go.Nw.AM
theorem faultsRefutes_holds : Rows.FaultsRefutesUptoCardSaid := FaultsRefutes.over (x1h (Nat.le_refl _))
#print axioms faultsRefutes_holds
end Go.Proofs.YtccjacnppmciaaaGreatDoor
