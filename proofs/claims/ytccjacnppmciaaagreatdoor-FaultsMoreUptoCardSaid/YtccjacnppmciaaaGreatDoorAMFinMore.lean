/- FaultsMore is true of every input. -/
import Derived.Test.YtccjacnppmciaaaGreatDoorAMLawMore
import Derived.Test.YtccjacnppmciaaaGreatDoorP5
set_option linter.all false
namespace Go.Proofs.YtccjacnppmciaaaGreatDoor
open Go.Nw Go.Nw.AM
theorem faultsMore_holds : Rows.FaultsMoreUptoCardSaid := FaultsMore.over (z3q (Nat.le_refl _))
#print axioms faultsMore_holds
end Go.Proofs.YtccjacnppmciaaaGreatDoor
