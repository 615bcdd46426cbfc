/- FaultsNamed is true of every input. -/
import Derived.Test.YtccjacnppmciaaaDoorANLawNamed
import Derived.Test.YtccjacnppmciaaaDoorP5
set_option linter.all false
namespace Go.Proofs.YtccjacnppmciaaaDoor
open Go.Nw Go.Nw.AN
theorem faultsNamed_holds : Rows.FaultsNamedCardSaid := FaultsNamed.over (x3v)
#print axioms faultsNamed_holds
end Go.Proofs.YtccjacnppmciaaaDoor
