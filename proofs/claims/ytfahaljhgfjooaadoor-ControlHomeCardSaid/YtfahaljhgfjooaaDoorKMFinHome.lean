/- ControlHome is true of every input. -/
import Derived.Test.YtfahaljhgfjooaaDoorKMLawHome
import Derived.Test.YtfahaljhgfjooaaDoorP6
set_option linter.all false
namespace Go.Proofs.YtfahaljhgfjooaaDoor
open Go.Nw Go.Nw.KM
theorem controlHome_holds : Rows.ControlHomeCardSaid := ControlHome.over (p7k)
#print axioms controlHome_holds
end Go.Proofs.YtfahaljhgfjooaaDoor
