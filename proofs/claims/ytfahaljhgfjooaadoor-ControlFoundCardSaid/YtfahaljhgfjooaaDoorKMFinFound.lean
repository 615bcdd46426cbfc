/- ControlFound is true of every input. -/
import Derived.Test.YtfahaljhgfjooaaDoorKMLawFound
import Derived.Test.YtfahaljhgfjooaaDoorP6
set_option linter.all false
namespace Go.Proofs.YtfahaljhgfjooaaDoor
open Go.Nw Go.Nw.KM
theorem controlFound_holds : Rows.ControlFoundCardSaid := ControlFound.over (p9p)
#print axioms controlFound_holds
end Go.Proofs.YtfahaljhgfjooaaDoor
