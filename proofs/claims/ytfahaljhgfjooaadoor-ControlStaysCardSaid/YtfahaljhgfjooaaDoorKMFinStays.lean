/- ControlStays is true of every input. -/
import Derived.Test.YtfahaljhgfjooaaDoorKMLawStays
import Derived.Test.YtfahaljhgfjooaaDoorP6
set_option linter.all false
namespace Go.Proofs.YtfahaljhgfjooaaDoor
open Go.Nw Go.Nw.KM
theorem controlStays_holds : Rows.ControlStaysCardSaid := ControlStays.over (p56)
#print axioms controlStays_holds
end Go.Proofs.YtfahaljhgfjooaaDoor
