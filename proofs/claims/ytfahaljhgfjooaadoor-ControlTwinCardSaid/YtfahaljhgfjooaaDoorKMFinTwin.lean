/- ControlTwin is true of every input. -/
import Derived.Test.YtfahaljhgfjooaaDoorKMLawTwin
import Derived.Test.YtfahaljhgfjooaaDoorKMTwinLaw
set_option linter.all false
namespace Go.Proofs.YtfahaljhgfjooaaDoor
open Go.Nw Go.Nw.KM
theorem controlTwin_holds : Rows.ControlTwinCardSaid := ControlTwin.over (r4i)
#print axioms controlTwin_holds
end Go.Proofs.YtfahaljhgfjooaaDoor
