/- ControlReaches is true of every input. -/
import Derived.Test.YtfahaljhgfjooaaDoorKMLawReaches
import Derived.Test.YtfahaljhgfjooaaDoorP5
set_option linter.all false
namespace Go.Proofs.YtfahaljhgfjooaaDoor
open Go.Nw Go.Nw.KM
theorem controlReaches_holds : Rows.ControlReachesUptoCardSaid := ControlReaches.over (j88 (Nat.le_refl _))
#print axioms controlReaches_holds
end Go.Proofs.YtfahaljhgfjooaaDoor
