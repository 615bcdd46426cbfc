/- ControlBreaches is true of every input. -/
import Derived.Test.YtfahaljhgfjooaaDoorKMLawBreaches
import Derived.Test.YtfahaljhgfjooaaDoorP6
set_option linter.all false
namespace Go.Proofs.YtfahaljhgfjooaaDoor
open Go.Nw Go.Nw.KM
theorem controlBreaches_holds : Rows.ControlBreachesUptoCardSaid := ControlBreaches.over (g6w (Nat.le_refl _))
#print axioms controlBreaches_holds
end Go.Proofs.YtfahaljhgfjooaaDoor
