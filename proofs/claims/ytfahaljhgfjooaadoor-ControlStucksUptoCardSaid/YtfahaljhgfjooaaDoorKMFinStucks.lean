/- ControlStucks is true of every input. -/
import Derived.Test.YtfahaljhgfjooaaDoorKMLawStucks
import Derived.Test.YtfahaljhgfjooaaDoorP6
set_option linter.all false
namespace Go.Proofs.YtfahaljhgfjooaaDoor
open Go.Nw Go.Nw.KM
theorem controlStucks_holds : Rows.ControlStucksUptoCardSaid := ControlStucks.over (l3w (Nat.le_refl _))
#print axioms controlStucks_holds
end Go.Proofs.YtfahaljhgfjooaaDoor
