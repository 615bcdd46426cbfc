/- ControlCompares is true of every input. -/
import Derived.Test.YtfahaljhgfjooaaDoorKMLawCompares
import Derived.Test.YtfahaljhgfjooaaDoorP6
set_option linter.all false
namespace Go.Proofs.YtfahaljhgfjooaaDoor
open Go.Nw Go.Nw.KM
theorem controlCompares_holds : Rows.ControlComparesUptoCardSaid := ControlCompares.over (s5c (Nat.le_refl _))
#print axioms controlCompares_holds
end Go.Proofs.YtfahaljhgfjooaaDoor
