/- ControlSteps is true of every input. -/
import Derived.Test.YtfahaljhgfjooaaDoorKMLawSteps
import Derived.Test.YtfahaljhgfjooaaDoorP6
set_option linter.all false
namespace Go.Proofs.YtfahaljhgfjooaaDoor
open Go.Nw Go.Nw.KM
theorem controlSteps_holds : Rows.ControlStepsUptoCardSaid := ControlSteps.over (j8c (Nat.le_refl _))
#print axioms controlSteps_holds
end Go.Proofs.YtfahaljhgfjooaaDoor
