/- ControlAlike is true of every input. -/
import Derived.Test.YtfahaljhgfjooaaDoorKMLawAlike
import Derived.Test.YtfahaljhgfjooaaDoorP6
set_option linter.all false
namespace Go.Proofs.YtfahaljhgfjooaaDoor
open Go.Nw Go.Nw.KM
theorem controlAlike_holds : Rows.ControlAlikeCardSaid := ControlAlike.over (s0j)
#print axioms controlAlike_holds
end Go.Proofs.YtfahaljhgfjooaaDoor
