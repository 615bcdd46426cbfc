/- ControlNever is true of every input. -/
import Derived.Test.YtfahaljhgfjooaaDoorKMLawNever
import Derived.Test.YtfahaljhgfjooaaDoorP6
set_option linter.all false
namespace Go.Proofs.YtfahaljhgfjooaaDoor
open Go.Nw Go.Nw.KM
theorem controlNever_holds : Rows.ControlNeverCardSaid := ControlNever.over (p34)
#print axioms controlNever_holds
end Go.Proofs.YtfahaljhgfjooaaDoor
