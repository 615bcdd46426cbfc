/- TopTraced is true of every input. -/
import Derived.Test.YtgkhgpphjhefaaaDoorUMLawTraced
import Derived.Test.YtgkhgpphjhefaaaDoorP5
set_option linter.all false
namespace Go.Proofs.YtgkhgpphjhefaaaDoor
open Go.Nw Go.Nw.UM
theorem topTraced_holds : Rows.TopTracedCardSaid := TopTraced.over (z01)
#print axioms topTraced_holds
end Go.Proofs.YtgkhgpphjhefaaaDoor
