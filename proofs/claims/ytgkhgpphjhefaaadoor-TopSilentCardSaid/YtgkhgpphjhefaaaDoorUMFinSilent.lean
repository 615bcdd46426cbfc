/- TopSilent is true of every input. -/
import Derived.Test.YtgkhgpphjhefaaaDoorUMLawSilent
import Derived.Test.YtgkhgpphjhefaaaDoorP5
set_option linter.all false
namespace Go.Proofs.YtgkhgpphjhefaaaDoor
open Go.Nw Go.Nw.UM
theorem topSilent_holds : Rows.TopSilentCardSaid := TopSilent.over (x9u)
#print axioms topSilent_holds
end Go.Proofs.YtgkhgpphjhefaaaDoor
