/- TopSworn is true of every input. -/
import Derived.Test.YtgkhgpphjhefaaaDoorUMLawSworn
import Derived.Test.YtgkhgpphjhefaaaDoorP5
set_option linter.all false
namespace Go.Proofs.YtgkhgpphjhefaaaDoor
open Go.Nw Go.Nw.UM
theorem topSworn_holds : Rows.TopSwornCardSaid := TopSworn.over (y8f)
#print axioms topSworn_holds
end Go.Proofs.YtgkhgpphjhefaaaDoor
