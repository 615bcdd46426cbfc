/- TopAlike is true of every input. -/
import Derived.Test.YtgkhgpphjhefaaaDoorUMLawAlike
import Derived.Test.YtgkhgpphjhefaaaDoorP5
set_option linter.all false
namespace Go.Proofs.YtgkhgpphjhefaaaDoor
open Go.Nw Go.Nw.UM
theorem topAlike_holds : Rows.TopAlikeCardSaid := TopAlike.over (s0j)
#print axioms topAlike_holds
end Go.Proofs.YtgkhgpphjhefaaaDoor
