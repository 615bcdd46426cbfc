/- TopCharged is true of every input. -/
import Derived.Test.YtgkhgpphjhefaaaDoorUMLawCharged
import Derived.Test.YtgkhgpphjhefaaaDoorP5
set_option linter.all false
namespace Go.Proofs.YtgkhgpphjhefaaaDoor
open Go.Nw Go.Nw.UM
theorem topCharged_holds : Rows.TopChargedCardSaid := TopCharged.over (y9s)
#print axioms topCharged_holds
end Go.Proofs.YtgkhgpphjhefaaaDoor
