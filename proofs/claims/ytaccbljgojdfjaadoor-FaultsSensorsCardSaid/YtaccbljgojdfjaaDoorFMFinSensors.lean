/- FaultsSensors is true of every input. -/
import Derived.Test.YtaccbljgojdfjaaDoorFMLawSensors
import Derived.Test.YtaccbljgojdfjaaDoorP3
set_option linter.all false
set_option linter.unusedVariables false
set_option linter.unusedSimpArgs false
set_option linter.unusedSectionVars false
namespace Go.Proofs.YtaccbljgojdfjaaDoor
open Go.Nw Go.Nw.FM
theorem faultsSensors_holds : Rows.FaultsSensorsCardSaid := FaultsSensors.over (g4g)
#print axioms faultsSensors_holds
end Go.Proofs.YtaccbljgojdfjaaDoor
