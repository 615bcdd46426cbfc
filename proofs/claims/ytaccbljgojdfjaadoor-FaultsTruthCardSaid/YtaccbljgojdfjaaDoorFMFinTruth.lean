/- FaultsTruth is true of every input. -/
import Derived.Test.YtaccbljgojdfjaaDoorFMLawTruth
import Derived.Test.YtaccbljgojdfjaaDoorP3
set_option linter.all false
set_option linter.unusedVariables false
set_option linter.unusedSimpArgs false
set_option linter.unusedSectionVars false
namespace Go.Proofs.YtaccbljgojdfjaaDoor
open Go.Nw Go.Nw.FM
theorem faultsTruth_holds : Rows.FaultsTruthCardSaid := FaultsTruth.over (g4l)
#print axioms faultsTruth_holds
end Go.Proofs.YtaccbljgojdfjaaDoor
