/- CircuitDangers is true of every input. -/
import Derived.Test.YtmlhjobmpjpmnaaCMLawDangers
import Derived.Test.YtmlhjobmpjpmnaaCMDang
import Derived.Test.YtmlhjobmpjpmnaaCMWorks
set_option linter.all false
set_option linter.unusedVariables false
set_option linter.unusedSimpArgs false
set_option linter.unusedSectionVars false
namespace Go.Proofs.Ytmlhjobmpjpmnaa
open Go.Nw Go.Nw.CM
theorem circuitDangers_holds : Rows.CircuitDangersSaid := CircuitDangers.over (Dangers_plain works_true)
#print axioms circuitDangers_holds
end Go.Proofs.Ytmlhjobmpjpmnaa
