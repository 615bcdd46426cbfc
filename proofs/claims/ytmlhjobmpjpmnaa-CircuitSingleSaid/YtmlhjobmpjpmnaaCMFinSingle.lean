/- CircuitSingle is true of every input. -/
import Derived.Test.YtmlhjobmpjpmnaaCMLawSingle
import Derived.Test.YtmlhjobmpjpmnaaCMOrder
import Derived.Test.YtmlhjobmpjpmnaaCMWorks
set_option linter.all false
set_option linter.unusedVariables false
set_option linter.unusedSimpArgs false
set_option linter.unusedSectionVars false
namespace Go.Proofs.Ytmlhjobmpjpmnaa
open Go.Nw Go.Nw.CM
theorem circuitSingle_holds : Rows.CircuitSingleSaid := CircuitSingle.over (Single_plain works_true)
#print axioms circuitSingle_holds
end Go.Proofs.Ytmlhjobmpjpmnaa
