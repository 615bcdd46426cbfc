/- CircuitNever is true of every input. -/
import Derived.Test.YtmlhjobmpjpmnaaCMLawNever
import Derived.Test.YtmlhjobmpjpmnaaP3
import Derived.Test.YtmlhjobmpjpmnaaCMWorks
set_option linter.all false
set_option linter.unusedVariables false
set_option linter.unusedSimpArgs false
set_option linter.unusedSectionVars false
namespace Go.Proofs.Ytmlhjobmpjpmnaa
open Go.Nw Go.Nw.CM
theorem circuitNever_holds : Rows.CircuitNeverSaid := CircuitNever.over (Never_plain works_true)
#print axioms circuitNever_holds
end Go.Proofs.Ytmlhjobmpjpmnaa
