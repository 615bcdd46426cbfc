/- CircuitLeast is true of every input. -/
import Derived.Test.YtmlhjobmpjpmnaaCMLawLeast
import Derived.Test.YtmlhjobmpjpmnaaCMDang
import Derived.Test.YtmlhjobmpjpmnaaCMWorks
set_option linter.all false
set_option linter.unusedVariables false
set_option linter.unusedSimpArgs false
set_option linter.unusedSectionVars false
namespace Go.Proofs.Ytmlhjobmpjpmnaa
open Go.Nw Go.Nw.CM
theorem circuitLeast_holds : Rows.CircuitLeastSaid := CircuitLeast.over (Least_plain works_true)
#print axioms circuitLeast_holds
end Go.Proofs.Ytmlhjobmpjpmnaa
