/- CircuitTwo is true of every input. -/
import Derived.Test.YtmlhjobmpjpmnaaCMLawTwo
import Derived.Test.YtmlhjobmpjpmnaaCMTwo
import Derived.Test.YtmlhjobmpjpmnaaCMWorks
set_option linter.all false
set_option linter.unusedVariables false
set_option linter.unusedSimpArgs false
set_option linter.unusedSectionVars false
namespace Go.Proofs.Ytmlhjobmpjpmnaa
open Go.Nw Go.Nw.CM
theorem circuitTwo_holds : Rows.CircuitTwoSaid := CircuitTwo.over (Two_plain works_true)
#print axioms circuitTwo_holds
end Go.Proofs.Ytmlhjobmpjpmnaa
