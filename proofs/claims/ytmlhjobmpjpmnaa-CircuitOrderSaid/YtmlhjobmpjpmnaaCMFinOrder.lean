/- CircuitOrder is true of every input. -/
import Derived.Test.YtmlhjobmpjpmnaaCMLawOrder
import Derived.Test.YtmlhjobmpjpmnaaCMOrder
import Derived.Test.YtmlhjobmpjpmnaaCMWorks
set_option linter.all false
set_option linter.unusedVariables false
set_option linter.unusedSimpArgs false
set_option linter.unusedSectionVars false
namespace Go.Proofs.Ytmlhjobmpjpmnaa
open Go.Nw Go.Nw.CM
theorem circuitOrder_holds : Rows.CircuitOrderSaid := CircuitOrder.over (Order_plain works_true)
#print axioms circuitOrder_holds
end Go.Proofs.Ytmlhjobmpjpmnaa
