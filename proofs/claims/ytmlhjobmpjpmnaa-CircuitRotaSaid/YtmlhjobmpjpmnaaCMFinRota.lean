/- CircuitRota is true of every input. -/
import Derived.Test.YtmlhjobmpjpmnaaCMLawRota
import Derived.Test.YtmlhjobmpjpmnaaP4
import Derived.Test.YtmlhjobmpjpmnaaCMWorks
set_option linter.all false
set_option linter.unusedVariables false
set_option linter.unusedSimpArgs false
set_option linter.unusedSectionVars false
namespace Go.Proofs.Ytmlhjobmpjpmnaa
open Go.Nw Go.Nw.CM
theorem circuitRota_holds : Rows.CircuitRotaSaid := CircuitRota.over (Rota_plain works_true)
#print axioms circuitRota_holds
end Go.Proofs.Ytmlhjobmpjpmnaa
