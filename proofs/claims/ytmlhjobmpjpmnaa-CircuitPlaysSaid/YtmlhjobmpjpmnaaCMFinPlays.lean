/- CircuitPlays is true of every input. -/
import Derived.Test.YtmlhjobmpjpmnaaCMLawPlays
import Derived.Test.YtmlhjobmpjpmnaaP3
import Derived.Test.YtmlhjobmpjpmnaaCMWorks
set_option linter.all false
set_option linter.unusedVariables false
set_option linter.unusedSimpArgs false
set_option linter.unusedSectionVars false
namespace Go.Proofs.Ytmlhjobmpjpmnaa
open Go.Nw Go.Nw.CM
theorem circuitPlays_holds : Rows.CircuitPlaysSaid := CircuitPlays.over (Plays_plain works_true)
#print axioms circuitPlays_holds
end Go.Proofs.Ytmlhjobmpjpmnaa
