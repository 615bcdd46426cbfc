/- CircuitRuns is true of every input. -/
import Derived.Test.YtmlhjobmpjpmnaaCMLawRuns
import Derived.Test.YtmlhjobmpjpmnaaCMPlain7
import Derived.Test.YtmlhjobmpjpmnaaCMWorks
set_option linter.all false
set_option linter.unusedVariables false
set_option linter.unusedSimpArgs false
set_option linter.unusedSectionVars false
namespace Go.Proofs.Ytmlhjobmpjpmnaa
open Go.Nw Go.Nw.CM
theorem circuitRuns_holds : Rows.CircuitRunsSaid := Runs.over fun c s hc hs => Runs_plain works_true c s hc hs
#print axioms circuitRuns_holds
end Go.Proofs.Ytmlhjobmpjpmnaa
