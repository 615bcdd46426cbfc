/- CircuitTrials is true of every input. -/
import Derived.Test.YtmlhjobmpjpmnaaDoorDMLawTrials
import Derived.Test.YtmlhjobmpjpmnaaDoorP5
import Derived.Test.YtmlhjobmpjpmnaaDoorDMWorks
set_option linter.all false
set_option linter.unusedVariables false
set_option linter.unusedSimpArgs false
set_option linter.unusedSectionVars false
namespace Go.Proofs.YtmlhjobmpjpmnaaDoor
open Go.Nw Go.Nw.DM
theorem circuitTrials_holds : Rows.CircuitTrialsCardSaid := CircuitTrials.over (Trials_plain works_true)
#print axioms circuitTrials_holds
end Go.Proofs.YtmlhjobmpjpmnaaDoor
