/- CircuitCovers is true of every input. -/
import Derived.Test.YtmlhjobmpjpmnaaDoorDMLawCovers
import Derived.Test.YtmlhjobmpjpmnaaDoorP5
import Derived.Test.YtmlhjobmpjpmnaaDoorDMWorks
set_option linter.all false
set_option linter.unusedVariables false
set_option linter.unusedSimpArgs false
set_option linter.unusedSectionVars false
namespace Go.Proofs.YtmlhjobmpjpmnaaDoor
open Go.Nw Go.Nw.DM
theorem circuitCovers_holds : Rows.CircuitCoversCardSaid := CircuitCovers.over (Covers_plain works_true)
#print axioms circuitCovers_holds
end Go.Proofs.YtmlhjobmpjpmnaaDoor
