/- TopCounted is true of every input. -/
import Derived.Test.YtkoonfmgmgfmdaaDoorTMLawCounted
import Derived.Test.YtkoonfmgmgfmdaaDoorP3
set_option linter.all false
set_option linter.unusedVariables false
set_option linter.unusedSimpArgs false
set_option linter.unusedSectionVars false
namespace Go.Proofs.YtkoonfmgmgfmdaaDoor
open Go.Nw Go.Nw.TM
theorem topCounted_holds : Rows.TopCountedCardSaid := TopCounted.over (g4r)
#print axioms topCounted_holds
end Go.Proofs.YtkoonfmgmgfmdaaDoor
