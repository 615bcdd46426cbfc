/- TopMetered is true of every input. -/
import Derived.Test.YtkoonfmgmgfmdaaDoorTMLawMetered
import Derived.Test.YtkoonfmgmgfmdaaDoorP3
set_option linter.all false
set_option linter.unusedVariables false
set_option linter.unusedSimpArgs false
set_option linter.unusedSectionVars false
namespace Go.Proofs.YtkoonfmgmgfmdaaDoor
open Go.Nw Go.Nw.TM
theorem topMetered_holds : Rows.TopMeteredCardSaid := TopMetered.over (g2q)
#print axioms topMetered_holds
end Go.Proofs.YtkoonfmgmgfmdaaDoor
