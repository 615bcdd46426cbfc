/- HallsWithin is true of every input. -/
import Derived.Test.YteoedeeljnboeaaHMLawWithin
import Derived.Test.YteoedeeljnboeaaP2
import Derived.Test.YteoedeeljnboeaaHMWorks
set_option linter.all false
set_option linter.unusedVariables false
set_option linter.unusedSimpArgs false
set_option linter.unusedSectionVars false
namespace Go.Proofs.Yteoedeeljnboeaa
open Go.Nw Go.Nw.HM
theorem hallsWithin_holds : Rows.HallsWithinSaid := HallsWithin.over (within_plain works_true)
#print axioms hallsWithin_holds
end Go.Proofs.Yteoedeeljnboeaa
