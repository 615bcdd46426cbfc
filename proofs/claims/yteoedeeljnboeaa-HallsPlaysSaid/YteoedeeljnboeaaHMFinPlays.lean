/- HallsPlays is true of every input. -/
import Derived.Test.YteoedeeljnboeaaHMLawPlays
import Derived.Test.YteoedeeljnboeaaP3
import Derived.Test.YteoedeeljnboeaaHMWorks
set_option linter.all false
set_option linter.unusedVariables false
set_option linter.unusedSimpArgs false
set_option linter.unusedSectionVars false
namespace Go.Proofs.Yteoedeeljnboeaa
open Go.Nw Go.Nw.HM
theorem hallsPlays_holds : Rows.HallsPlaysSaid := HallsPlays.over (j49 j7h)
#print axioms hallsPlays_holds
end Go.Proofs.Yteoedeeljnboeaa
