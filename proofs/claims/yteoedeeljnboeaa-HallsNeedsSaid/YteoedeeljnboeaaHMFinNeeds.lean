/- HallsNeeds is true of every input. -/
import Derived.Test.YteoedeeljnboeaaHMLawNeeds
import Derived.Test.YteoedeeljnboeaaP3
import Derived.Test.YteoedeeljnboeaaHMWorks
set_option linter.all false
set_option linter.unusedVariables false
set_option linter.unusedSimpArgs false
set_option linter.unusedSectionVars false
namespace Go.Proofs.Yteoedeeljnboeaa
open Go.Nw Go.Nw.HM
theorem hallsNeeds_holds : Rows.HallsNeedsSaid := HallsNeeds.over (j34 j9z)
#print axioms hallsNeeds_holds
end Go.Proofs.Yteoedeeljnboeaa
