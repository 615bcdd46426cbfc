/- HallsReached is true of every input. -/
import Derived.Test.YteoedeeljnboeaaHMLawReached
import Derived.Test.YteoedeeljnboeaaP3
import Derived.Test.YteoedeeljnboeaaHMWorks
set_option linter.all false
set_option linter.unusedVariables false
set_option linter.unusedSimpArgs false
set_option linter.unusedSectionVars false
namespace Go.Proofs.Yteoedeeljnboeaa
open Go.Nw Go.Nw.HM
theorem hallsReached_holds : Rows.HallsReachedSaid := HallsReached.over (j6t j8r)
#print axioms hallsReached_holds
end Go.Proofs.Yteoedeeljnboeaa
