/- HallsWitnesses is true of every input. -/
import Derived.Test.YteoedeeljnboeaaHMLawWitnesses
import Derived.Test.YteoedeeljnboeaaP3
import Derived.Test.YteoedeeljnboeaaHMWorks
set_option linter.all false
set_option linter.unusedVariables false
set_option linter.unusedSimpArgs false
set_option linter.unusedSectionVars false
namespace Go.Proofs.Yteoedeeljnboeaa
open Go.Nw Go.Nw.HM
theorem hallsWitnesses_holds : Rows.HallsWitnessesSaid := HallsWitnesses.over (j9b j9c)
#print axioms hallsWitnesses_holds
end Go.Proofs.Yteoedeeljnboeaa
