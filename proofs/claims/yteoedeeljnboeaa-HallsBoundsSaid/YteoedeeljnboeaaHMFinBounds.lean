/- HallsBounds is true of every input. -/
import Derived.Test.YteoedeeljnboeaaHMLawBounds
import Derived.Test.YteoedeeljnboeaaP3
import Derived.Test.YteoedeeljnboeaaHMWorks
set_option linter.all false
set_option linter.unusedVariables false
set_option linter.unusedSimpArgs false
set_option linter.unusedSectionVars false
namespace Go.Proofs.Yteoedeeljnboeaa
open Go.Nw Go.Nw.HM
theorem hallsBounds_holds : Rows.HallsBoundsSaid := HallsBounds.over (g2m j8t)
#print axioms hallsBounds_holds
end Go.Proofs.Yteoedeeljnboeaa
