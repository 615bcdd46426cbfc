/- HallsKept is true of every input. -/
import Derived.Test.YteoedeeljnboeaaHMLawKept
import Derived.Test.YteoedeeljnboeaaP2
import Derived.Test.YteoedeeljnboeaaHMWorks
set_option linter.all false
set_option linter.unusedVariables false
set_option linter.unusedSimpArgs false
set_option linter.unusedSectionVars false
namespace Go.Proofs.Yteoedeeljnboeaa
open Go.Nw Go.Nw.HM
theorem hallsKept_holds : Rows.HallsKeptSaid := HallsKept.over (kept_plain works_true)
#print axioms hallsKept_holds
end Go.Proofs.Yteoedeeljnboeaa
