/- HallsGuard is true of every input. -/
import Derived.Test.YteoedeeljnboeaaHMLawGuard
import Derived.Test.YteoedeeljnboeaaP2
import Derived.Test.YteoedeeljnboeaaHMWorks
set_option linter.all false
set_option linter.unusedVariables false
set_option linter.unusedSimpArgs false
set_option linter.unusedSectionVars false
namespace Go.Proofs.Yteoedeeljnboeaa
open Go.Nw Go.Nw.HM
theorem hallsGuard_holds : Rows.HallsGuardSaid := HallsGuard.over (guard_plain works_true)
#print axioms hallsGuard_holds
end Go.Proofs.Yteoedeeljnboeaa
