/- HallsLess is true of every input. -/
import Derived.Test.YteoedeeljnboeaaHMLawLess
import Derived.Test.YteoedeeljnboeaaP3
import Derived.Test.YteoedeeljnboeaaHMWorks
set_option linter.all false
namespace Go.Proofs.Yteoedeeljnboeaa
open Go.Nw Go.Nw.HM
theorem hallsLess_holds : Rows.HallsLessSaid := HallsLess.over (H0l H1x)
#print axioms hallsLess_holds
end Go.Proofs.Yteoedeeljnboeaa
