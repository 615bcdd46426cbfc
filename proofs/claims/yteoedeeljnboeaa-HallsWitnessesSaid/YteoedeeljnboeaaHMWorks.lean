/- The look at the example says true. -/
import Derived.Test.YteoedeeljnboeaaHMTwin
import Derived.KernelRfl
set_option linter.all false
set_option linter.unusedVariables false
set_option linter.unusedSimpArgs false
set_option linter.unusedSectionVars false
namespace Go.Nw.HM
theorem j9c : b7u = some true := j08.h true (by kernel_rfl)
end Go.Nw.HM
