/- The look at the example says true. -/
import Derived.Test.YtmlhjobmpjpmnaaDoorDMTwin
import Derived.KernelRfl
set_option linter.all false
set_option linter.unusedVariables false
set_option linter.unusedSimpArgs false
set_option linter.unusedSectionVars false
namespace Go.Nw.DM
theorem works_true : l03_works = some true := l03_works_le.h true (by kernel_rfl)
end Go.Nw.DM
