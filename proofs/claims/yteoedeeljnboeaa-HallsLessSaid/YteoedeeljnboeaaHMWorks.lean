/- The look at the example says true. -/
import Derived.Test.YteoedeeljnboeaaHMTwin
import Derived.KernelRfl
set_option linter.all false
namespace Go.Nw.HM
theorem H1x : E74 = some true := H0i.h true (by kernel_rfl)
end Go.Nw.HM
