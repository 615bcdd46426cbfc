/- Plain rules for the printed models: loops over lists, in step with a recursive function. -/
import Derived.Test.YteoedeeljnboeaaNwModel
import Derived.Test.YteoedeeljnboeaaNwHeap
import Derived.Test.YteoedeeljnboeaaNwTyp
set_option linter.all false
namespace Go.Nw
end Go.Nw
