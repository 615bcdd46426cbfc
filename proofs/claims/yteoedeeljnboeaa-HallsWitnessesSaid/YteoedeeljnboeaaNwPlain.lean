/- Plain rules for the printed models: loops over lists, in step with a recursive function. -/
import Derived.Test.YteoedeeljnboeaaNwModel
import Derived.Test.YteoedeeljnboeaaNwHeap
import Derived.Test.YteoedeeljnboeaaNwTyp
set_option linter.all false
set_option linter.unusedVariables false
set_option linter.unusedSimpArgs false
set_option linter.unusedSectionVars false
namespace Go.Nw
end Go.Nw
