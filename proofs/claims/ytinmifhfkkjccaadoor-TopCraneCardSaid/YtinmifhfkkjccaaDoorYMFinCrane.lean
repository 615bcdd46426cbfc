/- TopCrane is true of every input. -/
import Derived.Test.YtinmifhfkkjccaaDoorYMLawCrane
import Derived.Test.YtinmifhfkkjccaaDoorP3
set_option linter.all false
namespace Go.Proofs.YtinmifhfkkjccaaDoor
open Go.Nw Go.Nw.YM
theorem topCrane_holds : Rows.TopCraneCardSaid := TopCrane.over (M0t rfl)
#print axioms topCrane_holds
end Go.Proofs.YtinmifhfkkjccaaDoor
