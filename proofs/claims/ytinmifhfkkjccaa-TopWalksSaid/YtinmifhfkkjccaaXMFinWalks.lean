/- TopWalks is true of every input. -/
import Derived.Test.YtinmifhfkkjccaaXMLawWalks
import Derived.Test.YtinmifhfkkjccaaP6
set_option linter.all false
namespace Go.Proofs.Ytinmifhfkkjccaa
open Go.Nw Go.Nw.XM
theorem topWalks_holds : Rows.TopWalksSaid := TopWalks.over (W.walks_plain rfl)
#print axioms topWalks_holds
end Go.Proofs.Ytinmifhfkkjccaa
