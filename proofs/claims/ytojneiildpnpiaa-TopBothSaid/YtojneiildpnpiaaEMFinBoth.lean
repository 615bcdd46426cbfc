/- TopBoth is true of every input. -/
import Derived.Test.YtojneiildpnpiaaEMLawBoth
import Derived.Test.YtojneiildpnpiaaP7
set_option linter.all false
namespace Go.Proofs.Ytojneiildpnpiaa
open Go.Nw Go.Nw.EM
theorem topBoth_holds : Rows.TopBothSaid := TopBoth.over (N4h rfl)
#print axioms topBoth_holds
end Go.Proofs.Ytojneiildpnpiaa
