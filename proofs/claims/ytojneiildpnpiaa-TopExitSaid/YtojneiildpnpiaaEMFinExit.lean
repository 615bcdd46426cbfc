/- TopExit is true of every input. -/
import Derived.Test.YtojneiildpnpiaaEMLawExit
import Derived.Test.YtojneiildpnpiaaP7
set_option linter.all false
namespace Go.Proofs.Ytojneiildpnpiaa
open Go.Nw Go.Nw.EM
theorem topExit_holds : Rows.TopExitSaid := TopExit.over (P4q rfl)
#print axioms topExit_holds
end Go.Proofs.Ytojneiildpnpiaa
