/- FaultsAlarms is true of every input. -/
import Derived.Test.YtbmfnjehcnbpbaaDoorWNLawAlarms
import Derived.Test.YtbmfnjehcnbpbaaDoorP5
set_option linter.all false
namespace Go.Proofs.YtbmfnjehcnbpbaaDoor
open Go.Nw Go.Nw.WN
theorem faultsAlarms_holds : Rows.FaultsAlarmsUptoCardSaid := FaultsAlarms.over (E1v rfl (Nat.le_refl _))
#print axioms faultsAlarms_holds
end Go.Proofs.YtbmfnjehcnbpbaaDoor
