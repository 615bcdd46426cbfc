/- FaultsFewest is true of every input. -/
import Derived.Test.YtbmfnjehcnbpbaaDoorWMLawFewest
import Derived.Test.YtbmfnjehcnbpbaaDoorP5
set_option linter.all false
namespace Go.Proofs.YtbmfnjehcnbpbaaDoor
open Go.Nw Go.Nw.WM
theorem faultsFewest_holds : Rows.FaultsFewestCardSaid := FaultsFewest.over (D42 rfl)
#print axioms faultsFewest_holds
end Go.Proofs.YtbmfnjehcnbpbaaDoor
