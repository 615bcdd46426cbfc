/- ControlCertifies is true of every input. -/
import Derived.Test.YtfahaljhgfjooaaDoorKMLawCertifies
import Derived.Test.YtfahaljhgfjooaaDoorP6
set_option linter.all false
namespace Go.Proofs.YtfahaljhgfjooaaDoor
open Go.Nw Go.Nw.KM
theorem controlCertifies_holds : Rows.ControlCertifiesUptoCardSaid := ControlCertifies.over (o9c (Nat.le_refl _))
#print axioms controlCertifies_holds
end Go.Proofs.YtfahaljhgfjooaaDoor
