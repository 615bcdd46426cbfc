/- TopTold is true of every input. -/
import Derived.Test.YtjpgklcdlklhbaaDoorVMLawTold
import Derived.Test.YtjpgklcdlklhbaaDoorP5
set_option linter.all false
namespace Go.Proofs.YtjpgklcdlklhbaaDoor
open Go.Nw Go.Nw.VM
theorem topTold_holds : Rows.TopToldCardSaid := TopTold.over (B4h rfl)
#print axioms topTold_holds
end Go.Proofs.YtjpgklcdlklhbaaDoor
