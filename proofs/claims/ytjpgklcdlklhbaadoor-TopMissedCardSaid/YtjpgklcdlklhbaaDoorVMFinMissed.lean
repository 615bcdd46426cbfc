/- TopMissed is true of every input. -/
import Derived.Test.YtjpgklcdlklhbaaDoorVMLawMissed
import Derived.Test.YtjpgklcdlklhbaaDoorP5
set_option linter.all false
namespace Go.Proofs.YtjpgklcdlklhbaaDoor
open Go.Nw Go.Nw.VM
theorem topMissed_holds : Rows.TopMissedCardSaid := TopMissed.over (C2k rfl)
#print axioms topMissed_holds
end Go.Proofs.YtjpgklcdlklhbaaDoor
