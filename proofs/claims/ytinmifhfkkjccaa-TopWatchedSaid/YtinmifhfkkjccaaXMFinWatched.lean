/- TopWatched is true of every input. -/
import Derived.Test.YtinmifhfkkjccaaXMLawWatched
import Derived.Test.YtinmifhfkkjccaaP5
set_option linter.all false
namespace Go.Proofs.Ytinmifhfkkjccaa
open Go.Nw Go.Nw.XM
theorem topWatched_holds : Rows.TopWatchedSaid := TopWatched.over (D.watched_plain rfl)
#print axioms topWatched_holds
end Go.Proofs.Ytinmifhfkkjccaa
