/- FaultsCourses is true of every input. -/
import Derived.Test.YtccjacnppmciaaaGreatDoorAMLawCourses
import Derived.Test.YtccjacnppmciaaaGreatDoorP5
set_option linter.all false
namespace Go.Proofs.YtccjacnppmciaaaGreatDoor
open Go.Nw Go.Nw.AM
theorem faultsCourses_holds : Rows.FaultsCoursesUptoCardSaid := FaultsCourses.over (u7f (Nat.le_refl _))
#print axioms faultsCourses_holds
end Go.Proofs.YtccjacnppmciaaaGreatDoor
