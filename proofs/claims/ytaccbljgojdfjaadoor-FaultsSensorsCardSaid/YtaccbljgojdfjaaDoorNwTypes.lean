/- Lists of what a law may be given. -/
import Derived.Test.YtaccbljgojdfjaaDoorNwTyp
set_option linter.all false
set_option linter.unusedVariables false
set_option linter.unusedSimpArgs false
set_option linter.unusedSectionVars false
namespace Go.Nw
def OkL {α : Type} (P : α → Prop) (l : List α) : Prop := l.length ≤ maxLen ∧ ∀ x ∈ l, P x
end Go.Nw
