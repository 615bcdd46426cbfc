/- Lists of what a law may be given. -/
import Derived.Test.YtkoonfmgmgfmdaaDoorNwTyp
set_option linter.all false
set_option linter.unusedVariables false
set_option linter.unusedSimpArgs false
set_option linter.unusedSectionVars false
namespace Go.Nw
def OkL {α : Type} (P : α → Prop) (l : List α) : Prop := l.length ≤ maxLen ∧ ∀ x ∈ l, P x
theorem j8i {r : List AV} (h : MtL [.i .i64] r) : ∃ x, r = eI x ∧ b2h x := j8o h
end Go.Nw
