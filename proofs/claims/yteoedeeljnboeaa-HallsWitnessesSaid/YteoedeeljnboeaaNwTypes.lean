/- Lists of what a law may be given. -/
import Derived.Test.YteoedeeljnboeaaNwTyp
set_option linter.all false
set_option linter.unusedVariables false
set_option linter.unusedSimpArgs false
set_option linter.unusedSectionVars false
namespace Go.Nw
def OkL {α : Type} (P : α → Prop) (l : List α) : Prop := l.length ≤ maxLen ∧ ∀ x ∈ l, P x
theorem g0b {a : AV} (h : MtA (.c (.i .i64)) a) : ∃ n : Int, a = I n ∧ b3a n := b4x (j1x h)
end Go.Nw
