/- Lists of what a law may be given. -/
import Derived.Test.YteoedeeljnboeaaNwTyp
set_option linter.all false
set_option linter.unusedVariables false
set_option linter.unusedSimpArgs false
set_option linter.unusedSectionVars false
namespace Go.Nw
def OkL {α : Type} (P : α → Prop) (l : List α) : Prop := l.length ≤ maxLen ∧ ∀ x ∈ l, P x
theorem j50 {r : List AV} (h : MtL [.i .i64] r) : ∃ x, r = eI x ∧ b2x x := j55 h
theorem j67 {a : AV} (h : MtA (.c (.i .i64)) a) : ∃ n : Int, a = I n ∧ b2x n := b39 (j0j h)
end Go.Nw
