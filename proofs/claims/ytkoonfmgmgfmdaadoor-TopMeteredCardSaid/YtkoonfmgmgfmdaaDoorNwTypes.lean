/- Lists of what a law may be given. -/
import Derived.Test.YtkoonfmgmgfmdaaDoorNwTyp
set_option linter.all false
set_option linter.unusedVariables false
set_option linter.unusedSimpArgs false
set_option linter.unusedSectionVars false
namespace Go.Nw
def OkL {α : Type} (P : α → Prop) (l : List α) : Prop := l.length ≤ maxLen ∧ ∀ x ∈ l, P x
theorem g8d {r : List AV} (h : MtL [.i .i64] r) : ∃ x, r = eI x ∧ b1l x := g8i h
theorem g2w {a : AV} (h : Mt .b a) : ∃ x, a = B x ∧ True := by
  obtain ⟨x, rfl⟩ := g2v h
  exact ⟨x, rfl, trivial⟩
end Go.Nw
