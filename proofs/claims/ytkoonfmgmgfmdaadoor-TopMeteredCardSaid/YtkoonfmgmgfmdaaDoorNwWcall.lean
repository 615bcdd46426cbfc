/- Calls that work in the caller's heap: how such a contract is shown and used. -/
import Derived.Test.YtkoonfmgmgfmdaaDoorNwRows
import Derived.Test.YtkoonfmgmgfmdaaDoorNwExact
set_option linter.all false
set_option linter.unusedVariables false
set_option linter.unusedSimpArgs false
set_option linter.unusedSectionVars false
namespace Go.Nw
def d04 (res : List XRes) (Post : AV → Heap → Prop) : XExit → Slots → Heap → Prop
  | .normal, t, h | .ret, t, h => ∃ rs, res.mapM (b2y ⟨t, h⟩) = some rs ∧ Post (b3f rs) h
  | .exit _, _, _ => False
theorem g77 {res Post t h} : d04 res Post .normal t h = ∃ rs, res.mapM (b2y ⟨t, h⟩) = some rs ∧ Post (b3f rs) h := rfl
theorem g78 {res Post t h} : d04 res Post .ret t h = ∃ rs, res.mapM (b2y ⟨t, h⟩) = some rs ∧ Post (b3f rs) h := rfl
attribute [go_sem] g77 g78
end Go.Nw
