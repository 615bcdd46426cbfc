/- Calls that work in the caller's heap: how such a contract is shown and used. -/
import Derived.Test.YtaccbljgojdfjaaDoorNwRows
import Derived.Test.YtaccbljgojdfjaaDoorNwExact
set_option linter.all false
set_option linter.unusedVariables false
set_option linter.unusedSimpArgs false
set_option linter.unusedSectionVars false
namespace Go.Nw
def c70 (res : List XRes) (Post : AV → Heap → Prop) : XExit → Slots → Heap → Prop
  | .normal, t, h | .ret, t, h => ∃ rs, res.mapM (b2h ⟨t, h⟩) = some rs ∧ Post (b2u rs) h
  | .exit _, _, _ => False
theorem g3i {res Post t h} : c70 res Post .normal t h = ∃ rs, res.mapM (b2h ⟨t, h⟩) = some rs ∧ Post (b2u rs) h := rfl
theorem g3j {res Post t h} : c70 res Post .ret t h = ∃ rs, res.mapM (b2h ⟨t, h⟩) = some rs ∧ Post (b2u rs) h := rfl
attribute [go_sem] g3i g3j
end Go.Nw
