/- Calls that work in the caller's heap: how such a contract is shown and used. -/
import Derived.Test.YtaccbljgojdfjaaDoorNwRows
import Derived.Test.YtaccbljgojdfjaaDoorNwExact
set_option linter.all false
set_option linter.unusedVariables false
set_option linter.unusedSimpArgs false
set_option linter.unusedSectionVars false
namespace Go.Nw
def c8i (res : List XRes) (Post : AV → Heap → Prop) : XExit → Slots → Heap → Prop
  | .normal, t, h | .ret, t, h => ∃ rs, res.mapM (b2g ⟨t, h⟩) = some rs ∧ Post (b2r rs) h
  | .exit _, _, _ => False
theorem g3u {res Post t h} : c8i res Post .normal t h = ∃ rs, res.mapM (b2g ⟨t, h⟩) = some rs ∧ Post (b2r rs) h := rfl
theorem g3v {res Post t h} : c8i res Post .ret t h = ∃ rs, res.mapM (b2g ⟨t, h⟩) = some rs ∧ Post (b2r rs) h := rfl
attribute [go_sem] g3u g3v
end Go.Nw
