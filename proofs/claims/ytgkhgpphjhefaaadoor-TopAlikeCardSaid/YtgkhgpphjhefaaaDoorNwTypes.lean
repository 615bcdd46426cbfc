/- Lists of what a law may be given. -/
import Derived.Test.YtgkhgpphjhefaaaDoorNwTyp
set_option linter.all false
namespace Go.Nw
variable [Bd]
def OkL {α:Type} (P:α->Prop) (l:List α):Prop:=l.length<=Bd.B/\∀ x∈l,P x
theorem j8k {a:AV} (h:Mt .b a):∃ x,a=B x/\True:=by
 obtain ⟨x,rfl⟩:=j8j h
 exact ⟨x,rfl,trivial⟩
end Go.Nw
