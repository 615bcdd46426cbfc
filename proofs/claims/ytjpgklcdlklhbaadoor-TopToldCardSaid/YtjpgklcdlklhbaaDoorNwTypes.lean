/- Lists of what a law may be given. -/
import Derived.Test.YtjpgklcdlklhbaaDoorNwTyp
set_option linter.all false
namespace Go.Nw
variable [Bd]
def OkL {α : Type} (P : α -> Prop) (l : List α) : Prop := l.length <= Bd.B /\ ∀ x ∈ l, P x
theorem p36 {r : List AV} (h : MtL [.i .i64] r) : ∃ x, r = eI x /\ b5k x := p37 h
theorem B4j {a : AV} (h : MtA (.c (.i .i64)) a) : ∃ n : Int, a = I n /\ b5k n := b6n (o9m h)
end Go.Nw
