/- Lists of what a law may be given. -/
import Derived.Test.YtojneiildpnpiaaNwTyp
set_option linter.all false
namespace Go.Nw
variable [Bd]
def OkL {α:Type} (P:α->Prop) (l:List α):Prop:=l.length<=Bd.B/\∀ x∈l,P x
theorem B4j {a:AV} (h:MtA (.c (.i .i64)) a):∃ n:Int,a=I n/\b5k n:=b6n (o9m h)
end Go.Nw
