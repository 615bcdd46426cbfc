/- A row turned in place that takes the old one with it. -/
import Derived.Test.YtbmfnjehcnbpbaaDoorNwRows
set_option linter.all false
namespace Go.Nw
section
variable {α : Type} {h h' : Heap} {v w : AV} {hs : List AV} {sz : Nat} {f : α -> List AV} {rows : List (List α)} {i : Int} {x : List α}
end
end Go.Nw
