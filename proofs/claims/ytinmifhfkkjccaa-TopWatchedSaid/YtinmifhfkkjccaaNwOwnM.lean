/- Functions whose result is a cell and two slices of one's own. -/
import Derived.Test.YtinmifhfkkjccaaNwOwnA
set_option linter.all false
namespace Go.Nw
structure FnW2 {α β : Type} (O : Orac) (f : String) (as : List AV) (x : AV) (sz : Nat) (e : α -> List AV) (l : List α) (sz' : Nat) (e' : β -> List AV) (l' : List β) : Prop where
 o : O f as (.agg [x, .rs 0 0 (List.length l), .rs 1 0 (List.length l')]) [(sz, List.map e l), (sz', List.map e' l')]
 a : ∀ a ∈ as, Frz a
 x : Frz x
 p : p8x e sz
 q : p8x e' sz'
section
variable {α β : Type} {O : Orac} {f : String} {as : List AV} {x : AV} {sz : Nat} {e : α -> List AV} {l : List α} {sz' : Nat} {e' : β -> List AV} {l' : List β}
end
end Go.Nw
