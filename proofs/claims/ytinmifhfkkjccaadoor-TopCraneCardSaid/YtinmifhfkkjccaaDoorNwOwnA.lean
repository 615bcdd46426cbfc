/- Functions whose result is a struct with a slice of one's own as its last cell. -/
import Derived.Test.YtinmifhfkkjccaaDoorNwOwn
set_option linter.all false
namespace Go.Nw
structure FnWA {α:Type} (O:Orac) (f:String) (as cs:List AV) (sz:Nat) (e:α->List AV) (l:List α):Prop where
 o : O f as (.agg (cs++[.rs 0 0 (List.length l)])) [(sz,List.map e l)]
 a : ∀ a∈as,Frz a
 c : ∀ c∈cs,Frz c
 p : p8x e sz
end Go.Nw
