/- Bits of small numbers: how many, and which, as the library counts and finds them. -/
import Derived.Test.YtinmifhfkkjccaaP4
set_option linter.all false
namespace Go.Nw
def u1 (b : Nat) : Nat := ((b >>> 1) &&& 85) + (b &&& 85)
def u2 (b : Nat) : Nat := ((b >>> 2) &&& 51) + (b &&& 51)
end Go.Nw
