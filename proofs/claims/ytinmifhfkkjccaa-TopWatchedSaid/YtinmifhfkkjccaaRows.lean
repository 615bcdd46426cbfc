/-
  No cell of these rows narrows 'for every input' (looked for: loops, veiled, ifaces, maps, wideKeys, modest, calm, conditions, laid).
  DERIVED. THE GIVEN ROWS OF THIS SEAT. 2 by the template 'for every input the law returns true; each argument reads behind the call as it read before'; 0 by the template 'total and deterministic' (their statements: YtinmifhfkkjccaaTotals.lean).
  GIVEN WITH THE SEED: the statements are not yours to turn. If you find one false, say at which input.
  Laid BY PROGRAM, IN A SANDBOX (cutbox-rows.mjs): the forced cells as the released guide's own fill.sh prints them over the translation 333a645311612fe8… (all of the seat's roots in one cut). By AI agents, Wed Nov 11 2026. No macro, syntax, notation, axiom, sorry.
-/
import Derived.Test.YtinmifhfkkjccaaChecked
import GoSem.Claim
import GoSem.ClaimJoined
import GoSem.ClaimMapViews
import Derived.JoinedTies
import Derived.KernelRfl
namespace Go.Proofs.Ytinmifhfkkjccaa
/- THE CELL 'sum', in the pinned program and in every row, IS THE sha256 OF THE DUMP (.gsa) THAT YtinmifhfkkjccaaProg.lean LOADS. Nothing in Lean hashes anything: it is a label: what it is worth is what the hold of that sum in a sandbox is worth. -/
noncomputable def Try.pinned : Pinned := { name := "ytinmifhfkkjccaa", sum := "333a645311612fe8357c28b6392a96bc6b9b48a5e7cbcc4e22efcb8bb1755ace", checked := Try.checked }
namespace Rows
def none {H : Type} : Left H := { results := [], args := [] }

/-- 'neweltop.TopWatched': WHATEVER THE INPUT: true; the input reads as it did. -/
def topWatchedSpec : ChangeSpec := { name := "topWatched", fn := fun _ => fun
  | [d1, d2, d3] => { results := [.lit (.bool true)], args := [d1, d2, d3] }
  | _ => none }
def topWatchedRow : OpenClaim := { program := "ytinmifhfkkjccaa", sum := "333a645311612fe8357c28b6392a96bc6b9b48a5e7cbcc4e22efcb8bb1755ace", func := "newel/neweltop.TopWatched", spec := "topWatched", unfollowed := true, recurses := true, plainKeys := false, apart := false }
def TopWatchedSaid : Prop := topWatchedRow.holds Try.pinned (OpenSpec.ofChange topWatchedSpec)

/-- ITS FALSE NEIGHBOUR: 'it returns false'. Refute it at one input. -/
def topWatchedWrong : ChangeSpec := { name := "topWatched", fn := fun _ => fun
  | [d1, d2, d3] => { results := [.lit (.bool false)], args := [d1, d2, d3] }
  | _ => none }
def TopWatchedWrongFalsely : Prop := topWatchedRow.holds Try.pinned (OpenSpec.ofChange topWatchedWrong)

/-- 'neweltop.TopWalks': WHATEVER THE INPUT: true; the input reads as it did. -/
def topWalksSpec : ChangeSpec := { name := "topWalks", fn := fun _ => fun
  | [d1, d2] => { results := [.lit (.bool true)], args := [d1, d2] }
  | _ => none }
def topWalksRow : OpenClaim := { program := "ytinmifhfkkjccaa", sum := "333a645311612fe8357c28b6392a96bc6b9b48a5e7cbcc4e22efcb8bb1755ace", func := "newel/neweltop.TopWalks", spec := "topWalks", unfollowed := true, recurses := true, plainKeys := false, apart := false }
def TopWalksSaid : Prop := topWalksRow.holds Try.pinned (OpenSpec.ofChange topWalksSpec)

/-- ITS FALSE NEIGHBOUR: 'it returns false'. Refute it at one input. -/
def topWalksWrong : ChangeSpec := { name := "topWalks", fn := fun _ => fun
  | [d1, d2] => { results := [.lit (.bool false)], args := [d1, d2] }
  | _ => none }
def TopWalksWrongFalsely : Prop := topWalksRow.holds Try.pinned (OpenSpec.ofChange topWalksWrong)

/- THE SECOND FORM. 'bulk': how many values and letters a reading holds, each counted each time it is reached (what is shared counts as often as it is met; a slice's spare places count too). A statement '..UptoSaid' is the law's where the arguments, and the package variables that the reading takes, are together of bulk at most 1048576: NARROWER than '..Said'. Prove '..Said' where nothing that the law and all that it calls make is longer than what came in: it says more and counts as full. Else prove '..UptoSaid'. A law counts once. -/
mutual
def uptoBulk {H : Type} : DataW H → Nat
  | .lit (.string bytes) => bytes.length + 1
  | .lit _ => 1
  | .nil => 1
  | .ptr d => uptoBulk d + 1
  | .slice elems spare => uptoBulkAll elems + uptoBulkAll spare + 1
  | .agg parts => uptoBulkAll parts + 1
  | .iface _ d => uptoBulk d + 1
  | .map entries => uptoBulkEntries entries + 1
  | .held _ => 1
def uptoBulkAll {H : Type} : List (DataW H) → Nat
  | [] => 0
  | d :: r => uptoBulk d + uptoBulkAll r
def uptoBulkEntries {H : Type} : List (Lit × DataW H) → Nat
  | [] => 0
  | x :: r => uptoBulkEntry x + uptoBulkEntries r
def uptoBulkEntry {H : Type} : Lit × DataW H → Nat
  | (.string bytes, d) => bytes.length + uptoBulk d + 1
  | (_, d) => uptoBulk d + 1
 end
def uptoSmall : (H : Type) → List (DataW H) → Bool := fun _ ds => decide (uptoBulkAll ds ≤ 1048576)
def OpenSpec.upto (s : _root_.Go.ChangeSpec) : _root_.Go.OpenSpec := { _root_.Go.OpenSpec.ofChange s with cond := some uptoSmall }

/-- 'neweltop.TopWatched', WHERE WHAT IT READS IS OF BULK AT MOST 1048576: true; the input reads as it did. -/
def topWatchedUptoRow : OpenClaim := { program := "ytinmifhfkkjccaa", sum := "333a645311612fe8357c28b6392a96bc6b9b48a5e7cbcc4e22efcb8bb1755ace", func := "newel/neweltop.TopWatched", spec := "topWatched", unfollowed := true, recurses := true, plainKeys := false, apart := false, narrowed := true }
def TopWatchedUptoSaid : Prop := topWatchedUptoRow.holds Try.pinned (OpenSpec.upto topWatchedSpec)

/-- 'neweltop.TopWalks', WHERE WHAT IT READS IS OF BULK AT MOST 1048576: true; the input reads as it did. -/
def topWalksUptoRow : OpenClaim := { program := "ytinmifhfkkjccaa", sum := "333a645311612fe8357c28b6392a96bc6b9b48a5e7cbcc4e22efcb8bb1755ace", func := "newel/neweltop.TopWalks", spec := "topWalks", unfollowed := true, recurses := true, plainKeys := false, apart := false, narrowed := true }
def TopWalksUptoSaid : Prop := topWalksUptoRow.holds Try.pinned (OpenSpec.upto topWalksSpec)

end Rows
end Go.Proofs.Ytinmifhfkkjccaa
