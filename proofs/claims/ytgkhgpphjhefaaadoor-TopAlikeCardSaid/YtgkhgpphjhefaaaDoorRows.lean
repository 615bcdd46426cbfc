/-
  NARROWER THAN 'FOR EVERY INPUT', by the rows' own cells (each row's printed sentence says how): TopTraced: laid · TopSilent: laid · TopCharged: laid · TopAlike: laid · TopSworn: laid.
  DERIVED. THE GIVEN ROWS OF THIS SEAT. 5 by the template 'for every input the law returns true; each argument reads behind the call as it read before'; 0 by the template 'total and deterministic' (their statements: YtgkhgpphjhefaaaDoorTotals.lean).
  GIVEN WITH THE SEED: the statements are not yours to turn. If you find one false, say at which input.
  Laid BY PROGRAM, IN A SANDBOX (cutbox-rows.mjs): the forced cells as the released guide's own fill.sh prints them over the translation cd44119e40e30328… (all of the seat's roots in one cut). By AI agents, Wed Nov 11 2026. No macro, syntax, notation, axiom, sorry.
-/
import Derived.Test.YtgkhgpphjhefaaaDoorChecked
import GoSem.Claim
import GoSem.ClaimJoined
import GoSem.ClaimMapViews
import Derived.JoinedTies
import Derived.KernelRfl
namespace Go.Proofs.YtgkhgpphjhefaaaDoor
/- THE CELL 'sum', in the pinned program and in every row, IS THE sha256 OF THE DUMP (.gsa) THAT YtgkhgpphjhefaaaDoorProg.lean LOADS. Nothing in Lean hashes anything: it is a label: what it is worth is what the hold of that sum in a sandbox is worth. -/
noncomputable def Tryd.pinned : Pinned := { name := "ytgkhgpphjhefaaadoor", sum := "cd44119e40e30328852d293a7d7902bf27562abbe85525f9e81b061edec70473", checked := Tryd.checked }
namespace Rows
def none {H : Type} : Left H := { results := [], args := [] }

/- WHAT THE LISTED PACKAGE-LEVEL VARIABLES READ AS WHEN THE CALL BEGINS. Each datum BY PROGRAM (the guide's laid-datum.mjs) off the statement by which the dump's own 'gosem.cut.vars' lays the variable. In a bare row this is a premise. The card (YtgkhgpphjhefaaaDoorCards.lean) ties it to the program's text. -/
def laid_newel_newelref04_words {H : Type} : DataW H := .slice [.lit (.string [97, 110, 121]), .lit (.string [116, 111]), .lit (.string [122, 101, 114, 111]), .lit (.string [109, 111, 114, 101]), .lit (.string [108, 101, 115, 115]), .lit (.string [105, 102]), .lit (.string [121, 101, 115]), .lit (.string [110, 111])] []

/-- 'neweltop.TopTraced': WHATEVER THE INPUT: true; the input reads as it did. -/
def topTracedSpec : ChangeSpec := { name := "topTraced", fn := fun _ => fun
  | [d1, d2, d3] => { results := [.lit (.bool true)], args := [d1, d2, d3] }
  | _ => none }
def topTracedRow : OpenClaim := { program := "ytgkhgpphjhefaaadoor", sum := "cd44119e40e30328852d293a7d7902bf27562abbe85525f9e81b061edec70473", func := "newel/neweltop.TopTraced", spec := "topTraced", unfollowed := true, recurses := true, named := ["newel/newelref04.words"], plainKeys := false, apart := false, laid := [("newel/newelref04.words", laid_newel_newelref04_words)] }
def TopTracedSaid : Prop := topTracedRow.holds Tryd.pinned (OpenSpec.ofChange topTracedSpec)

/-- ITS FALSE NEIGHBOUR: 'it returns false'. Refute it at one input. -/
def topTracedWrong : ChangeSpec := { name := "topTraced", fn := fun _ => fun
  | [d1, d2, d3] => { results := [.lit (.bool false)], args := [d1, d2, d3] }
  | _ => none }
def TopTracedWrongFalsely : Prop := topTracedRow.holds Tryd.pinned (OpenSpec.ofChange topTracedWrong)

/-- 'neweltop.TopSilent': WHATEVER THE INPUT: true; the input reads as it did. -/
def topSilentSpec : ChangeSpec := { name := "topSilent", fn := fun _ => fun
  | [d1, d2] => { results := [.lit (.bool true)], args := [d1, d2] }
  | _ => none }
def topSilentRow : OpenClaim := { program := "ytgkhgpphjhefaaadoor", sum := "cd44119e40e30328852d293a7d7902bf27562abbe85525f9e81b061edec70473", func := "newel/neweltop.TopSilent", spec := "topSilent", unfollowed := true, recurses := true, named := ["newel/newelref04.words"], plainKeys := false, apart := false, laid := [("newel/newelref04.words", laid_newel_newelref04_words)] }
def TopSilentSaid : Prop := topSilentRow.holds Tryd.pinned (OpenSpec.ofChange topSilentSpec)

/-- ITS FALSE NEIGHBOUR: 'it returns false'. Refute it at one input. -/
def topSilentWrong : ChangeSpec := { name := "topSilent", fn := fun _ => fun
  | [d1, d2] => { results := [.lit (.bool false)], args := [d1, d2] }
  | _ => none }
def TopSilentWrongFalsely : Prop := topSilentRow.holds Tryd.pinned (OpenSpec.ofChange topSilentWrong)

/-- 'neweltop.TopCharged': WHATEVER THE INPUT: true; the input reads as it did. -/
def topChargedSpec : ChangeSpec := { name := "topCharged", fn := fun _ => fun
  | [d1, d2] => { results := [.lit (.bool true)], args := [d1, d2] }
  | _ => none }
def topChargedRow : OpenClaim := { program := "ytgkhgpphjhefaaadoor", sum := "cd44119e40e30328852d293a7d7902bf27562abbe85525f9e81b061edec70473", func := "newel/neweltop.TopCharged", spec := "topCharged", unfollowed := true, recurses := true, named := ["newel/newelref04.words"], plainKeys := false, apart := false, laid := [("newel/newelref04.words", laid_newel_newelref04_words)] }
def TopChargedSaid : Prop := topChargedRow.holds Tryd.pinned (OpenSpec.ofChange topChargedSpec)

/-- ITS FALSE NEIGHBOUR: 'it returns false'. Refute it at one input. -/
def topChargedWrong : ChangeSpec := { name := "topCharged", fn := fun _ => fun
  | [d1, d2] => { results := [.lit (.bool false)], args := [d1, d2] }
  | _ => none }
def TopChargedWrongFalsely : Prop := topChargedRow.holds Tryd.pinned (OpenSpec.ofChange topChargedWrong)

/-- 'neweltop.TopAlike': WHATEVER THE INPUT: true; the input reads as it did. -/
def topAlikeSpec : ChangeSpec := { name := "topAlike", fn := fun _ => fun
  | [d1, d2, d3] => { results := [.lit (.bool true)], args := [d1, d2, d3] }
  | _ => none }
def topAlikeRow : OpenClaim := { program := "ytgkhgpphjhefaaadoor", sum := "cd44119e40e30328852d293a7d7902bf27562abbe85525f9e81b061edec70473", func := "newel/neweltop.TopAlike", spec := "topAlike", unfollowed := true, recurses := true, named := ["newel/newelref04.words"], plainKeys := false, apart := false, laid := [("newel/newelref04.words", laid_newel_newelref04_words)] }
def TopAlikeSaid : Prop := topAlikeRow.holds Tryd.pinned (OpenSpec.ofChange topAlikeSpec)

/-- ITS FALSE NEIGHBOUR: 'it returns false'. Refute it at one input. -/
def topAlikeWrong : ChangeSpec := { name := "topAlike", fn := fun _ => fun
  | [d1, d2, d3] => { results := [.lit (.bool false)], args := [d1, d2, d3] }
  | _ => none }
def TopAlikeWrongFalsely : Prop := topAlikeRow.holds Tryd.pinned (OpenSpec.ofChange topAlikeWrong)

/-- 'neweltop.TopSworn': WHATEVER THE INPUT: true; the input reads as it did. -/
def topSwornSpec : ChangeSpec := { name := "topSworn", fn := fun _ => fun
  | [d1, d2] => { results := [.lit (.bool true)], args := [d1, d2] }
  | _ => none }
def topSwornRow : OpenClaim := { program := "ytgkhgpphjhefaaadoor", sum := "cd44119e40e30328852d293a7d7902bf27562abbe85525f9e81b061edec70473", func := "newel/neweltop.TopSworn", spec := "topSworn", unfollowed := true, recurses := true, named := ["newel/newelref04.words"], plainKeys := false, apart := false, laid := [("newel/newelref04.words", laid_newel_newelref04_words)] }
def TopSwornSaid : Prop := topSwornRow.holds Tryd.pinned (OpenSpec.ofChange topSwornSpec)

/-- ITS FALSE NEIGHBOUR: 'it returns false'. Refute it at one input. -/
def topSwornWrong : ChangeSpec := { name := "topSworn", fn := fun _ => fun
  | [d1, d2] => { results := [.lit (.bool false)], args := [d1, d2] }
  | _ => none }
def TopSwornWrongFalsely : Prop := topSwornRow.holds Tryd.pinned (OpenSpec.ofChange topSwornWrong)

/- THE SECOND FORM. 'bulk': how many values and letters a reading holds, each counted each time it is reached (what is shared counts as often as it is met; a slice's spare places count too). A statement '..UptoSaid' is the law's where the arguments, and the package variables that the reading takes, are together of bulk at most 1048576: NARROWER than '..Said'. Prove '..Said' where nothing that the law and all that it calls make is longer than what came in: it says more and counts as full. Else prove '..UptoSaid'. A law counts once. -/
mutual
def uptoBulk {H : Type} : DataW H → Nat
  | .lit (.string bytes) => bytes.length + 1
  | .lit _ => 1
  | .nil => 1
  | .ptr d => uptoBulk d + 1
  | .slice elems spare => uptoBulkAll elems + uptoBulkAll spare + 1
  | .agg parts => uptoBulkAll parts + 1
  | .iface _ d => uptoBulk d + 1
  | .map entries => uptoBulkEntries entries + 1
  | .held _ => 1
def uptoBulkAll {H : Type} : List (DataW H) → Nat
  | [] => 0
  | d :: r => uptoBulk d + uptoBulkAll r
def uptoBulkEntries {H : Type} : List (Lit × DataW H) → Nat
  | [] => 0
  | x :: r => uptoBulkEntry x + uptoBulkEntries r
def uptoBulkEntry {H : Type} : Lit × DataW H → Nat
  | (.string bytes, d) => bytes.length + uptoBulk d + 1
  | (_, d) => uptoBulk d + 1
 end
def uptoSmall : (H : Type) → List (DataW H) → Bool := fun _ ds => decide (uptoBulkAll ds ≤ 1048576)
def OpenSpec.upto (s : _root_.Go.ChangeSpec) : _root_.Go.OpenSpec := { _root_.Go.OpenSpec.ofChange s with cond := some uptoSmall }

/-- 'neweltop.TopTraced', WHERE WHAT IT READS IS OF BULK AT MOST 1048576: true; the input reads as it did. -/
def topTracedUptoRow : OpenClaim := { program := "ytgkhgpphjhefaaadoor", sum := "cd44119e40e30328852d293a7d7902bf27562abbe85525f9e81b061edec70473", func := "newel/neweltop.TopTraced", spec := "topTraced", unfollowed := true, recurses := true, named := ["newel/newelref04.words"], plainKeys := false, apart := false, laid := [("newel/newelref04.words", laid_newel_newelref04_words)], narrowed := true }
def TopTracedUptoSaid : Prop := topTracedUptoRow.holds Tryd.pinned (OpenSpec.upto topTracedSpec)

/-- 'neweltop.TopSilent', WHERE WHAT IT READS IS OF BULK AT MOST 1048576: true; the input reads as it did. -/
def topSilentUptoRow : OpenClaim := { program := "ytgkhgpphjhefaaadoor", sum := "cd44119e40e30328852d293a7d7902bf27562abbe85525f9e81b061edec70473", func := "newel/neweltop.TopSilent", spec := "topSilent", unfollowed := true, recurses := true, named := ["newel/newelref04.words"], plainKeys := false, apart := false, laid := [("newel/newelref04.words", laid_newel_newelref04_words)], narrowed := true }
def TopSilentUptoSaid : Prop := topSilentUptoRow.holds Tryd.pinned (OpenSpec.upto topSilentSpec)

/-- 'neweltop.TopCharged', WHERE WHAT IT READS IS OF BULK AT MOST 1048576: true; the input reads as it did. -/
def topChargedUptoRow : OpenClaim := { program := "ytgkhgpphjhefaaadoor", sum := "cd44119e40e30328852d293a7d7902bf27562abbe85525f9e81b061edec70473", func := "newel/neweltop.TopCharged", spec := "topCharged", unfollowed := true, recurses := true, named := ["newel/newelref04.words"], plainKeys := false, apart := false, laid := [("newel/newelref04.words", laid_newel_newelref04_words)], narrowed := true }
def TopChargedUptoSaid : Prop := topChargedUptoRow.holds Tryd.pinned (OpenSpec.upto topChargedSpec)

/-- 'neweltop.TopAlike', WHERE WHAT IT READS IS OF BULK AT MOST 1048576: true; the input reads as it did. -/
def topAlikeUptoRow : OpenClaim := { program := "ytgkhgpphjhefaaadoor", sum := "cd44119e40e30328852d293a7d7902bf27562abbe85525f9e81b061edec70473", func := "newel/neweltop.TopAlike", spec := "topAlike", unfollowed := true, recurses := true, named := ["newel/newelref04.words"], plainKeys := false, apart := false, laid := [("newel/newelref04.words", laid_newel_newelref04_words)], narrowed := true }
def TopAlikeUptoSaid : Prop := topAlikeUptoRow.holds Tryd.pinned (OpenSpec.upto topAlikeSpec)

/-- 'neweltop.TopSworn', WHERE WHAT IT READS IS OF BULK AT MOST 1048576: true; the input reads as it did. -/
def topSwornUptoRow : OpenClaim := { program := "ytgkhgpphjhefaaadoor", sum := "cd44119e40e30328852d293a7d7902bf27562abbe85525f9e81b061edec70473", func := "newel/neweltop.TopSworn", spec := "topSworn", unfollowed := true, recurses := true, named := ["newel/newelref04.words"], plainKeys := false, apart := false, laid := [("newel/newelref04.words", laid_newel_newelref04_words)], narrowed := true }
def TopSwornUptoSaid : Prop := topSwornUptoRow.holds Tryd.pinned (OpenSpec.upto topSwornSpec)

end Rows
end Go.Proofs.YtgkhgpphjhefaaaDoor
