/-
  NARROWER THAN 'FOR EVERY INPUT', by the rows' own cells (each row's printed sentence says how): FaultsTheories: laid · FaultsCourses: laid · FaultsAlways: laid · FaultsRefutes: laid · FaultsMore: laid · FaultsElse: laid.
  DERIVED. THE GIVEN ROWS OF THIS SEAT. 6 by the template 'for every input the law returns true; each argument reads behind the call as it read before'; 0 by the template 'total and deterministic' (their statements: YtccjacnppmciaaaGreatDoorTotals.lean).
  GIVEN WITH THE SEED: the statements are not yours to turn. If you find one false, say at which input.
  Laid BY PROGRAM, IN A SANDBOX (cutbox-rows.mjs): the forced cells as the released guide's own fill.sh prints them over the translation 7e1aab87b12e5eb2… (all of the seat's roots in one cut). By AI agents, Wed Nov 11 2026. No macro, syntax, notation, axiom, sorry.
-/
import Derived.Test.YtccjacnppmciaaaGreatDoorChecked
import GoSem.Claim
import GoSem.ClaimJoined
import GoSem.ClaimMapViews
import Derived.JoinedTies
import Derived.KernelRfl
namespace Go.Proofs.YtccjacnppmciaaaGreatDoor
/- THE CELL 'sum', in the pinned program and in every row, IS THE sha256 OF THE DUMP (.gsa) THAT YtccjacnppmciaaaGreatDoorProg.lean LOADS. Nothing in Lean hashes anything: it is a label: what it is worth is what the hold of that sum in a sandbox is worth. -/
noncomputable def Tryz.pinned : Pinned := { name := "ytccjacnppmciaaagreatdoor", sum := "7e1aab87b12e5eb2ca683183f0164df00e56c805118a38f2ef93b02ca08200fd", checked := Tryz.checked }
namespace Rows
def none {H : Type} : Left H := { results := [], args := [] }

/- WHAT THE LISTED PACKAGE-LEVEL VARIABLES READ AS WHEN THE CALL BEGINS. Each datum BY PROGRAM (the guide's laid-datum.mjs) off the statement by which the dump's own 'gosem.cut.vars' lays the variable. In a bare row this is a premise. The card (YtccjacnppmciaaaGreatDoorCards.lean) ties it to the program's text. -/
def laid_math_bits_deBruijn32tab {H : Type} : DataW H := .agg [.lit (.int .u8 0), .lit (.int .u8 1), .lit (.int .u8 28), .lit (.int .u8 2), .lit (.int .u8 29), .lit (.int .u8 14), .lit (.int .u8 24), .lit (.int .u8 3), .lit (.int .u8 30), .lit (.int .u8 22), .lit (.int .u8 20), .lit (.int .u8 15), .lit (.int .u8 25), .lit (.int .u8 17), .lit (.int .u8 4), .lit (.int .u8 8), .lit (.int .u8 31), .lit (.int .u8 27), .lit (.int .u8 13), .lit (.int .u8 23), .lit (.int .u8 21), .lit (.int .u8 19), .lit (.int .u8 16), .lit (.int .u8 7), .lit (.int .u8 26), .lit (.int .u8 12), .lit (.int .u8 18), .lit (.int .u8 6), .lit (.int .u8 11), .lit (.int .u8 5), .lit (.int .u8 10), .lit (.int .u8 9)]
def laid_math_bits_deBruijn64tab {H : Type} : DataW H := .agg [.lit (.int .u8 0), .lit (.int .u8 1), .lit (.int .u8 56), .lit (.int .u8 2), .lit (.int .u8 57), .lit (.int .u8 49), .lit (.int .u8 28), .lit (.int .u8 3), .lit (.int .u8 61), .lit (.int .u8 58), .lit (.int .u8 42), .lit (.int .u8 50), .lit (.int .u8 38), .lit (.int .u8 29), .lit (.int .u8 17), .lit (.int .u8 4), .lit (.int .u8 62), .lit (.int .u8 47), .lit (.int .u8 59), .lit (.int .u8 36), .lit (.int .u8 45), .lit (.int .u8 43), .lit (.int .u8 51), .lit (.int .u8 22), .lit (.int .u8 53), .lit (.int .u8 39), .lit (.int .u8 33), .lit (.int .u8 30), .lit (.int .u8 24), .lit (.int .u8 18), .lit (.int .u8 12), .lit (.int .u8 5), .lit (.int .u8 63), .lit (.int .u8 55), .lit (.int .u8 48), .lit (.int .u8 27), .lit (.int .u8 60), .lit (.int .u8 41), .lit (.int .u8 37), .lit (.int .u8 16), .lit (.int .u8 46), .lit (.int .u8 35), .lit (.int .u8 44), .lit (.int .u8 21), .lit (.int .u8 52), .lit (.int .u8 32), .lit (.int .u8 23), .lit (.int .u8 11), .lit (.int .u8 54), .lit (.int .u8 26), .lit (.int .u8 40), .lit (.int .u8 15), .lit (.int .u8 34), .lit (.int .u8 20), .lit (.int .u8 31), .lit (.int .u8 10), .lit (.int .u8 25), .lit (.int .u8 14), .lit (.int .u8 19), .lit (.int .u8 9), .lit (.int .u8 13), .lit (.int .u8 8), .lit (.int .u8 7), .lit (.int .u8 6)]
def laid_newel_newelref04_words {H : Type} : DataW H := .slice [.lit (.string [97, 110, 121]), .lit (.string [116, 111]), .lit (.string [122, 101, 114, 111]), .lit (.string [109, 111, 114, 101]), .lit (.string [108, 101, 115, 115]), .lit (.string [105, 102]), .lit (.string [121, 101, 115]), .lit (.string [110, 111])] []

/-- 'newellaw10.FaultsTheories': WHATEVER THE INPUT: true; the input reads as it did. -/
def faultsTheoriesSpec : ChangeSpec := { name := "faultsTheories", fn := fun _ => fun
  | [d] => { results := [.lit (.bool true)], args := [d] }
  | _ => none }
def faultsTheoriesRow : OpenClaim := { program := "ytccjacnppmciaaagreatdoor", sum := "7e1aab87b12e5eb2ca683183f0164df00e56c805118a38f2ef93b02ca08200fd", func := "newel/newellaw10.FaultsTheories", spec := "faultsTheories", unfollowed := true, recurses := true, named := ["newel/newelref04.words", "math/bits.deBruijn32tab", "math/bits.deBruijn64tab"], plainKeys := false, apart := false, laid := [("math/bits.deBruijn32tab", laid_math_bits_deBruijn32tab), ("math/bits.deBruijn64tab", laid_math_bits_deBruijn64tab), ("newel/newelref04.words", laid_newel_newelref04_words)] }
def FaultsTheoriesSaid : Prop := faultsTheoriesRow.holds Tryz.pinned (OpenSpec.ofChange faultsTheoriesSpec)

/-- ITS FALSE NEIGHBOUR: 'it returns false'. Refute it at one input. -/
def faultsTheoriesWrong : ChangeSpec := { name := "faultsTheories", fn := fun _ => fun
  | [d] => { results := [.lit (.bool false)], args := [d] }
  | _ => none }
def FaultsTheoriesWrongFalsely : Prop := faultsTheoriesRow.holds Tryz.pinned (OpenSpec.ofChange faultsTheoriesWrong)

/-- 'newellaw10.FaultsCourses': WHATEVER THE INPUT: true; the input reads as it did. -/
def faultsCoursesSpec : ChangeSpec := { name := "faultsCourses", fn := fun _ => fun
  | [d1, d2] => { results := [.lit (.bool true)], args := [d1, d2] }
  | _ => none }
def faultsCoursesRow : OpenClaim := { program := "ytccjacnppmciaaagreatdoor", sum := "7e1aab87b12e5eb2ca683183f0164df00e56c805118a38f2ef93b02ca08200fd", func := "newel/newellaw10.FaultsCourses", spec := "faultsCourses", unfollowed := true, recurses := true, named := ["newel/newelref04.words", "math/bits.deBruijn32tab", "math/bits.deBruijn64tab"], plainKeys := false, apart := false, laid := [("math/bits.deBruijn32tab", laid_math_bits_deBruijn32tab), ("math/bits.deBruijn64tab", laid_math_bits_deBruijn64tab), ("newel/newelref04.words", laid_newel_newelref04_words)] }
def FaultsCoursesSaid : Prop := faultsCoursesRow.holds Tryz.pinned (OpenSpec.ofChange faultsCoursesSpec)

/-- ITS FALSE NEIGHBOUR: 'it returns false'. Refute it at one input. -/
def faultsCoursesWrong : ChangeSpec := { name := "faultsCourses", fn := fun _ => fun
  | [d1, d2] => { results := [.lit (.bool false)], args := [d1, d2] }
  | _ => none }
def FaultsCoursesWrongFalsely : Prop := faultsCoursesRow.holds Tryz.pinned (OpenSpec.ofChange faultsCoursesWrong)

/-- 'newellaw10.FaultsAlways': WHATEVER THE INPUT: true; the input reads as it did. -/
def faultsAlwaysSpec : ChangeSpec := { name := "faultsAlways", fn := fun _ => fun
  | [d1, d2] => { results := [.lit (.bool true)], args := [d1, d2] }
  | _ => none }
def faultsAlwaysRow : OpenClaim := { program := "ytccjacnppmciaaagreatdoor", sum := "7e1aab87b12e5eb2ca683183f0164df00e56c805118a38f2ef93b02ca08200fd", func := "newel/newellaw10.FaultsAlways", spec := "faultsAlways", unfollowed := true, recurses := true, named := ["newel/newelref04.words", "math/bits.deBruijn32tab", "math/bits.deBruijn64tab"], plainKeys := false, apart := false, laid := [("math/bits.deBruijn32tab", laid_math_bits_deBruijn32tab), ("math/bits.deBruijn64tab", laid_math_bits_deBruijn64tab), ("newel/newelref04.words", laid_newel_newelref04_words)] }
def FaultsAlwaysSaid : Prop := faultsAlwaysRow.holds Tryz.pinned (OpenSpec.ofChange faultsAlwaysSpec)

/-- ITS FALSE NEIGHBOUR: 'it returns false'. Refute it at one input. -/
def faultsAlwaysWrong : ChangeSpec := { name := "faultsAlways", fn := fun _ => fun
  | [d1, d2] => { results := [.lit (.bool false)], args := [d1, d2] }
  | _ => none }
def FaultsAlwaysWrongFalsely : Prop := faultsAlwaysRow.holds Tryz.pinned (OpenSpec.ofChange faultsAlwaysWrong)

/-- 'newellaw10.FaultsRefutes': WHATEVER THE INPUT: true; the input reads as it did. -/
def faultsRefutesSpec : ChangeSpec := { name := "faultsRefutes", fn := fun _ => fun
  | [d1, d2] => { results := [.lit (.bool true)], args := [d1, d2] }
  | _ => none }
def faultsRefutesRow : OpenClaim := { program := "ytccjacnppmciaaagreatdoor", sum := "7e1aab87b12e5eb2ca683183f0164df00e56c805118a38f2ef93b02ca08200fd", func := "newel/newellaw10.FaultsRefutes", spec := "faultsRefutes", unfollowed := true, recurses := true, named := ["newel/newelref04.words", "math/bits.deBruijn32tab", "math/bits.deBruijn64tab"], plainKeys := false, apart := false, laid := [("math/bits.deBruijn32tab", laid_math_bits_deBruijn32tab), ("math/bits.deBruijn64tab", laid_math_bits_deBruijn64tab), ("newel/newelref04.words", laid_newel_newelref04_words)] }
def FaultsRefutesSaid : Prop := faultsRefutesRow.holds Tryz.pinned (OpenSpec.ofChange faultsRefutesSpec)

/-- ITS FALSE NEIGHBOUR: 'it returns false'. Refute it at one input. -/
def faultsRefutesWrong : ChangeSpec := { name := "faultsRefutes", fn := fun _ => fun
  | [d1, d2] => { results := [.lit (.bool false)], args := [d1, d2] }
  | _ => none }
def FaultsRefutesWrongFalsely : Prop := faultsRefutesRow.holds Tryz.pinned (OpenSpec.ofChange faultsRefutesWrong)

/-- 'newellaw10.FaultsMore': WHATEVER THE INPUT: true; the input reads as it did. -/
def faultsMoreSpec : ChangeSpec := { name := "faultsMore", fn := fun _ => fun
  | [d1, d2] => { results := [.lit (.bool true)], args := [d1, d2] }
  | _ => none }
def faultsMoreRow : OpenClaim := { program := "ytccjacnppmciaaagreatdoor", sum := "7e1aab87b12e5eb2ca683183f0164df00e56c805118a38f2ef93b02ca08200fd", func := "newel/newellaw10.FaultsMore", spec := "faultsMore", unfollowed := true, recurses := true, named := ["newel/newelref04.words", "math/bits.deBruijn32tab", "math/bits.deBruijn64tab"], plainKeys := false, apart := false, laid := [("math/bits.deBruijn32tab", laid_math_bits_deBruijn32tab), ("math/bits.deBruijn64tab", laid_math_bits_deBruijn64tab), ("newel/newelref04.words", laid_newel_newelref04_words)] }
def FaultsMoreSaid : Prop := faultsMoreRow.holds Tryz.pinned (OpenSpec.ofChange faultsMoreSpec)

/-- ITS FALSE NEIGHBOUR: 'it returns false'. Refute it at one input. -/
def faultsMoreWrong : ChangeSpec := { name := "faultsMore", fn := fun _ => fun
  | [d1, d2] => { results := [.lit (.bool false)], args := [d1, d2] }
  | _ => none }
def FaultsMoreWrongFalsely : Prop := faultsMoreRow.holds Tryz.pinned (OpenSpec.ofChange faultsMoreWrong)

/-- 'newellaw10.FaultsElse': WHATEVER THE INPUT: true; the input reads as it did. -/
def faultsElseSpec : ChangeSpec := { name := "faultsElse", fn := fun _ => fun
  | [d1, d2] => { results := [.lit (.bool true)], args := [d1, d2] }
  | _ => none }
def faultsElseRow : OpenClaim := { program := "ytccjacnppmciaaagreatdoor", sum := "7e1aab87b12e5eb2ca683183f0164df00e56c805118a38f2ef93b02ca08200fd", func := "newel/newellaw10.FaultsElse", spec := "faultsElse", unfollowed := true, recurses := true, named := ["newel/newelref04.words", "math/bits.deBruijn32tab", "math/bits.deBruijn64tab"], plainKeys := false, apart := false, laid := [("math/bits.deBruijn32tab", laid_math_bits_deBruijn32tab), ("math/bits.deBruijn64tab", laid_math_bits_deBruijn64tab), ("newel/newelref04.words", laid_newel_newelref04_words)] }
def FaultsElseSaid : Prop := faultsElseRow.holds Tryz.pinned (OpenSpec.ofChange faultsElseSpec)

/-- ITS FALSE NEIGHBOUR: 'it returns false'. Refute it at one input. -/
def faultsElseWrong : ChangeSpec := { name := "faultsElse", fn := fun _ => fun
  | [d1, d2] => { results := [.lit (.bool false)], args := [d1, d2] }
  | _ => none }
def FaultsElseWrongFalsely : Prop := faultsElseRow.holds Tryz.pinned (OpenSpec.ofChange faultsElseWrong)

/- THE SECOND FORM. 'bulk': how many values and letters a reading holds, each counted each time it is reached (what is shared counts as often as it is met; a slice's spare places count too). A statement '..UptoSaid' is the law's where the arguments, and the package variables that the reading takes, are together of bulk at most 1048576: NARROWER than '..Said'. Prove '..Said' where nothing that the law and all that it calls make is longer than what came in: it says more and counts as full. Else prove '..UptoSaid'. A law counts once. -/
mutual
def uptoBulk {H : Type} : DataW H → Nat
  | .lit (.string bytes) => bytes.length + 1
  | .lit _ => 1
  | .nil => 1
  | .ptr d => uptoBulk d + 1
  | .slice elems spare => uptoBulkAll elems + uptoBulkAll spare + 1
  | .agg parts => uptoBulkAll parts + 1
  | .iface _ d => uptoBulk d + 1
  | .map entries => uptoBulkEntries entries + 1
  | .held _ => 1
def uptoBulkAll {H : Type} : List (DataW H) → Nat
  | [] => 0
  | d :: r => uptoBulk d + uptoBulkAll r
def uptoBulkEntries {H : Type} : List (Lit × DataW H) → Nat
  | [] => 0
  | x :: r => uptoBulkEntry x + uptoBulkEntries r
def uptoBulkEntry {H : Type} : Lit × DataW H → Nat
  | (.string bytes, d) => bytes.length + uptoBulk d + 1
  | (_, d) => uptoBulk d + 1
 end
def uptoSmall : (H : Type) → List (DataW H) → Bool := fun _ ds => decide (uptoBulkAll ds ≤ 1048576)
def OpenSpec.upto (s : _root_.Go.ChangeSpec) : _root_.Go.OpenSpec := { _root_.Go.OpenSpec.ofChange s with cond := some uptoSmall }

/-- 'newellaw10.FaultsTheories', WHERE WHAT IT READS IS OF BULK AT MOST 1048576: true; the input reads as it did. -/
def faultsTheoriesUptoRow : OpenClaim := { program := "ytccjacnppmciaaagreatdoor", sum := "7e1aab87b12e5eb2ca683183f0164df00e56c805118a38f2ef93b02ca08200fd", func := "newel/newellaw10.FaultsTheories", spec := "faultsTheories", unfollowed := true, recurses := true, named := ["newel/newelref04.words", "math/bits.deBruijn32tab", "math/bits.deBruijn64tab"], plainKeys := false, apart := false, laid := [("math/bits.deBruijn32tab", laid_math_bits_deBruijn32tab), ("math/bits.deBruijn64tab", laid_math_bits_deBruijn64tab), ("newel/newelref04.words", laid_newel_newelref04_words)], narrowed := true }
def FaultsTheoriesUptoSaid : Prop := faultsTheoriesUptoRow.holds Tryz.pinned (OpenSpec.upto faultsTheoriesSpec)

/-- 'newellaw10.FaultsCourses', WHERE WHAT IT READS IS OF BULK AT MOST 1048576: true; the input reads as it did. -/
def faultsCoursesUptoRow : OpenClaim := { program := "ytccjacnppmciaaagreatdoor", sum := "7e1aab87b12e5eb2ca683183f0164df00e56c805118a38f2ef93b02ca08200fd", func := "newel/newellaw10.FaultsCourses", spec := "faultsCourses", unfollowed := true, recurses := true, named := ["newel/newelref04.words", "math/bits.deBruijn32tab", "math/bits.deBruijn64tab"], plainKeys := false, apart := false, laid := [("math/bits.deBruijn32tab", laid_math_bits_deBruijn32tab), ("math/bits.deBruijn64tab", laid_math_bits_deBruijn64tab), ("newel/newelref04.words", laid_newel_newelref04_words)], narrowed := true }
def FaultsCoursesUptoSaid : Prop := faultsCoursesUptoRow.holds Tryz.pinned (OpenSpec.upto faultsCoursesSpec)

/-- 'newellaw10.FaultsAlways', WHERE WHAT IT READS IS OF BULK AT MOST 1048576: true; the input reads as it did. -/
def faultsAlwaysUptoRow : OpenClaim := { program := "ytccjacnppmciaaagreatdoor", sum := "7e1aab87b12e5eb2ca683183f0164df00e56c805118a38f2ef93b02ca08200fd", func := "newel/newellaw10.FaultsAlways", spec := "faultsAlways", unfollowed := true, recurses := true, named := ["newel/newelref04.words", "math/bits.deBruijn32tab", "math/bits.deBruijn64tab"], plainKeys := false, apart := false, laid := [("math/bits.deBruijn32tab", laid_math_bits_deBruijn32tab), ("math/bits.deBruijn64tab", laid_math_bits_deBruijn64tab), ("newel/newelref04.words", laid_newel_newelref04_words)], narrowed := true }
def FaultsAlwaysUptoSaid : Prop := faultsAlwaysUptoRow.holds Tryz.pinned (OpenSpec.upto faultsAlwaysSpec)

/-- 'newellaw10.FaultsRefutes', WHERE WHAT IT READS IS OF BULK AT MOST 1048576: true; the input reads as it did. -/
def faultsRefutesUptoRow : OpenClaim := { program := "ytccjacnppmciaaagreatdoor", sum := "7e1aab87b12e5eb2ca683183f0164df00e56c805118a38f2ef93b02ca08200fd", func := "newel/newellaw10.FaultsRefutes", spec := "faultsRefutes", unfollowed := true, recurses := true, named := ["newel/newelref04.words", "math/bits.deBruijn32tab", "math/bits.deBruijn64tab"], plainKeys := false, apart := false, laid := [("math/bits.deBruijn32tab", laid_math_bits_deBruijn32tab), ("math/bits.deBruijn64tab", laid_math_bits_deBruijn64tab), ("newel/newelref04.words", laid_newel_newelref04_words)], narrowed := true }
def FaultsRefutesUptoSaid : Prop := faultsRefutesUptoRow.holds Tryz.pinned (OpenSpec.upto faultsRefutesSpec)

/-- 'newellaw10.FaultsMore', WHERE WHAT IT READS IS OF BULK AT MOST 1048576: true; the input reads as it did. -/
def faultsMoreUptoRow : OpenClaim := { program := "ytccjacnppmciaaagreatdoor", sum := "7e1aab87b12e5eb2ca683183f0164df00e56c805118a38f2ef93b02ca08200fd", func := "newel/newellaw10.FaultsMore", spec := "faultsMore", unfollowed := true, recurses := true, named := ["newel/newelref04.words", "math/bits.deBruijn32tab", "math/bits.deBruijn64tab"], plainKeys := false, apart := false, laid := [("math/bits.deBruijn32tab", laid_math_bits_deBruijn32tab), ("math/bits.deBruijn64tab", laid_math_bits_deBruijn64tab), ("newel/newelref04.words", laid_newel_newelref04_words)], narrowed := true }
def FaultsMoreUptoSaid : Prop := faultsMoreUptoRow.holds Tryz.pinned (OpenSpec.upto faultsMoreSpec)

/-- 'newellaw10.FaultsElse', WHERE WHAT IT READS IS OF BULK AT MOST 1048576: true; the input reads as it did. -/
def faultsElseUptoRow : OpenClaim := { program := "ytccjacnppmciaaagreatdoor", sum := "7e1aab87b12e5eb2ca683183f0164df00e56c805118a38f2ef93b02ca08200fd", func := "newel/newellaw10.FaultsElse", spec := "faultsElse", unfollowed := true, recurses := true, named := ["newel/newelref04.words", "math/bits.deBruijn32tab", "math/bits.deBruijn64tab"], plainKeys := false, apart := false, laid := [("math/bits.deBruijn32tab", laid_math_bits_deBruijn32tab), ("math/bits.deBruijn64tab", laid_math_bits_deBruijn64tab), ("newel/newelref04.words", laid_newel_newelref04_words)], narrowed := true }
def FaultsElseUptoSaid : Prop := faultsElseUptoRow.holds Tryz.pinned (OpenSpec.upto faultsElseSpec)

end Rows
end Go.Proofs.YtccjacnppmciaaaGreatDoor
