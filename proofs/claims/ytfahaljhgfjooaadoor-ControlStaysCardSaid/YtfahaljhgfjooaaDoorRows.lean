/-
  NARROWER THAN 'FOR EVERY INPUT', by the rows' own cells (each row's printed sentence says how): ControlReaches: laid · ControlStucks: laid · ControlBreaches: laid · ControlFound: laid · ControlAlike: laid · ControlStays: laid · ControlSteps: laid · ControlCertifies: laid · ControlCompares: laid · ControlHome: laid · ControlNever: laid · ControlTwin: laid.
  DERIVED. THE GIVEN ROWS OF THIS SEAT. 12 by the template 'for every input the law returns true; each argument reads behind the call as it read before'; 0 by the template 'total and deterministic' (their statements: YtfahaljhgfjooaaDoorTotals.lean).
  GIVEN WITH THE SEED: the statements are not yours to turn. If you find one false, say at which input.
  Laid BY PROGRAM, IN A SANDBOX (cutbox-rows.mjs): the forced cells as the released guide's own fill.sh prints them over the translation a1ba5c375ccf6392… (all of the seat's roots in one cut). By AI agents, Wed Nov 11 2026. No macro, syntax, notation, axiom, sorry.
-/
import Derived.Test.YtfahaljhgfjooaaDoorChecked
import GoSem.Claim
import GoSem.ClaimJoined
import GoSem.ClaimMapViews
import Derived.JoinedTies
import Derived.KernelRfl
namespace Go.Proofs.YtfahaljhgfjooaaDoor
/- THE CELL 'sum', in the pinned program and in every row, IS THE sha256 OF THE DUMP (.gsa) THAT YtfahaljhgfjooaaDoorProg.lean LOADS. Nothing in Lean hashes anything: it is a label: what it is worth is what the hold of that sum in a sandbox is worth. -/
noncomputable def Tryd.pinned : Pinned := { name := "ytfahaljhgfjooaadoor", sum := "a1ba5c375ccf6392201decc615ee37cf46de168996dc9a3bc21c4dd402b93895", checked := Tryd.checked }
namespace Rows
def none {H : Type} : Left H := { results := [], args := [] }

/- WHAT THE LISTED PACKAGE-LEVEL VARIABLES READ AS WHEN THE CALL BEGINS. Each datum BY PROGRAM (the guide's laid-datum.mjs) off the statement by which the dump's own 'gosem.cut.vars' lays the variable. In a bare row this is a premise. The card (YtfahaljhgfjooaaDoorCards.lean) ties it to the program's text. -/
def laid_newel_newelref04_words {H : Type} : DataW H := .slice [.lit (.string [97, 110, 121]), .lit (.string [116, 111]), .lit (.string [122, 101, 114, 111]), .lit (.string [109, 111, 114, 101]), .lit (.string [108, 101, 115, 115]), .lit (.string [105, 102]), .lit (.string [121, 101, 115]), .lit (.string [110, 111])] []

/-- 'newellaw04.ControlReaches': WHATEVER THE INPUT: true; the input reads as it did. -/
def controlReachesSpec : ChangeSpec := { name := "controlReaches", fn := fun _ => fun
  | [d1, d2] => { results := [.lit (.bool true)], args := [d1, d2] }
  | _ => none }
def controlReachesRow : OpenClaim := { program := "ytfahaljhgfjooaadoor", sum := "a1ba5c375ccf6392201decc615ee37cf46de168996dc9a3bc21c4dd402b93895", func := "newel/newellaw04.ControlReaches", spec := "controlReaches", unfollowed := true, recurses := true, named := ["newel/newelref04.words"], plainKeys := false, apart := false, laid := [("newel/newelref04.words", laid_newel_newelref04_words)] }
def ControlReachesSaid : Prop := controlReachesRow.holds Tryd.pinned (OpenSpec.ofChange controlReachesSpec)

/-- ITS FALSE NEIGHBOUR: 'it returns false'. Refute it at one input. -/
def controlReachesWrong : ChangeSpec := { name := "controlReaches", fn := fun _ => fun
  | [d1, d2] => { results := [.lit (.bool false)], args := [d1, d2] }
  | _ => none }
def ControlReachesWrongFalsely : Prop := controlReachesRow.holds Tryd.pinned (OpenSpec.ofChange controlReachesWrong)

/-- 'newellaw04.ControlStucks': WHATEVER THE INPUT: true; the input reads as it did. -/
def controlStucksSpec : ChangeSpec := { name := "controlStucks", fn := fun _ => fun
  | [d1, d2] => { results := [.lit (.bool true)], args := [d1, d2] }
  | _ => none }
def controlStucksRow : OpenClaim := { program := "ytfahaljhgfjooaadoor", sum := "a1ba5c375ccf6392201decc615ee37cf46de168996dc9a3bc21c4dd402b93895", func := "newel/newellaw04.ControlStucks", spec := "controlStucks", unfollowed := true, recurses := true, named := ["newel/newelref04.words"], plainKeys := false, apart := false, laid := [("newel/newelref04.words", laid_newel_newelref04_words)] }
def ControlStucksSaid : Prop := controlStucksRow.holds Tryd.pinned (OpenSpec.ofChange controlStucksSpec)

/-- ITS FALSE NEIGHBOUR: 'it returns false'. Refute it at one input. -/
def controlStucksWrong : ChangeSpec := { name := "controlStucks", fn := fun _ => fun
  | [d1, d2] => { results := [.lit (.bool false)], args := [d1, d2] }
  | _ => none }
def ControlStucksWrongFalsely : Prop := controlStucksRow.holds Tryd.pinned (OpenSpec.ofChange controlStucksWrong)

/-- 'newellaw04.ControlBreaches': WHATEVER THE INPUT: true; the input reads as it did. -/
def controlBreachesSpec : ChangeSpec := { name := "controlBreaches", fn := fun _ => fun
  | [d1, d2] => { results := [.lit (.bool true)], args := [d1, d2] }
  | _ => none }
def controlBreachesRow : OpenClaim := { program := "ytfahaljhgfjooaadoor", sum := "a1ba5c375ccf6392201decc615ee37cf46de168996dc9a3bc21c4dd402b93895", func := "newel/newellaw04.ControlBreaches", spec := "controlBreaches", unfollowed := true, recurses := true, named := ["newel/newelref04.words"], plainKeys := false, apart := false, laid := [("newel/newelref04.words", laid_newel_newelref04_words)] }
def ControlBreachesSaid : Prop := controlBreachesRow.holds Tryd.pinned (OpenSpec.ofChange controlBreachesSpec)

/-- ITS FALSE NEIGHBOUR: 'it returns false'. Refute it at one input. -/
def controlBreachesWrong : ChangeSpec := { name := "controlBreaches", fn := fun _ => fun
  | [d1, d2] => { results := [.lit (.bool false)], args := [d1, d2] }
  | _ => none }
def ControlBreachesWrongFalsely : Prop := controlBreachesRow.holds Tryd.pinned (OpenSpec.ofChange controlBreachesWrong)

/-- 'newellaw04.ControlFound': WHATEVER THE INPUT: true; the input reads as it did. -/
def controlFoundSpec : ChangeSpec := { name := "controlFound", fn := fun _ => fun
  | [d1, d2, d3] => { results := [.lit (.bool true)], args := [d1, d2, d3] }
  | _ => none }
def controlFoundRow : OpenClaim := { program := "ytfahaljhgfjooaadoor", sum := "a1ba5c375ccf6392201decc615ee37cf46de168996dc9a3bc21c4dd402b93895", func := "newel/newellaw04.ControlFound", spec := "controlFound", unfollowed := true, recurses := true, named := ["newel/newelref04.words"], plainKeys := false, apart := false, laid := [("newel/newelref04.words", laid_newel_newelref04_words)] }
def ControlFoundSaid : Prop := controlFoundRow.holds Tryd.pinned (OpenSpec.ofChange controlFoundSpec)

/-- ITS FALSE NEIGHBOUR: 'it returns false'. Refute it at one input. -/
def controlFoundWrong : ChangeSpec := { name := "controlFound", fn := fun _ => fun
  | [d1, d2, d3] => { results := [.lit (.bool false)], args := [d1, d2, d3] }
  | _ => none }
def ControlFoundWrongFalsely : Prop := controlFoundRow.holds Tryd.pinned (OpenSpec.ofChange controlFoundWrong)

/-- 'newellaw04.ControlAlike': WHATEVER THE INPUT: true; the input reads as it did. -/
def controlAlikeSpec : ChangeSpec := { name := "controlAlike", fn := fun _ => fun
  | [d] => { results := [.lit (.bool true)], args := [d] }
  | _ => none }
def controlAlikeRow : OpenClaim := { program := "ytfahaljhgfjooaadoor", sum := "a1ba5c375ccf6392201decc615ee37cf46de168996dc9a3bc21c4dd402b93895", func := "newel/newellaw04.ControlAlike", spec := "controlAlike", unfollowed := true, recurses := true, named := ["newel/newelref04.words"], plainKeys := false, apart := false, laid := [("newel/newelref04.words", laid_newel_newelref04_words)] }
def ControlAlikeSaid : Prop := controlAlikeRow.holds Tryd.pinned (OpenSpec.ofChange controlAlikeSpec)

/-- ITS FALSE NEIGHBOUR: 'it returns false'. Refute it at one input. -/
def controlAlikeWrong : ChangeSpec := { name := "controlAlike", fn := fun _ => fun
  | [d] => { results := [.lit (.bool false)], args := [d] }
  | _ => none }
def ControlAlikeWrongFalsely : Prop := controlAlikeRow.holds Tryd.pinned (OpenSpec.ofChange controlAlikeWrong)

/-- 'newellaw04.ControlStays': WHATEVER THE INPUT: true; the input reads as it did. -/
def controlStaysSpec : ChangeSpec := { name := "controlStays", fn := fun _ => fun
  | [d1, d2, d3] => { results := [.lit (.bool true)], args := [d1, d2, d3] }
  | _ => none }
def controlStaysRow : OpenClaim := { program := "ytfahaljhgfjooaadoor", sum := "a1ba5c375ccf6392201decc615ee37cf46de168996dc9a3bc21c4dd402b93895", func := "newel/newellaw04.ControlStays", spec := "controlStays", unfollowed := true, recurses := true, named := ["newel/newelref04.words"], plainKeys := false, apart := false, laid := [("newel/newelref04.words", laid_newel_newelref04_words)] }
def ControlStaysSaid : Prop := controlStaysRow.holds Tryd.pinned (OpenSpec.ofChange controlStaysSpec)

/-- ITS FALSE NEIGHBOUR: 'it returns false'. Refute it at one input. -/
def controlStaysWrong : ChangeSpec := { name := "controlStays", fn := fun _ => fun
  | [d1, d2, d3] => { results := [.lit (.bool false)], args := [d1, d2, d3] }
  | _ => none }
def ControlStaysWrongFalsely : Prop := controlStaysRow.holds Tryd.pinned (OpenSpec.ofChange controlStaysWrong)

/-- 'newellaw04.ControlSteps': WHATEVER THE INPUT: true; the input reads as it did. -/
def controlStepsSpec : ChangeSpec := { name := "controlSteps", fn := fun _ => fun
  | [d1, d2, d3] => { results := [.lit (.bool true)], args := [d1, d2, d3] }
  | _ => none }
def controlStepsRow : OpenClaim := { program := "ytfahaljhgfjooaadoor", sum := "a1ba5c375ccf6392201decc615ee37cf46de168996dc9a3bc21c4dd402b93895", func := "newel/newellaw04.ControlSteps", spec := "controlSteps", unfollowed := true, recurses := true, named := ["newel/newelref04.words"], plainKeys := false, apart := false, laid := [("newel/newelref04.words", laid_newel_newelref04_words)] }
def ControlStepsSaid : Prop := controlStepsRow.holds Tryd.pinned (OpenSpec.ofChange controlStepsSpec)

/-- ITS FALSE NEIGHBOUR: 'it returns false'. Refute it at one input. -/
def controlStepsWrong : ChangeSpec := { name := "controlSteps", fn := fun _ => fun
  | [d1, d2, d3] => { results := [.lit (.bool false)], args := [d1, d2, d3] }
  | _ => none }
def ControlStepsWrongFalsely : Prop := controlStepsRow.holds Tryd.pinned (OpenSpec.ofChange controlStepsWrong)

/-- 'newellaw04.ControlCertifies': WHATEVER THE INPUT: true; the input reads as it did. -/
def controlCertifiesSpec : ChangeSpec := { name := "controlCertifies", fn := fun _ => fun
  | [d1, d2, d3] => { results := [.lit (.bool true)], args := [d1, d2, d3] }
  | _ => none }
def controlCertifiesRow : OpenClaim := { program := "ytfahaljhgfjooaadoor", sum := "a1ba5c375ccf6392201decc615ee37cf46de168996dc9a3bc21c4dd402b93895", func := "newel/newellaw04.ControlCertifies", spec := "controlCertifies", unfollowed := true, recurses := true, named := ["newel/newelref04.words"], plainKeys := false, apart := false, laid := [("newel/newelref04.words", laid_newel_newelref04_words)] }
def ControlCertifiesSaid : Prop := controlCertifiesRow.holds Tryd.pinned (OpenSpec.ofChange controlCertifiesSpec)

/-- ITS FALSE NEIGHBOUR: 'it returns false'. Refute it at one input. -/
def controlCertifiesWrong : ChangeSpec := { name := "controlCertifies", fn := fun _ => fun
  | [d1, d2, d3] => { results := [.lit (.bool false)], args := [d1, d2, d3] }
  | _ => none }
def ControlCertifiesWrongFalsely : Prop := controlCertifiesRow.holds Tryd.pinned (OpenSpec.ofChange controlCertifiesWrong)

/-- 'newellaw04.ControlCompares': WHATEVER THE INPUT: true; the input reads as it did. -/
def controlComparesSpec : ChangeSpec := { name := "controlCompares", fn := fun _ => fun
  | [d1, d2, d3] => { results := [.lit (.bool true)], args := [d1, d2, d3] }
  | _ => none }
def controlComparesRow : OpenClaim := { program := "ytfahaljhgfjooaadoor", sum := "a1ba5c375ccf6392201decc615ee37cf46de168996dc9a3bc21c4dd402b93895", func := "newel/newellaw04.ControlCompares", spec := "controlCompares", unfollowed := true, recurses := true, named := ["newel/newelref04.words"], plainKeys := false, apart := false, laid := [("newel/newelref04.words", laid_newel_newelref04_words)] }
def ControlComparesSaid : Prop := controlComparesRow.holds Tryd.pinned (OpenSpec.ofChange controlComparesSpec)

/-- ITS FALSE NEIGHBOUR: 'it returns false'. Refute it at one input. -/
def controlComparesWrong : ChangeSpec := { name := "controlCompares", fn := fun _ => fun
  | [d1, d2, d3] => { results := [.lit (.bool false)], args := [d1, d2, d3] }
  | _ => none }
def ControlComparesWrongFalsely : Prop := controlComparesRow.holds Tryd.pinned (OpenSpec.ofChange controlComparesWrong)

/-- 'newellaw04.ControlHome': WHATEVER THE INPUT: true; the input reads as it did. -/
def controlHomeSpec : ChangeSpec := { name := "controlHome", fn := fun _ => fun
  | [d1, d2, d3] => { results := [.lit (.bool true)], args := [d1, d2, d3] }
  | _ => none }
def controlHomeRow : OpenClaim := { program := "ytfahaljhgfjooaadoor", sum := "a1ba5c375ccf6392201decc615ee37cf46de168996dc9a3bc21c4dd402b93895", func := "newel/newellaw04.ControlHome", spec := "controlHome", unfollowed := true, recurses := true, named := ["newel/newelref04.words"], plainKeys := false, apart := false, laid := [("newel/newelref04.words", laid_newel_newelref04_words)] }
def ControlHomeSaid : Prop := controlHomeRow.holds Tryd.pinned (OpenSpec.ofChange controlHomeSpec)

/-- ITS FALSE NEIGHBOUR: 'it returns false'. Refute it at one input. -/
def controlHomeWrong : ChangeSpec := { name := "controlHome", fn := fun _ => fun
  | [d1, d2, d3] => { results := [.lit (.bool false)], args := [d1, d2, d3] }
  | _ => none }
def ControlHomeWrongFalsely : Prop := controlHomeRow.holds Tryd.pinned (OpenSpec.ofChange controlHomeWrong)

/-- 'newellaw04.ControlNever': WHATEVER THE INPUT: true; the input reads as it did. -/
def controlNeverSpec : ChangeSpec := { name := "controlNever", fn := fun _ => fun
  | [d1, d2, d3] => { results := [.lit (.bool true)], args := [d1, d2, d3] }
  | _ => none }
def controlNeverRow : OpenClaim := { program := "ytfahaljhgfjooaadoor", sum := "a1ba5c375ccf6392201decc615ee37cf46de168996dc9a3bc21c4dd402b93895", func := "newel/newellaw04.ControlNever", spec := "controlNever", unfollowed := true, recurses := true, named := ["newel/newelref04.words"], plainKeys := false, apart := false, laid := [("newel/newelref04.words", laid_newel_newelref04_words)] }
def ControlNeverSaid : Prop := controlNeverRow.holds Tryd.pinned (OpenSpec.ofChange controlNeverSpec)

/-- ITS FALSE NEIGHBOUR: 'it returns false'. Refute it at one input. -/
def controlNeverWrong : ChangeSpec := { name := "controlNever", fn := fun _ => fun
  | [d1, d2, d3] => { results := [.lit (.bool false)], args := [d1, d2, d3] }
  | _ => none }
def ControlNeverWrongFalsely : Prop := controlNeverRow.holds Tryd.pinned (OpenSpec.ofChange controlNeverWrong)

/-- 'newellaw04.ControlTwin': WHATEVER THE INPUT: true; the input reads as it did. -/
def controlTwinSpec : ChangeSpec := { name := "controlTwin", fn := fun _ => fun
  | [d1, d2, d3] => { results := [.lit (.bool true)], args := [d1, d2, d3] }
  | _ => none }
def controlTwinRow : OpenClaim := { program := "ytfahaljhgfjooaadoor", sum := "a1ba5c375ccf6392201decc615ee37cf46de168996dc9a3bc21c4dd402b93895", func := "newel/newellaw04.ControlTwin", spec := "controlTwin", unfollowed := true, recurses := true, named := ["newel/newelref04.words"], plainKeys := false, apart := false, laid := [("newel/newelref04.words", laid_newel_newelref04_words)] }
def ControlTwinSaid : Prop := controlTwinRow.holds Tryd.pinned (OpenSpec.ofChange controlTwinSpec)

/-- ITS FALSE NEIGHBOUR: 'it returns false'. Refute it at one input. -/
def controlTwinWrong : ChangeSpec := { name := "controlTwin", fn := fun _ => fun
  | [d1, d2, d3] => { results := [.lit (.bool false)], args := [d1, d2, d3] }
  | _ => none }
def ControlTwinWrongFalsely : Prop := controlTwinRow.holds Tryd.pinned (OpenSpec.ofChange controlTwinWrong)

/- THE SECOND FORM. 'bulk': how many values and letters a reading holds, each counted each time it is reached (what is shared counts as often as it is met; a slice's spare places count too). A statement '..UptoSaid' is the law's where the arguments, and the package variables that the reading takes, are together of bulk at most 1048576: NARROWER than '..Said'. Prove '..Said' where nothing that the law and all that it calls make is longer than what came in: it says more and counts as full. Else prove '..UptoSaid'. A law counts once. -/
mutual
def uptoBulk {H : Type} : DataW H → Nat
  | .lit (.string bytes) => bytes.length + 1
  | .lit _ => 1
  | .nil => 1
  | .ptr d => uptoBulk d + 1
  | .slice elems spare => uptoBulkAll elems + uptoBulkAll spare + 1
  | .agg parts => uptoBulkAll parts + 1
  | .iface _ d => uptoBulk d + 1
  | .map entries => uptoBulkEntries entries + 1
  | .held _ => 1
def uptoBulkAll {H : Type} : List (DataW H) → Nat
  | [] => 0
  | d :: r => uptoBulk d + uptoBulkAll r
def uptoBulkEntries {H : Type} : List (Lit × DataW H) → Nat
  | [] => 0
  | x :: r => uptoBulkEntry x + uptoBulkEntries r
def uptoBulkEntry {H : Type} : Lit × DataW H → Nat
  | (.string bytes, d) => bytes.length + uptoBulk d + 1
  | (_, d) => uptoBulk d + 1
 end
def uptoSmall : (H : Type) → List (DataW H) → Bool := fun _ ds => decide (uptoBulkAll ds ≤ 1048576)
def OpenSpec.upto (s : _root_.Go.ChangeSpec) : _root_.Go.OpenSpec := { _root_.Go.OpenSpec.ofChange s with cond := some uptoSmall }

/-- 'newellaw04.ControlReaches', WHERE WHAT IT READS IS OF BULK AT MOST 1048576: true; the input reads as it did. -/
def controlReachesUptoRow : OpenClaim := { program := "ytfahaljhgfjooaadoor", sum := "a1ba5c375ccf6392201decc615ee37cf46de168996dc9a3bc21c4dd402b93895", func := "newel/newellaw04.ControlReaches", spec := "controlReaches", unfollowed := true, recurses := true, named := ["newel/newelref04.words"], plainKeys := false, apart := false, laid := [("newel/newelref04.words", laid_newel_newelref04_words)], narrowed := true }
def ControlReachesUptoSaid : Prop := controlReachesUptoRow.holds Tryd.pinned (OpenSpec.upto controlReachesSpec)

/-- 'newellaw04.ControlStucks', WHERE WHAT IT READS IS OF BULK AT MOST 1048576: true; the input reads as it did. -/
def controlStucksUptoRow : OpenClaim := { program := "ytfahaljhgfjooaadoor", sum := "a1ba5c375ccf6392201decc615ee37cf46de168996dc9a3bc21c4dd402b93895", func := "newel/newellaw04.ControlStucks", spec := "controlStucks", unfollowed := true, recurses := true, named := ["newel/newelref04.words"], plainKeys := false, apart := false, laid := [("newel/newelref04.words", laid_newel_newelref04_words)], narrowed := true }
def ControlStucksUptoSaid : Prop := controlStucksUptoRow.holds Tryd.pinned (OpenSpec.upto controlStucksSpec)

/-- 'newellaw04.ControlBreaches', WHERE WHAT IT READS IS OF BULK AT MOST 1048576: true; the input reads as it did. -/
def controlBreachesUptoRow : OpenClaim := { program := "ytfahaljhgfjooaadoor", sum := "a1ba5c375ccf6392201decc615ee37cf46de168996dc9a3bc21c4dd402b93895", func := "newel/newellaw04.ControlBreaches", spec := "controlBreaches", unfollowed := true, recurses := true, named := ["newel/newelref04.words"], plainKeys := false, apart := false, laid := [("newel/newelref04.words", laid_newel_newelref04_words)], narrowed := true }
def ControlBreachesUptoSaid : Prop := controlBreachesUptoRow.holds Tryd.pinned (OpenSpec.upto controlBreachesSpec)

/-- 'newellaw04.ControlFound', WHERE WHAT IT READS IS OF BULK AT MOST 1048576: true; the input reads as it did. -/
def controlFoundUptoRow : OpenClaim := { program := "ytfahaljhgfjooaadoor", sum := "a1ba5c375ccf6392201decc615ee37cf46de168996dc9a3bc21c4dd402b93895", func := "newel/newellaw04.ControlFound", spec := "controlFound", unfollowed := true, recurses := true, named := ["newel/newelref04.words"], plainKeys := false, apart := false, laid := [("newel/newelref04.words", laid_newel_newelref04_words)], narrowed := true }
def ControlFoundUptoSaid : Prop := controlFoundUptoRow.holds Tryd.pinned (OpenSpec.upto controlFoundSpec)

/-- 'newellaw04.ControlAlike', WHERE WHAT IT READS IS OF BULK AT MOST 1048576: true; the input reads as it did. -/
def controlAlikeUptoRow : OpenClaim := { program := "ytfahaljhgfjooaadoor", sum := "a1ba5c375ccf6392201decc615ee37cf46de168996dc9a3bc21c4dd402b93895", func := "newel/newellaw04.ControlAlike", spec := "controlAlike", unfollowed := true, recurses := true, named := ["newel/newelref04.words"], plainKeys := false, apart := false, laid := [("newel/newelref04.words", laid_newel_newelref04_words)], narrowed := true }
def ControlAlikeUptoSaid : Prop := controlAlikeUptoRow.holds Tryd.pinned (OpenSpec.upto controlAlikeSpec)

/-- 'newellaw04.ControlStays', WHERE WHAT IT READS IS OF BULK AT MOST 1048576: true; the input reads as it did. -/
def controlStaysUptoRow : OpenClaim := { program := "ytfahaljhgfjooaadoor", sum := "a1ba5c375ccf6392201decc615ee37cf46de168996dc9a3bc21c4dd402b93895", func := "newel/newellaw04.ControlStays", spec := "controlStays", unfollowed := true, recurses := true, named := ["newel/newelref04.words"], plainKeys := false, apart := false, laid := [("newel/newelref04.words", laid_newel_newelref04_words)], narrowed := true }
def ControlStaysUptoSaid : Prop := controlStaysUptoRow.holds Tryd.pinned (OpenSpec.upto controlStaysSpec)

/-- 'newellaw04.ControlSteps', WHERE WHAT IT READS IS OF BULK AT MOST 1048576: true; the input reads as it did. -/
def controlStepsUptoRow : OpenClaim := { program := "ytfahaljhgfjooaadoor", sum := "a1ba5c375ccf6392201decc615ee37cf46de168996dc9a3bc21c4dd402b93895", func := "newel/newellaw04.ControlSteps", spec := "controlSteps", unfollowed := true, recurses := true, named := ["newel/newelref04.words"], plainKeys := false, apart := false, laid := [("newel/newelref04.words", laid_newel_newelref04_words)], narrowed := true }
def ControlStepsUptoSaid : Prop := controlStepsUptoRow.holds Tryd.pinned (OpenSpec.upto controlStepsSpec)

/-- 'newellaw04.ControlCertifies', WHERE WHAT IT READS IS OF BULK AT MOST 1048576: true; the input reads as it did. -/
def controlCertifiesUptoRow : OpenClaim := { program := "ytfahaljhgfjooaadoor", sum := "a1ba5c375ccf6392201decc615ee37cf46de168996dc9a3bc21c4dd402b93895", func := "newel/newellaw04.ControlCertifies", spec := "controlCertifies", unfollowed := true, recurses := true, named := ["newel/newelref04.words"], plainKeys := false, apart := false, laid := [("newel/newelref04.words", laid_newel_newelref04_words)], narrowed := true }
def ControlCertifiesUptoSaid : Prop := controlCertifiesUptoRow.holds Tryd.pinned (OpenSpec.upto controlCertifiesSpec)

/-- 'newellaw04.ControlCompares', WHERE WHAT IT READS IS OF BULK AT MOST 1048576: true; the input reads as it did. -/
def controlComparesUptoRow : OpenClaim := { program := "ytfahaljhgfjooaadoor", sum := "a1ba5c375ccf6392201decc615ee37cf46de168996dc9a3bc21c4dd402b93895", func := "newel/newellaw04.ControlCompares", spec := "controlCompares", unfollowed := true, recurses := true, named := ["newel/newelref04.words"], plainKeys := false, apart := false, laid := [("newel/newelref04.words", laid_newel_newelref04_words)], narrowed := true }
def ControlComparesUptoSaid : Prop := controlComparesUptoRow.holds Tryd.pinned (OpenSpec.upto controlComparesSpec)

/-- 'newellaw04.ControlHome', WHERE WHAT IT READS IS OF BULK AT MOST 1048576: true; the input reads as it did. -/
def controlHomeUptoRow : OpenClaim := { program := "ytfahaljhgfjooaadoor", sum := "a1ba5c375ccf6392201decc615ee37cf46de168996dc9a3bc21c4dd402b93895", func := "newel/newellaw04.ControlHome", spec := "controlHome", unfollowed := true, recurses := true, named := ["newel/newelref04.words"], plainKeys := false, apart := false, laid := [("newel/newelref04.words", laid_newel_newelref04_words)], narrowed := true }
def ControlHomeUptoSaid : Prop := controlHomeUptoRow.holds Tryd.pinned (OpenSpec.upto controlHomeSpec)

/-- 'newellaw04.ControlNever', WHERE WHAT IT READS IS OF BULK AT MOST 1048576: true; the input reads as it did. -/
def controlNeverUptoRow : OpenClaim := { program := "ytfahaljhgfjooaadoor", sum := "a1ba5c375ccf6392201decc615ee37cf46de168996dc9a3bc21c4dd402b93895", func := "newel/newellaw04.ControlNever", spec := "controlNever", unfollowed := true, recurses := true, named := ["newel/newelref04.words"], plainKeys := false, apart := false, laid := [("newel/newelref04.words", laid_newel_newelref04_words)], narrowed := true }
def ControlNeverUptoSaid : Prop := controlNeverUptoRow.holds Tryd.pinned (OpenSpec.upto controlNeverSpec)

/-- 'newellaw04.ControlTwin', WHERE WHAT IT READS IS OF BULK AT MOST 1048576: true; the input reads as it did. -/
def controlTwinUptoRow : OpenClaim := { program := "ytfahaljhgfjooaadoor", sum := "a1ba5c375ccf6392201decc615ee37cf46de168996dc9a3bc21c4dd402b93895", func := "newel/newellaw04.ControlTwin", spec := "controlTwin", unfollowed := true, recurses := true, named := ["newel/newelref04.words"], plainKeys := false, apart := false, laid := [("newel/newelref04.words", laid_newel_newelref04_words)], narrowed := true }
def ControlTwinUptoSaid : Prop := controlTwinUptoRow.holds Tryd.pinned (OpenSpec.upto controlTwinSpec)

end Rows
end Go.Proofs.YtfahaljhgfjooaaDoor
