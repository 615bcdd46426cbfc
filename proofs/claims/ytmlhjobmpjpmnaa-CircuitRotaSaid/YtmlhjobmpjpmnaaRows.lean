/-
  No cell of these rows narrows 'for every input' (looked for: loops, veiled, ifaces, maps, wideKeys, modest, calm, conditions, laid).
  DERIVED. THE GIVEN ROWS OF THIS SEAT. 11 by the template 'for every input the law returns true; each argument reads behind the call as it read before'; 0 by the template 'total and deterministic' (their statements: YtmlhjobmpjpmnaaTotals.lean).
  GIVEN WITH THE SEED: the statements are not yours to turn. If you find one false, say at which input.
  Laid BY PROGRAM, IN A SANDBOX (cutbox-rows.mjs): the forced cells as the released guide's own fill.sh prints them over the translation 6e5dcc341ff28762… (all of the seat's roots in one cut). By AI agents, Wed Nov 11 2026. No macro, syntax, notation, axiom, sorry.
-/
import Derived.Test.YtmlhjobmpjpmnaaChecked
import GoSem.Claim
import GoSem.ClaimJoined
import GoSem.ClaimMapViews
import Derived.JoinedTies
import Derived.KernelRfl
namespace Go.Proofs.Ytmlhjobmpjpmnaa
/- THE CELL 'sum', in the pinned program and in every row, IS THE sha256 OF THE DUMP (.gsa) THAT YtmlhjobmpjpmnaaProg.lean LOADS. Nothing in Lean hashes anything: it is a label: what it is worth is what the hold of that sum in a sandbox is worth. -/
noncomputable def Try.pinned : Pinned := { name := "ytmlhjobmpjpmnaa", sum := "6e5dcc341ff28762903b8c475038a9f8a5c07fc9a41a66c726324d5d7c27e6df", checked := Try.checked }
namespace Rows
def none {H : Type} : Left H := { results := [], args := [] }

/-- 'newellaw03.CircuitRotas': WHATEVER THE INPUT: true; the input reads as it did. -/
def circuitRotasSpec : ChangeSpec := { name := "circuitRotas", fn := fun _ => fun
  | [d1, d2, d3] => { results := [.lit (.bool true)], args := [d1, d2, d3] }
  | _ => none }
def circuitRotasRow : OpenClaim := { program := "ytmlhjobmpjpmnaa", sum := "6e5dcc341ff28762903b8c475038a9f8a5c07fc9a41a66c726324d5d7c27e6df", func := "newel/newellaw03.CircuitRotas", spec := "circuitRotas", unfollowed := true, recurses := true, apart := false }
def CircuitRotasSaid : Prop := circuitRotasRow.holds Try.pinned (OpenSpec.ofChange circuitRotasSpec)

/-- ITS FALSE NEIGHBOUR: 'it returns false'. Refute it at one input. -/
def circuitRotasWrong : ChangeSpec := { name := "circuitRotas", fn := fun _ => fun
  | [d1, d2, d3] => { results := [.lit (.bool false)], args := [d1, d2, d3] }
  | _ => none }
def CircuitRotasWrongFalsely : Prop := circuitRotasRow.holds Try.pinned (OpenSpec.ofChange circuitRotasWrong)

/-- 'newellaw03.CircuitRuns': WHATEVER THE INPUT: true; the input reads as it did. -/
def circuitRunsSpec : ChangeSpec := { name := "circuitRuns", fn := fun _ => fun
  | [d1, d2] => { results := [.lit (.bool true)], args := [d1, d2] }
  | _ => none }
def circuitRunsRow : OpenClaim := { program := "ytmlhjobmpjpmnaa", sum := "6e5dcc341ff28762903b8c475038a9f8a5c07fc9a41a66c726324d5d7c27e6df", func := "newel/newellaw03.CircuitRuns", spec := "circuitRuns", unfollowed := true, recurses := true, apart := false }
def CircuitRunsSaid : Prop := circuitRunsRow.holds Try.pinned (OpenSpec.ofChange circuitRunsSpec)

/-- ITS FALSE NEIGHBOUR: 'it returns false'. Refute it at one input. -/
def circuitRunsWrong : ChangeSpec := { name := "circuitRuns", fn := fun _ => fun
  | [d1, d2] => { results := [.lit (.bool false)], args := [d1, d2] }
  | _ => none }
def CircuitRunsWrongFalsely : Prop := circuitRunsRow.holds Try.pinned (OpenSpec.ofChange circuitRunsWrong)

/-- 'newellaw03.CircuitOrder': WHATEVER THE INPUT: true; the input reads as it did. -/
def circuitOrderSpec : ChangeSpec := { name := "circuitOrder", fn := fun _ => fun
  | [d1, d2, d3] => { results := [.lit (.bool true)], args := [d1, d2, d3] }
  | _ => none }
def circuitOrderRow : OpenClaim := { program := "ytmlhjobmpjpmnaa", sum := "6e5dcc341ff28762903b8c475038a9f8a5c07fc9a41a66c726324d5d7c27e6df", func := "newel/newellaw03.CircuitOrder", spec := "circuitOrder", unfollowed := true, recurses := true, apart := false }
def CircuitOrderSaid : Prop := circuitOrderRow.holds Try.pinned (OpenSpec.ofChange circuitOrderSpec)

/-- ITS FALSE NEIGHBOUR: 'it returns false'. Refute it at one input. -/
def circuitOrderWrong : ChangeSpec := { name := "circuitOrder", fn := fun _ => fun
  | [d1, d2, d3] => { results := [.lit (.bool false)], args := [d1, d2, d3] }
  | _ => none }
def CircuitOrderWrongFalsely : Prop := circuitOrderRow.holds Try.pinned (OpenSpec.ofChange circuitOrderWrong)

/-- 'newellaw03.CircuitSingle': WHATEVER THE INPUT: true; the input reads as it did. -/
def circuitSingleSpec : ChangeSpec := { name := "circuitSingle", fn := fun _ => fun
  | [d1, d2, d3] => { results := [.lit (.bool true)], args := [d1, d2, d3] }
  | _ => none }
def circuitSingleRow : OpenClaim := { program := "ytmlhjobmpjpmnaa", sum := "6e5dcc341ff28762903b8c475038a9f8a5c07fc9a41a66c726324d5d7c27e6df", func := "newel/newellaw03.CircuitSingle", spec := "circuitSingle", unfollowed := true, recurses := true, apart := false }
def CircuitSingleSaid : Prop := circuitSingleRow.holds Try.pinned (OpenSpec.ofChange circuitSingleSpec)

/-- ITS FALSE NEIGHBOUR: 'it returns false'. Refute it at one input. -/
def circuitSingleWrong : ChangeSpec := { name := "circuitSingle", fn := fun _ => fun
  | [d1, d2, d3] => { results := [.lit (.bool false)], args := [d1, d2, d3] }
  | _ => none }
def CircuitSingleWrongFalsely : Prop := circuitSingleRow.holds Try.pinned (OpenSpec.ofChange circuitSingleWrong)

/-- 'newellaw03.CircuitTwo': WHATEVER THE INPUT: true; the input reads as it did. -/
def circuitTwoSpec : ChangeSpec := { name := "circuitTwo", fn := fun _ => fun
  | [d1, d2, d3] => { results := [.lit (.bool true)], args := [d1, d2, d3] }
  | _ => none }
def circuitTwoRow : OpenClaim := { program := "ytmlhjobmpjpmnaa", sum := "6e5dcc341ff28762903b8c475038a9f8a5c07fc9a41a66c726324d5d7c27e6df", func := "newel/newellaw03.CircuitTwo", spec := "circuitTwo", unfollowed := true, recurses := true, apart := false }
def CircuitTwoSaid : Prop := circuitTwoRow.holds Try.pinned (OpenSpec.ofChange circuitTwoSpec)

/-- ITS FALSE NEIGHBOUR: 'it returns false'. Refute it at one input. -/
def circuitTwoWrong : ChangeSpec := { name := "circuitTwo", fn := fun _ => fun
  | [d1, d2, d3] => { results := [.lit (.bool false)], args := [d1, d2, d3] }
  | _ => none }
def CircuitTwoWrongFalsely : Prop := circuitTwoRow.holds Try.pinned (OpenSpec.ofChange circuitTwoWrong)

/-- 'newellaw03.CircuitPlans': WHATEVER THE INPUT: true; the input reads as it did. -/
def circuitPlansSpec : ChangeSpec := { name := "circuitPlans", fn := fun _ => fun
  | [d1, d2, d3] => { results := [.lit (.bool true)], args := [d1, d2, d3] }
  | _ => none }
def circuitPlansRow : OpenClaim := { program := "ytmlhjobmpjpmnaa", sum := "6e5dcc341ff28762903b8c475038a9f8a5c07fc9a41a66c726324d5d7c27e6df", func := "newel/newellaw03.CircuitPlans", spec := "circuitPlans", unfollowed := true, recurses := true, apart := false }
def CircuitPlansSaid : Prop := circuitPlansRow.holds Try.pinned (OpenSpec.ofChange circuitPlansSpec)

/-- ITS FALSE NEIGHBOUR: 'it returns false'. Refute it at one input. -/
def circuitPlansWrong : ChangeSpec := { name := "circuitPlans", fn := fun _ => fun
  | [d1, d2, d3] => { results := [.lit (.bool false)], args := [d1, d2, d3] }
  | _ => none }
def CircuitPlansWrongFalsely : Prop := circuitPlansRow.holds Try.pinned (OpenSpec.ofChange circuitPlansWrong)

/-- 'newellaw03.CircuitRota': WHATEVER THE INPUT: true; the input reads as it did. -/
def circuitRotaSpec : ChangeSpec := { name := "circuitRota", fn := fun _ => fun
  | [d1, d2, d3] => { results := [.lit (.bool true)], args := [d1, d2, d3] }
  | _ => none }
def circuitRotaRow : OpenClaim := { program := "ytmlhjobmpjpmnaa", sum := "6e5dcc341ff28762903b8c475038a9f8a5c07fc9a41a66c726324d5d7c27e6df", func := "newel/newellaw03.CircuitRota", spec := "circuitRota", unfollowed := true, recurses := true, apart := false }
def CircuitRotaSaid : Prop := circuitRotaRow.holds Try.pinned (OpenSpec.ofChange circuitRotaSpec)

/-- ITS FALSE NEIGHBOUR: 'it returns false'. Refute it at one input. -/
def circuitRotaWrong : ChangeSpec := { name := "circuitRota", fn := fun _ => fun
  | [d1, d2, d3] => { results := [.lit (.bool false)], args := [d1, d2, d3] }
  | _ => none }
def CircuitRotaWrongFalsely : Prop := circuitRotaRow.holds Try.pinned (OpenSpec.ofChange circuitRotaWrong)

/-- 'newellaw03.CircuitPlays': WHATEVER THE INPUT: true; the input reads as it did. -/
def circuitPlaysSpec : ChangeSpec := { name := "circuitPlays", fn := fun _ => fun
  | [d1, d2, d3] => { results := [.lit (.bool true)], args := [d1, d2, d3] }
  | _ => none }
def circuitPlaysRow : OpenClaim := { program := "ytmlhjobmpjpmnaa", sum := "6e5dcc341ff28762903b8c475038a9f8a5c07fc9a41a66c726324d5d7c27e6df", func := "newel/newellaw03.CircuitPlays", spec := "circuitPlays", unfollowed := true, recurses := true, apart := false }
def CircuitPlaysSaid : Prop := circuitPlaysRow.holds Try.pinned (OpenSpec.ofChange circuitPlaysSpec)

/-- ITS FALSE NEIGHBOUR: 'it returns false'. Refute it at one input. -/
def circuitPlaysWrong : ChangeSpec := { name := "circuitPlays", fn := fun _ => fun
  | [d1, d2, d3] => { results := [.lit (.bool false)], args := [d1, d2, d3] }
  | _ => none }
def CircuitPlaysWrongFalsely : Prop := circuitPlaysRow.holds Try.pinned (OpenSpec.ofChange circuitPlaysWrong)

/-- 'newellaw03.CircuitNever': WHATEVER THE INPUT: true; the input reads as it did. -/
def circuitNeverSpec : ChangeSpec := { name := "circuitNever", fn := fun _ => fun
  | [d1, d2, d3] => { results := [.lit (.bool true)], args := [d1, d2, d3] }
  | _ => none }
def circuitNeverRow : OpenClaim := { program := "ytmlhjobmpjpmnaa", sum := "6e5dcc341ff28762903b8c475038a9f8a5c07fc9a41a66c726324d5d7c27e6df", func := "newel/newellaw03.CircuitNever", spec := "circuitNever", unfollowed := true, recurses := true, apart := false }
def CircuitNeverSaid : Prop := circuitNeverRow.holds Try.pinned (OpenSpec.ofChange circuitNeverSpec)

/-- ITS FALSE NEIGHBOUR: 'it returns false'. Refute it at one input. -/
def circuitNeverWrong : ChangeSpec := { name := "circuitNever", fn := fun _ => fun
  | [d1, d2, d3] => { results := [.lit (.bool false)], args := [d1, d2, d3] }
  | _ => none }
def CircuitNeverWrongFalsely : Prop := circuitNeverRow.holds Try.pinned (OpenSpec.ofChange circuitNeverWrong)

/-- 'newellaw03.CircuitDangers': WHATEVER THE INPUT: true; the input reads as it did. -/
def circuitDangersSpec : ChangeSpec := { name := "circuitDangers", fn := fun _ => fun
  | [d1, d2, d3] => { results := [.lit (.bool true)], args := [d1, d2, d3] }
  | _ => none }
def circuitDangersRow : OpenClaim := { program := "ytmlhjobmpjpmnaa", sum := "6e5dcc341ff28762903b8c475038a9f8a5c07fc9a41a66c726324d5d7c27e6df", func := "newel/newellaw03.CircuitDangers", spec := "circuitDangers", unfollowed := true, recurses := true, apart := false }
def CircuitDangersSaid : Prop := circuitDangersRow.holds Try.pinned (OpenSpec.ofChange circuitDangersSpec)

/-- ITS FALSE NEIGHBOUR: 'it returns false'. Refute it at one input. -/
def circuitDangersWrong : ChangeSpec := { name := "circuitDangers", fn := fun _ => fun
  | [d1, d2, d3] => { results := [.lit (.bool false)], args := [d1, d2, d3] }
  | _ => none }
def CircuitDangersWrongFalsely : Prop := circuitDangersRow.holds Try.pinned (OpenSpec.ofChange circuitDangersWrong)

/-- 'newellaw03.CircuitLeast': WHATEVER THE INPUT: true; the input reads as it did. -/
def circuitLeastSpec : ChangeSpec := { name := "circuitLeast", fn := fun _ => fun
  | [d1, d2, d3] => { results := [.lit (.bool true)], args := [d1, d2, d3] }
  | _ => none }
def circuitLeastRow : OpenClaim := { program := "ytmlhjobmpjpmnaa", sum := "6e5dcc341ff28762903b8c475038a9f8a5c07fc9a41a66c726324d5d7c27e6df", func := "newel/newellaw03.CircuitLeast", spec := "circuitLeast", unfollowed := true, recurses := true, apart := false }
def CircuitLeastSaid : Prop := circuitLeastRow.holds Try.pinned (OpenSpec.ofChange circuitLeastSpec)

/-- ITS FALSE NEIGHBOUR: 'it returns false'. Refute it at one input. -/
def circuitLeastWrong : ChangeSpec := { name := "circuitLeast", fn := fun _ => fun
  | [d1, d2, d3] => { results := [.lit (.bool false)], args := [d1, d2, d3] }
  | _ => none }
def CircuitLeastWrongFalsely : Prop := circuitLeastRow.holds Try.pinned (OpenSpec.ofChange circuitLeastWrong)

/- THE SECOND FORM. 'bulk': how many values and letters a reading holds, each counted each time it is reached (what is shared counts as often as it is met; a slice's spare places count too). A statement '..UptoSaid' is the law's where the arguments, and the package variables that the reading takes, are together of bulk at most 1048576: NARROWER than '..Said'. Prove '..Said' where nothing that the law and all that it calls make is longer than what came in: it says more and counts as full. Else prove '..UptoSaid'. A law counts once. -/
mutual
def uptoBulk {H : Type} : DataW H → Nat
  | .lit (.string bytes) => bytes.length + 1
  | .lit _ => 1
  | .nil => 1
  | .ptr d => uptoBulk d + 1
  | .slice elems spare => uptoBulkAll elems + uptoBulkAll spare + 1
  | .agg parts => uptoBulkAll parts + 1
  | .iface _ d => uptoBulk d + 1
  | .map entries => uptoBulkEntries entries + 1
  | .held _ => 1
def uptoBulkAll {H : Type} : List (DataW H) → Nat
  | [] => 0
  | d :: r => uptoBulk d + uptoBulkAll r
def uptoBulkEntries {H : Type} : List (Lit × DataW H) → Nat
  | [] => 0
  | x :: r => uptoBulkEntry x + uptoBulkEntries r
def uptoBulkEntry {H : Type} : Lit × DataW H → Nat
  | (.string bytes, d) => bytes.length + uptoBulk d + 1
  | (_, d) => uptoBulk d + 1
 end
def uptoSmall : (H : Type) → List (DataW H) → Bool := fun _ ds => decide (uptoBulkAll ds ≤ 1048576)
def OpenSpec.upto (s : _root_.Go.ChangeSpec) : _root_.Go.OpenSpec := { _root_.Go.OpenSpec.ofChange s with cond := some uptoSmall }

/-- 'newellaw03.CircuitRotas', WHERE WHAT IT READS IS OF BULK AT MOST 1048576: true; the input reads as it did. -/
def circuitRotasUptoRow : OpenClaim := { program := "ytmlhjobmpjpmnaa", sum := "6e5dcc341ff28762903b8c475038a9f8a5c07fc9a41a66c726324d5d7c27e6df", func := "newel/newellaw03.CircuitRotas", spec := "circuitRotas", unfollowed := true, recurses := true, apart := false, narrowed := true }
def CircuitRotasUptoSaid : Prop := circuitRotasUptoRow.holds Try.pinned (OpenSpec.upto circuitRotasSpec)

/-- 'newellaw03.CircuitRuns', WHERE WHAT IT READS IS OF BULK AT MOST 1048576: true; the input reads as it did. -/
def circuitRunsUptoRow : OpenClaim := { program := "ytmlhjobmpjpmnaa", sum := "6e5dcc341ff28762903b8c475038a9f8a5c07fc9a41a66c726324d5d7c27e6df", func := "newel/newellaw03.CircuitRuns", spec := "circuitRuns", unfollowed := true, recurses := true, apart := false, narrowed := true }
def CircuitRunsUptoSaid : Prop := circuitRunsUptoRow.holds Try.pinned (OpenSpec.upto circuitRunsSpec)

/-- 'newellaw03.CircuitOrder', WHERE WHAT IT READS IS OF BULK AT MOST 1048576: true; the input reads as it did. -/
def circuitOrderUptoRow : OpenClaim := { program := "ytmlhjobmpjpmnaa", sum := "6e5dcc341ff28762903b8c475038a9f8a5c07fc9a41a66c726324d5d7c27e6df", func := "newel/newellaw03.CircuitOrder", spec := "circuitOrder", unfollowed := true, recurses := true, apart := false, narrowed := true }
def CircuitOrderUptoSaid : Prop := circuitOrderUptoRow.holds Try.pinned (OpenSpec.upto circuitOrderSpec)

/-- 'newellaw03.CircuitSingle', WHERE WHAT IT READS IS OF BULK AT MOST 1048576: true; the input reads as it did. -/
def circuitSingleUptoRow : OpenClaim := { program := "ytmlhjobmpjpmnaa", sum := "6e5dcc341ff28762903b8c475038a9f8a5c07fc9a41a66c726324d5d7c27e6df", func := "newel/newellaw03.CircuitSingle", spec := "circuitSingle", unfollowed := true, recurses := true, apart := false, narrowed := true }
def CircuitSingleUptoSaid : Prop := circuitSingleUptoRow.holds Try.pinned (OpenSpec.upto circuitSingleSpec)

/-- 'newellaw03.CircuitTwo', WHERE WHAT IT READS IS OF BULK AT MOST 1048576: true; the input reads as it did. -/
def circuitTwoUptoRow : OpenClaim := { program := "ytmlhjobmpjpmnaa", sum := "6e5dcc341ff28762903b8c475038a9f8a5c07fc9a41a66c726324d5d7c27e6df", func := "newel/newellaw03.CircuitTwo", spec := "circuitTwo", unfollowed := true, recurses := true, apart := false, narrowed := true }
def CircuitTwoUptoSaid : Prop := circuitTwoUptoRow.holds Try.pinned (OpenSpec.upto circuitTwoSpec)

/-- 'newellaw03.CircuitPlans', WHERE WHAT IT READS IS OF BULK AT MOST 1048576: true; the input reads as it did. -/
def circuitPlansUptoRow : OpenClaim := { program := "ytmlhjobmpjpmnaa", sum := "6e5dcc341ff28762903b8c475038a9f8a5c07fc9a41a66c726324d5d7c27e6df", func := "newel/newellaw03.CircuitPlans", spec := "circuitPlans", unfollowed := true, recurses := true, apart := false, narrowed := true }
def CircuitPlansUptoSaid : Prop := circuitPlansUptoRow.holds Try.pinned (OpenSpec.upto circuitPlansSpec)

/-- 'newellaw03.CircuitRota', WHERE WHAT IT READS IS OF BULK AT MOST 1048576: true; the input reads as it did. -/
def circuitRotaUptoRow : OpenClaim := { program := "ytmlhjobmpjpmnaa", sum := "6e5dcc341ff28762903b8c475038a9f8a5c07fc9a41a66c726324d5d7c27e6df", func := "newel/newellaw03.CircuitRota", spec := "circuitRota", unfollowed := true, recurses := true, apart := false, narrowed := true }
def CircuitRotaUptoSaid : Prop := circuitRotaUptoRow.holds Try.pinned (OpenSpec.upto circuitRotaSpec)

/-- 'newellaw03.CircuitPlays', WHERE WHAT IT READS IS OF BULK AT MOST 1048576: true; the input reads as it did. -/
def circuitPlaysUptoRow : OpenClaim := { program := "ytmlhjobmpjpmnaa", sum := "6e5dcc341ff28762903b8c475038a9f8a5c07fc9a41a66c726324d5d7c27e6df", func := "newel/newellaw03.CircuitPlays", spec := "circuitPlays", unfollowed := true, recurses := true, apart := false, narrowed := true }
def CircuitPlaysUptoSaid : Prop := circuitPlaysUptoRow.holds Try.pinned (OpenSpec.upto circuitPlaysSpec)

/-- 'newellaw03.CircuitNever', WHERE WHAT IT READS IS OF BULK AT MOST 1048576: true; the input reads as it did. -/
def circuitNeverUptoRow : OpenClaim := { program := "ytmlhjobmpjpmnaa", sum := "6e5dcc341ff28762903b8c475038a9f8a5c07fc9a41a66c726324d5d7c27e6df", func := "newel/newellaw03.CircuitNever", spec := "circuitNever", unfollowed := true, recurses := true, apart := false, narrowed := true }
def CircuitNeverUptoSaid : Prop := circuitNeverUptoRow.holds Try.pinned (OpenSpec.upto circuitNeverSpec)

/-- 'newellaw03.CircuitDangers', WHERE WHAT IT READS IS OF BULK AT MOST 1048576: true; the input reads as it did. -/
def circuitDangersUptoRow : OpenClaim := { program := "ytmlhjobmpjpmnaa", sum := "6e5dcc341ff28762903b8c475038a9f8a5c07fc9a41a66c726324d5d7c27e6df", func := "newel/newellaw03.CircuitDangers", spec := "circuitDangers", unfollowed := true, recurses := true, apart := false, narrowed := true }
def CircuitDangersUptoSaid : Prop := circuitDangersUptoRow.holds Try.pinned (OpenSpec.upto circuitDangersSpec)

/-- 'newellaw03.CircuitLeast', WHERE WHAT IT READS IS OF BULK AT MOST 1048576: true; the input reads as it did. -/
def circuitLeastUptoRow : OpenClaim := { program := "ytmlhjobmpjpmnaa", sum := "6e5dcc341ff28762903b8c475038a9f8a5c07fc9a41a66c726324d5d7c27e6df", func := "newel/newellaw03.CircuitLeast", spec := "circuitLeast", unfollowed := true, recurses := true, apart := false, narrowed := true }
def CircuitLeastUptoSaid : Prop := circuitLeastUptoRow.holds Try.pinned (OpenSpec.upto circuitLeastSpec)

end Rows
end Go.Proofs.Ytmlhjobmpjpmnaa
