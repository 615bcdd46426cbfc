/-
  No cell of these rows narrows 'for every input' (looked for: loops, veiled, ifaces, maps, wideKeys, modest, calm, conditions, laid).
  DERIVED. THE GIVEN ROWS OF THIS SEAT. 10 by the template 'for every input the law returns true; each argument reads behind the call as it read before'; 0 by the template 'total and deterministic' (their statements: YteoedeeljnboeaaTotals.lean).
  GIVEN WITH THE SEED: the statements are not yours to turn. If you find one false, say at which input.
  Laid BY PROGRAM, IN A SANDBOX (cutbox-rows.mjs): the forced cells as the released guide's own fill.sh prints them over the translation 32c980700e6a2733… (all of the seat's roots in one cut). By AI agents, Wed Nov 11 2026. No macro, syntax, notation, axiom, sorry.
-/
import Derived.Test.YteoedeeljnboeaaChecked
import GoSem.Claim
import GoSem.ClaimJoined
import GoSem.ClaimMapViews
import Derived.JoinedTies
import Derived.KernelRfl
namespace Go.Proofs.Yteoedeeljnboeaa
/- THE CELL 'sum', in the pinned program and in every row, IS THE sha256 OF THE DUMP (.gsa) THAT YteoedeeljnboeaaProg.lean LOADS. Nothing in Lean hashes anything: it is a label: what it is worth is what the hold of that sum in a sandbox is worth. -/
noncomputable def Try.pinned : Pinned := { name := "yteoedeeljnboeaa", sum := "32c980700e6a27337a6c6a469ccf6fa419113cfc557ea0689b63f14fb96e7cc0", checked := Try.checked }
namespace Rows
def none {H : Type} : Left H := { results := [], args := [] }

/-- 'newellaw06.HallsGuard': WHATEVER THE INPUT: true; the input reads as it did. -/
def hallsGuardSpec : ChangeSpec := { name := "hallsGuard", fn := fun _ => fun
  | [d1, d2] => { results := [.lit (.bool true)], args := [d1, d2] }
  | _ => none }
def hallsGuardRow : OpenClaim := { program := "yteoedeeljnboeaa", sum := "32c980700e6a27337a6c6a469ccf6fa419113cfc557ea0689b63f14fb96e7cc0", func := "newel/newellaw06.HallsGuard", spec := "hallsGuard", unfollowed := true, recurses := true, apart := false }
def HallsGuardSaid : Prop := hallsGuardRow.holds Try.pinned (OpenSpec.ofChange hallsGuardSpec)

/-- ITS FALSE NEIGHBOUR: 'it returns false'. Refute it at one input. -/
def hallsGuardWrong : ChangeSpec := { name := "hallsGuard", fn := fun _ => fun
  | [d1, d2] => { results := [.lit (.bool false)], args := [d1, d2] }
  | _ => none }
def HallsGuardWrongFalsely : Prop := hallsGuardRow.holds Try.pinned (OpenSpec.ofChange hallsGuardWrong)

/-- 'newellaw06.HallsLess': WHATEVER THE INPUT: true; the input reads as it did. -/
def hallsLessSpec : ChangeSpec := { name := "hallsLess", fn := fun _ => fun
  | [d1, d2, d3] => { results := [.lit (.bool true)], args := [d1, d2, d3] }
  | _ => none }
def hallsLessRow : OpenClaim := { program := "yteoedeeljnboeaa", sum := "32c980700e6a27337a6c6a469ccf6fa419113cfc557ea0689b63f14fb96e7cc0", func := "newel/newellaw06.HallsLess", spec := "hallsLess", unfollowed := true, recurses := true, apart := false }
def HallsLessSaid : Prop := hallsLessRow.holds Try.pinned (OpenSpec.ofChange hallsLessSpec)

/-- ITS FALSE NEIGHBOUR: 'it returns false'. Refute it at one input. -/
def hallsLessWrong : ChangeSpec := { name := "hallsLess", fn := fun _ => fun
  | [d1, d2, d3] => { results := [.lit (.bool false)], args := [d1, d2, d3] }
  | _ => none }
def HallsLessWrongFalsely : Prop := hallsLessRow.holds Try.pinned (OpenSpec.ofChange hallsLessWrong)

/-- 'newellaw06.HallsNeeds': WHATEVER THE INPUT: true; the input reads as it did. -/
def hallsNeedsSpec : ChangeSpec := { name := "hallsNeeds", fn := fun _ => fun
  | [d1, d2, d3] => { results := [.lit (.bool true)], args := [d1, d2, d3] }
  | _ => none }
def hallsNeedsRow : OpenClaim := { program := "yteoedeeljnboeaa", sum := "32c980700e6a27337a6c6a469ccf6fa419113cfc557ea0689b63f14fb96e7cc0", func := "newel/newellaw06.HallsNeeds", spec := "hallsNeeds", unfollowed := true, recurses := true, apart := false }
def HallsNeedsSaid : Prop := hallsNeedsRow.holds Try.pinned (OpenSpec.ofChange hallsNeedsSpec)

/-- ITS FALSE NEIGHBOUR: 'it returns false'. Refute it at one input. -/
def hallsNeedsWrong : ChangeSpec := { name := "hallsNeeds", fn := fun _ => fun
  | [d1, d2, d3] => { results := [.lit (.bool false)], args := [d1, d2, d3] }
  | _ => none }
def HallsNeedsWrongFalsely : Prop := hallsNeedsRow.holds Try.pinned (OpenSpec.ofChange hallsNeedsWrong)

/-- 'newellaw06.HallsNeed': WHATEVER THE INPUT: true; the input reads as it did. -/
def hallsNeedSpec : ChangeSpec := { name := "hallsNeed", fn := fun _ => fun
  | [d1, d2, d3] => { results := [.lit (.bool true)], args := [d1, d2, d3] }
  | _ => none }
def hallsNeedRow : OpenClaim := { program := "yteoedeeljnboeaa", sum := "32c980700e6a27337a6c6a469ccf6fa419113cfc557ea0689b63f14fb96e7cc0", func := "newel/newellaw06.HallsNeed", spec := "hallsNeed", unfollowed := true, recurses := true, apart := false }
def HallsNeedSaid : Prop := hallsNeedRow.holds Try.pinned (OpenSpec.ofChange hallsNeedSpec)

/-- ITS FALSE NEIGHBOUR: 'it returns false'. Refute it at one input. -/
def hallsNeedWrong : ChangeSpec := { name := "hallsNeed", fn := fun _ => fun
  | [d1, d2, d3] => { results := [.lit (.bool false)], args := [d1, d2, d3] }
  | _ => none }
def HallsNeedWrongFalsely : Prop := hallsNeedRow.holds Try.pinned (OpenSpec.ofChange hallsNeedWrong)

/-- 'newellaw06.HallsBounds': WHATEVER THE INPUT: true; the input reads as it did. -/
def hallsBoundsSpec : ChangeSpec := { name := "hallsBounds", fn := fun _ => fun
  | [d1, d2] => { results := [.lit (.bool true)], args := [d1, d2] }
  | _ => none }
def hallsBoundsRow : OpenClaim := { program := "yteoedeeljnboeaa", sum := "32c980700e6a27337a6c6a469ccf6fa419113cfc557ea0689b63f14fb96e7cc0", func := "newel/newellaw06.HallsBounds", spec := "hallsBounds", unfollowed := true, recurses := true, apart := false }
def HallsBoundsSaid : Prop := hallsBoundsRow.holds Try.pinned (OpenSpec.ofChange hallsBoundsSpec)

/-- ITS FALSE NEIGHBOUR: 'it returns false'. Refute it at one input. -/
def hallsBoundsWrong : ChangeSpec := { name := "hallsBounds", fn := fun _ => fun
  | [d1, d2] => { results := [.lit (.bool false)], args := [d1, d2] }
  | _ => none }
def HallsBoundsWrongFalsely : Prop := hallsBoundsRow.holds Try.pinned (OpenSpec.ofChange hallsBoundsWrong)

/-- 'newellaw06.HallsWitnesses': WHATEVER THE INPUT: true; the input reads as it did. -/
def hallsWitnessesSpec : ChangeSpec := { name := "hallsWitnesses", fn := fun _ => fun
  | [d1, d2, d3] => { results := [.lit (.bool true)], args := [d1, d2, d3] }
  | _ => none }
def hallsWitnessesRow : OpenClaim := { program := "yteoedeeljnboeaa", sum := "32c980700e6a27337a6c6a469ccf6fa419113cfc557ea0689b63f14fb96e7cc0", func := "newel/newellaw06.HallsWitnesses", spec := "hallsWitnesses", unfollowed := true, recurses := true, apart := false }
def HallsWitnessesSaid : Prop := hallsWitnessesRow.holds Try.pinned (OpenSpec.ofChange hallsWitnessesSpec)

/-- ITS FALSE NEIGHBOUR: 'it returns false'. Refute it at one input. -/
def hallsWitnessesWrong : ChangeSpec := { name := "hallsWitnesses", fn := fun _ => fun
  | [d1, d2, d3] => { results := [.lit (.bool false)], args := [d1, d2, d3] }
  | _ => none }
def HallsWitnessesWrongFalsely : Prop := hallsWitnessesRow.holds Try.pinned (OpenSpec.ofChange hallsWitnessesWrong)

/-- 'newellaw06.HallsPlays': WHATEVER THE INPUT: true; the input reads as it did. -/
def hallsPlaysSpec : ChangeSpec := { name := "hallsPlays", fn := fun _ => fun
  | [d1, d2, d3] => { results := [.lit (.bool true)], args := [d1, d2, d3] }
  | _ => none }
def hallsPlaysRow : OpenClaim := { program := "yteoedeeljnboeaa", sum := "32c980700e6a27337a6c6a469ccf6fa419113cfc557ea0689b63f14fb96e7cc0", func := "newel/newellaw06.HallsPlays", spec := "hallsPlays", unfollowed := true, recurses := true, apart := false }
def HallsPlaysSaid : Prop := hallsPlaysRow.holds Try.pinned (OpenSpec.ofChange hallsPlaysSpec)

/-- ITS FALSE NEIGHBOUR: 'it returns false'. Refute it at one input. -/
def hallsPlaysWrong : ChangeSpec := { name := "hallsPlays", fn := fun _ => fun
  | [d1, d2, d3] => { results := [.lit (.bool false)], args := [d1, d2, d3] }
  | _ => none }
def HallsPlaysWrongFalsely : Prop := hallsPlaysRow.holds Try.pinned (OpenSpec.ofChange hallsPlaysWrong)

/-- 'newellaw06.HallsKept': WHATEVER THE INPUT: true; the input reads as it did. -/
def hallsKeptSpec : ChangeSpec := { name := "hallsKept", fn := fun _ => fun
  | [d1, d2] => { results := [.lit (.bool true)], args := [d1, d2] }
  | _ => none }
def hallsKeptRow : OpenClaim := { program := "yteoedeeljnboeaa", sum := "32c980700e6a27337a6c6a469ccf6fa419113cfc557ea0689b63f14fb96e7cc0", func := "newel/newellaw06.HallsKept", spec := "hallsKept", unfollowed := true, recurses := true, apart := false }
def HallsKeptSaid : Prop := hallsKeptRow.holds Try.pinned (OpenSpec.ofChange hallsKeptSpec)

/-- ITS FALSE NEIGHBOUR: 'it returns false'. Refute it at one input. -/
def hallsKeptWrong : ChangeSpec := { name := "hallsKept", fn := fun _ => fun
  | [d1, d2] => { results := [.lit (.bool false)], args := [d1, d2] }
  | _ => none }
def HallsKeptWrongFalsely : Prop := hallsKeptRow.holds Try.pinned (OpenSpec.ofChange hallsKeptWrong)

/-- 'newellaw06.HallsWithin': WHATEVER THE INPUT: true; the input reads as it did. -/
def hallsWithinSpec : ChangeSpec := { name := "hallsWithin", fn := fun _ => fun
  | [d1, d2, d3] => { results := [.lit (.bool true)], args := [d1, d2, d3] }
  | _ => none }
def hallsWithinRow : OpenClaim := { program := "yteoedeeljnboeaa", sum := "32c980700e6a27337a6c6a469ccf6fa419113cfc557ea0689b63f14fb96e7cc0", func := "newel/newellaw06.HallsWithin", spec := "hallsWithin", unfollowed := true, recurses := true, apart := false }
def HallsWithinSaid : Prop := hallsWithinRow.holds Try.pinned (OpenSpec.ofChange hallsWithinSpec)

/-- ITS FALSE NEIGHBOUR: 'it returns false'. Refute it at one input. -/
def hallsWithinWrong : ChangeSpec := { name := "hallsWithin", fn := fun _ => fun
  | [d1, d2, d3] => { results := [.lit (.bool false)], args := [d1, d2, d3] }
  | _ => none }
def HallsWithinWrongFalsely : Prop := hallsWithinRow.holds Try.pinned (OpenSpec.ofChange hallsWithinWrong)

/-- 'newellaw06.HallsReached': WHATEVER THE INPUT: true; the input reads as it did. -/
def hallsReachedSpec : ChangeSpec := { name := "hallsReached", fn := fun _ => fun
  | [d1, d2, d3] => { results := [.lit (.bool true)], args := [d1, d2, d3] }
  | _ => none }
def hallsReachedRow : OpenClaim := { program := "yteoedeeljnboeaa", sum := "32c980700e6a27337a6c6a469ccf6fa419113cfc557ea0689b63f14fb96e7cc0", func := "newel/newellaw06.HallsReached", spec := "hallsReached", unfollowed := true, recurses := true, apart := false }
def HallsReachedSaid : Prop := hallsReachedRow.holds Try.pinned (OpenSpec.ofChange hallsReachedSpec)

/-- ITS FALSE NEIGHBOUR: 'it returns false'. Refute it at one input. -/
def hallsReachedWrong : ChangeSpec := { name := "hallsReached", fn := fun _ => fun
  | [d1, d2, d3] => { results := [.lit (.bool false)], args := [d1, d2, d3] }
  | _ => none }
def HallsReachedWrongFalsely : Prop := hallsReachedRow.holds Try.pinned (OpenSpec.ofChange hallsReachedWrong)

/- THE SECOND FORM. 'bulk': how many values and letters a reading holds, each counted each time it is reached (what is shared counts as often as it is met; a slice's spare places count too). A statement '..UptoSaid' is the law's where the arguments, and the package variables that the reading takes, are together of bulk at most 1048576: NARROWER than '..Said'. Prove '..Said' where nothing that the law and all that it calls make is longer than what came in: it says more and counts as full. Else prove '..UptoSaid'. A law counts once. -/
mutual
def uptoBulk {H : Type} : DataW H → Nat
  | .lit (.string bytes) => bytes.length + 1
  | .lit _ => 1
  | .nil => 1
  | .ptr d => uptoBulk d + 1
  | .slice elems spare => uptoBulkAll elems + uptoBulkAll spare + 1
  | .agg parts => uptoBulkAll parts + 1
  | .iface _ d => uptoBulk d + 1
  | .map entries => uptoBulkEntries entries + 1
  | .held _ => 1
def uptoBulkAll {H : Type} : List (DataW H) → Nat
  | [] => 0
  | d :: r => uptoBulk d + uptoBulkAll r
def uptoBulkEntries {H : Type} : List (Lit × DataW H) → Nat
  | [] => 0
  | x :: r => uptoBulkEntry x + uptoBulkEntries r
def uptoBulkEntry {H : Type} : Lit × DataW H → Nat
  | (.string bytes, d) => bytes.length + uptoBulk d + 1
  | (_, d) => uptoBulk d + 1
 end
def uptoSmall : (H : Type) → List (DataW H) → Bool := fun _ ds => decide (uptoBulkAll ds ≤ 1048576)
def OpenSpec.upto (s : _root_.Go.ChangeSpec) : _root_.Go.OpenSpec := { _root_.Go.OpenSpec.ofChange s with cond := some uptoSmall }

/-- 'newellaw06.HallsGuard', WHERE WHAT IT READS IS OF BULK AT MOST 1048576: true; the input reads as it did. -/
def hallsGuardUptoRow : OpenClaim := { program := "yteoedeeljnboeaa", sum := "32c980700e6a27337a6c6a469ccf6fa419113cfc557ea0689b63f14fb96e7cc0", func := "newel/newellaw06.HallsGuard", spec := "hallsGuard", unfollowed := true, recurses := true, apart := false, narrowed := true }
def HallsGuardUptoSaid : Prop := hallsGuardUptoRow.holds Try.pinned (OpenSpec.upto hallsGuardSpec)

/-- 'newellaw06.HallsLess', WHERE WHAT IT READS IS OF BULK AT MOST 1048576: true; the input reads as it did. -/
def hallsLessUptoRow : OpenClaim := { program := "yteoedeeljnboeaa", sum := "32c980700e6a27337a6c6a469ccf6fa419113cfc557ea0689b63f14fb96e7cc0", func := "newel/newellaw06.HallsLess", spec := "hallsLess", unfollowed := true, recurses := true, apart := false, narrowed := true }
def HallsLessUptoSaid : Prop := hallsLessUptoRow.holds Try.pinned (OpenSpec.upto hallsLessSpec)

/-- 'newellaw06.HallsNeeds', WHERE WHAT IT READS IS OF BULK AT MOST 1048576: true; the input reads as it did. -/
def hallsNeedsUptoRow : OpenClaim := { program := "yteoedeeljnboeaa", sum := "32c980700e6a27337a6c6a469ccf6fa419113cfc557ea0689b63f14fb96e7cc0", func := "newel/newellaw06.HallsNeeds", spec := "hallsNeeds", unfollowed := true, recurses := true, apart := false, narrowed := true }
def HallsNeedsUptoSaid : Prop := hallsNeedsUptoRow.holds Try.pinned (OpenSpec.upto hallsNeedsSpec)

/-- 'newellaw06.HallsNeed', WHERE WHAT IT READS IS OF BULK AT MOST 1048576: true; the input reads as it did. -/
def hallsNeedUptoRow : OpenClaim := { program := "yteoedeeljnboeaa", sum := "32c980700e6a27337a6c6a469ccf6fa419113cfc557ea0689b63f14fb96e7cc0", func := "newel/newellaw06.HallsNeed", spec := "hallsNeed", unfollowed := true, recurses := true, apart := false, narrowed := true }
def HallsNeedUptoSaid : Prop := hallsNeedUptoRow.holds Try.pinned (OpenSpec.upto hallsNeedSpec)

/-- 'newellaw06.HallsBounds', WHERE WHAT IT READS IS OF BULK AT MOST 1048576: true; the input reads as it did. -/
def hallsBoundsUptoRow : OpenClaim := { program := "yteoedeeljnboeaa", sum := "32c980700e6a27337a6c6a469ccf6fa419113cfc557ea0689b63f14fb96e7cc0", func := "newel/newellaw06.HallsBounds", spec := "hallsBounds", unfollowed := true, recurses := true, apart := false, narrowed := true }
def HallsBoundsUptoSaid : Prop := hallsBoundsUptoRow.holds Try.pinned (OpenSpec.upto hallsBoundsSpec)

/-- 'newellaw06.HallsWitnesses', WHERE WHAT IT READS IS OF BULK AT MOST 1048576: true; the input reads as it did. -/
def hallsWitnessesUptoRow : OpenClaim := { program := "yteoedeeljnboeaa", sum := "32c980700e6a27337a6c6a469ccf6fa419113cfc557ea0689b63f14fb96e7cc0", func := "newel/newellaw06.HallsWitnesses", spec := "hallsWitnesses", unfollowed := true, recurses := true, apart := false, narrowed := true }
def HallsWitnessesUptoSaid : Prop := hallsWitnessesUptoRow.holds Try.pinned (OpenSpec.upto hallsWitnessesSpec)

/-- 'newellaw06.HallsPlays', WHERE WHAT IT READS IS OF BULK AT MOST 1048576: true; the input reads as it did. -/
def hallsPlaysUptoRow : OpenClaim := { program := "yteoedeeljnboeaa", sum := "32c980700e6a27337a6c6a469ccf6fa419113cfc557ea0689b63f14fb96e7cc0", func := "newel/newellaw06.HallsPlays", spec := "hallsPlays", unfollowed := true, recurses := true, apart := false, narrowed := true }
def HallsPlaysUptoSaid : Prop := hallsPlaysUptoRow.holds Try.pinned (OpenSpec.upto hallsPlaysSpec)

/-- 'newellaw06.HallsKept', WHERE WHAT IT READS IS OF BULK AT MOST 1048576: true; the input reads as it did. -/
def hallsKeptUptoRow : OpenClaim := { program := "yteoedeeljnboeaa", sum := "32c980700e6a27337a6c6a469ccf6fa419113cfc557ea0689b63f14fb96e7cc0", func := "newel/newellaw06.HallsKept", spec := "hallsKept", unfollowed := true, recurses := true, apart := false, narrowed := true }
def HallsKeptUptoSaid : Prop := hallsKeptUptoRow.holds Try.pinned (OpenSpec.upto hallsKeptSpec)

/-- 'newellaw06.HallsWithin', WHERE WHAT IT READS IS OF BULK AT MOST 1048576: true; the input reads as it did. -/
def hallsWithinUptoRow : OpenClaim := { program := "yteoedeeljnboeaa", sum := "32c980700e6a27337a6c6a469ccf6fa419113cfc557ea0689b63f14fb96e7cc0", func := "newel/newellaw06.HallsWithin", spec := "hallsWithin", unfollowed := true, recurses := true, apart := false, narrowed := true }
def HallsWithinUptoSaid : Prop := hallsWithinUptoRow.holds Try.pinned (OpenSpec.upto hallsWithinSpec)

/-- 'newellaw06.HallsReached', WHERE WHAT IT READS IS OF BULK AT MOST 1048576: true; the input reads as it did. -/
def hallsReachedUptoRow : OpenClaim := { program := "yteoedeeljnboeaa", sum := "32c980700e6a27337a6c6a469ccf6fa419113cfc557ea0689b63f14fb96e7cc0", func := "newel/newellaw06.HallsReached", spec := "hallsReached", unfollowed := true, recurses := true, apart := false, narrowed := true }
def HallsReachedUptoSaid : Prop := hallsReachedUptoRow.holds Try.pinned (OpenSpec.upto hallsReachedSpec)

end Rows
end Go.Proofs.Yteoedeeljnboeaa
