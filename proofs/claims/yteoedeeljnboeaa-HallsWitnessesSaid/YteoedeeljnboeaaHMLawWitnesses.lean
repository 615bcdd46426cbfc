/- The law HallsWitnesses, closed over its plain law. -/
import Derived.Test.YteoedeeljnboeaaHMHasWitnesses
import Derived.Test.YteoedeeljnboeaaP1
import Derived.Test.YteoedeeljnboeaaNwLast
import Derived.Test.YteoedeeljnboeaaRows
import Derived.WalkKit
import Derived.ProofKit
set_option linter.all false
set_option linter.unusedVariables false
set_option linter.unusedSimpArgs false
set_option linter.unusedSectionVars false
namespace Go.Proofs.Yteoedeeljnboeaa.HallsWitnesses
open Go.Nw Go.Nw.HM Go.ChangeShapes Go.WideShapes Go.ChangeAt Go.RowKit
set_option linter.unusedVariables false
theorem own : ownKnob Try.prog.godebug = none := by kernel_rfl
theorem j09 : laidOutB Try.prog = true := by kernel_rfl
def b6g : Prop := ∀ (h : Hall) (comb : Int) (tick : Int), b5v h → b3a comb → b3a tick → c3o h comb tick = some true
theorem d8j (hp : b6g) (xs : List AV) (hZ : b8a [.agg d2f, .c (.i .i64), .c (.i .i64)] xs) : b1h Try.prog "newel/newellaw06.HallsWitnesses" xs (B true) [] := by
  obtain ⟨a0, xs, rfl, h0, g0⟩ := d1s hZ
  obtain ⟨a1, xs, rfl, h1, g1⟩ := d1s g0
  obtain ⟨a2, xs, rfl, h2, g2⟩ := d1s g1
  obtain ⟨h, rfl, hk0⟩ := j8w h0
  obtain ⟨comb, rfl, hk1⟩ := g0b h1
  obtain ⟨tick, rfl, hk2⟩ := g0b h2
  rw [j1y g2]
  exact (g3z h comb tick true (hp h comb tick hk0 hk1 hk2)).o
set_option maxRecDepth 100000 in
theorem j1h (hp : b6g) (os : Os) (started : os.Started) (H : Type) (enc : TypeId × Value → H) :
    ReturnsInHanded {} Try.checked os 8 .any (Rows.hallsWitnessesSpec.pre6 enc Try.prog Try.f8 Rows.hallsWitnessesRow.domain false) (Rows.hallsWitnessesSpec.post enc Try.prog Try.f8 false true false false) := by
  refine returnsInHanded_of_change (C := Try.checked) own started (by kernel_rfl) Try.func8
    (ChangeSpec.witness6 (enc := enc) (C := Try.checked) false ⟨#[], #[.agg #[.slice none 0 0, .slice none 0 0, .slice none 0 0, .int .i64 0], .int .i64 0, .int .i64 0], []⟩ 8 (by kernel_rfl) (by kernel_rfl) (by kernel_rfl) (by kernel_rfl)) ?_
  intro W base args ds gs before hval hW _ _
  exact j1b (P := Try.prog) (fn := Try.f8) (s := Rows.hallsWitnessesSpec) (tb := 4) (n := 8) (ss := [.agg d2f, .c (.i .i64), .c (.i .i64)]) Try.func8 j09 (by kernel_rfl) (by kernel_rfl) (by kernel_rfl) rfl
    (fun ds hd => by
      have hd2 : ds.length = 3 := hd
      match ds, hd2 with
      | [d0, d1, d2], _ => rfl) (by kernel_rfl) (fun xs h => d8j hp xs h) W (fun g cs hg => by cases hg) base args ds gs before hval hW
theorem over (hp : b6g) : Rows.HallsWitnessesSaid :=
  OpenClaim.holds_of_wide 8 Try.f8 rfl rfl rfl rfl rfl rfl rfl ⟨rfl, rfl, rfl, rfl, rfl⟩ rfl rfl rfl rfl rfl (by kernel_rfl) Try.func8 (by kernel_rfl)
    (of_decide_eq_true (by kernel_rfl)) (by unfold Func.isWrapper; first | (rw [if_pos (by decide +kernel)]; kernel_rfl) | (rw [if_neg (by decide +kernel)]; exact ⟨rfl, rfl⟩))
    (fun os started H enc _ => j1h hp os started H enc)
end Go.Proofs.Yteoedeeljnboeaa.HallsWitnesses
