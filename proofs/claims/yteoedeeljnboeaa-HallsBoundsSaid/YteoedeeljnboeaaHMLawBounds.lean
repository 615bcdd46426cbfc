/- The law HallsBounds, closed over its plain law. -/
import Derived.Test.YteoedeeljnboeaaHMHasBounds
import Derived.Test.YteoedeeljnboeaaP1
import Derived.Test.YteoedeeljnboeaaNwLast
import Derived.Test.YteoedeeljnboeaaRows
import Derived.WalkKit
import Derived.ProofKit
set_option linter.all false
set_option linter.unusedVariables false
set_option linter.unusedSimpArgs false
set_option linter.unusedSectionVars false
namespace Go.Proofs.Yteoedeeljnboeaa.HallsBounds
open Go.Nw Go.Nw.HM Go.ChangeShapes Go.WideShapes Go.ChangeAt Go.RowKit
set_option linter.unusedVariables false
theorem own : ownKnob Try.prog.godebug = none := by kernel_rfl
theorem j0v : laidOutB Try.prog = true := by kernel_rfl
def b6h : Prop := ∀ (h : Hall) (w : l06_Window), b5u h → c4r w → b9a h w = some true
theorem d79 (hp : b6h) (xs : List AV) (hZ : b8d [.agg d17, .agg d18] xs) : b1c Try.prog "newel/newellaw06.HallsBounds" xs (B true) [] := by
  obtain ⟨a0, xs, rfl, h0, g0⟩ := d8b hZ
  obtain ⟨a1, xs, rfl, h1, g1⟩ := d8b g0
  obtain ⟨h, rfl, hk0⟩ := j8f h0
  obtain ⟨w, rfl, hk1⟩ := j8g h1
  rw [j1h g1]
  exact (g3p h w true (hp h w hk0 hk1)).o
set_option maxRecDepth 100000 in
theorem j02 (hp : b6h) (os : Os) (started : os.Started) (H : Type) (enc : TypeId × Value → H) :
    ReturnsInHanded {} Try.checked os 7 .any (Rows.hallsBoundsSpec.pre6 enc Try.prog Try.f7 Rows.hallsBoundsRow.domain false) (Rows.hallsBoundsSpec.post enc Try.prog Try.f7 false true false false) := by
  refine returnsInHanded_of_change (C := Try.checked) own started (by kernel_rfl) Try.func7
    (ChangeSpec.witness6 (enc := enc) (C := Try.checked) false ⟨#[], #[.agg #[.slice none 0 0, .slice none 0 0, .slice none 0 0, .int .i64 0], .agg #[.int .i64 0, .int .i64 0, .int .i64 0]], []⟩ 8 (by kernel_rfl) (by kernel_rfl) (by kernel_rfl) (by kernel_rfl)) ?_
  intro W base args ds gs before hval hW _ _
  exact j0x (P := Try.prog) (fn := Try.f7) (s := Rows.hallsBoundsSpec) (tb := 4) (n := 8) (ss := [.agg d17, .agg d18]) Try.func7 j0v (by kernel_rfl) (by kernel_rfl) (by kernel_rfl) rfl
    (fun ds hd => by
      have hd2 : ds.length = 2 := hd
      match ds, hd2 with
      | [d0, d1], _ => rfl) (by kernel_rfl) (fun xs h => d79 hp xs h) W (fun g cs hg => by cases hg) base args ds gs before hval hW
theorem over (hp : b6h) : Rows.HallsBoundsSaid :=
  OpenClaim.holds_of_wide 7 Try.f7 rfl rfl rfl rfl rfl rfl rfl ⟨rfl, rfl, rfl, rfl, rfl⟩ rfl rfl rfl rfl rfl (by kernel_rfl) Try.func7 (by kernel_rfl)
    (of_decide_eq_true (by kernel_rfl)) (by unfold Func.isWrapper; first | (rw [if_pos (by decide +kernel)]; kernel_rfl) | (rw [if_neg (by decide +kernel)]; exact ⟨rfl, rfl⟩))
    (fun os started H enc _ => j02 hp os started H enc)
end Go.Proofs.Yteoedeeljnboeaa.HallsBounds
