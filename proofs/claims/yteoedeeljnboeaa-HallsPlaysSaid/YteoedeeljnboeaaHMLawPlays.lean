/- The law HallsPlays, closed over its plain law. -/
import Derived.Test.YteoedeeljnboeaaHMHasPlays
import Derived.Test.YteoedeeljnboeaaP1
import Derived.Test.YteoedeeljnboeaaNwLast
import Derived.Test.YteoedeeljnboeaaRows
import Derived.WalkKit
import Derived.ProofKit
set_option linter.all false
set_option linter.unusedVariables false
set_option linter.unusedSimpArgs false
set_option linter.unusedSectionVars false
namespace Go.Proofs.Yteoedeeljnboeaa.HallsPlays
open Go.Nw Go.Nw.HM Go.ChangeShapes Go.WideShapes Go.ChangeAt Go.RowKit
set_option linter.unusedVariables false
theorem own : ownKnob Try.prog.godebug = none := by kernel_rfl
theorem g90 : laidOutB Try.prog = true := by kernel_rfl
def b5q : Prop := ∀ (h : Hall) (d : Day) (comb : Int), b5c h → b7i d → b2x comb → b9y h d comb = some true
theorem d74 (hp : b5q) (xs : List AV) (hZ : b7h [.agg d1o, .agg d1n, .c (.i .i64)] xs) : b06 Try.prog "newel/newellaw06.HallsPlays" xs (B true) [] := by
  obtain ⟨a0, xs, rfl, h0, g0⟩ := d02 hZ
  obtain ⟨a1, xs, rfl, h1, g1⟩ := d02 g0
  obtain ⟨a2, xs, rfl, h2, g2⟩ := d02 g1
  obtain ⟨h, rfl, hk0⟩ := j66 h0
  obtain ⟨d, rfl, hk1⟩ := j65 h1
  obtain ⟨comb, rfl, hk2⟩ := j67 h2
  rw [j0k g2]
  exact (g21 h d comb true (hp h d comb hk0 hk1 hk2)).o
set_option maxRecDepth 100000 in
theorem g97 (hp : b5q) (os : Os) (started : os.Started) (H : Type) (enc : TypeId × Value → H) :
    ReturnsInHanded {} Try.checked os 9 .any (Rows.hallsPlaysSpec.pre6 enc Try.prog Try.f9 Rows.hallsPlaysRow.domain false) (Rows.hallsPlaysSpec.post enc Try.prog Try.f9 false true false false) := by
  refine returnsInHanded_of_change (C := Try.checked) own started (by kernel_rfl) Try.func9
    (ChangeSpec.witness6 (enc := enc) (C := Try.checked) false ⟨#[], #[.agg #[.slice none 0 0, .slice none 0 0, .slice none 0 0, .int .i64 0], .agg #[.slice none 0 0, .slice none 0 0, .slice none 0 0], .int .i64 0], []⟩ 8 (by kernel_rfl) (by kernel_rfl) (by kernel_rfl) (by kernel_rfl)) ?_
  intro W base args ds gs before hval hW _ _
  exact g92 (P := Try.prog) (fn := Try.f9) (s := Rows.hallsPlaysSpec) (tb := 4) (n := 8) (ss := [.agg d1o, .agg d1n, .c (.i .i64)]) Try.func9 g90 (by kernel_rfl) (by kernel_rfl) (by kernel_rfl) rfl
    (fun ds hd => by
      have hd2 : ds.length = 3 := hd
      match ds, hd2 with
      | [d0, d1, d2], _ => rfl) (by kernel_rfl) (fun xs h => d74 hp xs h) W (fun g cs hg => by cases hg) base args ds gs before hval hW
theorem over (hp : b5q) : Rows.HallsPlaysSaid :=
  OpenClaim.holds_of_wide 9 Try.f9 rfl rfl rfl rfl rfl rfl rfl ⟨rfl, rfl, rfl, rfl, rfl⟩ rfl rfl rfl rfl rfl (by kernel_rfl) Try.func9 (by kernel_rfl)
    (of_decide_eq_true (by kernel_rfl)) (by unfold Func.isWrapper; first | (rw [if_pos (by decide +kernel)]; kernel_rfl) | (rw [if_neg (by decide +kernel)]; exact ⟨rfl, rfl⟩))
    (fun os started H enc _ => g97 hp os started H enc)
end Go.Proofs.Yteoedeeljnboeaa.HallsPlays
