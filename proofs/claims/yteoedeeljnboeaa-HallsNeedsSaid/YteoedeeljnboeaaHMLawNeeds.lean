/- The law HallsNeeds, closed over its plain law. -/
import Derived.Test.YteoedeeljnboeaaHMHasNeeds
import Derived.Test.YteoedeeljnboeaaP1
import Derived.Test.YteoedeeljnboeaaNwLast
import Derived.Test.YteoedeeljnboeaaRows
import Derived.WalkKit
import Derived.ProofKit
set_option linter.all false
set_option linter.unusedVariables false
set_option linter.unusedSimpArgs false
set_option linter.unusedSectionVars false
namespace Go.Proofs.Yteoedeeljnboeaa.HallsNeeds
open Go.Nw Go.Nw.HM Go.ChangeShapes Go.WideShapes Go.ChangeAt Go.RowKit
set_option linter.unusedVariables false
theorem own : ownKnob Try.prog.godebug = none := by kernel_rfl
theorem j1z : laidOutB Try.prog = true := by kernel_rfl
def b6n : Prop := ∀ (h : Hall) (comb : Int) (from_ : Int), b55 h → b3d comb → b3d from_ → c3w h comb from_ = some true
theorem d80 (hp : b6n) (xs : List AV) (hZ : b8l [.agg d2n, .c (.i .i64), .c (.i .i64)] xs) : b1h Try.prog "newel/newellaw06.HallsNeeds" xs (B true) [] := by
  obtain ⟨a0, xs, rfl, h0, g0⟩ := d1x hZ
  obtain ⟨a1, xs, rfl, h1, g1⟩ := d1x g0
  obtain ⟨a2, xs, rfl, h2, g2⟩ := d1x g1
  obtain ⟨h, rfl, hk0⟩ := j9m h0
  obtain ⟨comb, rfl, hk1⟩ := g00 h1
  obtain ⟨from_, rfl, hk2⟩ := g00 h2
  rw [j2m g2]
  exact (g4v h comb from_ true (hp h comb from_ hk0 hk1 hk2)).o
set_option maxRecDepth 100000 in
theorem j16 (hp : b6n) (os : Os) (started : os.Started) (H : Type) (enc : TypeId × Value → H) :
    ReturnsInHanded {} Try.checked os 5 .any (Rows.hallsNeedsSpec.pre6 enc Try.prog Try.f5 Rows.hallsNeedsRow.domain false) (Rows.hallsNeedsSpec.post enc Try.prog Try.f5 false true false false) := by
  refine returnsInHanded_of_change (C := Try.checked) own started (by kernel_rfl) Try.func5
    (ChangeSpec.witness6 (enc := enc) (C := Try.checked) false ⟨#[], #[.agg #[.slice none 0 0, .slice none 0 0, .slice none 0 0, .int .i64 0], .int .i64 0, .int .i64 0], []⟩ 8 (by kernel_rfl) (by kernel_rfl) (by kernel_rfl) (by kernel_rfl)) ?_
  intro W base args ds gs before hval hW _ _
  exact j11 (P := Try.prog) (fn := Try.f5) (s := Rows.hallsNeedsSpec) (tb := 4) (n := 8) (ss := [.agg d2n, .c (.i .i64), .c (.i .i64)]) Try.func5 j1z (by kernel_rfl) (by kernel_rfl) (by kernel_rfl) rfl
    (fun ds hd => by
      have hd2 : ds.length = 3 := hd
      match ds, hd2 with
      | [d0, d1, d2], _ => rfl) (by kernel_rfl) (fun xs h => d80 hp xs h) W (fun g cs hg => by cases hg) base args ds gs before hval hW
theorem over (hp : b6n) : Rows.HallsNeedsSaid :=
  OpenClaim.holds_of_wide 5 Try.f5 rfl rfl rfl rfl rfl rfl rfl ⟨rfl, rfl, rfl, rfl, rfl⟩ rfl rfl rfl rfl rfl (by kernel_rfl) Try.func5 (by kernel_rfl)
    (of_decide_eq_true (by kernel_rfl)) (by unfold Func.isWrapper; first | (rw [if_pos (by decide +kernel)]; kernel_rfl) | (rw [if_neg (by decide +kernel)]; exact ⟨rfl, rfl⟩))
    (fun os started H enc _ => j16 hp os started H enc)
end Go.Proofs.Yteoedeeljnboeaa.HallsNeeds
