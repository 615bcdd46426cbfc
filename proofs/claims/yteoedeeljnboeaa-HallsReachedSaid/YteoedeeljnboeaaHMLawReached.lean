/- The law HallsReached, closed over its plain law. -/
import Derived.Test.YteoedeeljnboeaaHMHasReached
import Derived.Test.YteoedeeljnboeaaP1
import Derived.Test.YteoedeeljnboeaaNwLast
import Derived.Test.YteoedeeljnboeaaRows
import Derived.WalkKit
import Derived.ProofKit
set_option linter.all false
set_option linter.unusedVariables false
set_option linter.unusedSimpArgs false
set_option linter.unusedSectionVars false
namespace Go.Proofs.Yteoedeeljnboeaa.HallsReached
open Go.Nw Go.Nw.HM Go.ChangeShapes Go.WideShapes Go.ChangeAt Go.RowKit
set_option linter.unusedVariables false
theorem own : ownKnob Try.prog.godebug = none := by kernel_rfl
theorem j0z : laidOutB Try.prog = true := by kernel_rfl
def b56 : Prop := ∀ (h : Hall) (comb : Int) (tick : Int), b5i h → b22 comb → b22 tick → c3f h comb tick = some true
theorem d8y (hp : b56) (xs : List AV) (hZ : b8h [.agg d2c, .c (.i .i64), .c (.i .i64)] xs) : b08 Try.prog "newel/newellaw06.HallsReached" xs (B true) [] := by
  obtain ⟨a0, xs, rfl, h0, g0⟩ := d1p hZ
  obtain ⟨a1, xs, rfl, h1, g1⟩ := d1p g0
  obtain ⟨a2, xs, rfl, h2, g2⟩ := d1p g1
  obtain ⟨h, rfl, hk0⟩ := j8d h0
  obtain ⟨comb, rfl, hk1⟩ := g0n h1
  obtain ⟨tick, rfl, hk2⟩ := g0n h2
  rw [j1n g2]
  exact (g30 h comb tick true (hp h comb tick hk0 hk1 hk2)).o
set_option maxRecDepth 100000 in
theorem j06 (hp : b56) (os : Os) (started : os.Started) (H : Type) (enc : TypeId × Value → H) :
    ReturnsInHanded {} Try.checked os 12 .any (Rows.hallsReachedSpec.pre6 enc Try.prog Try.f12 Rows.hallsReachedRow.domain false) (Rows.hallsReachedSpec.post enc Try.prog Try.f12 false true false false) := by
  refine returnsInHanded_of_change (C := Try.checked) own started (by kernel_rfl) Try.func12
    (ChangeSpec.witness6 (enc := enc) (C := Try.checked) false ⟨#[], #[.agg #[.slice none 0 0, .slice none 0 0, .slice none 0 0, .int .i64 0], .int .i64 0, .int .i64 0], []⟩ 8 (by kernel_rfl) (by kernel_rfl) (by kernel_rfl) (by kernel_rfl)) ?_
  intro W base args ds gs before hval hW _ _
  exact j01 (P := Try.prog) (fn := Try.f12) (s := Rows.hallsReachedSpec) (tb := 4) (n := 8) (ss := [.agg d2c, .c (.i .i64), .c (.i .i64)]) Try.func12 j0z (by kernel_rfl) (by kernel_rfl) (by kernel_rfl) rfl
    (fun ds hd => by
      have hd2 : ds.length = 3 := hd
      match ds, hd2 with
      | [d0, d1, d2], _ => rfl) (by kernel_rfl) (fun xs h => d8y hp xs h) W (fun g cs hg => by cases hg) base args ds gs before hval hW
theorem over (hp : b56) : Rows.HallsReachedSaid :=
  OpenClaim.holds_of_wide 12 Try.f12 rfl rfl rfl rfl rfl rfl rfl ⟨rfl, rfl, rfl, rfl, rfl⟩ rfl rfl rfl rfl rfl (by kernel_rfl) Try.func12 (by kernel_rfl)
    (of_decide_eq_true (by kernel_rfl)) (by unfold Func.isWrapper; first | (rw [if_pos (by decide +kernel)]; kernel_rfl) | (rw [if_neg (by decide +kernel)]; exact ⟨rfl, rfl⟩))
    (fun os started H enc _ => j06 hp os started H enc)
end Go.Proofs.Yteoedeeljnboeaa.HallsReached
