/- The law HallsGuard, closed over its plain law. -/
import Derived.Test.YteoedeeljnboeaaHMHasGuard
import Derived.Test.YteoedeeljnboeaaP1
import Derived.Test.YteoedeeljnboeaaNwLast
import Derived.Test.YteoedeeljnboeaaRows
import Derived.WalkKit
import Derived.ProofKit
set_option linter.all false
set_option linter.unusedVariables false
set_option linter.unusedSimpArgs false
set_option linter.unusedSectionVars false
namespace Go.Proofs.Yteoedeeljnboeaa.HallsGuard
open Go.Nw Go.Nw.HM Go.ChangeShapes Go.WideShapes Go.ChangeAt Go.RowKit
set_option linter.unusedVariables false

theorem own : ownKnob Try.prog.godebug = none := by kernel_rfl
theorem laidOut : laidOutB Try.prog = true := by kernel_rfl
def Plain : Prop := ∀ (h : Hall) (w : l06_Window), OkHall h → Okl06_Window w → l06_HallsGuard h w = some true
theorem model (hp : Plain) (xs : List AV) (hZ : MtAs [.agg shHall, .agg shl06_Window] xs) : orac Try.prog "newel/newellaw06.HallsGuard" xs (B true) [] := by
  obtain ⟨a0, xs, rfl, h0, g0⟩ := mtas_cons hZ
  obtain ⟨a1, xs, rfl, h1, g1⟩ := mtas_cons g0
  obtain ⟨h, rfl, hk0⟩ := typ_Hall h0
  obtain ⟨w, rfl, hk1⟩ := typ_l06_Window h1
  rw [mtas_nil g1]
  exact (c_l06_HallsGuard h w true (hp h w hk0 hk1)).o

set_option maxRecDepth 100000 in
theorem lifted (hp : Plain) (os : Os) (started : os.Started) (H : Type) (enc : TypeId × Value → H) :
    ReturnsInHanded {} Try.checked os 3 .any (Rows.hallsGuardSpec.pre6 enc Try.prog Try.f3 Rows.hallsGuardRow.domain false) (Rows.hallsGuardSpec.post enc Try.prog Try.f3 false true false false) := by
  refine returnsInHanded_of_change (C := Try.checked) own started (by kernel_rfl) Try.func3
    (ChangeSpec.witness6 (enc := enc) (C := Try.checked) false ⟨#[], #[.agg #[.slice none 0 0, .slice none 0 0, .slice none 0 0, .int .i64 0], .agg #[.int .i64 0, .int .i64 0, .int .i64 0]], []⟩ 8 (by kernel_rfl) (by kernel_rfl) (by kernel_rfl) (by kernel_rfl)) ?_
  intro W base args ds gs before hval hW _ _
  exact law_contract (P := Try.prog) (fn := Try.f3) (s := Rows.hallsGuardSpec) (tb := 4) (n := 8) (ss := [.agg shHall, .agg shl06_Window]) Try.func3 laidOut (by kernel_rfl) (by kernel_rfl) (by kernel_rfl) rfl
    (fun ds hd => by
      have hd2 : ds.length = 2 := hd
      match ds, hd2 with
      | [d0, d1], _ => rfl) (by kernel_rfl) (fun xs h => model hp xs h) W (fun g cs hg => by cases hg) base args ds gs before hval hW

theorem over (hp : Plain) : Rows.HallsGuardSaid :=
  OpenClaim.holds_of_wide 3 Try.f3 rfl rfl rfl rfl rfl rfl rfl ⟨rfl, rfl, rfl, rfl, rfl⟩ rfl rfl rfl rfl rfl (by kernel_rfl) Try.func3 (by kernel_rfl)
    (of_decide_eq_true (by kernel_rfl)) (by unfold Func.isWrapper; first | (rw [if_pos (by decide +kernel)]; kernel_rfl) | (rw [if_neg (by decide +kernel)]; exact ⟨rfl, rfl⟩))
    (fun os started H enc _ => lifted hp os started H enc)
end Go.Proofs.Yteoedeeljnboeaa.HallsGuard
