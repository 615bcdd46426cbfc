/- The law HallsWithin, closed over its plain law. -/
import Derived.Test.YteoedeeljnboeaaHMHasWithin
import Derived.Test.YteoedeeljnboeaaP1
import Derived.Test.YteoedeeljnboeaaNwLast
import Derived.Test.YteoedeeljnboeaaRows
import Derived.WalkKit
import Derived.ProofKit
set_option linter.all false
set_option linter.unusedVariables false
set_option linter.unusedSimpArgs false
set_option linter.unusedSectionVars false
namespace Go.Proofs.Yteoedeeljnboeaa.HallsWithin
open Go.Nw Go.Nw.HM Go.ChangeShapes Go.WideShapes Go.ChangeAt Go.RowKit
set_option linter.unusedVariables false

theorem own : ownKnob Try.prog.godebug = none := by kernel_rfl
theorem laidOut : laidOutB Try.prog = true := by kernel_rfl
def Plain : Prop := ∀ (h : Hall) (d : Day) (w : l06_Window), OkHall h → OkDay d → Okl06_Window w → l06_HallsWithin h d w = some true
theorem model (hp : Plain) (xs : List AV) (hZ : MtAs [.agg shHall, .agg shDay, .agg shl06_Window] xs) : orac Try.prog "newel/newellaw06.HallsWithin" xs (B true) [] := by
  obtain ⟨a0, xs, rfl, h0, g0⟩ := mtas_cons hZ
  obtain ⟨a1, xs, rfl, h1, g1⟩ := mtas_cons g0
  obtain ⟨a2, xs, rfl, h2, g2⟩ := mtas_cons g1
  obtain ⟨h, rfl, hk0⟩ := typ_Hall h0
  obtain ⟨d, rfl, hk1⟩ := typ_Day h1
  obtain ⟨w, rfl, hk2⟩ := typ_l06_Window h2
  rw [mtas_nil g2]
  exact (c_l06_HallsWithin h d w true (hp h d w hk0 hk1 hk2)).o

set_option maxRecDepth 100000 in
theorem lifted (hp : Plain) (os : Os) (started : os.Started) (H : Type) (enc : TypeId × Value → H) :
    ReturnsInHanded {} Try.checked os 11 .any (Rows.hallsWithinSpec.pre6 enc Try.prog Try.f11 Rows.hallsWithinRow.domain false) (Rows.hallsWithinSpec.post enc Try.prog Try.f11 false true false false) := by
  refine returnsInHanded_of_change (C := Try.checked) own started (by kernel_rfl) Try.func11
    (ChangeSpec.witness6 (enc := enc) (C := Try.checked) false ⟨#[], #[.agg #[.slice none 0 0, .slice none 0 0, .slice none 0 0, .int .i64 0], .agg #[.slice none 0 0, .slice none 0 0, .slice none 0 0], .agg #[.int .i64 0, .int .i64 0, .int .i64 0]], []⟩ 8 (by kernel_rfl) (by kernel_rfl) (by kernel_rfl) (by kernel_rfl)) ?_
  intro W base args ds gs before hval hW _ _
  exact law_contract (P := Try.prog) (fn := Try.f11) (s := Rows.hallsWithinSpec) (tb := 4) (n := 8) (ss := [.agg shHall, .agg shDay, .agg shl06_Window]) Try.func11 laidOut (by kernel_rfl) (by kernel_rfl) (by kernel_rfl) rfl
    (fun ds hd => by
      have hd2 : ds.length = 3 := hd
      match ds, hd2 with
      | [d0, d1, d2], _ => rfl) (by kernel_rfl) (fun xs h => model hp xs h) W (fun g cs hg => by cases hg) base args ds gs before hval hW

theorem over (hp : Plain) : Rows.HallsWithinSaid :=
  OpenClaim.holds_of_wide 11 Try.f11 rfl rfl rfl rfl rfl rfl rfl ⟨rfl, rfl, rfl, rfl, rfl⟩ rfl rfl rfl rfl rfl (by kernel_rfl) Try.func11 (by kernel_rfl)
    (of_decide_eq_true (by kernel_rfl)) (by unfold Func.isWrapper; first | (rw [if_pos (by decide +kernel)]; kernel_rfl) | (rw [if_neg (by decide +kernel)]; exact ⟨rfl, rfl⟩))
    (fun os started H enc _ => lifted hp os started H enc)
end Go.Proofs.Yteoedeeljnboeaa.HallsWithin
