/- The law CircuitPlans, closed over its plain law. -/
import Derived.Test.YtmlhjobmpjpmnaaCMHasPlans
import Derived.Test.YtmlhjobmpjpmnaaP1
import Derived.Test.YtmlhjobmpjpmnaaNwLast
import Derived.Test.YtmlhjobmpjpmnaaRows
import Derived.WalkKit
import Derived.ProofKit
set_option linter.all false
set_option linter.unusedVariables false
set_option linter.unusedSimpArgs false
set_option linter.unusedSectionVars false
namespace Go.Proofs.Ytmlhjobmpjpmnaa.CircuitPlans
open Go.Nw Go.Nw.CM Go.ChangeShapes Go.WideShapes Go.ChangeAt Go.RowKit
set_option linter.unusedVariables false

theorem own : ownKnob Try.prog.godebug = none := by kernel_rfl
theorem laidOut : laidOutB Try.prog = true := by kernel_rfl
def Plain : Prop := ∀ (c : Circuit) (l : List Trial) (w : l03_Wish), OkC c → OkTrials l → OkWish w → l03_CircuitPlans c l w = some true
theorem model (hp : Plain) (xs : List AV) (h : MtAs [.agg shC, .c shTrials, .agg shWish] xs) : orac Try.prog "newel/newellaw03.CircuitPlans" xs (B true) [] := by
  obtain ⟨a0, xs, rfl, h0, g0⟩ := mtas_cons h
  obtain ⟨a1, xs, rfl, h1, g1⟩ := mtas_cons g0
  obtain ⟨a2, xs, rfl, h2, g2⟩ := mtas_cons g1
  obtain ⟨c, rfl, hk0⟩ := typ_C h0
  obtain ⟨l, rfl, hk1⟩ := typ_Trials h1
  obtain ⟨w, rfl, hk2⟩ := typ_Wish h2
  rw [mtas_nil g2]
  exact (c_l03_CircuitPlans c l w true (hp c l w hk0 hk1 hk2)).o

set_option maxRecDepth 100000 in
theorem lifted (hp : Plain) (os : Os) (started : os.Started) (H : Type) (enc : TypeId × Value → H) :
    ReturnsInHanded {} Try.checked os 8 .any (Rows.circuitPlansSpec.pre6 enc Try.prog Try.f8 Rows.circuitPlansRow.domain false) (Rows.circuitPlansSpec.post enc Try.prog Try.f8 false true false false) := by
  refine returnsInHanded_of_change (C := Try.checked) own started (by kernel_rfl) Try.func8
    (ChangeSpec.witness6 (enc := enc) (C := Try.checked) false ⟨#[], #[.agg #[.int .i64 0, .slice none 0 0, .slice none 0 0], .slice none 0 0, .agg #[.int .i64 0, .int .i64 0]], []⟩ 8 (by kernel_rfl) (by kernel_rfl) (by kernel_rfl) (by kernel_rfl)) ?_
  intro W base args ds gs before hval hW _ _
  exact law_contract (P := Try.prog) (fn := Try.f8) (s := Rows.circuitPlansSpec) (tb := 4) (n := 8) (ss := [.agg shC, .c shTrials, .agg shWish]) Try.func8 laidOut (by kernel_rfl) (by kernel_rfl) (by kernel_rfl) rfl
    (fun ds hd => by
      have hd2 : ds.length = 3 := hd
      match ds, hd2 with
      | [d0, d1, d2], _ => rfl) (by kernel_rfl) (fun xs h => model hp xs h) W base args ds gs before hval hW

theorem over (hp : Plain) : Rows.CircuitPlansSaid :=
  OpenClaim.holds_of_wide 8 Try.f8 rfl rfl rfl rfl rfl rfl rfl ⟨rfl, rfl, rfl, rfl, rfl⟩ rfl rfl rfl rfl rfl (by kernel_rfl) Try.func8 (by kernel_rfl)
    (of_decide_eq_true (by kernel_rfl)) (by unfold Func.isWrapper; first | (rw [if_pos (by decide +kernel)]; kernel_rfl) | (rw [if_neg (by decide +kernel)]; exact ⟨rfl, rfl⟩))
    (fun os started H enc _ => lifted hp os started H enc)
end Go.Proofs.Ytmlhjobmpjpmnaa.CircuitPlans
