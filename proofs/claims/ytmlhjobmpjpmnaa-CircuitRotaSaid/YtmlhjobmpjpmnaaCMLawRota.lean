/- The law CircuitRota, closed over its plain law. -/
import Derived.Test.YtmlhjobmpjpmnaaCMHasRota
import Derived.Test.YtmlhjobmpjpmnaaP1
import Derived.Test.YtmlhjobmpjpmnaaNwLast
import Derived.Test.YtmlhjobmpjpmnaaRows
import Derived.WalkKit
import Derived.ProofKit
set_option linter.all false
set_option linter.unusedVariables false
set_option linter.unusedSimpArgs false
set_option linter.unusedSectionVars false
namespace Go.Proofs.Ytmlhjobmpjpmnaa.CircuitRota
open Go.Nw Go.Nw.CM Go.ChangeShapes Go.WideShapes Go.ChangeAt Go.RowKit
set_option linter.unusedVariables false

theorem own : ownKnob Try.prog.godebug = none := by kernel_rfl
theorem laidOut : laidOutB Try.prog = true := by kernel_rfl
def Plain : Prop := ∀ (c : Circuit) (k : l03_Kept) (other : List Int), OkC c → OkKept k → OkInts other → l03_CircuitRota c k other = some true
theorem model (hp : Plain) (xs : List AV) (h : MtAs [.agg shC, .agg shKept, .c shInts] xs) : orac Try.prog "newel/newellaw03.CircuitRota" xs (B true) [] := by
  obtain ⟨a0, xs, rfl, h0, g0⟩ := mtas_cons h
  obtain ⟨a1, xs, rfl, h1, g1⟩ := mtas_cons g0
  obtain ⟨a2, xs, rfl, h2, g2⟩ := mtas_cons g1
  obtain ⟨c, rfl, hk0⟩ := typ_C h0
  obtain ⟨k, rfl, hk1⟩ := typ_Kept h1
  obtain ⟨other, rfl, hk2⟩ := typ_Ints h2
  rw [mtas_nil g2]
  exact (c_l03_CircuitRota c k other true (hp c k other hk0 hk1 hk2)).o

set_option maxRecDepth 100000 in
theorem lifted (hp : Plain) (os : Os) (started : os.Started) (H : Type) (enc : TypeId × Value → H) :
    ReturnsInHanded {} Try.checked os 9 .any (Rows.circuitRotaSpec.pre6 enc Try.prog Try.f9 Rows.circuitRotaRow.domain false) (Rows.circuitRotaSpec.post enc Try.prog Try.f9 false true false false) := by
  refine returnsInHanded_of_change (C := Try.checked) own started (by kernel_rfl) Try.func9
    (ChangeSpec.witness6 (enc := enc) (C := Try.checked) false ⟨#[], #[.agg #[.int .i64 0, .slice none 0 0, .slice none 0 0], .agg #[.slice none 0 0, .slice none 0 0, .int .i64 0], .slice none 0 0], []⟩ 8 (by kernel_rfl) (by kernel_rfl) (by kernel_rfl) (by kernel_rfl)) ?_
  intro W base args ds gs before hval hW _ _
  exact law_contract (P := Try.prog) (fn := Try.f9) (s := Rows.circuitRotaSpec) (tb := 4) (n := 8) (ss := [.agg shC, .agg shKept, .c shInts]) Try.func9 laidOut (by kernel_rfl) (by kernel_rfl) (by kernel_rfl) rfl
    (fun ds hd => by
      have hd2 : ds.length = 3 := hd
      match ds, hd2 with
      | [d0, d1, d2], _ => rfl) (by kernel_rfl) (fun xs h => model hp xs h) W base args ds gs before hval hW

theorem over (hp : Plain) : Rows.CircuitRotaSaid :=
  OpenClaim.holds_of_wide 9 Try.f9 rfl rfl rfl rfl rfl rfl rfl ⟨rfl, rfl, rfl, rfl, rfl⟩ rfl rfl rfl rfl rfl (by kernel_rfl) Try.func9 (by kernel_rfl)
    (of_decide_eq_true (by kernel_rfl)) (by unfold Func.isWrapper; first | (rw [if_pos (by decide +kernel)]; kernel_rfl) | (rw [if_neg (by decide +kernel)]; exact ⟨rfl, rfl⟩))
    (fun os started H enc _ => lifted hp os started H enc)
end Go.Proofs.Ytmlhjobmpjpmnaa.CircuitRota
