/- The law CircuitTrials, closed over its plain law. -/
import Derived.Test.YtmlhjobmpjpmnaaDoorCards
import Derived.Test.YtmlhjobmpjpmnaaDoorTie
import Derived.SevenTiedAt
import Derived.Test.YtmlhjobmpjpmnaaDoorDMHasTrials
import Derived.Test.YtmlhjobmpjpmnaaDoorP2
import Derived.Test.YtmlhjobmpjpmnaaDoorNwLast
import Derived.Test.YtmlhjobmpjpmnaaDoorRows
import Derived.WalkKit
import Derived.ProofKit
set_option linter.all false
set_option linter.unusedVariables false
set_option linter.unusedSimpArgs false
set_option linter.unusedSectionVars false
namespace Go.Proofs.YtmlhjobmpjpmnaaDoor.CircuitTrials
open Go.Nw Go.Nw.DM Go.ChangeShapes Go.WideShapes Go.ChangeAt Go.RowKit
set_option linter.unusedVariables false

theorem own : ownKnob Tryd.prog.godebug = none := by kernel_rfl
theorem laidOut : laidOutB Tryd.prog = true := by kernel_rfl
def Plain : Prop := ∀ (c : Circuit) (l : List Trial) (trial : Int), OkC c → OkTrials l → In64 trial → l03_CircuitTrials c l trial = some true
theorem model (hp : Plain) (xs : List AV) (h : MtAs [.agg shC, .c shTrials, .c (.i .i64)] xs) : orac Tryd.prog "newel/newellaw03.CircuitTrials" xs (B true) [] := by
  obtain ⟨a0, xs, rfl, h0, g0⟩ := mtas_cons h
  obtain ⟨a1, xs, rfl, h1, g1⟩ := mtas_cons g0
  obtain ⟨a2, xs, rfl, h2, g2⟩ := mtas_cons g1
  obtain ⟨c, rfl, hk0⟩ := typ_C h0
  obtain ⟨l, rfl, hk1⟩ := typ_Trials h1
  obtain ⟨trial, rfl, hk2⟩ := typ_I h2
  rw [mtas_nil g2]
  exact (c_l03_CircuitTrials c l trial true (hp c l trial hk0 hk1 hk2)).o

set_option maxRecDepth 100000 in
theorem lifted (hp : Plain) (os : Os) (started : os.Started) (H : Type) (enc : TypeId × Value → H) :
    ReturnsInHanded {} Tryd.checked os 3 .any (fun w args => (Rows.circuitTrialsSpec.pre enc Tryd.prog Tryd.f3 [] false w args ∧ laidMetH Tryd.prog Rows.circuitTrialsRow.laid w) ∧ sizedMet enc Tryd.prog Tryd.f3 (OpenSpec.ofChange Rows.circuitTrialsSpec) false w args)
      (Rows.circuitTrialsSpec.post enc Tryd.prog Tryd.f3 false true false false) := by
  refine returnsInHanded_of_change_and (C := Tryd.checked) (X := fun w _ => laidMetH Tryd.prog Rows.circuitTrialsRow.laid w) (fun _ _ _ hh h => h.of_heap hh) own started (by kernel_rfl) Tryd.func3
    (ChangeSpec.witness_shaped (enc := enc) (C := Tryd.checked) (os := os) (X := fun w _ => laidMetH Tryd.prog Rows.circuitTrialsRow.laid w) false (World.doorLaid Tryd.prog 400 os) #[.agg #[.int .i64 0, .slice none 0 0, .slice none 0 0], .slice none 0 0, .int .i64 0] 8 rfl (World.shaped_of_RefB (by kernel_rfl) (by kernel_rfl)) (by kernel_rfl) (by kernel_rfl) (by kernel_rfl) (door_met os _)) ?_
  intro W base args ds gs before hval hW _ _ hL _
  exact law_contract (P := Tryd.prog) (fn := Tryd.f3) (s := Rows.circuitTrialsSpec) (tb := 4) (n := 8) (ss := [.agg shC, .c shTrials, .c (.i .i64)]) Tryd.func3 laidOut (by kernel_rfl) (by kernel_rfl) (by kernel_rfl) rfl
    (fun ds hd => by
      have hd2 : ds.length = 3 := hd
      match ds, hd2 with
      | [d0, d1, d2], _ => rfl) (by kernel_rfl) (fun xs h => model hp xs h) W (laid_at hL) base args ds gs before hval hW

theorem said (hp : Plain) : Rows.CircuitTrialsSaid :=
  OpenClaim.holds_of_wide 3 Tryd.f3 rfl rfl rfl rfl rfl rfl rfl ⟨rfl, rfl, rfl, rfl, rfl⟩ rfl rfl rfl rfl rfl (by kernel_rfl) Tryd.func3 (by kernel_rfl)
    (of_decide_eq_true (by kernel_rfl)) (by unfold Func.isWrapper; first | (rw [if_pos (by decide +kernel)]; kernel_rfl) | (rw [if_neg (by decide +kernel)]; exact ⟨rfl, rfl⟩))
    (fun os started H enc _ => lifted hp os started H enc)
theorem over (hp : Plain) : Rows.CircuitTrialsCardSaid :=
  Claim7.holds_tied_plain_at .later [] [.data, .data] true (true, "71bb992349db4c7a39d0fdfaa8bb12b00b68c776d19a2a7a1c5b4d1cda6c5052") false
    (said hp) (fun _ h => by cases h) (by kernel_rfl) (fun _ h => by cases h) circuitTrials_row_tie rfl ⟨rfl, rfl⟩ (by kernel_rfl) rfl
    (fun f fn hf hfn => by
      obtain rfl : f = 3 := Option.some.inj ((show Tryd.prog.funcNamed "newel/newellaw03.CircuitTrials" = some 3 by kernel_rfl).symm.trans hf) |>.symm
      obtain rfl : fn = Tryd.f3 := (Option.some.inj (Tryd.func3.symm.trans hfn)).symm
      exact ⟨by kernel_rfl, fun j t ht => by
        have hm : t ∈ Tryd.f3.params.toList := by simpa using Array.mem_of_getElem? ht
        have hall : (Tryd.f3.params.toList.all fun u => !Tryd.prog.wantsStandIn u) = true := by kernel_rfl
        exact (show Tryd.prog.wantsStandIn t = false by simpa using List.all_eq_true.1 hall t hm)⟩)
    (by kernel_rfl)
end Go.Proofs.YtmlhjobmpjpmnaaDoor.CircuitTrials
