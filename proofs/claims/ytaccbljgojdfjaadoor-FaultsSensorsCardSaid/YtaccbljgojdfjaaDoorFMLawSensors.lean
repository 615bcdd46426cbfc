/- The law FaultsSensors, closed over its plain law. -/
import Derived.Test.YtaccbljgojdfjaaDoorCards
import Derived.Test.YtaccbljgojdfjaaDoorTie
import Derived.SevenTiedAt
import Derived.Test.YtaccbljgojdfjaaDoorFMHasSensors
import Derived.Test.YtaccbljgojdfjaaDoorP2
import Derived.Test.YtaccbljgojdfjaaDoorNwLast
import Derived.Test.YtaccbljgojdfjaaDoorRows
import Derived.WalkKit
import Derived.ProofKit
set_option linter.all false
set_option linter.unusedVariables false
set_option linter.unusedSimpArgs false
set_option linter.unusedSectionVars false
namespace Go.Proofs.YtaccbljgojdfjaaDoor.FaultsSensors
open Go.Nw Go.Nw.FM Go.ChangeShapes Go.WideShapes Go.ChangeAt Go.RowKit
set_option linter.unusedVariables false
theorem own : ownKnob Tryd.prog.godebug = none := by kernel_rfl
theorem d72 : laidOutB Tryd.prog = true := by kernel_rfl
def b26 : Prop := ∀ (l : List Reading), (OkL b5h) l → b63 l = some true
theorem c7l (hp : b26) (xs : List AV) (hZ : b4m [.c c2z] xs) : b0e Tryd.prog "newel/newellaw10.FaultsSensors" xs (B true) [] := by
  obtain ⟨a0, xs, rfl, h0, g0⟩ := d8k hZ
  obtain ⟨l, rfl, hk0⟩ := g4y h0
  rw [d8l g0]
  exact (d03 l true (hp l hk0)).o
set_option maxRecDepth 100000 in
theorem d8a (hp : b26) (os : Os) (started : os.Started) (H : Type) (enc : TypeId × Value → H) :
    ReturnsInHanded {} Tryd.checked os 3 .any (fun w args => (Rows.faultsSensorsSpec.pre enc Tryd.prog Tryd.f3 [] false w args ∧ laidMetH Tryd.prog Rows.faultsSensorsRow.laid w) ∧ sizedMet enc Tryd.prog Tryd.f3 (OpenSpec.ofChange Rows.faultsSensorsSpec) false w args)
      (Rows.faultsSensorsSpec.post enc Tryd.prog Tryd.f3 false true false false) := by
  refine returnsInHanded_of_change_and (C := Tryd.checked) (X := fun w _ => laidMetH Tryd.prog Rows.faultsSensorsRow.laid w) (fun _ _ _ hh h => h.of_heap hh) own started (by kernel_rfl) Tryd.func3
    (ChangeSpec.witness_shaped (enc := enc) (C := Tryd.checked) (os := os) (X := fun w _ => laidMetH Tryd.prog Rows.faultsSensorsRow.laid w) false (World.doorLaid Tryd.prog 400 os) #[.slice none 0 0] 8 rfl (World.shaped_of_RefB (by kernel_rfl) (by kernel_rfl)) (by kernel_rfl) (by kernel_rfl) (by kernel_rfl) (d2n os _)) ?_
  intro W base args ds gs before hval hW _ _ hL _
  exact d75 (P := Tryd.prog) (fn := Tryd.f3) (s := Rows.faultsSensorsSpec) (tb := 4) (n := 8) (ss := [.c c2z]) Tryd.func3 d72 (by kernel_rfl) (by kernel_rfl) (by kernel_rfl) rfl
    (fun ds hd => by
      have hd2 : ds.length = 1 := hd
      match ds, hd2 with
      | [d0], _ => rfl) (by kernel_rfl) (fun xs h => c7l hp xs h) W (d73 hL) base args ds gs before hval hW
theorem g4e (hp : b26) : Rows.FaultsSensorsSaid :=
  OpenClaim.holds_of_wide 3 Tryd.f3 rfl rfl rfl rfl rfl rfl rfl ⟨rfl, rfl, rfl, rfl, rfl⟩ rfl rfl rfl rfl rfl (by kernel_rfl) Tryd.func3 (by kernel_rfl)
    (of_decide_eq_true (by kernel_rfl)) (by unfold Func.isWrapper; first | (rw [if_pos (by decide +kernel)]; kernel_rfl) | (rw [if_neg (by decide +kernel)]; exact ⟨rfl, rfl⟩))
    (fun os started H enc _ => d8a hp os started H enc)
theorem over (hp : b26) : Rows.FaultsSensorsCardSaid :=
  Claim7.holds_tied_plain_at .later [] [.data, .data] true (true, "2ccda8a5663079de826103f602c5f2735ad090a3926fd251abcedd7483cf0fbf") false
    (g4e hp) (fun _ h => by cases h) (by kernel_rfl) (fun _ h => by cases h) faultsSensors_row_tie rfl ⟨rfl, rfl⟩ (by kernel_rfl) rfl
    (fun f fn hf hfn => by
      obtain rfl : f = 3 := Option.some.inj ((show Tryd.prog.funcNamed "newel/newellaw10.FaultsSensors" = some 3 by kernel_rfl).symm.trans hf) |>.symm
      obtain rfl : fn = Tryd.f3 := (Option.some.inj (Tryd.func3.symm.trans hfn)).symm
      exact ⟨by kernel_rfl, fun j t ht => by
        have hm : t ∈ Tryd.f3.params.toList := by simpa using Array.mem_of_getElem? ht
        have hall : (Tryd.f3.params.toList.all fun u => !Tryd.prog.wantsStandIn u) = true := by kernel_rfl
        exact (show Tryd.prog.wantsStandIn t = false by simpa using List.all_eq_true.1 hall t hm)⟩)
    (by kernel_rfl)
end Go.Proofs.YtaccbljgojdfjaaDoor.FaultsSensors
