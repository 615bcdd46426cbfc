/- The law FaultsTruth, closed over its plain law. -/
import Derived.Test.YtaccbljgojdfjaaDoorCards
import Derived.Test.YtaccbljgojdfjaaDoorTie
import Derived.SevenTiedAt
import Derived.Test.YtaccbljgojdfjaaDoorFMHasTruth
import Derived.Test.YtaccbljgojdfjaaDoorP2
import Derived.Test.YtaccbljgojdfjaaDoorNwLast
import Derived.Test.YtaccbljgojdfjaaDoorRows
import Derived.WalkKit
import Derived.ProofKit
set_option linter.all false
set_option linter.unusedVariables false
set_option linter.unusedSimpArgs false
set_option linter.unusedSectionVars false
namespace Go.Proofs.YtaccbljgojdfjaaDoor.FaultsTruth
open Go.Nw Go.Nw.FM Go.ChangeShapes Go.WideShapes Go.ChangeAt Go.RowKit
set_option linter.unusedVariables false
theorem own : ownKnob Tryd.prog.godebug = none := by kernel_rfl
theorem d7l : laidOutB Tryd.prog = true := by kernel_rfl
def b3c : Prop := ∀ (l : List Reading) (n : Int) (but : Int), (OkL b5a) l → b3b n → b3b but → b6z l n but = some true
theorem c68 (hp : b3c) (xs : List AV) (hZ : b4m [.c c2q, .c (.i .i64), .c (.i .i64)] xs) : b0e Tryd.prog "newel/newellaw10.FaultsTruth" xs (B true) [] := by
  obtain ⟨a0, xs, rfl, h0, g0⟩ := c17 hZ
  obtain ⟨a1, xs, rfl, h1, g1⟩ := c17 g0
  obtain ⟨a2, xs, rfl, h2, g2⟩ := c17 g1
  obtain ⟨l, rfl, hk0⟩ := g4m h0
  obtain ⟨n, rfl, hk1⟩ := c8j h1
  obtain ⟨but, rfl, hk2⟩ := c8j h2
  rw [d75 g2]
  exact (d0p l n but true (hp l n but hk0 hk1 hk2)).o
set_option maxRecDepth 100000 in
theorem d7t (hp : b3c) (os : Os) (started : os.Started) (H : Type) (enc : TypeId × Value → H) :
    ReturnsInHanded {} Tryd.checked os 4 .any (fun w args => (Rows.faultsTruthSpec.pre enc Tryd.prog Tryd.f4 [] false w args ∧ laidMetH Tryd.prog Rows.faultsTruthRow.laid w) ∧ sizedMet enc Tryd.prog Tryd.f4 (OpenSpec.ofChange Rows.faultsTruthSpec) false w args)
      (Rows.faultsTruthSpec.post enc Tryd.prog Tryd.f4 false true false false) := by
  refine returnsInHanded_of_change_and (C := Tryd.checked) (X := fun w _ => laidMetH Tryd.prog Rows.faultsTruthRow.laid w) (fun _ _ _ hh h => h.of_heap hh) own started (by kernel_rfl) Tryd.func4
    (ChangeSpec.witness_shaped (enc := enc) (C := Tryd.checked) (os := os) (X := fun w _ => laidMetH Tryd.prog Rows.faultsTruthRow.laid w) false (World.doorLaid Tryd.prog 400 os) #[.slice none 0 0, .int .i64 0, .int .i64 0] 8 rfl (World.shaped_of_RefB (by kernel_rfl) (by kernel_rfl)) (by kernel_rfl) (by kernel_rfl) (by kernel_rfl) (d2a os _)) ?_
  intro W base args ds gs before hval hW _ _ hL _
  exact d7o (P := Tryd.prog) (fn := Tryd.f4) (s := Rows.faultsTruthSpec) (tb := 4) (n := 8) (ss := [.c c2q, .c (.i .i64), .c (.i .i64)]) Tryd.func4 d7l (by kernel_rfl) (by kernel_rfl) (by kernel_rfl) rfl
    (fun ds hd => by
      have hd2 : ds.length = 3 := hd
      match ds, hd2 with
      | [d0, d1, d2], _ => rfl) (by kernel_rfl) (fun xs h => c68 hp xs h) W (d7m hL) base args ds gs before hval hW
theorem g32 (hp : b3c) : Rows.FaultsTruthSaid :=
  OpenClaim.holds_of_wide 4 Tryd.f4 rfl rfl rfl rfl rfl rfl rfl ⟨rfl, rfl, rfl, rfl, rfl⟩ rfl rfl rfl rfl rfl (by kernel_rfl) Tryd.func4 (by kernel_rfl)
    (of_decide_eq_true (by kernel_rfl)) (by unfold Func.isWrapper; first | (rw [if_pos (by decide +kernel)]; kernel_rfl) | (rw [if_neg (by decide +kernel)]; exact ⟨rfl, rfl⟩))
    (fun os started H enc _ => d7t hp os started H enc)
theorem over (hp : b3c) : Rows.FaultsTruthCardSaid :=
  Claim7.holds_tied_plain_at .later [] [.data, .data] true (true, "2ccda8a5663079de826103f602c5f2735ad090a3926fd251abcedd7483cf0fbf") false
    (g32 hp) (fun _ h => by cases h) (by kernel_rfl) (fun _ h => by cases h) faultsTruth_row_tie rfl ⟨rfl, rfl⟩ (by kernel_rfl) rfl
    (fun f fn hf hfn => by
      obtain rfl : f = 4 := Option.some.inj ((show Tryd.prog.funcNamed "newel/newellaw10.FaultsTruth" = some 4 by kernel_rfl).symm.trans hf) |>.symm
      obtain rfl : fn = Tryd.f4 := (Option.some.inj (Tryd.func4.symm.trans hfn)).symm
      exact ⟨by kernel_rfl, fun j t ht => by
        have hm : t ∈ Tryd.f4.params.toList := by simpa using Array.mem_of_getElem? ht
        have hall : (Tryd.f4.params.toList.all fun u => !Tryd.prog.wantsStandIn u) = true := by kernel_rfl
        exact (show Tryd.prog.wantsStandIn t = false by simpa using List.all_eq_true.1 hall t hm)⟩)
    (by kernel_rfl)
end Go.Proofs.YtaccbljgojdfjaaDoor.FaultsTruth
