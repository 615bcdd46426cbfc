/- The law TopMetered, closed over its plain law. -/
import Derived.Test.YtkoonfmgmgfmdaaDoorCards
import Derived.Test.YtkoonfmgmgfmdaaDoorTie
import Derived.SevenTiedAt
import Derived.Test.YtkoonfmgmgfmdaaDoorTMHasMetered
import Derived.Test.YtkoonfmgmgfmdaaDoorP2
import Derived.Test.YtkoonfmgmgfmdaaDoorNwLast
import Derived.Test.YtkoonfmgmgfmdaaDoorRows
import Derived.WalkKit
import Derived.ProofKit
set_option linter.all false
set_option linter.unusedVariables false
set_option linter.unusedSimpArgs false
set_option linter.unusedSectionVars false
namespace Go.Proofs.YtkoonfmgmgfmdaaDoor.TopMetered
open Go.Nw Go.Nw.TM Go.ChangeShapes Go.WideShapes Go.ChangeAt Go.RowKit
set_option linter.unusedVariables false
theorem own : ownKnob Tryd.prog.godebug = none := by kernel_rfl
theorem g16 : laidOutB Tryd.prog = true := by kernel_rfl
def b3o : Prop := ∀ (b : Band) (t : Times) (plan : List Int) (x : neweltop_Metered), b8w b → b8z t → (OkL b1l) plan → b80 x → b74 b t plan x = some true
theorem c92 (hp : b3o) (xs : List AV) (hZ : b44 [.agg c43, .agg c45, .c c44, .agg c46] xs) : b0f Tryd.prog "newel/neweltop.TopMetered" xs (B true) [] := by
  obtain ⟨a0, xs, rfl, h0, g0⟩ := c0b hZ
  obtain ⟨a1, xs, rfl, h1, g1⟩ := c0b g0
  obtain ⟨a2, xs, rfl, h2, g2⟩ := c0b g1
  obtain ⟨a3, xs, rfl, h3, g3⟩ := c0b g2
  obtain ⟨b, rfl, hk0⟩ := g9i h0
  obtain ⟨t, rfl, hk1⟩ := g9k h1
  obtain ⟨plan, rfl, hk2⟩ := g9j h2
  obtain ⟨x, rfl, hk3⟩ := g9l h3
  rw [g2y g3]
  exact (d4e b t plan x true (hp b t plan x hk0 hk1 hk2 hk3)).o
set_option maxRecDepth 100000 in
theorem g2f (hp : b3o) (os : Os) (started : os.Started) (H : Type) (enc : TypeId × Value → H) :
    ReturnsInHanded {} Tryd.checked os 3 .any (fun w args => (Rows.topMeteredSpec.pre enc Tryd.prog Tryd.f3 [] false w args ∧ laidMetH Tryd.prog Rows.topMeteredRow.laid w) ∧ sizedMet enc Tryd.prog Tryd.f3 (OpenSpec.ofChange Rows.topMeteredSpec) false w args)
      (Rows.topMeteredSpec.post enc Tryd.prog Tryd.f3 false true false false) := by
  refine returnsInHanded_of_change_and (C := Tryd.checked) (X := fun w _ => laidMetH Tryd.prog Rows.topMeteredRow.laid w) (fun _ _ _ hh h => h.of_heap hh) own started (by kernel_rfl) Tryd.func3
    (ChangeSpec.witness_shaped (enc := enc) (C := Tryd.checked) (os := os) (X := fun w _ => laidMetH Tryd.prog Rows.topMeteredRow.laid w) false (World.doorLaid Tryd.prog 400 os) #[.agg #[.bool false, .int .i64 0, .int .i64 0, .int .i64 0, .int .i64 0, .int .i64 0, .slice none 0 0, .int .i64 0, .int .i64 0], .agg #[.slice none 0 0, .int .i64 0], .slice none 0 0, .agg #[.int .i64 0, .int .i64 0, .slice none 0 0]] 8 rfl (World.shaped_of_RefB (by kernel_rfl) (by kernel_rfl)) (by kernel_rfl) (by kernel_rfl) (by kernel_rfl) (d5x os _)) ?_
  intro W base args ds gs before hval hW _ _ hL _
  exact g19 (P := Tryd.prog) (fn := Tryd.f3) (s := Rows.topMeteredSpec) (tb := 4) (n := 8) (ss := [.agg c43, .agg c45, .c c44, .agg c46]) Tryd.func3 g16 (by kernel_rfl) (by kernel_rfl) (by kernel_rfl) rfl
    (fun ds hd => by
      have hd2 : ds.length = 4 := hd
      match ds, hd2 with
      | [d0, d1, d2, d3], _ => rfl) (by kernel_rfl) (fun xs h => c92 hp xs h) W (g17 hL) base args ds gs before hval hW
theorem g8x (hp : b3o) : Rows.TopMeteredSaid :=
  OpenClaim.holds_of_wide 3 Tryd.f3 rfl rfl rfl rfl rfl rfl rfl ⟨rfl, rfl, rfl, rfl, rfl⟩ rfl rfl rfl rfl rfl (by kernel_rfl) Tryd.func3 (by kernel_rfl)
    (of_decide_eq_true (by kernel_rfl)) (by unfold Func.isWrapper; first | (rw [if_pos (by decide +kernel)]; kernel_rfl) | (rw [if_neg (by decide +kernel)]; exact ⟨rfl, rfl⟩))
    (fun os started H enc _ => g2f hp os started H enc)
theorem over (hp : b3o) : Rows.TopMeteredCardSaid :=
  Claim7.holds_tied_plain_at .later [] [.data, .data] true (true, "76f12472b738c1a492c49dbbc2b573d04972cf2ed6dc3fddb107e4f9105d1c51") false
    (g8x hp) (fun _ h => by cases h) (by kernel_rfl) (fun _ h => by cases h) topMetered_row_tie rfl ⟨rfl, rfl⟩ (by kernel_rfl) rfl
    (fun f fn hf hfn => by
      obtain rfl : f = 3 := Option.some.inj ((show Tryd.prog.funcNamed "newel/neweltop.TopMetered" = some 3 by kernel_rfl).symm.trans hf) |>.symm
      obtain rfl : fn = Tryd.f3 := (Option.some.inj (Tryd.func3.symm.trans hfn)).symm
      exact ⟨by kernel_rfl, fun j t ht => by
        have hm : t ∈ Tryd.f3.params.toList := by simpa using Array.mem_of_getElem? ht
        have hall : (Tryd.f3.params.toList.all fun u => !Tryd.prog.wantsStandIn u) = true := by kernel_rfl
        exact (show Tryd.prog.wantsStandIn t = false by simpa using List.all_eq_true.1 hall t hm)⟩)
    (by kernel_rfl)
end Go.Proofs.YtkoonfmgmgfmdaaDoor.TopMetered
