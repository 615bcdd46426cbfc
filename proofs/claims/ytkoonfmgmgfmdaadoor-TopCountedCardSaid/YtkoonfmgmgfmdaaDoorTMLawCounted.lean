/- The law TopCounted, closed over its plain law. -/
import Derived.Test.YtkoonfmgmgfmdaaDoorCards
import Derived.Test.YtkoonfmgmgfmdaaDoorTie
import Derived.SevenTiedAt
import Derived.Test.YtkoonfmgmgfmdaaDoorTMHasCounted
import Derived.Test.YtkoonfmgmgfmdaaDoorP2
import Derived.Test.YtkoonfmgmgfmdaaDoorNwLast
import Derived.Test.YtkoonfmgmgfmdaaDoorRows
import Derived.WalkKit
import Derived.ProofKit
set_option linter.all false
set_option linter.unusedVariables false
set_option linter.unusedSimpArgs false
set_option linter.unusedSectionVars false
namespace Go.Proofs.YtkoonfmgmgfmdaaDoor.TopCounted
open Go.Nw Go.Nw.TM Go.ChangeShapes Go.WideShapes Go.ChangeAt Go.RowKit
set_option linter.unusedVariables false
theorem own : ownKnob Tryd.prog.godebug = none := by kernel_rfl
theorem j1o : laidOutB Tryd.prog = true := by kernel_rfl
def b5q : Prop := ∀ (h : Hall) (d : Day) (x : neweltop_Counted), b5p h → b85 d → c4c x → c27 h d x = some true
theorem d7r (hp : b5q) (xs : List AV) (hZ : b7z [.agg d11, .agg d10, .agg d12] xs) : b0t Tryd.prog "newel/neweltop.TopCounted" xs (B true) [] := by
  obtain ⟨a0, xs, rfl, h0, g0⟩ := d09 hZ
  obtain ⟨a1, xs, rfl, h1, g1⟩ := d09 g0
  obtain ⟨a2, xs, rfl, h2, g2⟩ := d09 g1
  obtain ⟨h, rfl, hk0⟩ := j9y h0
  obtain ⟨d, rfl, hk1⟩ := j9x h1
  obtain ⟨x, rfl, hk2⟩ := j9z h2
  rw [j2j g2]
  exact (g3m h d x true (hp h d x hk0 hk1 hk2)).o
set_option maxRecDepth 100000 in
theorem j1x (hp : b5q) (os : Os) (started : os.Started) (H : Type) (enc : TypeId × Value → H) :
    ReturnsInHanded {} Tryd.checked os 4 .any (fun w args => (Rows.topCountedSpec.pre enc Tryd.prog Tryd.f4 [] false w args ∧ laidMetH Tryd.prog Rows.topCountedRow.laid w) ∧ sizedMet enc Tryd.prog Tryd.f4 (OpenSpec.ofChange Rows.topCountedSpec) false w args)
      (Rows.topCountedSpec.post enc Tryd.prog Tryd.f4 false true false false) := by
  refine returnsInHanded_of_change_and (C := Tryd.checked) (X := fun w _ => laidMetH Tryd.prog Rows.topCountedRow.laid w) (fun _ _ _ hh h => h.of_heap hh) own started (by kernel_rfl) Tryd.func4
    (ChangeSpec.witness_shaped (enc := enc) (C := Tryd.checked) (os := os) (X := fun w _ => laidMetH Tryd.prog Rows.topCountedRow.laid w) false (World.doorLaid Tryd.prog 400 os) #[.agg #[.slice none 0 0, .slice none 0 0, .slice none 0 0, .int .i64 0], .agg #[.slice none 0 0, .slice none 0 0, .slice none 0 0], .agg #[.int .i64 0, .int .i64 0, .slice none 0 0]] 8 rfl (World.shaped_of_RefB (by kernel_rfl) (by kernel_rfl)) (by kernel_rfl) (by kernel_rfl) (by kernel_rfl) (g48 os _)) ?_
  intro W base args ds gs before hval hW _ _ hL _
  exact j1r (P := Tryd.prog) (fn := Tryd.f4) (s := Rows.topCountedSpec) (tb := 4) (n := 8) (ss := [.agg d11, .agg d10, .agg d12]) Tryd.func4 j1o (by kernel_rfl) (by kernel_rfl) (by kernel_rfl) rfl
    (fun ds hd => by
      have hd2 : ds.length = 3 := hd
      match ds, hd2 with
      | [d0, d1, d2], _ => rfl) (by kernel_rfl) (fun xs h => d7r hp xs h) W (j1p hL) base args ds gs before hval hW
theorem j86 (hp : b5q) : Rows.TopCountedSaid :=
  OpenClaim.holds_of_wide 4 Tryd.f4 rfl rfl rfl rfl rfl rfl rfl ⟨rfl, rfl, rfl, rfl, rfl⟩ rfl rfl rfl rfl rfl (by kernel_rfl) Tryd.func4 (by kernel_rfl)
    (of_decide_eq_true (by kernel_rfl)) (by unfold Func.isWrapper; first | (rw [if_pos (by decide +kernel)]; kernel_rfl) | (rw [if_neg (by decide +kernel)]; exact ⟨rfl, rfl⟩))
    (fun os started H enc _ => j1x hp os started H enc)
theorem over (hp : b5q) : Rows.TopCountedCardSaid :=
  Claim7.holds_tied_plain_at .later [] [.data, .data] true (true, "76f12472b738c1a492c49dbbc2b573d04972cf2ed6dc3fddb107e4f9105d1c51") false
    (j86 hp) (fun _ h => by cases h) (by kernel_rfl) (fun _ h => by cases h) topCounted_row_tie rfl ⟨rfl, rfl⟩ (by kernel_rfl) rfl
    (fun f fn hf hfn => by
      obtain rfl : f = 4 := Option.some.inj ((show Tryd.prog.funcNamed "newel/neweltop.TopCounted" = some 4 by kernel_rfl).symm.trans hf) |>.symm
      obtain rfl : fn = Tryd.f4 := (Option.some.inj (Tryd.func4.symm.trans hfn)).symm
      exact ⟨by kernel_rfl, fun j t ht => by
        have hm : t ∈ Tryd.f4.params.toList := by simpa using Array.mem_of_getElem? ht
        have hall : (Tryd.f4.params.toList.all fun u => !Tryd.prog.wantsStandIn u) = true := by kernel_rfl
        exact (show Tryd.prog.wantsStandIn t = false by simpa using List.all_eq_true.1 hall t hm)⟩)
    (by kernel_rfl)
end Go.Proofs.YtkoonfmgmgfmdaaDoor.TopCounted
