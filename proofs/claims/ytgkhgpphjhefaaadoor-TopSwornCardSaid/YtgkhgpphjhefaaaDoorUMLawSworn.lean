/- The law TopSworn, closed over its plain law. -/
import Derived.Test.YtgkhgpphjhefaaaDoorCards
import Derived.Test.YtgkhgpphjhefaaaDoorTie
import Derived.SevenTiedAt
import Derived.Test.YtgkhgpphjhefaaaDoorUMHasSworn
import Derived.Test.YtgkhgpphjhefaaaDoorP5
import Derived.Test.YtgkhgpphjhefaaaDoorNwLast
import Derived.Test.YtgkhgpphjhefaaaDoorRows
import Derived.WalkKit
import Derived.ProofKit
set_option linter.all false
namespace Go.Proofs.YtgkhgpphjhefaaaDoor.TopSworn
open Go.Nw Go.Nw.UM Go.ChangeShapes Go.WideShapes Go.ChangeAt Go.RowKit
instance : Bd := ⟨maxLen, Nat.le_refl _⟩
theorem own : ownKnob Tryd.prog.godebug = none := by kernel_rfl
theorem j7e : laidOutB Tryd.prog = true := by kernel_rfl
def b5b : Prop := ∀ (m : Go.Nw.UM.Machine) (x : neweltop_Sworn), b9d m -> y29 x -> y22 m x = some true
theorem g1u (hp : b5b) (xs : List AV) (hZ : b7z [.agg d43, .agg y35] xs) : b0n Tryd.prog "newel/neweltop.TopSworn" xs (B true) [] := by
 obtain ⟨a0, xs, rfl, h0, g0⟩ := g1z hZ
 obtain ⟨a1, xs, rfl, h1, g1⟩ := g1z g0
 obtain ⟨m, rfl, hk0⟩ := l52 h0
 obtain ⟨x, rfl, hk1⟩ := y8g h1
 rw [j8l g1]
 exact (y73 m x true (hp m x hk0 hk1)).o
set_option maxRecDepth 100000 in
theorem j7l (hp : b5b) (os : Os) (started : os.Started) (H : Type) (enc : TypeId × Value -> H) :
  ReturnsInHanded {} Tryd.checked os 7 .any (fun w args => (Rows.topSwornSpec.pre enc Tryd.prog Tryd.f7 [] false w args /\ laidMetH Tryd.prog Rows.topSwornRow.laid w) /\ sizedMet enc Tryd.prog Tryd.f7 (OpenSpec.ofChange Rows.topSwornSpec) false w args)
   (Rows.topSwornSpec.post enc Tryd.prog Tryd.f7 false true false false) := by
 refine returnsInHanded_of_change_and (C := Tryd.checked) (X := fun w _ => laidMetH Tryd.prog Rows.topSwornRow.laid w) (fun _ _ _ hh h => h.of_heap hh) own started (by kernel_rfl) Tryd.func7
  (ChangeSpec.witness_shaped (enc := enc) (C := Tryd.checked) (os := os) (X := fun w _ => laidMetH Tryd.prog Rows.topSwornRow.laid w) false (World.doorLaid Tryd.prog 400 os) #[.agg #[.slice none 0 0, .slice none 0 0, .slice none 0 0, .slice none 0 0, .slice none 0 0], .agg #[.slice none 0 0, .int .i64 0, .int .i64 0, .int .i64 0, .bool false, .slice none 0 0, .int .i64 0]] 8 rfl (World.shaped_of_RefB (by kernel_rfl) (by kernel_rfl)) (by kernel_rfl) (by kernel_rfl) (by kernel_rfl) (g9w os _)) ?_
 intro W base args ds gs before hval hW _ _ hL _
 exact j7h (bk := fun _ => 0) (P := Tryd.prog) (fn := Tryd.f7) (s := Rows.topSwornSpec) (tb := 4) (n := 8) (ss := [.agg d43, .agg y35]) Tryd.func7 j7e (by kernel_rfl) (by kernel_rfl) (by kernel_rfl) rfl
  (fun ds hd => by
   have hd2 : ds.length = 2 := hd
   match ds, hd2 with
   | [d0, d1], _ => rfl) (by kernel_rfl) (fun xs h => g1u hp xs h) W (j7f hL) base args ds gs before hval (fun _ _ => .inl rfl) hW
theorem l5c (hp : b5b) : Rows.TopSwornSaid :=
 OpenClaim.holds_of_wide 7 Tryd.f7 rfl rfl rfl rfl rfl rfl rfl ⟨rfl, rfl, rfl, rfl, rfl⟩ rfl rfl rfl rfl rfl (by kernel_rfl) Tryd.func7 (by kernel_rfl)
  (of_decide_eq_true (by kernel_rfl)) (by unfold Func.isWrapper; first | (rw [if_pos (by decide +kernel)]; kernel_rfl) | (rw [if_neg (by decide +kernel)]; exact ⟨rfl, rfl⟩))
  (fun os started H enc _ => j7l hp os started H enc)
theorem over (hp : b5b) : Rows.TopSwornCardSaid :=
 Claim7.holds_tied_plain_at .later [] [.data] true (true, "db4e9cbca9ed2499c5bdf819801b7ff7409f0cdc37448fc3ba2f985215f52c23") false
  (l5c hp) (fun _ h => by cases h) (by kernel_rfl) (fun _ h => by cases h) topSworn_row_tie rfl ⟨rfl, rfl⟩ (by kernel_rfl) rfl
  (fun f fn hf hfn => by
   obtain rfl : f = 7 := Option.some.inj ((show Tryd.prog.funcNamed "newel/neweltop.TopSworn" = some 7 by kernel_rfl).symm.trans hf) |>.symm
   obtain rfl : fn = Tryd.f7 := (Option.some.inj (Tryd.func7.symm.trans hfn)).symm
   exact ⟨by kernel_rfl, fun j t ht => by
    have hm : t ∈ Tryd.f7.params.toList := by simpa using Array.mem_of_getElem? ht
    have hall : (Tryd.f7.params.toList.all fun u => !Tryd.prog.wantsStandIn u) = true := by kernel_rfl
    exact (show Tryd.prog.wantsStandIn t = false by simpa using List.all_eq_true.1 hall t hm)⟩)
  (by kernel_rfl)
end Go.Proofs.YtgkhgpphjhefaaaDoor.TopSworn
