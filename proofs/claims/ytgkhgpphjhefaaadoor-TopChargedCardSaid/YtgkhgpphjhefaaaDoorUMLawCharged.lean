/- The law TopCharged, closed over its plain law. -/
import Derived.Test.YtgkhgpphjhefaaaDoorCards
import Derived.Test.YtgkhgpphjhefaaaDoorTie
import Derived.SevenTiedAt
import Derived.Test.YtgkhgpphjhefaaaDoorUMHasCharged
import Derived.Test.YtgkhgpphjhefaaaDoorP5
import Derived.Test.YtgkhgpphjhefaaaDoorNwLast
import Derived.Test.YtgkhgpphjhefaaaDoorRows
import Derived.WalkKit
import Derived.ProofKit
set_option linter.all false
namespace Go.Proofs.YtgkhgpphjhefaaaDoor.TopCharged
open Go.Nw Go.Nw.UM Go.ChangeShapes Go.WideShapes Go.ChangeAt Go.RowKit
instance : Bd := ⟨maxLen, Nat.le_refl _⟩
theorem own : ownKnob Tryd.prog.godebug = none := by kernel_rfl
theorem j7e : laidOutB Tryd.prog = true := by kernel_rfl
def b5b : Prop := ∀ (m : Go.Nw.UM.Machine) (x : neweltop_Charge), b9d m -> y9e x -> y47 m x = some true
theorem g1u (hp : b5b) (xs : List AV) (hZ : b7z [.agg d43, .agg y9l] xs) : b0n Tryd.prog "newel/neweltop.TopCharged" xs (B true) [] := by
 obtain ⟨a0, xs, rfl, h0, g0⟩ := g1z hZ
 obtain ⟨a1, xs, rfl, h1, g1⟩ := g1z g0
 obtain ⟨m, rfl, hk0⟩ := l52 h0
 obtain ⟨x, rfl, hk1⟩ := y93 h1
 rw [j8l g1]
 exact (y9q m x true (hp m x hk0 hk1)).o
set_option maxRecDepth 100000 in
theorem j7l (hp : b5b) (os : Os) (started : os.Started) (H : Type) (enc : TypeId × Value -> H) :
  ReturnsInHanded {} Tryd.checked os 5 .any (fun w args => (Rows.topChargedSpec.pre enc Tryd.prog Tryd.f5 [] false w args /\ laidMetH Tryd.prog Rows.topChargedRow.laid w) /\ sizedMet enc Tryd.prog Tryd.f5 (OpenSpec.ofChange Rows.topChargedSpec) false w args)
   (Rows.topChargedSpec.post enc Tryd.prog Tryd.f5 false true false false) := by
 refine returnsInHanded_of_change_and (C := Tryd.checked) (X := fun w _ => laidMetH Tryd.prog Rows.topChargedRow.laid w) (fun _ _ _ hh h => h.of_heap hh) own started (by kernel_rfl) Tryd.func5
  (ChangeSpec.witness_shaped (enc := enc) (C := Tryd.checked) (os := os) (X := fun w _ => laidMetH Tryd.prog Rows.topChargedRow.laid w) false (World.doorLaid Tryd.prog 400 os) #[.agg #[.slice none 0 0, .slice none 0 0, .slice none 0 0, .slice none 0 0, .slice none 0 0], .agg #[.slice none 0 0, .slice none 0 0, .int .i64 0, .int .i64 0, .int .i64 0, .int .i64 0]] 8 rfl (World.shaped_of_RefB (by kernel_rfl) (by kernel_rfl)) (by kernel_rfl) (by kernel_rfl) (by kernel_rfl) (g9w os _)) ?_
 intro W base args ds gs before hval hW _ _ hL _
 exact j7h (bk := fun _ => 0) (P := Tryd.prog) (fn := Tryd.f5) (s := Rows.topChargedSpec) (tb := 4) (n := 8) (ss := [.agg d43, .agg y9l]) Tryd.func5 j7e (by kernel_rfl) (by kernel_rfl) (by kernel_rfl) rfl
  (fun ds hd => by
   have hd2 : ds.length = 2 := hd
   match ds, hd2 with
   | [d0, d1], _ => rfl) (by kernel_rfl) (fun xs h => g1u hp xs h) W (j7f hL) base args ds gs before hval (fun _ _ => .inl rfl) hW
theorem l5c (hp : b5b) : Rows.TopChargedSaid :=
 OpenClaim.holds_of_wide 5 Tryd.f5 rfl rfl rfl rfl rfl rfl rfl ⟨rfl, rfl, rfl, rfl, rfl⟩ rfl rfl rfl rfl rfl (by kernel_rfl) Tryd.func5 (by kernel_rfl)
  (of_decide_eq_true (by kernel_rfl)) (by unfold Func.isWrapper; first | (rw [if_pos (by decide +kernel)]; kernel_rfl) | (rw [if_neg (by decide +kernel)]; exact ⟨rfl, rfl⟩))
  (fun os started H enc _ => j7l hp os started H enc)
theorem over (hp : b5b) : Rows.TopChargedCardSaid :=
 Claim7.holds_tied_plain_at .later [] [.data] true (true, "db4e9cbca9ed2499c5bdf819801b7ff7409f0cdc37448fc3ba2f985215f52c23") false
  (l5c hp) (fun _ h => by cases h) (by kernel_rfl) (fun _ h => by cases h) topCharged_row_tie rfl ⟨rfl, rfl⟩ (by kernel_rfl) rfl
  (fun f fn hf hfn => by
   obtain rfl : f = 5 := Option.some.inj ((show Tryd.prog.funcNamed "newel/neweltop.TopCharged" = some 5 by kernel_rfl).symm.trans hf) |>.symm
   obtain rfl : fn = Tryd.f5 := (Option.some.inj (Tryd.func5.symm.trans hfn)).symm
   exact ⟨by kernel_rfl, fun j t ht => by
    have hm : t ∈ Tryd.f5.params.toList := by simpa using Array.mem_of_getElem? ht
    have hall : (Tryd.f5.params.toList.all fun u => !Tryd.prog.wantsStandIn u) = true := by kernel_rfl
    exact (show Tryd.prog.wantsStandIn t = false by simpa using List.all_eq_true.1 hall t hm)⟩)
  (by kernel_rfl)
end Go.Proofs.YtgkhgpphjhefaaaDoor.TopCharged
