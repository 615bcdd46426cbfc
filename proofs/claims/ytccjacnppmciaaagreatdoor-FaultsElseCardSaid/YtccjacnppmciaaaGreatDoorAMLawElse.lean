/- The law FaultsElse, closed over its plain law. -/
import Derived.Test.YtccjacnppmciaaaGreatDoorCards
import Derived.Test.YtccjacnppmciaaaGreatDoorTie
import Derived.SevenTiedAt
import Derived.Test.YtccjacnppmciaaaGreatDoorAMHasElse
import Derived.Test.YtccjacnppmciaaaGreatDoorP6
import Derived.Test.YtccjacnppmciaaaGreatDoorNwLast
import Derived.Test.YtccjacnppmciaaaGreatDoorRows
import Derived.WalkKit
import Derived.ProofKit
set_option linter.all false
namespace Go.Proofs.YtccjacnppmciaaaGreatDoor.FaultsElse
open Go.Nw Go.Nw.AM Go.ChangeShapes Go.WideShapes Go.ChangeAt Go.RowKit
instance : Bd := ⟨maxLen, Nat.le_refl _⟩
theorem own : ownKnob Tryz.prog.godebug = none := by kernel_rfl
theorem j7e : laidOutB Tryz.prog = true := by kernel_rfl
def b5b : Prop := ∀ (a : Accident) (x : l10_Past), s9d a -> z28 x -> K97 a x = some true
theorem g1u (hp : b5b) (xs : List AV) (hZ : b7z [.agg u4b, .agg L0m] xs) : b0n Tryz.prog "newel/newellaw10.FaultsElse" xs (B true) [] := by
 obtain ⟨a0, xs, rfl, h0, g0⟩ := g1z hZ
 obtain ⟨a1, xs, rfl, h1, g1⟩ := g1z g0
 obtain ⟨a, rfl, hk0⟩ := u9s h0
 obtain ⟨x, rfl, hk1⟩ := L0y h1
 rw [j8l g1]
 exact (L0p a x true (hp a x hk0 hk1)).o
set_option maxRecDepth 100000 in
theorem j7l (hp : b5b) (os : Os) (started : os.Started) (H : Type) (enc : TypeId × Value -> H) :
  ReturnsInHanded {} Tryz.checked os 8 .any (fun w args => (Rows.faultsElseSpec.pre enc Tryz.prog Tryz.f8 [] false w args /\ laidMetH Tryz.prog Rows.faultsElseRow.laid w) /\ sizedMet enc Tryz.prog Tryz.f8 (OpenSpec.ofChange Rows.faultsElseSpec) false w args)
   (Rows.faultsElseSpec.post enc Tryz.prog Tryz.f8 false true false false) := by
 refine returnsInHanded_of_change_and (C := Tryz.checked) (X := fun w _ => laidMetH Tryz.prog Rows.faultsElseRow.laid w) (fun _ _ _ hh h => h.of_heap hh) own started (by kernel_rfl) Tryz.func8
  (ChangeSpec.witness_shaped (enc := enc) (C := Tryz.checked) (os := os) (X := fun w _ => laidMetH Tryz.prog Rows.faultsElseRow.laid w) false (World.doorLaid Tryz.prog 400 os) #[.agg #[.slice none 0 0, .slice none 0 0, .slice none 0 0, .slice none 0 0, .slice none 0 0, .slice none 0 0, .int .i64 0, .slice none 0 0], .agg #[.int .i64 0, .int .i64 0, .int .i64 0, .slice none 0 0]] 8 rfl (World.shaped_of_RefB (by kernel_rfl) (by kernel_rfl)) (by kernel_rfl) (by kernel_rfl) (by kernel_rfl) (g9w os _)) ?_
 intro W base args ds gs before hval hW _ _ hL _
 exact j7h (bk := fun _ => 0) (P := Tryz.prog) (fn := Tryz.f8) (s := Rows.faultsElseSpec) (tb := 4) (n := 8) (ss := [.agg u4b, .agg L0m]) Tryz.func8 j7e (by kernel_rfl) (by kernel_rfl) (by kernel_rfl) rfl
  (fun ds hd => by
   have hd2 : ds.length = 2 := hd
   match ds, hd2 with
   | [d0, d1], _ => rfl) (by kernel_rfl) (fun xs h => g1u hp xs h) W (j7f hL) base args ds gs before hval (fun _ _ => .inl rfl) hW
theorem l5c (hp : b5b) : Rows.FaultsElseSaid :=
 OpenClaim.holds_of_wide 8 Tryz.f8 rfl rfl rfl rfl rfl rfl rfl ⟨rfl, rfl, rfl, rfl, rfl⟩ rfl rfl rfl rfl rfl (by kernel_rfl) Tryz.func8 (by kernel_rfl)
  (of_decide_eq_true (by kernel_rfl)) (by unfold Func.isWrapper; first | (rw [if_pos (by decide +kernel)]; kernel_rfl) | (rw [if_neg (by decide +kernel)]; exact ⟨rfl, rfl⟩))
  (fun os started H enc _ => j7l hp os started H enc)
theorem over (hp : b5b) : Rows.FaultsElseCardSaid :=
 Claim7.holds_tied_plain_at .later [] [.data, .data, .data] true (true, "46e3172f99888f87dbd4698db3be4dedef5e3eff712f9b63a601451a9a281936") false
  (l5c hp) (fun _ h => by cases h) (by kernel_rfl) (fun _ h => by cases h) faultsElse_row_tie rfl ⟨rfl, rfl⟩ (by kernel_rfl) rfl
  (fun f fn hf hfn => by
   obtain rfl : f = 8 := Option.some.inj ((show Tryz.prog.funcNamed "newel/newellaw10.FaultsElse" = some 8 by kernel_rfl).symm.trans hf) |>.symm
   obtain rfl : fn = Tryz.f8 := (Option.some.inj (Tryz.func8.symm.trans hfn)).symm
   exact ⟨by kernel_rfl, fun j t ht => by
    have hm : t ∈ Tryz.f8.params.toList := by simpa using Array.mem_of_getElem? ht
    have hall : (Tryz.f8.params.toList.all fun u => !Tryz.prog.wantsStandIn u) = true := by kernel_rfl
    exact (show Tryz.prog.wantsStandIn t = false by simpa using List.all_eq_true.1 hall t hm)⟩)
  (by kernel_rfl)
end Go.Proofs.YtccjacnppmciaaaGreatDoor.FaultsElse
