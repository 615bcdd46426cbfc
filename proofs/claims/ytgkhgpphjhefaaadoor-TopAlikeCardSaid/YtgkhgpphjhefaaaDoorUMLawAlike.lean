/- The law TopAlike, closed over its plain law. -/
import Derived.Test.YtgkhgpphjhefaaaDoorCards
import Derived.Test.YtgkhgpphjhefaaaDoorTie
import Derived.SevenTiedAt
import Derived.Test.YtgkhgpphjhefaaaDoorUMHasAlike
import Derived.Test.YtgkhgpphjhefaaaDoorP5
import Derived.Test.YtgkhgpphjhefaaaDoorNwLast
import Derived.Test.YtgkhgpphjhefaaaDoorRows
import Derived.WalkKit
import Derived.ProofKit
set_option linter.all false
namespace Go.Proofs.YtgkhgpphjhefaaaDoor.TopAlike
open Go.Nw Go.Nw.UM Go.ChangeShapes Go.WideShapes Go.ChangeAt Go.RowKit
instance : Bd := ⟨maxLen, Nat.le_refl _⟩
theorem own : ownKnob Tryd.prog.godebug = none := by kernel_rfl
theorem j7e : laidOutB Tryd.prog = true := by kernel_rfl
def b5b : Prop := ∀ (a : Go.Nw.UM.Machine) (b : Go.Nw.UM.Machine) (x : neweltop_Alike), b9d a -> b9d b -> L1v x -> L1r a b x = some true
theorem g1u (hp : b5b) (xs : List AV) (hZ : b7z [.agg d43, .agg d43, .agg L14] xs) : b0n Tryd.prog "newel/neweltop.TopAlike" xs (B true) [] := by
 obtain ⟨a0, xs, rfl, h0, g0⟩ := g1z hZ
 obtain ⟨a1, xs, rfl, h1, g1⟩ := g1z g0
 obtain ⟨a2, xs, rfl, h2, g2⟩ := g1z g1
 obtain ⟨a, rfl, hk0⟩ := l52 h0
 obtain ⟨b, rfl, hk1⟩ := l52 h1
 obtain ⟨x, rfl, hk2⟩ := L2y h2
 rw [j8l g2]
 exact (L2m a b x true (hp a b x hk0 hk1 hk2)).o
set_option maxRecDepth 100000 in
theorem j7l (hp : b5b) (os : Os) (started : os.Started) (H : Type) (enc : TypeId × Value -> H) :
  ReturnsInHanded {} Tryd.checked os 6 .any (fun w args => (Rows.topAlikeSpec.pre enc Tryd.prog Tryd.f6 [] false w args /\ laidMetH Tryd.prog Rows.topAlikeRow.laid w) /\ sizedMet enc Tryd.prog Tryd.f6 (OpenSpec.ofChange Rows.topAlikeSpec) false w args)
   (Rows.topAlikeSpec.post enc Tryd.prog Tryd.f6 false true false false) := by
 refine returnsInHanded_of_change_and (C := Tryd.checked) (X := fun w _ => laidMetH Tryd.prog Rows.topAlikeRow.laid w) (fun _ _ _ hh h => h.of_heap hh) own started (by kernel_rfl) Tryd.func6
  (ChangeSpec.witness_shaped (enc := enc) (C := Tryd.checked) (os := os) (X := fun w _ => laidMetH Tryd.prog Rows.topAlikeRow.laid w) false (World.doorLaid Tryd.prog 400 os) #[.agg #[.slice none 0 0, .slice none 0 0, .slice none 0 0, .slice none 0 0, .slice none 0 0], .agg #[.slice none 0 0, .slice none 0 0, .slice none 0 0, .slice none 0 0, .slice none 0 0], .agg #[.slice none 0 0, .int .i64 0, .slice none 0 0, .int .i64 0, .int .i64 0, .int .i64 0]] 8 rfl (World.shaped_of_RefB (by kernel_rfl) (by kernel_rfl)) (by kernel_rfl) (by kernel_rfl) (by kernel_rfl) (g9w os _)) ?_
 intro W base args ds gs before hval hW _ _ hL _
 exact j7h (bk := fun _ => 0) (P := Tryd.prog) (fn := Tryd.f6) (s := Rows.topAlikeSpec) (tb := 4) (n := 8) (ss := [.agg d43, .agg d43, .agg L14]) Tryd.func6 j7e (by kernel_rfl) (by kernel_rfl) (by kernel_rfl) rfl
  (fun ds hd => by
   have hd2 : ds.length = 3 := hd
   match ds, hd2 with
   | [d0, d1, d2], _ => rfl) (by kernel_rfl) (fun xs h => g1u hp xs h) W (j7f hL) base args ds gs before hval (fun _ _ => .inl rfl) hW
theorem l5c (hp : b5b) : Rows.TopAlikeSaid :=
 OpenClaim.holds_of_wide 6 Tryd.f6 rfl rfl rfl rfl rfl rfl rfl ⟨rfl, rfl, rfl, rfl, rfl⟩ rfl rfl rfl rfl rfl (by kernel_rfl) Tryd.func6 (by kernel_rfl)
  (of_decide_eq_true (by kernel_rfl)) (by unfold Func.isWrapper; first | (rw [if_pos (by decide +kernel)]; kernel_rfl) | (rw [if_neg (by decide +kernel)]; exact ⟨rfl, rfl⟩))
  (fun os started H enc _ => j7l hp os started H enc)
theorem over (hp : b5b) : Rows.TopAlikeCardSaid :=
 Claim7.holds_tied_plain_at .later [] [.data] true (true, "db4e9cbca9ed2499c5bdf819801b7ff7409f0cdc37448fc3ba2f985215f52c23") false
  (l5c hp) (fun _ h => by cases h) (by kernel_rfl) (fun _ h => by cases h) topAlike_row_tie rfl ⟨rfl, rfl⟩ (by kernel_rfl) rfl
  (fun f fn hf hfn => by
   obtain rfl : f = 6 := Option.some.inj ((show Tryd.prog.funcNamed "newel/neweltop.TopAlike" = some 6 by kernel_rfl).symm.trans hf) |>.symm
   obtain rfl : fn = Tryd.f6 := (Option.some.inj (Tryd.func6.symm.trans hfn)).symm
   exact ⟨by kernel_rfl, fun j t ht => by
    have hm : t ∈ Tryd.f6.params.toList := by simpa using Array.mem_of_getElem? ht
    have hall : (Tryd.f6.params.toList.all fun u => !Tryd.prog.wantsStandIn u) = true := by kernel_rfl
    exact (show Tryd.prog.wantsStandIn t = false by simpa using List.all_eq_true.1 hall t hm)⟩)
  (by kernel_rfl)
end Go.Proofs.YtgkhgpphjhefaaaDoor.TopAlike
