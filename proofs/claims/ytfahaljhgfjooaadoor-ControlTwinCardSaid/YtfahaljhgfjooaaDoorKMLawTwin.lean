/- The law ControlTwin, closed over its plain law. -/
import Derived.Test.YtfahaljhgfjooaaDoorCards
import Derived.Test.YtfahaljhgfjooaaDoorTie
import Derived.SevenTiedAt
import Derived.Test.YtfahaljhgfjooaaDoorKMHasTwin
import Derived.Test.YtfahaljhgfjooaaDoorP3
import Derived.Test.YtfahaljhgfjooaaDoorNwLast
import Derived.Test.YtfahaljhgfjooaaDoorRows
import Derived.WalkKit
import Derived.ProofKit
set_option linter.all false
namespace Go.Proofs.YtfahaljhgfjooaaDoor.ControlTwin
open Go.Nw Go.Nw.KM Go.ChangeShapes Go.WideShapes Go.ChangeAt Go.RowKit
instance : Bd := ⟨maxLen, Nat.le_refl _⟩
theorem own : ownKnob Tryd.prog.godebug = none := by kernel_rfl
theorem j7e : laidOutB Tryd.prog = true := by kernel_rfl
def b5b : Prop := ∀ (a : Go.Nw.KM.Machine) (b : Go.Nw.KM.Machine) (run : List Int), b9d a -> b9d b -> (OkL b5k) run -> r1f a b run = some true
theorem g1u (hp : b5b) (xs : List AV) (hZ : b7z [.agg d43, .agg d43, .c p66] xs) : b0n Tryd.prog "newel/newellaw04.ControlTwin" xs (B true) [] := by
 obtain ⟨a0, xs, rfl, h0, g0⟩ := g1z hZ
 obtain ⟨a1, xs, rfl, h1, g1⟩ := g1z g0
 obtain ⟨a2, xs, rfl, h2, g2⟩ := g1z g1
 obtain ⟨a, rfl, hk0⟩ := l52 h0
 obtain ⟨b, rfl, hk1⟩ := l52 h1
 obtain ⟨run, rfl, hk2⟩ := p7m h2
 rw [j8l g2]
 exact (r3m a b run true (hp a b run hk0 hk1 hk2)).o
set_option maxRecDepth 100000 in
theorem j7l (hp : b5b) (os : Os) (started : os.Started) (H : Type) (enc : TypeId × Value -> H) :
  ReturnsInHanded {} Tryd.checked os 14 .any (fun w args => (Rows.controlTwinSpec.pre enc Tryd.prog Tryd.f14 [] false w args /\ laidMetH Tryd.prog Rows.controlTwinRow.laid w) /\ sizedMet enc Tryd.prog Tryd.f14 (OpenSpec.ofChange Rows.controlTwinSpec) false w args)
   (Rows.controlTwinSpec.post enc Tryd.prog Tryd.f14 false true false false) := by
 refine returnsInHanded_of_change_and (C := Tryd.checked) (X := fun w _ => laidMetH Tryd.prog Rows.controlTwinRow.laid w) (fun _ _ _ hh h => h.of_heap hh) own started (by kernel_rfl) Tryd.func14
  (ChangeSpec.witness_shaped (enc := enc) (C := Tryd.checked) (os := os) (X := fun w _ => laidMetH Tryd.prog Rows.controlTwinRow.laid w) false (World.doorLaid Tryd.prog 400 os) #[.agg #[.slice none 0 0, .slice none 0 0, .slice none 0 0, .slice none 0 0, .slice none 0 0], .agg #[.slice none 0 0, .slice none 0 0, .slice none 0 0, .slice none 0 0, .slice none 0 0], .slice none 0 0] 8 rfl (World.shaped_of_RefB (by kernel_rfl) (by kernel_rfl)) (by kernel_rfl) (by kernel_rfl) (by kernel_rfl) (g9w os _)) ?_
 intro W base args ds gs before hval hW _ _ hL _
 exact j7h (bk := fun _ => 0) (P := Tryd.prog) (fn := Tryd.f14) (s := Rows.controlTwinSpec) (tb := 4) (n := 8) (ss := [.agg d43, .agg d43, .c p66]) Tryd.func14 j7e (by kernel_rfl) (by kernel_rfl) (by kernel_rfl) rfl
  (fun ds hd => by
   have hd2 : ds.length = 3 := hd
   match ds, hd2 with
   | [d0, d1, d2], _ => rfl) (by kernel_rfl) (fun xs h => g1u hp xs h) W (j7f hL) base args ds gs before hval (fun _ _ => .inl rfl) hW
theorem l5c (hp : b5b) : Rows.ControlTwinSaid :=
 OpenClaim.holds_of_wide 14 Tryd.f14 rfl rfl rfl rfl rfl rfl rfl ⟨rfl, rfl, rfl, rfl, rfl⟩ rfl rfl rfl rfl rfl (by kernel_rfl) Tryd.func14 (by kernel_rfl)
  (of_decide_eq_true (by kernel_rfl)) (by unfold Func.isWrapper; first | (rw [if_pos (by decide +kernel)]; kernel_rfl) | (rw [if_neg (by decide +kernel)]; exact ⟨rfl, rfl⟩))
  (fun os started H enc _ => j7l hp os started H enc)
theorem over (hp : b5b) : Rows.ControlTwinCardSaid :=
 Claim7.holds_tied_plain_at .later [] [.data] true (true, "c97cae8cb796fe8fdb36143dd3cd02ac0eaefb614a2cc1ed3f6ecc1c9b07530e") false
  (l5c hp) (fun _ h => by cases h) (by kernel_rfl) (fun _ h => by cases h) controlTwin_row_tie rfl ⟨rfl, rfl⟩ (by kernel_rfl) rfl
  (fun f fn hf hfn => by
   obtain rfl : f = 14 := Option.some.inj ((show Tryd.prog.funcNamed "newel/newellaw04.ControlTwin" = some 14 by kernel_rfl).symm.trans hf) |>.symm
   obtain rfl : fn = Tryd.f14 := (Option.some.inj (Tryd.func14.symm.trans hfn)).symm
   exact ⟨by kernel_rfl, fun j t ht => by
    have hm : t ∈ Tryd.f14.params.toList := by simpa using Array.mem_of_getElem? ht
    have hall : (Tryd.f14.params.toList.all fun u => !Tryd.prog.wantsStandIn u) = true := by kernel_rfl
    exact (show Tryd.prog.wantsStandIn t = false by simpa using List.all_eq_true.1 hall t hm)⟩)
  (by kernel_rfl)
end Go.Proofs.YtfahaljhgfjooaaDoor.ControlTwin
