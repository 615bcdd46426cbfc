/- The law TopMissed, closed over its plain law. -/
import Derived.Test.YtjpgklcdlklhbaaDoorCards
import Derived.Test.YtjpgklcdlklhbaaDoorTie
import Derived.SevenTiedAt
import Derived.Test.YtjpgklcdlklhbaaDoorVMHasMissed
import Derived.Test.YtjpgklcdlklhbaaDoorP4
import Derived.Test.YtjpgklcdlklhbaaDoorNwLast
import Derived.Test.YtjpgklcdlklhbaaDoorRows
import Derived.WalkKit
import Derived.ProofKit
set_option linter.all false
namespace Go.Proofs.YtjpgklcdlklhbaaDoor.TopMissed
open Go.Nw Go.Nw.VM Go.ChangeShapes Go.WideShapes Go.ChangeAt Go.RowKit
instance : Bd := ⟨maxLen, Nat.le_refl _⟩
theorem own : ownKnob Tryd.prog.godebug = none := by kernel_rfl
theorem j7e : laidOutB Tryd.prog = true := by kernel_rfl
def b5b : Prop := ∀ (s : Station) (help : Bool) (x : neweltop_Missed), B9u s -> (fun _ : Bool => True) help -> B9v x -> B87 s help x = some true
theorem g1u (hp : b5b) (xs : List AV) (hZ : b7z [.agg C0p, .c .b, .agg C0q] xs) : b0n Tryd.prog "newel/neweltop.TopMissed" xs (B true) [] := by
 obtain ⟨a0, xs, rfl, h0, g0⟩ := g1z hZ
 obtain ⟨a1, xs, rfl, h1, g1⟩ := g1z g0
 obtain ⟨a2, xs, rfl, h2, g2⟩ := g1z g1
 obtain ⟨s, rfl, hk0⟩ := C2y h0
 obtain ⟨help, rfl, hk1⟩ := C2x h1
 obtain ⟨x, rfl, hk2⟩ := C2z h2
 rw [j8l g2]
 exact (C1m s help x true (hp s help x hk0 hk1 hk2)).o
set_option maxRecDepth 100000 in
theorem j7l (hp : b5b) (os : Os) (started : os.Started) (H : Type) (enc : TypeId × Value -> H) :
  ReturnsInHanded {} Tryd.checked os 4 .any (fun w args => (Rows.topMissedSpec.pre enc Tryd.prog Tryd.f4 [] false w args /\ laidMetH Tryd.prog Rows.topMissedRow.laid w) /\ sizedMet enc Tryd.prog Tryd.f4 (OpenSpec.ofChange Rows.topMissedSpec) false w args)
   (Rows.topMissedSpec.post enc Tryd.prog Tryd.f4 false true false false) := by
 refine returnsInHanded_of_change_and (C := Tryd.checked) (X := fun w _ => laidMetH Tryd.prog Rows.topMissedRow.laid w) (fun _ _ _ hh h => h.of_heap hh) own started (by kernel_rfl) Tryd.func4
  (ChangeSpec.witness_shaped (enc := enc) (C := Tryd.checked) (os := os) (X := fun w _ => laidMetH Tryd.prog Rows.topMissedRow.laid w) false (World.doorLaid Tryd.prog 400 os) #[.agg #[.int .i64 0, .slice none 0 0, .slice none 0 0], .bool false, .agg #[.int .i64 0, .slice none 0 0]] 8 rfl (World.shaped_of_RefB (by kernel_rfl) (by kernel_rfl)) (by kernel_rfl) (by kernel_rfl) (by kernel_rfl) (g9w os _)) ?_
 intro W base args ds gs before hval hW _ _ hL _
 exact j7h (bk := fun _ => 0) (P := Tryd.prog) (fn := Tryd.f4) (s := Rows.topMissedSpec) (tb := 4) (n := 8) (ss := [.agg C0p, .c .b, .agg C0q]) Tryd.func4 j7e (by kernel_rfl) (by kernel_rfl) (by kernel_rfl) rfl
  (fun ds hd => by
   have hd2 : ds.length = 3 := hd
   match ds, hd2 with
   | [d0, d1, d2], _ => rfl) (by kernel_rfl) (fun xs h => g1u hp xs h) W (j7f hL) base args ds gs before hval (fun _ _ => .inl rfl) hW
theorem l5c (hp : b5b) : Rows.TopMissedSaid :=
 OpenClaim.holds_of_wide 4 Tryd.f4 rfl rfl rfl rfl rfl rfl rfl ⟨rfl, rfl, rfl, rfl, rfl⟩ rfl rfl rfl rfl rfl (by kernel_rfl) Tryd.func4 (by kernel_rfl)
  (of_decide_eq_true (by kernel_rfl)) (by unfold Func.isWrapper; first | (rw [if_pos (by decide +kernel)]; kernel_rfl) | (rw [if_neg (by decide +kernel)]; exact ⟨rfl, rfl⟩))
  (fun os started H enc _ => j7l hp os started H enc)
theorem over (hp : b5b) : Rows.TopMissedCardSaid :=
 Claim7.holds_tied_plain_at .later [] [.data, .data] true (true, "76fc6add12e03f227fecc107ecb52866d5c3a9134be3a91e2436762860382762") false
  (l5c hp) (fun _ h => by cases h) (by kernel_rfl) (fun _ h => by cases h) topMissed_row_tie rfl ⟨rfl, rfl⟩ (by kernel_rfl) rfl
  (fun f fn hf hfn => by
   obtain rfl : f = 4 := Option.some.inj ((show Tryd.prog.funcNamed "newel/neweltop.TopMissed" = some 4 by kernel_rfl).symm.trans hf) |>.symm
   obtain rfl : fn = Tryd.f4 := (Option.some.inj (Tryd.func4.symm.trans hfn)).symm
   exact ⟨by kernel_rfl, fun j t ht => by
    have hm : t ∈ Tryd.f4.params.toList := by simpa using Array.mem_of_getElem? ht
    have hall : (Tryd.f4.params.toList.all fun u => !Tryd.prog.wantsStandIn u) = true := by kernel_rfl
    exact (show Tryd.prog.wantsStandIn t = false by simpa using List.all_eq_true.1 hall t hm)⟩)
  (by kernel_rfl)
end Go.Proofs.YtjpgklcdlklhbaaDoor.TopMissed
