/- The law HallsLess, closed over its plain law. -/
import Derived.Test.YteoedeeljnboeaaHMHasLess
import Derived.Test.YteoedeeljnboeaaP2
import Derived.Test.YteoedeeljnboeaaNwLast
import Derived.Test.YteoedeeljnboeaaRows
import Derived.WalkKit
import Derived.ProofKit
set_option linter.all false
namespace Go.Proofs.Yteoedeeljnboeaa.HallsLess
open Go.Nw Go.Nw.HM Go.ChangeShapes Go.WideShapes Go.ChangeAt Go.RowKit
instance : Bd := ⟨maxLen, Nat.le_refl _⟩
theorem own : ownKnob Try.prog.godebug = none := by kernel_rfl
theorem j7e : laidOutB Try.prog = true := by kernel_rfl
def b5b : Prop := ∀ (h : Hall) (x : l06_Less) (comb : Int), E66 h -> G0q x -> b5k comb -> G0a h x comb = some true
theorem g1u (hp : b5b) (xs : List AV) (hZ : b7z [.agg G4c, .agg G4d, .c (.i .i64)] xs) : b0n Try.prog "newel/newellaw06.HallsLess" xs (B true) [] := by
 obtain ⟨a0, xs, rfl, h0, g0⟩ := g1z hZ
 obtain ⟨a1, xs, rfl, h1, g1⟩ := g1z g0
 obtain ⟨a2, xs, rfl, h2, g2⟩ := g1z g1
 obtain ⟨h, rfl, hk0⟩ := H1r h0
 obtain ⟨x, rfl, hk1⟩ := H1s h1
 obtain ⟨comb, rfl, hk2⟩ := B4j h2
 rw [j8l g2]
 exact (G8u h x comb true (hp h x comb hk0 hk1 hk2)).o
set_option maxRecDepth 100000 in
theorem j7l (hp : b5b) (os : Os) (started : os.Started) (H : Type) (enc : TypeId × Value -> H) :
  ReturnsInHanded {} Try.checked os 4 .any (Rows.hallsLessSpec.pre6 enc Try.prog Try.f4 Rows.hallsLessRow.domain false) (Rows.hallsLessSpec.post enc Try.prog Try.f4 false true false false) := by
 refine returnsInHanded_of_change (C := Try.checked) own started (by kernel_rfl) Try.func4
  (ChangeSpec.witness6 (enc := enc) (C := Try.checked) false ⟨#[], #[.agg #[.slice none 0 0, .slice none 0 0, .slice none 0 0, .int .i64 0], .agg #[.int .i64 0, .int .i64 0, .int .i64 0, .int .i64 0, .int .i64 0, .int .i64 0], .int .i64 0], []⟩ 8 (by kernel_rfl) (by kernel_rfl) (by kernel_rfl) (by kernel_rfl)) ?_
 intro W base args ds gs before hval hW _ _
 exact j7h (bk := fun _ => 0) (P := Try.prog) (fn := Try.f4) (s := Rows.hallsLessSpec) (tb := 4) (n := 8) (ss := [.agg G4c, .agg G4d, .c (.i .i64)]) Try.func4 j7e (by kernel_rfl) (by kernel_rfl) (by kernel_rfl) rfl
  (fun ds hd => by
   have hd2 : ds.length = 3 := hd
   match ds, hd2 with
   | [d0, d1, d2], _ => rfl) (by kernel_rfl) (fun xs h => g1u hp xs h) W (fun g cs hg => by cases hg) base args ds gs before hval (fun _ _ => .inl rfl) hW
theorem over (hp : b5b) : Rows.HallsLessSaid :=
 OpenClaim.holds_of_wide 4 Try.f4 rfl rfl rfl rfl rfl rfl rfl ⟨rfl, rfl, rfl, rfl, rfl⟩ rfl rfl rfl rfl rfl (by kernel_rfl) Try.func4 (by kernel_rfl)
  (of_decide_eq_true (by kernel_rfl)) (by unfold Func.isWrapper; first | (rw [if_pos (by decide +kernel)]; kernel_rfl) | (rw [if_neg (by decide +kernel)]; exact ⟨rfl, rfl⟩))
  (fun os started H enc _ => j7l hp os started H enc)
end Go.Proofs.Yteoedeeljnboeaa.HallsLess
