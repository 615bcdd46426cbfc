/- The law TopWatched, closed over its plain law. -/
import Derived.Test.YtinmifhfkkjccaaXMHasWatched
import Derived.Test.YtinmifhfkkjccaaP3
import Derived.Test.YtinmifhfkkjccaaNwLast
import Derived.Test.YtinmifhfkkjccaaRows
import Derived.WalkKit
import Derived.ProofKit
set_option linter.all false
namespace Go.Proofs.Ytinmifhfkkjccaa.TopWatched
open Go.Nw Go.Nw.XM Go.ChangeShapes Go.WideShapes Go.ChangeAt Go.RowKit
instance : Bd := ⟨maxLen, Nat.le_refl _⟩
theorem own : ownKnob Try.prog.godebug = none := by kernel_rfl
theorem j7e : laidOutB Try.prog = true := by kernel_rfl
def b5b : Prop := ∀ (m : Escalator) (s : Stop) (loads : List Int), J8i m -> J8j s -> (OkL b5k) loads -> J78 m s loads = some true
theorem g1u (hp : b5b) (xs : List AV) (hZ : b7z [.agg J91, .agg J92, .c p66] xs) : b0n Try.prog "newel/neweltop.TopWatched" xs (B true) [] := by
 obtain ⟨a0, xs, rfl, h0, g0⟩ := g1z hZ
 obtain ⟨a1, xs, rfl, h1, g1⟩ := g1z g0
 obtain ⟨a2, xs, rfl, h2, g2⟩ := g1z g1
 obtain ⟨m, rfl, hk0⟩ := K29 h0
 obtain ⟨s, rfl, hk1⟩ := K3a h1
 obtain ⟨loads, rfl, hk2⟩ := p7m h2
 rw [j8l g2]
 exact (K07 m s loads true (hp m s loads hk0 hk1 hk2)).o
set_option maxRecDepth 100000 in
theorem j7l (hp : b5b) (os : Os) (started : os.Started) (H : Type) (enc : TypeId × Value -> H) :
  ReturnsInHanded {} Try.checked os 3 .any (Rows.topWatchedSpec.pre6 enc Try.prog Try.f3 Rows.topWatchedRow.domain false) (Rows.topWatchedSpec.post enc Try.prog Try.f3 false true false false) := by
 refine returnsInHanded_of_change (C := Try.checked) own started (by kernel_rfl) Try.func3
  (ChangeSpec.witness6 (enc := enc) (C := Try.checked) false ⟨#[], #[.agg #[.bool false, .int .i64 0, .int .i64 0, .int .i64 0, .int .i64 0, .slice none 0 0], .agg #[.int .i64 0, .int .i64 0, .int .i64 0, .int .i64 0], .slice none 0 0], []⟩ 8 (by kernel_rfl) (by kernel_rfl) (by kernel_rfl) (by kernel_rfl)) ?_
 intro W base args ds gs before hval hW _ _
 exact j7h (bk := fun _ => 0) (P := Try.prog) (fn := Try.f3) (s := Rows.topWatchedSpec) (tb := 4) (n := 8) (ss := [.agg J91, .agg J92, .c p66]) Try.func3 j7e (by kernel_rfl) (by kernel_rfl) (by kernel_rfl) rfl
  (fun ds hd => by
   have hd2 : ds.length = 3 := hd
   match ds, hd2 with
   | [d0, d1, d2], _ => rfl) (by kernel_rfl) (fun xs h => g1u hp xs h) W (fun g cs hg => by cases hg) base args ds gs before hval (fun _ _ => .inl rfl) hW
theorem over (hp : b5b) : Rows.TopWatchedSaid :=
 OpenClaim.holds_of_wide 3 Try.f3 rfl rfl rfl rfl rfl rfl rfl ⟨rfl, rfl, rfl, rfl, rfl⟩ rfl rfl rfl rfl rfl (by kernel_rfl) Try.func3 (by kernel_rfl)
  (of_decide_eq_true (by kernel_rfl)) (by unfold Func.isWrapper; first | (rw [if_pos (by decide +kernel)]; kernel_rfl) | (rw [if_neg (by decide +kernel)]; exact ⟨rfl, rfl⟩))
  (fun os started H enc _ => j7l hp os started H enc)
end Go.Proofs.Ytinmifhfkkjccaa.TopWatched
