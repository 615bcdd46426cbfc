/- The law TopBoth, closed over its plain law. -/
import Derived.Test.YtojneiildpnpiaaEMHasBoth
import Derived.Test.YtojneiildpnpiaaP7
import Derived.Test.YtojneiildpnpiaaNwLast
import Derived.Test.YtojneiildpnpiaaRows
import Derived.WalkKit
import Derived.ProofKit
set_option linter.all false
namespace Go.Proofs.Ytojneiildpnpiaa.TopBoth
open Go.Nw Go.Nw.EM Go.ChangeShapes Go.WideShapes Go.ChangeAt Go.RowKit
instance : Bd := ⟨maxLen, Nat.le_refl _⟩
theorem own : ownKnob Try.prog.godebug = none := by kernel_rfl
theorem j7e : laidOutB Try.prog = true := by kernel_rfl
def b5b : Prop := ∀ (x : neweltop_Room) (other : Int), N1e x -> b5k other -> N0z x other = some true
theorem g1u (hp : b5b) (xs : List AV) (hZ : b7z [.agg N2s, .c (.i .i64)] xs) : b0n Try.prog "newel/neweltop.TopBoth" xs (B true) [] := by
 obtain ⟨a0, xs, rfl, h0, g0⟩ := g1z hZ
 obtain ⟨a1, xs, rfl, h1, g1⟩ := g1z g0
 obtain ⟨x, rfl, hk0⟩ := N7u h0
 obtain ⟨other, rfl, hk1⟩ := B4j h1
 rw [j8l g1]
 exact (N4n x other true (hp x other hk0 hk1)).o
set_option maxRecDepth 100000 in
theorem j7l (hp : b5b) (os : Os) (started : os.Started) (H : Type) (enc : TypeId × Value -> H) :
  ReturnsInHanded {} Try.checked os 3 .any (Rows.topBothSpec.pre6 enc Try.prog Try.f3 Rows.topBothRow.domain false) (Rows.topBothSpec.post enc Try.prog Try.f3 false true false false) := by
 refine returnsInHanded_of_change (C := Try.checked) own started (by kernel_rfl) Try.func3
  (ChangeSpec.witness6 (enc := enc) (C := Try.checked) false ⟨#[], #[.agg #[.int .i64 0, .int .i64 0, .int .i64 0, .int .i64 0], .int .i64 0], []⟩ 8 (by kernel_rfl) (by kernel_rfl) (by kernel_rfl) (by kernel_rfl)) ?_
 intro W base args ds gs before hval hW _ _
 exact j7h (bk := fun _ => 0) (P := Try.prog) (fn := Try.f3) (s := Rows.topBothSpec) (tb := 4) (n := 8) (ss := [.agg N2s, .c (.i .i64)]) Try.func3 j7e (by kernel_rfl) (by kernel_rfl) (by kernel_rfl) rfl
  (fun ds hd => by
   have hd2 : ds.length = 2 := hd
   match ds, hd2 with
   | [d0, d1], _ => rfl) (by kernel_rfl) (fun xs h => g1u hp xs h) W (fun g cs hg => by cases hg) base args ds gs before hval (fun _ _ => .inl rfl) hW
theorem over (hp : b5b) : Rows.TopBothSaid :=
 OpenClaim.holds_of_wide 3 Try.f3 rfl rfl rfl rfl rfl rfl rfl ⟨rfl, rfl, rfl, rfl, rfl⟩ rfl rfl rfl rfl rfl (by kernel_rfl) Try.func3 (by kernel_rfl)
  (of_decide_eq_true (by kernel_rfl)) (by unfold Func.isWrapper; first | (rw [if_pos (by decide +kernel)]; kernel_rfl) | (rw [if_neg (by decide +kernel)]; exact ⟨rfl, rfl⟩))
  (fun os started H enc _ => j7l hp os started H enc)
end Go.Proofs.Ytojneiildpnpiaa.TopBoth
