/- Plain rules for the printed models: loops over lists, in step with a recursive function. -/
import Derived.Test.YtkoonfmgmgfmdaaDoorNwModel
import Derived.Test.YtkoonfmgmgfmdaaDoorNwHeap
import Derived.Test.YtkoonfmgmgfmdaaDoorNwTyp
set_option linter.all false
set_option linter.unusedVariables false
set_option linter.unusedSimpArgs false
set_option linter.unusedSectionVars false
namespace Go.Nw
theorem j7l {n : Int} (h1 : n ≤ 62) : (0 : Int) < 2 ^ n.toNat ∧ (2 : Int) ^ n.toNat ≤ 4611686018427387904 := by
  have e : (2 : Int) ^ n.toNat = ((2 ^ n.toNat : Nat) : Int) := by simp
  have h2 : 2 ^ n.toNat ≤ 2 ^ 62 := Nat.pow_le_pow_right (by omega) (by omega)
  have h3 : 0 < 2 ^ n.toNat := Nat.pow_pos (by omega)
  rw [e]
  have : (2 : Nat) ^ 62 = 4611686018427387904 := by decide
  omega
theorem j9b {n : Int} (h0 : 0 ≤ n) (h1 : n ≤ 62) : shl .i64 1 n = some (2 ^ n.toNat) := by
  rw [j9d h0, c65]
  have e : Nat.min n.toNat IntKind.i64.bits = n.toNat := by
    have : IntKind.i64.bits = 64 := rfl
    rw [this]; exact Nat.min_eq_left (by omega)
  rw [e, Int.one_mul]
  obtain ⟨h2, h3⟩ := j7l h1
  congr 1
  exact d2d (by omega) (by omega)
theorem j90 {n : Int} (h0 : 0 ≤ n) (h1 : n < 18446744073709551616) : IntKind.wrap .u64 n = n := by
  simp [IntKind.wrap, IntKind.signed, IntKind.bits]; omega
end Go.Nw
