/- Plain rules for the printed models: loops over lists, in step with a recursive function. -/
import Derived.Test.YtbmfnjehcnbpbaaDoorNwModel
import Derived.Test.YtbmfnjehcnbpbaaDoorNwHeap
import Derived.Test.YtbmfnjehcnbpbaaDoorNwTyp
set_option linter.all false
namespace Go.Nw
theorem g9x {α : Type} {l : List α} {k : Nat} {x : α} {r : List α} (h : l.drop k = x :: r) : get l (k : Int) = some x /\ (k : Int) < l.length /\ l.drop (k + 1) = r /\ x ∈ l := by
 have hlt : k < l.length := by
  rcases Nat.lt_or_ge k l.length with h1 | h1
  ·exact h1
  ·rw [List.drop_eq_nil_of_le h1] at h; cases h
 rw [List.drop_eq_getElem_cons hlt] at h
 obtain ⟨h1, h2⟩ := List.cons.inj h
 exact ⟨by simp [get, hlt, h1], by omega, h2, by rw [<- h1]; exact List.getElem_mem hlt⟩
theorem l23 {k n : Nat} (h : (k : Int) < n) (hn : n <= maxLen) : wr ((k : Int) + 1) = (k : Int) + 1 := b3t (by omega) (by simp only [maxLen] at hn; omega)
theorem l3y {n : Int} (h1 : n <= 62) : (0 : Int) < 2 ^ n.toNat /\ (2 : Int) ^ n.toNat <= 4611686018427387904 := by
 have e : (2 : Int) ^ n.toNat = ((2 ^ n.toNat : Nat) : Int) := by simp
 have h2 : 2 ^ n.toNat <= 2 ^ 62 := Nat.pow_le_pow_right (by omega) (by omega)
 have h3 : 0 < 2 ^ n.toNat := Nat.pow_pos (by omega)
 rw [e]
 have : (2 : Nat) ^ 62 = 4611686018427387904 := by decide
 omega
theorem l5j {n : Int} (h0 : 0 <= n) (h1 : n <= 62) : shl .i64 1 n = some (2 ^ n.toNat) := by
 rw [l5k h0, z6p]
 have e : Nat.min n.toNat IntKind.i64.bits = n.toNat := by
  have : IntKind.i64.bits = 64 := rfl
  rw [this]; exact Nat.min_eq_left (by omega)
 rw [e, Int.one_mul]
 obtain ⟨h2, h3⟩ := l3y h1
 congr 1
 exact g3z (by omega) (by omega)
theorem c9p {n : Int} (h0 : 0 <= n) (h1 : n < 18446744073709551616) : IntKind.wrap .u64 n = n := by
 simp [IntKind.wrap, IntKind.signed, IntKind.bits]; omega
end Go.Nw
