/- Plain rules: loops with a counter, sets of numbers as bits. -/
import Derived.Test.YtkoonfmgmgfmdaaDoorNwPlain
set_option linter.all false
set_option linter.unusedVariables false
set_option linter.unusedSimpArgs false
set_option linter.unusedSectionVars false
namespace Go.Nw
theorem d01 {σ τ β : Type} {f : τ → Option (Out τ β)} (n : Nat) (mk : σ → Int → τ) (Inv : Nat → σ → Prop) (P : β → Prop)
    (step : ∀ s (k : Nat), k < n → Inv k s → (∃ s', f (mk s k) = some (.nx (mk s' ((k : Int) + 1))) ∧ Inv (k + 1) s') ∨ ∃ b, f (mk s k) = some (.br b) ∧ P b)
    (fin : ∀ s, Inv n s → ∃ b, f (mk s n) = some (.br b) ∧ P b) {s : σ} (k0 : Nat) (hk0 : k0 ≤ n) (h0 : Inv k0 s) : ∃ b, b07 f (mk s k0) = some b ∧ P b := by
  have key : ∀ (d k : Nat) (s : σ), n - k = d → k ≤ n → Inv k s → ∃ b, b07 f (mk s k) = some b ∧ P b := by
    intro d
    induction d with
    | zero =>
      intro k s hd hk hi
      have : k = n := by omega
      subst this
      obtain ⟨b, h1, h2⟩ := fin s hi
      exact ⟨b, b5l h1, h2⟩
    | succ d ih =>
      intro k s hd hk hi
      rcases step s k (by omega) hi with ⟨s', h1, h2⟩ | ⟨b, h1, h2⟩
      · rw [c0o h1]
        exact ih (k + 1) s' (by omega) (by omega) h2
      · exact ⟨b, b5l h1, h2⟩
  exact key _ k0 s rfl hk0 h0
theorem d73 (a : Nat) (ha : a < 18446744073709551616) : (BitVec.ofInt 64 (a : Int)).toNat = a := by
  rw [BitVec.ofInt_natCast, BitVec.toNat_ofNat]; exact Nat.mod_eq_of_lt (by simpa using ha)
theorem l1c {a : Nat} (ha : a < 9223372036854775808) : IntKind.wrap .i64 (a : Int) = a := d2d (by omega) (by omega)
theorem g1r {a b : Nat} (ha : a < 9223372036854775808) (hb : b < 9223372036854775808) : b6y (a : Int) (b : Int) = ((a &&& b : Nat) : Int) := by
  show IntKind.wrap .i64 ((BitVec.ofInt 64 (a : Int) &&& BitVec.ofInt 64 (b : Int)).toNat : Int) = _
  rw [BitVec.toNat_and, d73 a (by omega), d73 b (by omega)]
  exact l1c (Nat.lt_of_le_of_lt Nat.and_le_left ha)
theorem j9e {a y : Nat} (hy : y ≤ 64) : b8x .i64 (a : Int) (y : Int) = ((a >>> y : Nat) : Int) := by
  have : Nat.min (y : Int).toNat IntKind.i64.bits = y := Nat.min_eq_left (by rw [show IntKind.i64.bits = 64 from rfl]; omega)
  unfold b8x
  rw [this, Nat.shiftRight_eq_div_pow]
  have h2 : (2 : Int) ^ y = ((2 ^ y : Nat) : Int) := by simp
  rw [h2, Int.fdiv_eq_ediv_of_nonneg _ (Int.natCast_nonneg _)]; rfl
theorem g15 {a y : Nat} (ha : a < 9223372036854775808) (hy : y ≤ 64) : b6y (b8x .i64 (a : Int) (y : Int)) 1 = if a.testBit y then 1 else 0 := by
  rw [j9e hy]
  have h1 : a >>> y < 9223372036854775808 := by rw [Nat.shiftRight_eq_div_pow]; exact Nat.lt_of_le_of_lt (Nat.div_le_self _ _) ha
  have := g1r h1 (show (1 : Nat) < 9223372036854775808 by omega)
  rw [show ((1 : Nat) : Int) = 1 from rfl] at this
  rw [this, Nat.testBit, Nat.and_comm]
  have h2 : 1 &&& (a >>> y) = (a >>> y) % 2 := by rw [Nat.and_comm, Nat.and_one_is_mod]
  rw [h2]
  have h3 : (a >>> y) % 2 = 0 ∨ (a >>> y) % 2 = 1 := by omega
  rcases h3 with h3 | h3 <;> rw [h3] <;> rfl
theorem j9c {y : Nat} (hy : y ≤ 62) : shl .i64 1 (y : Int) = some ((2 ^ y : Nat) : Int) := by
  rw [j9b (by omega) (by omega)]; simp
theorem d9n {y : Nat} (hy : y < 18446744073709551616) : IntKind.wrap .u64 (y : Int) = y := j90 (by omega) (by omega)
end Go.Nw
