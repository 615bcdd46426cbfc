/- How many bits: of Go's library and of the document. -/
import Derived.Test.YtmlhjobmpjpmnaaCMTwo
import Derived.KernelRfl
set_option linter.all false
set_option linter.unusedVariables false
set_option linter.unusedSimpArgs false
set_option linter.unusedSectionVars false
namespace Go.Nw.CM
def onesF : Nat → Nat → Nat
  | 0, _ => 0
  | k + 1, x => x % 2 + onesF k (x / 2)
def ones (x : Nat) : Nat := onesF 12 x
set_option maxRecDepth 100000 in
theorem ones_all : ((List.range 4096).all fun x => math_bits_OnesCount (x : Int) == some ((ones x : Nat) : Int)) = true := by kernel_rfl
theorem onesCount_eq {x : Nat} (h : x < 4096) : math_bits_OnesCount (x : Int) = some ((ones x : Nat) : Int) := by
  have := List.all_eq_true.1 ones_all x (List.mem_range.2 h)
  simpa using this
theorem onesF_le : ∀ (k x : Nat), onesF k x ≤ k
  | 0, _ => Nat.le_refl _
  | k + 1, x => by have := onesF_le k (x / 2); simp only [onesF]; omega
theorem onesL : ∀ (k x n : Nat), k ≤ 12 → x < 2 ^ k → n + k ≤ 100 → loopM r03_Ones_L5 ((x : Int), (n : Int)) = some ((n + onesF k x : Nat) : Int)
  | 0, x, n, _, h, _ => by
    have : x = 0 := by simpa using h
    subst this
    exact loopM_br rfl
  | k + 1, x, n, hk, h, hn => by
    have hp := Nat.pow_le_pow_right (n := 2) (show 0 < 2 by omega) (show k + 1 ≤ 12 by omega)
    by_cases h0 : x = 0
    · subst h0
      have : ∀ k, onesF k 0 = 0 := fun k => by induction k with
        | zero => rfl
        | succ k ih => simp [onesF, ih]
      rw [this]
      exact loopM_br rfl
    · have e : r03_Ones_L5 ((x : Int), (n : Int)) = some (.nx (((x / 2 : Nat) : Int), ((n + x % 2 : Nat) : Int))) := by
        unfold r03_Ones_L5
        have h1 : (0 : Int) < (x : Int) := by omega
        have h2 := shr_nat (a := x) (y := 1) (by omega)
        have h3 := band_nat (a := x) (b := 1) (by omega) (by omega)
        rw [show ((1 : Nat) : Int) = 1 from rfl] at h2 h3
        simp only [h1, decide_true, if_true, shr_ok (show (0 : Int) ≤ 1 by omega), Option.bind_some, h2, h3, Nat.and_one_is_mod, Nat.shiftRight_eq_div_pow, Nat.pow_one]
        rw [wr_id (by omega) (by omega)]; rfl
      rw [loopM_nx e, onesL k (x / 2) (n + x % 2) (by omega) (by rw [Nat.pow_succ] at h; omega) (by omega)]
      simp only [onesF]
      rw [Nat.add_assoc]
theorem Ones_eq {x : Nat} (h : x < 4096) : r03_Ones (x : Int) = some ((ones x : Nat) : Int) := by
  unfold r03_Ones
  have := onesL 12 x 0 (by omega) (by omega) (by omega)
  rw [show ((0 : Nat) : Int) = 0 from rfl] at this
  rw [this]
  simp [r03_Ones_j2, ones]
end Go.Nw.CM
