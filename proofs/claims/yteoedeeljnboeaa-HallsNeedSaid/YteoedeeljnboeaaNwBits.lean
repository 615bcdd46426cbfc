/- Plain rules: loops with a counter, sets of numbers as bits. -/
import Derived.Test.YteoedeeljnboeaaNwPlain
set_option linter.all false
set_option linter.unusedVariables false
set_option linter.unusedSimpArgs false
set_option linter.unusedSectionVars false
namespace Go.Nw

/-- A loop with a counter: an invariant, and what it answers. -/
theorem loop_inv {σ τ β : Type} {f : τ → Option (Out τ β)} (n : Nat) (mk : σ → Int → τ) (Inv : Nat → σ → Prop) (P : β → Prop)
    (step : ∀ s (k : Nat), k < n → Inv k s → (∃ s', f (mk s k) = some (.nx (mk s' ((k : Int) + 1))) ∧ Inv (k + 1) s') ∨ ∃ b, f (mk s k) = some (.br b) ∧ P b)
    (fin : ∀ s, Inv n s → ∃ b, f (mk s n) = some (.br b) ∧ P b) {s : σ} (k0 : Nat) (hk0 : k0 ≤ n) (h0 : Inv k0 s) : ∃ b, loopM f (mk s k0) = some b ∧ P b := by
  have key : ∀ (d k : Nat) (s : σ), n - k = d → k ≤ n → Inv k s → ∃ b, loopM f (mk s k) = some b ∧ P b := by
    intro d
    induction d with
    | zero =>
      intro k s hd hk hi
      have : k = n := by omega
      subst this
      obtain ⟨b, h1, h2⟩ := fin s hi
      exact ⟨b, loopM_br h1, h2⟩
    | succ d ih =>
      intro k s hd hk hi
      rcases step s k (by omega) hi with ⟨s', h1, h2⟩ | ⟨b, h1, h2⟩
      · rw [loopM_nx h1]
        exact ih (k + 1) s' (by omega) (by omega) h2
      · exact ⟨b, loopM_br h1, h2⟩
  exact key _ k0 s rfl hk0 h0

/-- A loop that takes some of the numbers. -/
theorem loop_filter {α : Type} {f : (List α × Int) → Option (Out (List α × Int) (List α))} (n B : Nat) (p : Nat → Bool) (e : Nat → α)
    (step : ∀ (l : List α) (k : Nat), k < n → l.length ≤ B + k → f (l, (k : Int)) = some (.nx (if p k then l ++ [e k] else l, (k : Int) + 1)))
    (fin : ∀ l, f (l, (n : Int)) = some (.br l)) (l0 : List α) (k0 : Nat) (hk : k0 ≤ n) (hl : l0.length ≤ B + k0) :
    loopM f (l0, (k0 : Int)) = some (l0 ++ ((List.range' k0 (n - k0)).filter p).map e) := by
  have key : ∀ (d k : Nat) (l : List α), n - k = d → k ≤ n → l.length ≤ B + k → loopM f (l, (k : Int)) = some (l ++ ((List.range' k d).filter p).map e) := by
    intro d
    induction d with
    | zero =>
      intro k s hd hk hi
      have : k = n := by omega
      subst this
      rw [loopM_br (fin s)]; simp
    | succ d ih =>
      intro k s hd hk hi
      rw [loopM_nx (step s k (by omega) hi)]
      have := ih (k + 1) (if p k then s ++ [e k] else s) (by omega) (by omega) (by split <;> (try simp only [List.length_append, List.length_cons, List.length_nil]) <;> omega)
      rw [show ((k + 1 : Nat) : Int) = (k : Int) + 1 by omega] at this
      rw [this, List.range'_succ]
      cases hp : p k <;> simp [hp]
  exact key _ k0 l0 rfl hk hl
theorem loop_filter0 {α : Type} {f : (List α × Int) → Option (Out (List α × Int) (List α))} (n : Nat) (p : Nat → Bool) (e : Nat → α)
    (step : ∀ (l : List α) (k : Nat), k < n → l.length ≤ k → f (l, (k : Int)) = some (.nx (if p k then l ++ [e k] else l, (k : Int) + 1)))
    (fin : ∀ l, f (l, (n : Int)) = some (.br l)) : loopM f ([], 0) = some (((List.range n).filter p).map e) := by
  have := loop_filter n 0 p e (fun l k h1 h2 => step l k h1 (by omega)) fin [] 0 (Nat.zero_le _) (Nat.zero_le _)
  rw [List.range_eq_range']
  simpa using this

theorem ofInt_nat (a : Nat) (ha : a < 18446744073709551616) : (BitVec.ofInt 64 (a : Int)).toNat = a := by
  rw [BitVec.ofInt_natCast, BitVec.toNat_ofNat]; exact Nat.mod_eq_of_lt (by simpa using ha)
theorem wrap_nat {a : Nat} (ha : a < 9223372036854775808) : IntKind.wrap .i64 (a : Int) = a := wrap_id (by omega) (by omega)
theorem band_nat {a b : Nat} (ha : a < 9223372036854775808) (hb : b < 9223372036854775808) : band (a : Int) (b : Int) = ((a &&& b : Nat) : Int) := by
  show IntKind.wrap .i64 ((BitVec.ofInt 64 (a : Int) &&& BitVec.ofInt 64 (b : Int)).toNat : Int) = _
  rw [BitVec.toNat_and, ofInt_nat a (by omega), ofInt_nat b (by omega)]
  exact wrap_nat (Nat.lt_of_le_of_lt Nat.and_le_left ha)
theorem band_any {a : Nat} (b : Int) (ha : a < 9223372036854775808) : band (a : Int) b = ((a &&& (BitVec.ofInt 64 b).toNat : Nat) : Int) := by
  show IntKind.wrap .i64 ((BitVec.ofInt 64 (a : Int) &&& BitVec.ofInt 64 b).toNat : Int) = _
  rw [BitVec.toNat_and, ofInt_nat a (by omega)]
  exact wrap_nat (Nat.lt_of_le_of_lt Nat.and_le_left ha)
theorem bor_nat {a b : Nat} (ha : a < 9223372036854775808) (hb : b < 9223372036854775808) : bor (a : Int) (b : Int) = ((a ||| b : Nat) : Int) := by
  show IntKind.wrap .i64 ((BitVec.ofInt 64 (a : Int) ||| BitVec.ofInt 64 (b : Int)).toNat : Int) = _
  rw [BitVec.toNat_or, ofInt_nat a (by omega), ofInt_nat b (by omega)]
  exact wrap_nat (show _ < 2 ^ 63 from Nat.or_lt_two_pow ha hb)
theorem shr_nat {a y : Nat} (hy : y ≤ 64) : shrK .i64 (a : Int) (y : Int) = ((a >>> y : Nat) : Int) := by
  have : Nat.min (y : Int).toNat IntKind.i64.bits = y := Nat.min_eq_left (by rw [show IntKind.i64.bits = 64 from rfl]; omega)
  unfold shrK
  rw [this, Nat.shiftRight_eq_div_pow]
  have h2 : (2 : Int) ^ y = ((2 ^ y : Nat) : Int) := by simp
  rw [h2, Int.fdiv_eq_ediv_of_nonneg _ (Int.natCast_nonneg _)]; rfl
theorem bit_eq {a y : Nat} (ha : a < 9223372036854775808) (hy : y ≤ 64) : band (shrK .i64 (a : Int) (y : Int)) 1 = if a.testBit y then 1 else 0 := by
  rw [shr_nat hy]
  have h1 : a >>> y < 9223372036854775808 := by rw [Nat.shiftRight_eq_div_pow]; exact Nat.lt_of_le_of_lt (Nat.div_le_self _ _) ha
  have := band_nat h1 (show (1 : Nat) < 9223372036854775808 by omega)
  rw [show ((1 : Nat) : Int) = 1 from rfl] at this
  rw [this, Nat.testBit, Nat.and_comm]
  have h2 : 1 &&& (a >>> y) = (a >>> y) % 2 := by rw [Nat.and_comm, Nat.and_one_is_mod]
  rw [h2]
  have h3 : (a >>> y) % 2 = 0 ∨ (a >>> y) % 2 = 1 := by omega
  rcases h3 with h3 | h3 <;> rw [h3] <;> rfl
theorem shl_nat {y : Nat} (hy : y ≤ 62) : shl .i64 1 (y : Int) = some ((2 ^ y : Nat) : Int) := by
  rw [shl1 (by omega) (by omega)]; simp
theorem u64_nat {y : Nat} (hy : y < 18446744073709551616) : IntKind.wrap .u64 (y : Int) = y := u64_id (by omega) (by omega)
theorem pow_lt {y : Nat} (hy : y ≤ 62) : 2 ^ y < 9223372036854775808 := by
  have := Nat.pow_le_pow_right (n := 2) (by omega) hy
  omega

def Sub (a b : Nat) : Prop := ∀ i, a.testBit i = true → b.testBit i = true
theorem sub_refl (a : Nat) : Sub a a := fun _ h => h
theorem sub_and (a b : Nat) : Sub (a &&& b) a := fun i h => by simp at h; exact h.1
theorem sub_or_l (a b : Nat) : Sub a (a ||| b) := fun i h => by simp [h]
theorem sub_or_r (a b : Nat) : Sub b (a ||| b) := fun i h => by simp [h]
theorem sub_zero (a : Nat) : Sub 0 a := fun i h => by simp at h
theorem and_zero_mono {x a b : Nat} (h : Sub a b) (hb : x &&& b = 0) : x &&& a = 0 := by
  apply Nat.eq_of_testBit_eq
  intro i
  have := congrArg (·.testBit i) hb
  simp only [Nat.testBit_and, Nat.zero_testBit] at this ⊢
  cases hx : x.testBit i with
  | false => rfl
  | true =>
    rw [hx] at this
    cases ha : a.testBit i with
    | false => rfl
    | true => rw [h i ha] at this; cases this
theorem sub_pow {h b : Nat} (hb : b.testBit h = true) : Sub (2 ^ h) b := fun i hi => by
  rw [Nat.testBit_two_pow] at hi
  have : h = i := by simpa using hi
  rw [← this]; exact hb
theorem bit_of_pos {n k : Nat} (h0 : n ≠ 0) (hn : n < 2 ^ k) : ∃ i, i < k ∧ n.testBit i = true := by
  obtain ⟨i, hi⟩ := Nat.exists_testBit_of_ne_zero h0
  refine ⟨i, ?_, hi⟩
  rcases Nat.lt_or_ge i k with h | h
  · exact h
  · have : n < 2 ^ i := Nat.lt_of_lt_of_le hn (Nat.pow_le_pow_right (by omega) h)
    rw [Nat.testBit_lt_two_pow this] at hi; cases hi
end Go.Nw
