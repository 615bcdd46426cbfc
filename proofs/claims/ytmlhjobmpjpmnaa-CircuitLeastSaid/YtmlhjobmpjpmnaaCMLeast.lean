/- The least set of switches: of the program and of the document. -/
import Derived.Test.YtmlhjobmpjpmnaaCMOnes
set_option linter.all false
set_option linter.unusedVariables false
set_option linter.unusedSimpArgs false
set_option linter.unusedSectionVars false
namespace Go.Nw
theorem loop_fold {σ β : Type} {f : (σ × Int) → Option (Out (σ × Int) β)} (n : Nat) (g : Nat → σ → σ) (out : σ → β) (Inv : Nat → σ → Prop)
    (step : ∀ (s : σ) (k : Nat), k < n → Inv k s → f (s, (k : Int)) = some (.nx (g k s, (k : Int) + 1)) ∧ Inv (k + 1) (g k s))
    (fin : ∀ s, Inv n s → f (s, (n : Int)) = some (.br (out s))) (s : σ) (h0 : Inv 0 s) : loopM f (s, 0) = some (out ((List.range n).foldl (fun s k => g k s) s)) ∧ Inv n ((List.range n).foldl (fun s k => g k s) s) := by
  have key : ∀ (d k : Nat) (s : σ), n - k = d → k ≤ n → Inv k s → loopM f (s, (k : Int)) = some (out ((List.range' k d).foldl (fun s k => g k s) s)) ∧ Inv n ((List.range' k d).foldl (fun s k => g k s) s) := by
    intro d
    induction d with
    | zero =>
      intro k s hd hk hi
      have : k = n := by omega
      subst this
      rw [loopM_br (fin s hi)]; exact ⟨rfl, hi⟩
    | succ d ih =>
      intro k s hd hk hi
      obtain ⟨e1, e2⟩ := step s k (by omega) hi
      rw [loopM_nx e1]
      have := ih (k + 1) (g k s) (by omega) (by omega) e2
      rw [show ((k + 1 : Nat) : Int) = (k : Int) + 1 by omega] at this
      rw [List.range'_succ]
      exact this
  have := key n 0 s (by omega) (by omega) h0
  rw [List.range_eq_range']
  exact this
end Go.Nw
namespace Go.Nw.CM
def takes (c : Circuit) (hz : Int) (k : Nat) (best : Int) : Bool := (decide (best < 0) || decide (ones k < ones best.toNat)) && cnd c hz (k : Int) 0 0
def stepL (c : Circuit) (hz : Int) (k : Nat) (best : Int) : Int := if takes c hz k best then (k : Int) else best
def least (c : Circuit) (hz : Int) : Int := (List.range (2 ^ c.Switches.length)).foldl (fun s k => stepL c hz k s) (-1)
def InvL (k : Nat) (best : Int) : Prop := best = -1 ∨ ∃ b : Nat, best = b ∧ b < k
theorem stepL_inv {c : Circuit} {hz : Int} {k : Nat} {best : Int} (h : InvL k best) : InvL (k + 1) (stepL c hz k best) := by
  unfold stepL
  split
  · exact .inr ⟨k, rfl, by omega⟩
  · rcases h with h | ⟨b, h1, h2⟩
    · exact .inl h
    · exact .inr ⟨b, h1, by omega⟩

section
variable {c : Circuit} (hc : OkC c) (hv : Valid c) {h : Nat} (hh : h < c.Hazards.toNat)
include hc hv hh
theorem leastL : loopM (circuit_Least_L14 c (h : Int) ((2 ^ c.Switches.length : Nat) : Int)) (-1, 0) = some (least c ((2 ^ h : Nat) : Int)) ∧ InvL (2 ^ c.Switches.length) (least c ((2 ^ h : Nat) : Int)) := by
  have h1 := hv.hz
  have h2 := hv.sw
  have h3 := hv.wi
  have hp := Nat.pow_le_pow_right (n := 2) (show 0 < 2 by omega) (show c.Switches.length ≤ 12 by omega)
  refine loop_fold (f := circuit_Least_L14 c (h : Int) ((2 ^ c.Switches.length : Nat) : Int)) (2 ^ c.Switches.length) (stepL c ((2 ^ h : Nat) : Int)) (fun s => s) InvL (fun best k hk hi => ⟨?_, stepL_inv hi⟩) (fun best _ => by
    unfold circuit_Least_L14
    simp only [Int.lt_irrefl, decide_false, Bool.false_eq_true, if_false]) (-1) (.inl rfl)
  unfold circuit_Least_L14
  have e1 : (k : Int) < ((2 ^ c.Switches.length : Nat) : Int) := by omega
  simp only [e1, decide_true, if_true, u64_nat (y := k) (by omega), onesCount_eq (x := k) (by omega), shl_nat (y := h) (by omega), Option.bind_some, wire_cnd hc hv _ (k : Int) 0 0 (by omega) (by omega), circuit_Least_j18]
  rw [wr_k hk (by omega)]
  rcases hi with rfl | ⟨b, rfl, hb⟩
  · have e2 : ¬ (0 : Int) ≤ -1 := by omega
    simp only [e2, decide_false, Bool.false_eq_true, if_false, Option.bind_some, stepL, takes]
    have e3 : (-1 : Int) < 0 := by omega
    simp only [e3, decide_true, Bool.true_or, Bool.true_and]
    cases cnd c ((2 ^ h : Nat) : Int) (k : Int) 0 0 <;> rfl
  · have e2 : (0 : Int) ≤ (b : Int) := by omega
    have e3 : ¬ (b : Int) < 0 := by omega
    simp only [e2, decide_true, if_true, u64_nat (y := b) (by omega), onesCount_eq (x := b) (by omega), Option.bind_some, stepL, takes, e3, decide_false, Bool.false_or, Int.toNat_natCast]
    have e4 : decide (((ones b : Nat) : Int) ≤ ((ones k : Nat) : Int)) = !decide (ones k < ones b) := by
      by_cases g : ones k < ones b
      · have : ¬ ((ones b : Nat) : Int) ≤ ((ones k : Nat) : Int) := by omega
        simp only [g, this, decide_true, decide_false, Bool.not_true]
      · have : ((ones b : Nat) : Int) ≤ ((ones k : Nat) : Int) := by omega
        simp only [g, this, decide_true, decide_false, Bool.not_false]
    rw [e4]
    cases decide (ones k < ones b) <;> cases cnd c ((2 ^ h : Nat) : Int) (k : Int) 0 0 <;> rfl
theorem rleastL : loopM (r03_Least_L11 c (h : Int)) (-1, 0) = some (least c ((2 ^ h : Nat) : Int)) := by
  have h1 := hv.hz
  have h2 := hv.sw
  have h3 := hv.wi
  have hp := Nat.pow_le_pow_right (n := 2) (show 0 < 2 by omega) (show c.Switches.length ≤ 12 by omega)
  refine (loop_fold (f := r03_Least_L11 c (h : Int)) (2 ^ c.Switches.length) (stepL c ((2 ^ h : Nat) : Int)) (fun s => s) InvL (fun best k hk hi => ⟨?_, stepL_inv hi⟩) (fun best _ => by
    unfold r03_Least_L11
    simp only [u64_nat (y := c.Switches.length) (by omega), shl_nat (y := c.Switches.length) (by omega), Option.bind_some, Int.lt_irrefl, decide_false, Bool.false_eq_true, if_false]) (-1) (.inl rfl)).1
  unfold r03_Least_L11
  have e1 : (k : Int) < ((2 ^ c.Switches.length : Nat) : Int) := by omega
  simp only [u64_nat (y := c.Switches.length) (by omega), shl_nat (y := c.Switches.length) (by omega), Option.bind_some, e1, decide_true, if_true, Ones_eq (x := k) (by omega), u64_nat (y := h) (by omega), shl_nat (y := h) (by omega), ref_cnd hc hv 0 _ _ _ , r03_Least_j17]
  rw [wr_k hk (by omega)]
  rcases hi with rfl | ⟨b, rfl, hb⟩
  · have e2 : (-1 : Int) < 0 := by omega
    simp only [e2, decide_true, if_true, Option.bind_some, stepL, takes, Bool.true_or, Bool.true_and, ref_cnd hc hv _ (k : Int) 0 0 (by omega) (by omega)]
    cases cnd c ((2 ^ h : Nat) : Int) (k : Int) 0 0 <;> rfl
  · have e3 : ¬ (b : Int) < 0 := by omega
    simp only [Ones_eq (x := b) (by omega), Option.bind_some, stepL, takes, e3, decide_false, Bool.false_or, Int.toNat_natCast, ref_cnd hc hv _ (k : Int) 0 0 (by omega) (by omega), Bool.false_eq_true, if_false]
    have e4 : decide (((ones k : Nat) : Int) < ((ones b : Nat) : Int)) = decide (ones k < ones b) := by
      by_cases g : ones k < ones b
      · have : ((ones k : Nat) : Int) < ((ones b : Nat) : Int) := by omega
        simp only [g, this]
      · have : ¬ ((ones k : Nat) : Int) < ((ones b : Nat) : Int) := by omega
        simp only [g, this]
    rw [e4]
    cases decide (ones k < ones b) <;> cases cnd c ((2 ^ h : Nat) : Int) (k : Int) 0 0 <;> rfl
omit hc hv hh in
theorem least_spec (hz : Int) (n : Nat) (s : Int) (hs : s = (List.range n).foldl (fun s k => stepL c hz k s) (-1)) : (s = -1 ∧ ∀ j : Nat, j < n → cnd c hz (j : Int) 0 0 = false) ∨
    ∃ b : Nat, s = b ∧ b < n ∧ cnd c hz (b : Int) 0 0 = true ∧ ∀ j : Nat, j < n → cnd c hz (j : Int) 0 0 = true → ones b ≤ ones j := by
  induction n generalizing s with
  | zero => exact .inl ⟨by rw [hs]; rfl, fun j h => by omega⟩
  | succ n ih =>
    rw [List.range_succ, List.foldl_append] at hs
    simp only [List.foldl_cons, List.foldl_nil] at hs
    have ih' := ih _ rfl
    generalize (List.range n).foldl (fun s k => stepL c hz k s) (-1) = t at *
    subst hs
    unfold stepL takes
    rcases ih' with ⟨rfl, g⟩ | ⟨b, rfl, g1, g2, g3⟩
    · have e : (-1 : Int) < 0 := by omega
      simp only [e, decide_true, Bool.true_or, Bool.true_and]
      cases hx : cnd c hz (n : Int) 0 0 with
      | false =>
        refine .inl ⟨rfl, fun j hj => ?_⟩
        by_cases ej : j = n
        · rw [ej]; exact hx
        · exact g j (by omega)
      | true =>
        refine .inr ⟨n, rfl, by omega, hx, fun j hj hj2 => ?_⟩
        by_cases ej : j = n
        · rw [ej]; exact Nat.le_refl _
        · rw [g j (by omega)] at hj2; cases hj2
    · have e : ¬ (b : Int) < 0 := by omega
      simp only [e, decide_false, Bool.false_or, Int.toNat_natCast]
      by_cases o : ones n < ones b
      · simp only [o, decide_true, Bool.true_and]
        cases hx : cnd c hz (n : Int) 0 0 with
        | false =>
          refine .inr ⟨b, rfl, by omega, g2, fun j hj hj2 => ?_⟩
          by_cases ej : j = n
          · rw [ej, hx] at hj2; cases hj2
          · exact g3 j (by omega) hj2
        | true =>
          refine .inr ⟨n, rfl, by omega, hx, fun j hj hj2 => ?_⟩
          by_cases ej : j = n
          · rw [ej]; exact Nat.le_refl _
          · have := g3 j (by omega) hj2; omega
      · simp only [o, decide_false, Bool.false_and]
        refine .inr ⟨b, rfl, by omega, g2, fun j hj hj2 => ?_⟩
        by_cases ej : j = n
        · rw [ej]; omega
        · exact g3 j (by omega) hj2
end
end Go.Nw.CM
