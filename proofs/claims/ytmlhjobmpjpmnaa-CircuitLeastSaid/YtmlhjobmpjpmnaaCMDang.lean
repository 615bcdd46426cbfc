/- The plain laws of the dangers and of the least set. -/
import Derived.Test.YtmlhjobmpjpmnaaCMLeast
set_option linter.all false
set_option linter.unusedVariables false
set_option linter.unusedSimpArgs false
set_option linter.unusedSectionVars false
namespace Go.Nw.CM

theorem wk_len {c : Circuit} (hv : Valid c) (cl : Int) : (wk c cl).length ≤ maxLen := by
  have := hv.hz
  unfold wk
  rw [List.length_map]
  refine Nat.le_trans (List.length_filter_le _ _) ?_
  simp only [List.length_range, maxLen]; omega
theorem nil_len {α : Type} : ([] : List α).length ≤ maxLen := Nat.zero_le _

section
variable {c : Circuit} (hc : OkC c) (hv : Valid c) (hk : circuit_Check c = some 0) (hr : r03_Check c = some 0)
include hc hv hr
theorem rWeak_val (cl : Int) : r03_Weak c cl = some (if inR cl c.Switches.length then (wk c cl, 0) else ([], 1)) := by
  unfold r03_Weak
  simp only [hr, Option.bind_some, rSw hc hv, rweak_eq hc hv]
  cases inR cl c.Switches.length <;> rfl
theorem rCritical_val : r03_Critical c = some (crit c, 0) := by
  unfold r03_Critical
  simp only [hr, Option.bind_some, rcritL hc hv, r03_Critical_j6]; rfl
theorem rPairs_val : r03_Pairs c = some (pairs c, 0) := by
  unfold r03_Pairs
  simp only [hr, Option.bind_some, rpairsL hc hv, r03_Pairs_j6]; rfl
def leastV (c : Circuit) (h : Int) : Int × Int := if inRange : 0 ≤ h ∧ h < c.Hazards then (if least c ((2 ^ h.toNat : Nat) : Int) < 0 then (0, 3) else (least c ((2 ^ h.toNat : Nat) : Int), 0)) else (0, 1)
theorem rLeast_val (h : Int) : r03_Least c h = some (leastV c h) := by
  have h1 := hv.hz
  unfold r03_Least leastV
  simp only [hr, Option.bind_some, not_true_eq_false, decide_false, Bool.false_eq_true, if_false]
  rw [wr_id (n := c.Hazards - 1) (by omega) (by omega)]
  by_cases g : 0 ≤ h ∧ h < c.Hazards
  · have e : r03_within h 0 (c.Hazards - 1) = true := by simp only [r03_within, Bool.and_eq_true, decide_eq_true_eq]; omega
    obtain ⟨k, rfl⟩ : ∃ k : Nat, h = k := ⟨h.toNat, by omega⟩
    simp only [e, g, Bool.not_true, Bool.false_eq_true, if_false, and_self, if_true, dif_pos, rleastL hc hv (h := k) (by omega), Option.bind_some, r03_Least_j8, Int.toNat_natCast]
    by_cases gl : least c ((2 ^ k : Nat) : Int) < 0 <;> simp only [gl, decide_true, decide_false, if_true, if_false, Bool.false_eq_true]
  · have e : r03_within h 0 (c.Hazards - 1) = false := by simp only [r03_within, Bool.and_eq_false_iff, decide_eq_false_iff_not]; omega
    simp only [e, g, Bool.not_false, if_true, dif_neg, not_false_eq_true]
omit hr
include hk
theorem Least_val (h : Int) : circuit_Least c h = some (leastV c h) := by
  have h1 := hv.hz
  have h2 := hv.sw
  unfold circuit_Least leastV
  simp only [hk, Option.bind_some, not_true_eq_false, decide_false, Bool.false_eq_true, if_false]
  by_cases g : 0 ≤ h ∧ h < c.Hazards
  · have e : (decide (h < 0) || decide (c.Hazards ≤ h)) = false := by simp only [Bool.or_eq_false_iff, decide_eq_false_iff_not]; omega
    obtain ⟨k, rfl⟩ : ∃ k : Nat, h = k := ⟨h.toNat, by omega⟩
    simp only [e, g, Bool.false_eq_true, if_false, and_self, if_true, dif_pos, shl_nat (y := c.Switches.length) (by omega), Option.bind_some, (leastL hc hv (h := k) (by omega)).1, circuit_Least_j11, Int.toNat_natCast]
    by_cases gl : least c ((2 ^ k : Nat) : Int) < 0 <;> simp only [gl, decide_true, decide_false, if_true, if_false, Bool.false_eq_true]
  · have e : (decide (h < 0) || decide (c.Hazards ≤ h)) = true := by simp only [Bool.or_eq_true, decide_eq_true_eq]; omega
    simp only [e, g, if_true, dif_neg, not_false_eq_true]
end

theorem Dangers_plain (hw : l03_works = some true) (c : Circuit) (closed hazard : Int) (hc : OkC c) (_ : In64 closed) (_ : In64 hazard) : l03_CircuitDangers c closed hazard = some true := by
  unfold l03_CircuitDangers
  rcases Far_cases hc with e | ⟨e, hl⟩
  · simp [e, hw]
  rcases Check_cases hc hl with ⟨k1, k2, hv⟩ | ⟨k1, k2⟩
  · simp only [e, Option.bind_some, Bool.false_eq_true, if_false, Weak_val hc hv k1, rWeak_val hc hv k2, Critical_val hc hv k1, rCritical_val hc hv k2, Pairs_val hc hv k1, rPairs_val hc hv k2, Least_val hc hv k1, rLeast_val hc hv k2, hw,
      sameInts_self (crit_len hc hv), samePairs_self (l := pairs c) (Nat.le_trans (pairs_len hc hv) (by decide))]
    cases inR closed c.Switches.length with
    | true => simp [sameInts_self (wk_len hv closed)]
    | false => simp [sameInts_self (nil_len (α := Int))]
  · have a1 : circuit_Weak c closed = some ([], 30) := by unfold circuit_Weak; simp [k1]
    have a2 : r03_Weak c closed = some ([], 30) := by unfold r03_Weak; simp [k2]
    have a3 : circuit_Critical c = some ([], 30) := by unfold circuit_Critical; simp [k1]
    have a4 : r03_Critical c = some ([], 30) := by unfold r03_Critical; simp [k2]
    have a5 : circuit_Pairs c = some ([], 30) := by unfold circuit_Pairs; simp [a3]
    have a6 : r03_Pairs c = some ([], 30) := by unfold r03_Pairs; simp [k2]
    have a7 : circuit_Least c hazard = some (0, 30) := by unfold circuit_Least; simp [k1]
    have a8 : r03_Least c hazard = some (0, 30) := by unfold r03_Least; simp [k2]
    simp [e, a1, a2, a3, a4, a5, a6, a7, a8, sameInts_self (nil_len (α := Int)), samePairs_self (nil_len (α := Int × Int)), hw]

theorem Least_plain (hw : l03_works = some true) (c : Circuit) (hazard set : Int) (hc : OkC c) (_ : In64 hazard) (_ : In64 set) : l03_CircuitLeast c hazard set = some true := by
  unfold l03_CircuitLeast
  rcases Far_cases hc with e | ⟨e, hl⟩
  · simp [e, hw]
  rcases Check_cases hc hl with ⟨k1, k2, hv⟩ | ⟨k1, k2⟩
  rotate_left
  · simp [e, k2, hw]
  have h1 := hv.hz
  have h2 := hv.sw
  have h3 := hv.wi
  by_cases g0 : 0 ≤ hazard ∧ hazard < c.Hazards
  rotate_left
  · have : ((false || decide (hazard < 0)) || decide (c.Hazards ≤ hazard)) = true := by simp only [Bool.or_eq_true, decide_eq_true_eq]; omega
    simp only [e, k2, Option.bind_some, Bool.false_eq_true, if_false, not_true_eq_false, decide_false, this, if_true, hw]
  have g1 : ((false || decide (hazard < 0)) || decide (c.Hazards ≤ hazard)) = false := by simp only [Bool.false_or, Bool.or_eq_false_iff, decide_eq_false_iff_not]; omega
  obtain ⟨k, rfl⟩ : ∃ k : Nat, hazard = k := ⟨hazard.toNat, by omega⟩
  have lk : 2 ^ k < 2 ^ c.Hazards.toNat := Nat.pow_lt_pow_right (by omega) (by omega)
  have r1 : inR ((2 ^ k : Nat) : Int) c.Hazards.toNat = true := inR_iff.2 ⟨_, rfl, lk⟩
  have hp := Nat.pow_le_pow_right (n := 2) (show 0 < 2 by omega) (show c.Switches.length ≤ 12 by omega)
  have hp0 : 0 < 2 ^ c.Switches.length := Nat.pow_pos (by omega)
  have r0 : inR (0 : Int) c.Switches.length = true := inR_iff.2 ⟨0, rfl, hp0⟩
  simp only [e, k2, Option.bind_some, Bool.false_eq_true, if_false, not_true_eq_false, decide_false, g1, Least_val hc hv k1, leastV, g0, and_self, dif_pos, Int.toNat_natCast,
    u64_nat (y := k) (by omega), shl_nat (y := k) (by omega), u64_nat (y := c.Switches.length) (by omega), shl_nat (y := c.Switches.length) (by omega), Runs_val hc hv k1, r1, r0, hw]
  rcases least_spec (c := c) ((2 ^ k : Nat) : Int) (2 ^ c.Switches.length) (least c ((2 ^ k : Nat) : Int)) rfl with ⟨hb, g⟩ | ⟨b, hb, g2, g3, g4⟩
  · have e1 : (-1 : Int) < 0 := by omega
    have e2 : wr (((2 ^ c.Switches.length : Nat) : Int) - 1) = ((2 ^ c.Switches.length - 1 : Nat) : Int) := by rw [wr_id (by omega) (by omega)]; omega
    have r2 : inR ((2 ^ c.Switches.length - 1 : Nat) : Int) c.Switches.length = true := inR_iff.2 ⟨_, rfl, by omega⟩
    have := g (2 ^ c.Switches.length - 1) (by omega)
    simp only [hb, e1, if_true, e2, r2, this]
    rfl
  · have e1 : ¬ (b : Int) < 0 := by omega
    have r2 : inR (b : Int) c.Switches.length = true := inR_iff.2 ⟨_, rfl, g2⟩
    simp only [hb, e1, if_false, r2, g3]
    cases r3 : inR set c.Switches.length with
    | false => rfl
    | true =>
      obtain ⟨m, rfl, lm⟩ := inR_iff.1 r3
      have := g4 m lm
      cases f : cnd c ((2 ^ k : Nat) : Int) (m : Int) 0 0 with
      | false => rfl
      | true =>
        have := this f
        have e3 : ((ones b : Nat) : Int) ≤ ((ones m : Nat) : Int) := by omega
        simp only [Ones_eq (x := m) (by omega), Ones_eq (x := b) (by omega), Option.bind_some, e3]
        rfl
end Go.Nw.CM
