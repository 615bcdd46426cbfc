/- The pairs, of the program and of the document. -/
import Derived.Test.YtmlhjobmpjpmnaaCMWeak
set_option linter.all false
set_option linter.unusedVariables false
set_option linter.unusedSimpArgs false
set_option linter.unusedSectionVars false
namespace Go.Nw
theorem loop_flat {α : Type} {f : (List α × Int) → Option (Out (List α × Int) (List α))} (n B : Nat) (g : Nat → List α) (hB : ∀ k, (g k).length ≤ B)
    (step : ∀ (l : List α) (k : Nat), k < n → l.length ≤ B * k → f (l, (k : Int)) = some (.nx (l ++ g k, (k : Int) + 1)))
    (fin : ∀ l, f (l, (n : Int)) = some (.br l)) : loopM f ([], 0) = some ((List.range n).flatMap g) := by
  have key : ∀ (d k : Nat) (l : List α), n - k = d → k ≤ n → l.length ≤ B * k → loopM f (l, (k : Int)) = some (l ++ (List.range' k d).flatMap g) := by
    intro d
    induction d with
    | zero =>
      intro k s hd hk hi
      have : k = n := by omega
      subst this
      rw [loopM_br (fin s)]; simp
    | succ d ih =>
      intro k s hd hk hi
      rw [loopM_nx (step s k (by omega) hi)]
      have := ih (k + 1) (s ++ g k) (by omega) (by omega) (by rw [List.length_append, Nat.mul_succ]; have := hB k; omega)
      rw [show ((k + 1 : Nat) : Int) = (k : Int) + 1 by omega] at this
      rw [this, List.range'_succ]
      simp
  have := key n 0 [] (by omega) (by omega) (Nat.zero_le _)
  rw [List.range_eq_range']
  simpa using this
end Go.Nw
namespace Go.Nw.CM
def pq (c : Circuit) (i k : Nat) : Bool := !isCrit c i && !isCrit c k && decide ((0 : Int) < ((wk c ((2 ^ i ||| 2 ^ k : Nat) : Int)).length : Int))
def pairI (i k : Nat) : Int × Int := (cast i, cast k)
def pairsAt (c : Circuit) (i : Nat) : List (Int × Int) := ((List.range' (i + 1) (c.Switches.length - (i + 1))).filter (pq c i)).map (pairI i)
def pairs (c : Circuit) : List (Int × Int) := (List.range c.Switches.length).flatMap (pairsAt c)
theorem pairsAt_len (c : Circuit) (i : Nat) : (pairsAt c i).length ≤ c.Switches.length := by
  unfold pairsAt
  rw [List.length_map]
  exact Nat.le_trans (List.length_filter_le _ _) (by simp)
theorem mem_pairs {c : Circuit} {i k : Nat} : ((i : Int), (k : Int)) ∈ pairs c ↔ i < k ∧ k < c.Switches.length ∧ pq c i k = true := by
  unfold pairs pairsAt
  simp only [List.mem_flatMap, List.mem_range, List.mem_map, List.mem_filter, List.mem_range'_1, pairI, cast, Prod.mk.injEq]
  constructor
  · rintro ⟨a, h1, b, ⟨⟨h2, h3⟩, h4⟩, h5, h6⟩
    have e1 : a = i := by omega
    have e2 : b = k := by omega
    subst e1; subst e2
    exact ⟨by omega, by omega, h4⟩
  · rintro ⟨h1, h2, h3⟩
    exact ⟨i, by omega, k, ⟨⟨by omega, by omega⟩, h3⟩, rfl, rfl⟩
theorem isCrit_eq {c : Circuit} {i : Nat} : isCrit c i = !decide (((wk c ((2 ^ i : Nat) : Int)).length : Int) = 0) := by
  unfold isCrit
  by_cases h : ((wk c ((2 ^ i : Nat) : Int)).length : Int) = 0
  · rw [h]; rfl
  · have : (0 : Int) < ((wk c ((2 ^ i : Nat) : Int)).length : Int) := by omega
    simp only [h, this, decide_true, decide_false, Bool.not_false]
section
variable {c : Circuit} (hc : OkC c) (hv : Valid c)
include hc hv

theorem crit_len : (crit c).length ≤ maxLen := by
  have := hv.sw
  unfold crit
  rw [List.length_map]
  refine Nat.le_trans (List.length_filter_le _ _) ?_
  simp only [List.length_range, maxLen]; omega

theorem pairsL {e : Int} : loopM (circuit_Pairs_L15 c (crit c, e)) ([], 0) = some (pairs c) := by
  have h1 := hv.sw
  refine loop_flat (f := circuit_Pairs_L15 c (crit c, e)) c.Switches.length c.Switches.length (pairsAt c) (pairsAt_len c) (fun l k hk hl => ?_) (fun l => by
      unfold circuit_Pairs_L15
      simp)
  have hb : c.Switches.length * k ≤ 12 * 12 := Nat.mul_le_mul (by omega) (by omega)
  unfold circuit_Pairs_L15
  have e1 : (k : Int) < (c.Switches.length : Int) := by omega
  simp only [e1, decide_true, if_true]
  rw [wr_k hk (by omega)]
  have := loop_filter (f := circuit_Pairs_L13 c (crit c, e) (k : Int)) c.Switches.length l.length (pq c k) (pairI k) (fun l2 j hj hl2 => by
      unfold circuit_Pairs_L13
      have e2 : (j : Int) < (c.Switches.length : Int) := by omega
      simp only [e2, decide_true, if_true, shl_nat (y := k) (by omega), shl_nat (y := j) (by omega), Option.bind_some, contains_int (crit_len hc hv), circuit_Pairs_j16,
        bor_nat (pow_lt (y := k) (by omega)) (pow_lt (y := j) (by omega)), weak_eq hc hv, mem_crit, hk, hj, true_and]
      rw [wr_k hj (by omega), ap_ok (by simp only [List.length_cons, List.length_nil]; omega)]
      have e3 : pq c k j = (!isCrit c k && !isCrit c j && decide ((0 : Int) < ((wk c ((2 ^ k ||| 2 ^ j : Nat) : Int)).length : Int))) := rfl
      rw [e3]
      generalize decide ((0 : Int) < ((wk c ((2 ^ k ||| 2 ^ j : Nat) : Int)).length : Int)) = b3
      cases isCrit c k <;> cases isCrit c j <;> cases b3 <;> rfl)
    (fun l2 => by
      unfold circuit_Pairs_L13
      simp) l (k + 1) (by omega) (by omega)
  rw [show ((k + 1 : Nat) : Int) = (k : Int) + 1 by omega] at this
  rw [this]
  simp only [Option.bind_some, circuit_Pairs_j11]
  rw [wr_k hk (by omega)]; rfl
theorem rpairsL : loopM (r03_Pairs_L14 c) ([], 0) = some (pairs c) := by
  have h1 := hv.sw
  refine loop_flat (f := r03_Pairs_L14 c) c.Switches.length c.Switches.length (pairsAt c) (pairsAt_len c) (fun l k hk hl => ?_) (fun l => by
      unfold r03_Pairs_L14
      simp)
  have hb : c.Switches.length * k ≤ 12 * 12 := Nat.mul_le_mul (by omega) (by omega)
  unfold r03_Pairs_L14
  have e1 : (k : Int) < (c.Switches.length : Int) := by omega
  simp only [e1, decide_true, if_true]
  rw [wr_k hk (by omega)]
  have := loop_filter (f := r03_Pairs_L12 c (k : Int)) c.Switches.length l.length (pq c k) (pairI k) (fun l2 j hj hl2 => by
      unfold r03_Pairs_L12
      have e2 : (j : Int) < (c.Switches.length : Int) := by omega
      simp only [e2, decide_true, if_true, u64_nat (y := k) (by omega), u64_nat (y := j) (by omega), shl_nat (y := k) (by omega), shl_nat (y := j) (by omega), Option.bind_some, r03_Pairs_j16,
        bor_nat (pow_lt (y := k) (by omega)) (pow_lt (y := j) (by omega)), rweak_eq hc hv]
      rw [wr_k hj (by omega), ap_ok (by simp only [List.length_cons, List.length_nil]; omega)]
      have e3 : pq c k j = (!isCrit c k && !isCrit c j && decide ((0 : Int) < ((wk c ((2 ^ k ||| 2 ^ j : Nat) : Int)).length : Int))) := rfl
      rw [e3, isCrit_eq, isCrit_eq]
      generalize decide ((0 : Int) < ((wk c ((2 ^ k ||| 2 ^ j : Nat) : Int)).length : Int)) = b3
      generalize decide (((wk c ((2 ^ k : Nat) : Int)).length : Int) = 0) = b1
      generalize decide (((wk c ((2 ^ j : Nat) : Int)).length : Int) = 0) = b2
      cases b1 <;> cases b2 <;> cases b3 <;> rfl)
    (fun l2 => by
      unfold r03_Pairs_L12
      simp) l (k + 1) (by omega) (by omega)
  rw [show ((k + 1 : Nat) : Int) = (k : Int) + 1 by omega] at this
  rw [this]
  simp only [Option.bind_some, r03_Pairs_j11]
  rw [wr_k hk (by omega)]; rfl
end
end Go.Nw.CM
