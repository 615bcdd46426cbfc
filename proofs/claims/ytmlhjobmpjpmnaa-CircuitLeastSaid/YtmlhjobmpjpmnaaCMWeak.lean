/- Weak hazards, critical switches, pairs: of the program and of the document, as plain lists. -/
import Derived.Test.YtmlhjobmpjpmnaaCMCnd
set_option linter.all false
set_option linter.unusedVariables false
set_option linter.unusedSimpArgs false
set_option linter.unusedSectionVars false
namespace Go.Nw.CM

def cast (k : Nat) : Int := k
def wk (c : Circuit) (cl : Int) : List Int := ((List.range c.Hazards.toNat).filter fun h => cnd c ((2 ^ h : Nat) : Int) cl 0 0).map cast
def isCrit (c : Circuit) (i : Nat) : Bool := decide ((0 : Int) < ((wk c ((2 ^ i : Nat) : Int)).length : Int))
def crit (c : Circuit) : List Int := ((List.range c.Switches.length).filter (isCrit c)).map cast
theorem wr_k {k n : Nat} (h : k < n) (hn : n < 4611686018427387904) : wr ((k : Int) + 1) = (k : Int) + 1 := wr_id (by omega) (by omega)
theorem mem_crit {c : Circuit} {i : Nat} : (i : Int) ∈ crit c ↔ i < c.Switches.length ∧ isCrit c i = true := by
  unfold crit
  simp only [List.mem_map, List.mem_filter, List.mem_range, cast]
  constructor
  · rintro ⟨a, h, e⟩
    have : a = i := by omega
    rw [← this]; exact h
  · exact fun h => ⟨i, h, rfl⟩

section
variable {c : Circuit} (hc : OkC c) (hv : Valid c)
include hc hv

theorem weak_eq (cl : Int) : circuit_weak c cl = some (wk c cl) := by
  have h1 := hv.hz
  have h2 := hv.wi
  have := loop_filter0 (f := circuit_weak_L7 c cl) c.Hazards.toNat (fun h => cnd c ((2 ^ h : Nat) : Int) cl 0 0) cast (fun l k hk hl => by
      unfold circuit_weak_L7
      have e : (k : Int) < c.Hazards := by omega
      simp only [e, decide_true, if_true, shl_nat (y := k) (by omega), Option.bind_some, wire_cnd hc hv _ cl 0 0 (by omega) (by omega), circuit_weak_j7]
      rw [wr_k hk (by omega), ap_ok (by simp only [List.length_cons, List.length_nil]; omega)]
      cases cnd c ((2 ^ k : Nat) : Int) cl 0 0 <;> rfl)
    (fun l => by
      unfold circuit_weak_L7
      have e : ¬ ((c.Hazards.toNat : Nat) : Int) < c.Hazards := by omega
      simp only [e, decide_false, Bool.false_eq_true, if_false])
  unfold circuit_weak
  rw [this]; rfl
theorem rweak_eq (cl : Int) : r03_weak c cl = some (wk c cl) := by
  have h1 := hv.hz
  have h2 := hv.wi
  have := loop_filter0 (f := r03_weak_L7 c cl) c.Hazards.toNat (fun h => cnd c ((2 ^ h : Nat) : Int) cl 0 0) cast (fun l k hk hl => by
      unfold r03_weak_L7
      have e : (k : Int) < c.Hazards := by omega
      simp only [e, decide_true, if_true, u64_nat (y := k) (by omega), shl_nat (y := k) (by omega), Option.bind_some, ref_cnd hc hv _ cl 0 0 (by omega) (by omega), r03_weak_j7]
      rw [wr_k hk (by omega), ap_ok (by simp only [List.length_cons, List.length_nil]; omega)]
      cases cnd c ((2 ^ k : Nat) : Int) cl 0 0 <;> rfl)
    (fun l => by
      unfold r03_weak_L7
      have e : ¬ ((c.Hazards.toNat : Nat) : Int) < c.Hazards := by omega
      simp only [e, decide_false, Bool.false_eq_true, if_false])
  unfold r03_weak
  rw [this]; rfl

theorem critL : loopM (circuit_Critical_L11 c) ([], 0) = some (crit c) := by
  have h1 := hv.sw
  exact loop_filter0 (f := circuit_Critical_L11 c) c.Switches.length (isCrit c) cast (fun l k hk hl => by
      unfold circuit_Critical_L11
      have e : (k : Int) < (c.Switches.length : Int) := by omega
      simp only [e, decide_true, if_true, shl_nat (y := k) (by omega), Option.bind_some, weak_eq hc hv, circuit_Critical_j11]
      rw [wr_k hk (by omega), ap_ok (by simp only [List.length_cons, List.length_nil]; omega)]
      show (if isCrit c k = true then _ else _) = _
      cases isCrit c k <;> rfl)
    (fun l => by
      unfold circuit_Critical_L11
      simp)
theorem rcritL : loopM (r03_Critical_L9 c) ([], 0) = some (crit c) := by
  have h1 := hv.sw
  exact loop_filter0 (f := r03_Critical_L9 c) c.Switches.length (isCrit c) cast (fun l k hk hl => by
      unfold r03_Critical_L9
      have e : (k : Int) < (c.Switches.length : Int) := by omega
      simp only [e, decide_true, if_true, u64_nat (y := k) (by omega), shl_nat (y := k) (by omega), Option.bind_some, rweak_eq hc hv, r03_Critical_j11]
      rw [wr_k hk (by omega), ap_ok (by simp only [List.length_cons, List.length_nil]; omega)]
      show (if isCrit c k = true then _ else _) = _
      cases isCrit c k <;> rfl)
    (fun l => by
      unfold r03_Critical_L9
      simp)
end

theorem contains_int {s : List Int} {v : Int} (hl : s.length ≤ maxLen) : slices_Contains___int_int_ s v = some (decide (v ∈ s)) := by
  have h := loop_list (f := slices_Index___int_int__L7 s v) s (fun (_ : Unit) k => k) (fun r _ => if v ∈ r then Sum.inr ((s.length : Int) - (r.length : Int) + ((r.idxOf v : Nat) : Int)) else Sum.inl ()) (fun _ _ => True)
    (fun st k x r hd hg hk hm _ => by
      unfold slices_Index___int_int__L7
      simp only [hk, decide_true, if_true, hg, Option.bind_some]
      by_cases e : v = x
      · refine .inr ?_
        have hlen : ((x :: r).length : Int) = (s.length : Int) - k := by rw [← hd, List.length_drop]; omega
        subst e
        simp only [decide_true, if_true, List.mem_cons, true_or, List.idxOf_cons_self]
        rw [hlen]
        have : (s.length : Int) - ((s.length : Int) - (k : Int)) + ((0 : Nat) : Int) = k := by omega
        rw [this]
      · refine .inl ⟨(), ?_, trivial, ?_⟩
        · simp only [e, decide_false, Bool.false_eq_true, if_false, wr_len hk hl]
        · have e2 : (v ∈ x :: r) ↔ v ∈ r := by simp [e]
          simp only [e2]
          split
          · have : (x :: r).idxOf v = r.idxOf v + 1 := by
              have e3 : (x == v) = false := by simpa using fun h => e h.symm
              rw [List.idxOf_cons, e3]; rfl
            rw [this]; congr 1
            simp only [List.length_cons]; omega
          · rfl)
    (fun st _ => by unfold slices_Index___int_int__L7; simp) (s := ()) trivial
  unfold slices_Contains___int_int_ slices_Index___int_int_
  rw [h]
  by_cases hv : v ∈ s
  · simp only [hv, if_true, Option.bind_some, decide_true]
    have : (0 : Int) ≤ (s.length : Int) - (s.length : Int) + ((s.idxOf v : Nat) : Int) := by omega
    simp [this]
  · simp only [hv, if_false, Option.bind_some, decide_false]
    rfl
end Go.Nw.CM
