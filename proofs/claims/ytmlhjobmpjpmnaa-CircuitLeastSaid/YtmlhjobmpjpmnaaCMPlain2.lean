/- The circuit's check, of the program and of the document, go alike. -/
import Derived.Test.YtmlhjobmpjpmnaaCMPlain
set_option linter.all false
set_option linter.unusedVariables false
set_option linter.unusedSimpArgs false
set_option linter.unusedSectionVars false
namespace Go.Nw.CM

def asc (hi : Int) : List Int → Int → Bool
  | [], _ => true
  | x :: r, lo => decide (lo ≤ x) && decide (x < hi) && asc hi r (x + 1)

theorem asc_eq {l : List Int} {lo hi : Int} (hl : l.length ≤ maxLen) (hok : ∀ x ∈ l, In64 x) (hh : hi ≤ 4611686018427387904) : circuit_ascending l lo hi = some (asc hi l lo) := by
  have h := loop_list (f := circuit_ascending_L8 l hi) l (fun (s : Int) k => (s, k)) (fun r s => if asc hi r s then Sum.inl () else Sum.inr false) (fun _ _ => True)
    (fun s k x r hd hg hk hm _ => by
      unfold circuit_ascending_L8
      simp only [hk, decide_true, if_true, hg, Option.bind_some]
      by_cases hc : x < s ∨ hi ≤ x
      · refine .inr ?_
        have : (decide (x < s) || decide (hi ≤ x)) = true := by simpa using hc
        have h2 : asc hi (x :: r) s = false := by
          simp only [asc]
          rcases hc with hc | hc
          · have : ¬ s ≤ x := by omega
            simp [this]
          · have : ¬ x < hi := by omega
            simp [this]
        rw [if_pos this, h2]; rfl
      · have h1 : (decide (x < s) || decide (hi ≤ x)) = false := by simpa [not_or] using hc
        have hb := hok x hm
        refine .inl ⟨x + 1, ?_, trivial, ?_⟩
        · simp only [h1, Bool.false_eq_true, if_false]
          rw [wr_len hk hl, wr_add1 (by unfold In64 at hb; omega) (by omega)]
        · have h2 : s ≤ x := by omega
          have h3 : x < hi := by omega
          simp [asc, h2, h3])
    (fun s _ => by unfold circuit_ascending_L8; simp [asc]) (s := lo) trivial
  unfold circuit_ascending
  rw [h]
  cases asc hi l lo <;> rfl

theorem isSet_eq {n many : Int} (h0 : 0 ≤ many) (h1 : many ≤ 62) : circuit_isSet n many = some (decide (0 ≤ n) && decide (n < 2 ^ many.toNat)) := by
  unfold circuit_isSet
  rw [shl1 h0 h1]
  by_cases h : 0 ≤ n <;> simp [h]
theorem hazards_eq {c : Circuit} {n : Int} (h0 : 0 ≤ c.Hazards) (h1 : c.Hazards ≤ 62) : r03_Hazards c n = some (decide (0 ≤ n) && decide (n < 2 ^ c.Hazards.toNat)) := by
  unfold r03_Hazards
  rw [u64_id h0 (by omega), shl1 h0 h1]
  obtain ⟨h2, h3⟩ := pow_bound h1
  simp only [Option.bind_some, r03_within]
  rw [wr_id (by omega) (by omega)]
  have : (n ≤ 2 ^ c.Hazards.toNat - 1) ↔ (n < 2 ^ c.Hazards.toNat) := by omega
  simp [this]
theorem switches_eq {c : Circuit} {n : Int} (h1 : (c.Switches.length : Int) ≤ 62) : r03_Switches c n = some (decide (0 ≤ n) && decide (n < 2 ^ c.Switches.length)) := by
  unfold r03_Switches
  rw [u64_id (by omega) (by omega), shl1 (by omega) h1]
  obtain ⟨h2, h3⟩ := pow_bound h1
  simp only [Option.bind_some, r03_within]
  rw [wr_id (by omega) (by omega)]
  have : (n ≤ 2 ^ c.Switches.length - 1) ↔ (n < 2 ^ c.Switches.length) := by omega
  simp [this]

/-- One more for each number of a list. -/
def inc : List Int → List Int → List Int
  | [], h => h
  | y :: r, h => inc r (h.set y.toNat (wr (nth h y + 1)))
theorem inc_len : ∀ (l h : List Int), (inc l h).length = h.length
  | [], _ => rfl
  | y :: r, h => by rw [inc, inc_len r]; simp
theorem asc_lt {hi : Int} : ∀ {l : List Int} {lo : Int}, asc hi l lo = true → ∀ x ∈ l, lo ≤ x ∧ x < hi
  | [], _, _, x, hx => by cases hx
  | y :: r, lo, h, x, hx => by
    simp only [asc, Bool.and_eq_true, decide_eq_true_eq] at h
    rcases List.mem_cons.1 hx with rfl | hx
    · exact h.1
    · have := asc_lt h.2 x hx
      omega

theorem L21_eq {w : Wire} {h : List Int} (hl : w.Of.length ≤ maxLen) (hr : ∀ x ∈ w.Of, 0 ≤ x ∧ x < h.length) : loopM (circuit_Check_L21 w) (h, 0) = some (inc w.Of h) := by
  refine loop_list (f := circuit_Check_L21 w) w.Of (fun (s : List Int) k => (s, k)) inc (fun _ s => s.length = h.length) (fun s k x r hd hg hk hm hi => ?_) (fun s _ => by unfold circuit_Check_L21; simp [inc]) rfl
  obtain ⟨h0, h1⟩ := hr x hm
  refine .inl ⟨s.set x.toNat (wr (nth s x + 1)), ?_, by simpa using hi, rfl⟩
  unfold circuit_Check_L21
  simp only [hk, decide_true, if_true, hg, Option.bind_some, get_nth h0 (by rw [hi]; exact h1)]
  rw [wr_len hk hl]

theorem L29_eq {c : Circuit} {w : Wire} {h : List Int} {lo : Int} (hl : w.Of.length ≤ maxLen) (hok : ∀ x ∈ w.Of, In64 x) (hn : (c.Wires.length : Int) ≤ 1000) (hh : h.length = c.Wires.length) (hlo : 0 ≤ lo ∧ lo < c.Wires.length) :
    loopM (r03_Check_L29 c w) (h, lo, 0) = some (if asc c.Wires.length w.Of (lo + 1) then .inl (inc w.Of h) else .inr 30) := by
  refine loop_list (f := r03_Check_L29 c w) w.Of (fun (s : List Int × Int) k => (s.1, s.2, k)) (fun r s => if asc c.Wires.length r (s.2 + 1) then .inl (inc r s.1) else .inr 30) (fun _ s => s.1.length = c.Wires.length ∧ 0 ≤ s.2 ∧ s.2 < c.Wires.length) (fun s k x r hd hg hk hm hi => ?_) (fun s _ => by unfold r03_Check_L29; simp [inc, asc]) (s := (h, lo)) ⟨hh, hlo⟩
  obtain ⟨s, last⟩ := s
  obtain ⟨i1, i2, i3⟩ := hi
  simp only at i1 i2 i3
  have hb := hok x hm
  unfold r03_Check_L29
  simp only [hk, decide_true, if_true, hg, Option.bind_some, r03_within]
  rw [wr_add1 (x := last) (by omega) (by omega), wr_id (n := (c.Wires.length : Int) - 1) (by omega) (by omega)]
  by_cases hc : last + 1 ≤ x ∧ x ≤ (c.Wires.length : Int) - 1
  · obtain ⟨c1, c2⟩ := hc
    have c3 : x < (c.Wires.length : Int) := by omega
    refine .inl ⟨(s.set x.toNat (wr (nth s x + 1)), x), ?_, ⟨by simpa using i1, by simp only; omega, by simp only; omega⟩, ?_⟩
    · simp only [c1, c2, decide_true, Bool.and_self, Bool.not_true, Bool.false_eq_true, if_false, get_nth (l := s) (i := x) (by omega) (by omega), Option.bind_some]
      rw [wr_len hk hl]
    · simp [asc, c1, c3, inc]
  · refine .inr ?_
    have e : (decide (last + 1 ≤ x) && decide (x ≤ (c.Wires.length : Int) - 1)) = false := by
      simp only [Bool.and_eq_false_iff, decide_eq_false_iff_not]; omega
    have e2 : asc c.Wires.length (x :: r) (last + 1) = false := by
      have : (decide (last + 1 ≤ x) && decide (x < (c.Wires.length : Int))) = false := by
        simp only [Bool.and_eq_false_iff, decide_eq_false_iff_not]; omega
      simp only [asc, this, Bool.false_and]
    simp only [e, Bool.not_false, if_true, e2, Bool.false_eq_true, if_false]
end Go.Nw.CM
