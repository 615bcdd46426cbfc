/- The circuit's check, of the program and of the document: the rounds over the wires. -/
import Derived.Test.YtmlhjobmpjpmnaaCMPlain2
set_option linter.all false
set_option linter.unusedVariables false
set_option linter.unusedSimpArgs false
set_option linter.unusedSectionVars false
namespace Go.Nw.CM

def okW (c : Circuit) (x : Int) (w : Wire) : Bool :=
  if w.Kind = 1 then decide (w.Of.length = 1) && asc c.Switches.length w.Of 0
  else if w.Kind = 2 ∨ w.Kind = 3 then decide (1 ≤ w.Of.length) && decide (w.Of.length ≤ 8) && asc c.Wires.length w.Of (x + 1)
  else false
def incW (w : Wire) (h : List Int) : List Int := if w.Kind = 1 then h else inc w.Of h
def stepW (c : Circuit) (s : List Int × Int) : Out (List Int × Int) (List Int ⊕ Int) :=
  if s.2 < (c.Wires.length : Int) then
    if okW c s.2 (nth c.Wires s.2) then .nx (incW (nth c.Wires s.2) s.1, s.2 + 1) else .br (.inr 30)
  else .br (.inl s.1)

section
variable {c : Circuit} (hc : OkC c) (hn : c.Wires.length ≤ 1000) (hs : c.Switches.length ≤ 1000)
include hc hn hs

theorem wire_ok {x : Int} (h0 : 0 ≤ x) (h1 : x < c.Wires.length) : OkWire (nth c.Wires x) := hc.2.2.2 _ (nth_toNat h0 h1)

theorem L24_eq {held : List Int} {x : Int} (h0 : 0 ≤ x) (hl : held.length = c.Wires.length) : circuit_Check_L24 c (held, x) = some (stepW c (held, x)) := by
  unfold circuit_Check_L24 stepW
  by_cases hx : x < (c.Wires.length : Int)
  · obtain ⟨hk, hol, hof⟩ := wire_ok hc hn hs h0 hx
    simp only [hx, decide_true, if_true, get_nth h0 hx, Option.bind_some]
    generalize nth c.Wires x = w at *
    have hw1 : wr (x + 1) = x + 1 := wr_add1 (by omega) (by omega)
    by_cases k1 : w.Kind = 1
    · simp only [k1, decide_true, if_true, okW, incW]
      by_cases hl1 : w.Of.length = 1
      · have e : decide (¬ (w.Of.length : Int) = 1) = false := by simp; omega
        simp only [e, Bool.false_eq_true, if_false, asc_eq hol hof (show (c.Switches.length : Int) ≤ 4611686018427387904 by omega), Option.bind_some, hl1, decide_true, Bool.true_and]
        cases asc c.Switches.length w.Of 0 with
        | true => simp [circuit_Check_j40, hw1]
        | false => simp
      · have e : decide (¬ (w.Of.length : Int) = 1) = true := by simp; omega
        simp [e, hl1]
    · have j51 : ∀ b, circuit_Check_j51 c held x w b = if b then some (if decide (1 ≤ w.Of.length) && decide (w.Of.length ≤ 8) && asc c.Wires.length w.Of (x + 1) then .nx (inc w.Of held, x + 1) else .br (.inr 30)) else some (.br (.inr 30)) := fun b => by
        unfold circuit_Check_j51
        cases b with
        | false => simp
        | true =>
          simp only [if_true]
          by_cases hlen : 1 ≤ w.Of.length ∧ w.Of.length ≤ 8
          · obtain ⟨l1, l2⟩ := hlen
            have e : (decide ((w.Of.length : Int) < 1) || decide (8 < (w.Of.length : Int))) = false := by simp; omega
            simp only [e, Bool.false_eq_true, if_false, hw1, asc_eq hol hof (show (c.Wires.length : Int) ≤ 4611686018427387904 by omega), Option.bind_some, l1, l2, decide_true, Bool.true_and]
            cases ha : asc c.Wires.length w.Of (x + 1) with
            | true =>
              have := L21_eq (w := w) (h := held) hol (fun y hy => by have := asc_lt ha y hy; omega)
              simp [this, circuit_Check_j40, hw1]
            | false => simp
          · have e : (decide ((w.Of.length : Int) < 1) || decide (8 < (w.Of.length : Int))) = true := by simp; omega
            have e2 : (decide (1 ≤ w.Of.length) && decide (w.Of.length ≤ 8)) = false := by simp only [Bool.and_eq_false_iff, decide_eq_false_iff_not]; omega
            simp [e, e2]
      simp only [k1, decide_false, Bool.false_eq_true, if_false, okW, incW, j51]
      by_cases k2 : w.Kind = 2
      · simp [k2]
      · by_cases k3 : w.Kind = 3
        · simp [k3]
        · simp [k2, k3]
  · simp [hx]

theorem L32_eq {held : List Int} {x : Int} (h0 : 0 ≤ x) (hl : held.length = c.Wires.length) : r03_Check_L32 c (held, x) = some (stepW c (held, x)) := by
  unfold r03_Check_L32 stepW
  by_cases hx : x < (c.Wires.length : Int)
  · obtain ⟨hk, hol, hof⟩ := wire_ok hc hn hs h0 hx
    simp only [hx, decide_true, if_true, get_nth h0 hx, Option.bind_some]
    generalize nth c.Wires x = w at *
    have hw1 : wr (x + 1) = x + 1 := wr_add1 (by omega) (by omega)
    by_cases k1 : w.Kind = 1
    · simp only [k1, decide_true, if_true, okW, incW]
      by_cases hl1 : w.Of.length = 1
      · have e : decide (¬ (w.Of.length : Int) = 1) = false := by simp; omega
        obtain ⟨y, hy⟩ : ∃ y, w.Of = [y] := List.length_eq_one_iff.1 hl1
        have hg : get w.Of 0 = some y := by rw [hy]; rfl
        simp only [e, Bool.false_eq_true, if_false, hg, Option.bind_some, r03_within, hl1, decide_true, Bool.true_and]
        rw [wr_id (n := (c.Switches.length : Int) - 1) (by omega) (by omega)]
        have e2 : asc c.Switches.length w.Of 0 = (decide (0 ≤ y) && decide (y ≤ (c.Switches.length : Int) - 1)) := by
          have : (y < (c.Switches.length : Int)) ↔ (y ≤ (c.Switches.length : Int) - 1) := by omega
          rw [hy]; simp [asc, this]
        rw [e2]
        cases (decide (0 ≤ y) && decide (y ≤ (c.Switches.length : Int) - 1)) with
        | true => simp [r03_Check_j25, hw1]
        | false => simp
      · have e : decide (¬ (w.Of.length : Int) = 1) = true := by simp; omega
        simp [e, hl1]
    · have j36 : ∀ b, r03_Check_j36 c held x w b = if b then some (if decide (1 ≤ w.Of.length) && decide (w.Of.length ≤ 8) && asc c.Wires.length w.Of (x + 1) then .nx (inc w.Of held, x + 1) else .br (.inr 30)) else some (.br (.inr 30)) := fun b => by
        unfold r03_Check_j36
        cases b with
        | false => simp
        | true =>
          simp only [if_true, r03_within]
          by_cases hlen : 1 ≤ w.Of.length ∧ w.Of.length ≤ 8
          · obtain ⟨l1, l2⟩ := hlen
            have e : (decide ((1 : Int) ≤ (w.Of.length : Int)) && decide ((w.Of.length : Int) ≤ 8)) = true := by simp; omega
            simp only [e, Bool.not_true, Bool.false_eq_true, if_false, L29_eq (c := c) (w := w) (h := held) (lo := x) hol hof (by omega) hl ⟨h0, hx⟩, Option.bind_some, l1, l2, decide_true, Bool.true_and]
            cases ha : asc c.Wires.length w.Of (x + 1) with
            | true => simp [r03_Check_j25, hw1]
            | false => simp
          · have e : (decide ((1 : Int) ≤ (w.Of.length : Int)) && decide ((w.Of.length : Int) ≤ 8)) = false := by simp only [Bool.and_eq_false_iff, decide_eq_false_iff_not]; omega
            have e2 : (decide (1 ≤ w.Of.length) && decide (w.Of.length ≤ 8)) = false := by simp only [Bool.and_eq_false_iff, decide_eq_false_iff_not]; omega
            simp [e, e2]
      simp only [k1, decide_false, Bool.false_eq_true, if_false, okW, incW, j36]
      by_cases k2 : w.Kind = 2
      · simp [k2]
      · by_cases k3 : w.Kind = 3
        · simp [k3]
        · simp [k2, k3]
  · simp [hx]
end
end Go.Nw.CM
