/- Plain laws on the models. -/
import Derived.Test.YtmlhjobmpjpmnaaDoorP2
import Derived.Test.YtmlhjobmpjpmnaaDoorNwPlain
set_option linter.all false
set_option linter.unusedVariables false
set_option linter.unusedSimpArgs false
set_option linter.unusedSectionVars false
namespace Go.Nw.DM

theorem wr_succ {x : Int} {n : Nat} (h0 : 0 ≤ x) (h1 : x < n) (hn : n ≤ maxLen) : wr (x + 1) = x + 1 :=
  wr_id (by omega) (by simp only [maxLen] at hn; omega)

theorem nth_toNat {α : Type} [Inhabited α] {l : List α} {x : Int} (h0 : 0 ≤ x) (h1 : x < l.length) : nth l x ∈ l := by
  have : x.toNat < l.length := by omega
  simp [nth, List.getD, this]

theorem any_take_step {α : Type} [Inhabited α] {l : List α} {p : α → Bool} {x : Int} (h0 : 0 ≤ x) (h1 : x < l.length) (h : (l.take x.toNat).any p = false) (hp : p (nth l x) = false) : (l.take (x + 1).toNat).any p = false := by
  have e : (x + 1).toNat = x.toNat + 1 := by omega
  have hlt : x.toNat < l.length := by omega
  rw [e, List.take_add_one, List.any_append, h]
  simp [nth, List.getD, hlt] at hp
  simp [hlt, hp]

theorem indexFunc_any {s : List Int} {f : Int → Option Bool} {p : Int → Bool} (hl : s.length ≤ maxLen) (hf : ∀ x ∈ s, f x = some (p x)) : slices_ContainsFunc___int_int_ s f = some (s.any p) := by
  obtain ⟨b, hb, hP⟩ := loopM_rule (f := slices_IndexFunc___int_int__L7 s f) (fun x => 0 ≤ x ∧ x ≤ s.length ∧ (s.take x.toNat).any p = false) (fun x => (s.length - x).toNat)
    (fun b => match b with | .inl () => s.any p = false | .inr r => 0 ≤ r ∧ s.any p = true) (fun x ⟨h0, h1, h2⟩ => by
      unfold slices_IndexFunc___int_int__L7
      by_cases hx : x < s.length
      · have hm := nth_toNat h0 hx
        simp only [hx, decide_true, if_true, get_nth h0 hx, Option.bind_some, hf _ hm]
        cases hp : p (nth s x) with
        | true => exact .inr ⟨_, rfl, h0, List.any_eq_true.2 ⟨_, hm, hp⟩⟩
        | false =>
          refine .inl ⟨x + 1, by rw [wr_succ h0 hx hl]; rfl, ⟨by omega, by omega, any_take_step h0 hx h2 hp⟩, by omega⟩
      · simp only [hx, decide_false, Bool.false_eq_true, if_false]
        refine .inr ⟨_, rfl, ?_⟩
        have : x.toNat = s.length := by omega
        rw [this, List.take_length] at h2
        exact h2) 0 ⟨by omega, by omega, by simp⟩
  unfold slices_ContainsFunc___int_int_ slices_IndexFunc___int_int_
  rw [hb]
  cases b with
  | inl u =>
    simp only [Option.bind_some, slices_IndexFunc___int_int__j2]
    simp only at hP
    rw [hP]; rfl
  | inr r =>
    simp only [Option.bind_some]
    simp only at hP
    rw [hP.2]; simp [hP.1]

theorem contains_bool3 (a b c : Bool) : slices_Contains___bool_bool_ [a, b, c] false = some (!(a && b && c)) := by
  obtain ⟨r, hb, hP⟩ := loopM_rule (f := slices_Index___bool_bool__L7 [a, b, c] false) (fun x => 0 ≤ x ∧ x ≤ 3 ∧ ([a, b, c].take x.toNat).any (!·) = false) (fun x => (3 - x).toNat)
    (fun r => match r with | .inl () => [a, b, c].any (!·) = false | .inr r => 0 ≤ r ∧ [a, b, c].any (!·) = true) (fun x ⟨h0, h1, h2⟩ => by
      unfold slices_Index___bool_bool__L7
      have hlen : (List.length [a, b, c] : Int) = 3 := rfl
      by_cases hx : x < (List.length [a, b, c] : Int)
      · have hm := nth_toNat (l := [a, b, c]) h0 hx
        simp only [hx, decide_true, if_true, get_nth h0 hx, Option.bind_some]
        cases hp : nth [a, b, c] x with
        | false =>
          refine .inr ⟨_, rfl, h0, List.any_eq_true.2 ⟨_, hm, by rw [hp]; rfl⟩⟩
        | true =>
          refine .inl ⟨x + 1, by rw [wr_succ h0 hx (show 3 ≤ maxLen by decide)]; rfl, ⟨by omega, by omega, any_take_step h0 hx h2 (by rw [hp]; rfl)⟩, by omega⟩
      · simp only [hx, decide_false, Bool.false_eq_true, if_false]
        refine .inr ⟨_, rfl, ?_⟩
        have : x.toNat = 3 := by omega
        rw [this] at h2
        exact h2) 0 ⟨by omega, by omega, by simp⟩
  unfold slices_Contains___bool_bool_ slices_Index___bool_bool_
  rw [hb]
  cases r with
  | inl u =>
    simp only [Option.bind_some, slices_Index___bool_bool__j2]
    simp only at hP
    revert hP; cases a <;> cases b <;> cases c <;> decide
  | inr r =>
    simp only [Option.bind_some]
    simp only at hP
    obtain ⟨h1, h2⟩ := hP
    simp only [h1, decide_true]
    revert h2; cases a <;> cases b <;> cases c <;> decide

theorem ascending_spec {l : List Int} {low high : Int} (hl : l.length ≤ maxLen) (hok : ∀ x ∈ l, In64 x) : ∃ b, circuit_ascending l low high = some b := by
  obtain ⟨r, hb, _⟩ := loopM_rule (f := circuit_ascending_L8 l high) (fun s => 0 ≤ s.2 ∧ s.2 ≤ l.length) (fun s => (l.length - s.2).toNat) (fun _ => True) (fun s ⟨h0, h1⟩ => by
      obtain ⟨lo, x⟩ := s
      simp only at h0 h1
      unfold circuit_ascending_L8
      by_cases hx : x < l.length
      · simp only [hx, decide_true, if_true, get_nth h0 hx, Option.bind_some]
        split
        · exact .inr ⟨_, rfl, trivial⟩
        · exact .inl ⟨_, rfl, by rw [wr_succ h0 hx hl]; simp only; omega, by rw [wr_succ h0 hx hl]; simp only; omega⟩
      · simp only [hx, decide_false, Bool.false_eq_true, if_false]
        exact .inr ⟨_, rfl, trivial⟩) (low, 0) ⟨by simp, by simp⟩
  unfold circuit_ascending
  rw [hb]
  cases r with
  | inl u => exact ⟨_, rfl⟩
  | inr r => exact ⟨_, rfl⟩
end Go.Nw.DM

namespace Go.Nw.DM

def asc (hi : Int) : List Int → Int → Bool
  | [], _ => true
  | x :: r, lo => decide (lo ≤ x) && decide (x < hi) && asc hi r (x + 1)

theorem asc_eq {l : List Int} {lo hi : Int} (hl : l.length ≤ maxLen) (hok : ∀ x ∈ l, In64 x) (hh : hi ≤ 4611686018427387904) : circuit_ascending l lo hi = some (asc hi l lo) := by
  have h := loop_list (f := circuit_ascending_L8 l hi) l (fun (s : Int) k => (s, k)) (fun r s => if asc hi r s then Sum.inl () else Sum.inr false) (fun _ _ => True)
    (fun s k x r hd hg hk hm _ => by
      unfold circuit_ascending_L8
      simp only [hk, decide_true, if_true, hg, Option.bind_some]
      by_cases hc : x < s ∨ hi ≤ x
      · refine .inr ?_
        have : (decide (x < s) || decide (hi ≤ x)) = true := by simpa using hc
        have h2 : asc hi (x :: r) s = false := by
          simp only [asc]
          rcases hc with hc | hc
          · have : ¬ s ≤ x := by omega
            simp [this]
          · have : ¬ x < hi := by omega
            simp [this]
        rw [if_pos this, h2]; rfl
      · have h1 : (decide (x < s) || decide (hi ≤ x)) = false := by simpa [not_or] using hc
        have hb := hok x hm
        refine .inl ⟨x + 1, ?_, trivial, ?_⟩
        · simp only [h1, Bool.false_eq_true, if_false]
          rw [wr_len hk hl, wr_add1 (by unfold In64 at hb; omega) (by omega)]
        · have h2 : s ≤ x := by omega
          have h3 : x < hi := by omega
          simp [asc, h2, h3])
    (fun s _ => by unfold circuit_ascending_L8; simp [asc]) (s := lo) trivial
  unfold circuit_ascending
  rw [h]
  cases asc hi l lo <;> rfl

theorem isSet_eq {n many : Int} (h0 : 0 ≤ many) (h1 : many ≤ 62) : circuit_isSet n many = some (decide (0 ≤ n) && decide (n < 2 ^ many.toNat)) := by
  unfold circuit_isSet
  rw [shl1 h0 h1]
  by_cases h : 0 ≤ n <;> simp [h]
theorem hazards_eq {c : Circuit} {n : Int} (h0 : 0 ≤ c.Hazards) (h1 : c.Hazards ≤ 62) : r03_Hazards c n = some (decide (0 ≤ n) && decide (n < 2 ^ c.Hazards.toNat)) := by
  unfold r03_Hazards
  rw [u64_id h0 (by omega), shl1 h0 h1]
  obtain ⟨h2, h3⟩ := pow_bound h1
  simp only [Option.bind_some, r03_within]
  rw [wr_id (by omega) (by omega)]
  have : (n ≤ 2 ^ c.Hazards.toNat - 1) ↔ (n < 2 ^ c.Hazards.toNat) := by omega
  simp [this]
/-- One more for each number of a list. -/
def inc : List Int → List Int → List Int
  | [], h => h
  | y :: r, h => inc r (h.set y.toNat (wr (nth h y + 1)))
theorem inc_len : ∀ (l h : List Int), (inc l h).length = h.length
  | [], _ => rfl
  | y :: r, h => by rw [inc, inc_len r]; simp
theorem asc_lt {hi : Int} : ∀ {l : List Int} {lo : Int}, asc hi l lo = true → ∀ x ∈ l, lo ≤ x ∧ x < hi
  | [], _, _, x, hx => by cases hx
  | y :: r, lo, h, x, hx => by
    simp only [asc, Bool.and_eq_true, decide_eq_true_eq] at h
    rcases List.mem_cons.1 hx with rfl | hx
    · exact h.1
    · have := asc_lt h.2 x hx
      omega

theorem L21_eq {w : Wire} {h : List Int} (hl : w.Of.length ≤ maxLen) (hr : ∀ x ∈ w.Of, 0 ≤ x ∧ x < h.length) : loopM (circuit_Check_L21 w) (h, 0) = some (inc w.Of h) := by
  refine loop_list (f := circuit_Check_L21 w) w.Of (fun (s : List Int) k => (s, k)) inc (fun _ s => s.length = h.length) (fun s k x r hd hg hk hm hi => ?_) (fun s _ => by unfold circuit_Check_L21; simp [inc]) rfl
  obtain ⟨h0, h1⟩ := hr x hm
  refine .inl ⟨s.set x.toNat (wr (nth s x + 1)), ?_, by simpa using hi, rfl⟩
  unfold circuit_Check_L21
  simp only [hk, decide_true, if_true, hg, Option.bind_some, get_nth h0 (by rw [hi]; exact h1)]
  rw [wr_len hk hl]

theorem L29_eq {c : Circuit} {w : Wire} {h : List Int} {lo : Int} (hl : w.Of.length ≤ maxLen) (hok : ∀ x ∈ w.Of, In64 x) (hn : (c.Wires.length : Int) ≤ 1000) (hh : h.length = c.Wires.length) (hlo : 0 ≤ lo ∧ lo < c.Wires.length) :
    loopM (r03_Check_L29 c w) (h, lo, 0) = some (if asc c.Wires.length w.Of (lo + 1) then .inl (inc w.Of h) else .inr 30) := by
  refine loop_list (f := r03_Check_L29 c w) w.Of (fun (s : List Int × Int) k => (s.1, s.2, k)) (fun r s => if asc c.Wires.length r (s.2 + 1) then .inl (inc r s.1) else .inr 30) (fun _ s => s.1.length = c.Wires.length ∧ 0 ≤ s.2 ∧ s.2 < c.Wires.length) (fun s k x r hd hg hk hm hi => ?_) (fun s _ => by unfold r03_Check_L29; simp [inc, asc]) (s := (h, lo)) ⟨hh, hlo⟩
  obtain ⟨s, last⟩ := s
  obtain ⟨i1, i2, i3⟩ := hi
  simp only at i1 i2 i3
  have hb := hok x hm
  unfold r03_Check_L29
  simp only [hk, decide_true, if_true, hg, Option.bind_some, r03_within]
  rw [wr_add1 (x := last) (by omega) (by omega), wr_id (n := (c.Wires.length : Int) - 1) (by omega) (by omega)]
  by_cases hc : last + 1 ≤ x ∧ x ≤ (c.Wires.length : Int) - 1
  · obtain ⟨c1, c2⟩ := hc
    have c3 : x < (c.Wires.length : Int) := by omega
    refine .inl ⟨(s.set x.toNat (wr (nth s x + 1)), x), ?_, ⟨by simpa using i1, by simp only; omega, by simp only; omega⟩, ?_⟩
    · simp only [c1, c2, decide_true, Bool.and_self, Bool.not_true, Bool.false_eq_true, if_false, get_nth (l := s) (i := x) (by omega) (by omega), Option.bind_some]
      rw [wr_len hk hl]
    · simp [asc, c1, c3, inc]
  · refine .inr ?_
    have e : (decide (last + 1 ≤ x) && decide (x ≤ (c.Wires.length : Int) - 1)) = false := by
      simp only [Bool.and_eq_false_iff, decide_eq_false_iff_not]; omega
    have e2 : asc c.Wires.length (x :: r) (last + 1) = false := by
      have : (decide (last + 1 ≤ x) && decide (x < (c.Wires.length : Int))) = false := by
        simp only [Bool.and_eq_false_iff, decide_eq_false_iff_not]; omega
      simp only [asc, this, Bool.false_and]
    simp only [e, Bool.not_false, if_true, e2, Bool.false_eq_true, if_false]
end Go.Nw.DM

namespace Go.Nw.DM

def okW (c : Circuit) (x : Int) (w : Wire) : Bool :=
  if w.Kind = 1 then decide (w.Of.length = 1) && asc c.Switches.length w.Of 0
  else if w.Kind = 2 ∨ w.Kind = 3 then decide (1 ≤ w.Of.length) && decide (w.Of.length ≤ 8) && asc c.Wires.length w.Of (x + 1)
  else false
def incW (w : Wire) (h : List Int) : List Int := if w.Kind = 1 then h else inc w.Of h
def stepW (c : Circuit) (s : List Int × Int) : Out (List Int × Int) (List Int ⊕ Int) :=
  if s.2 < (c.Wires.length : Int) then
    if okW c s.2 (nth c.Wires s.2) then .nx (incW (nth c.Wires s.2) s.1, s.2 + 1) else .br (.inr 30)
  else .br (.inl s.1)

section
variable {c : Circuit} (hc : OkC c) (hn : c.Wires.length ≤ 1000) (hs : c.Switches.length ≤ 1000)
include hc hn hs

theorem wire_ok {x : Int} (h0 : 0 ≤ x) (h1 : x < c.Wires.length) : OkWire (nth c.Wires x) := hc.2.2.2 _ (nth_toNat h0 h1)

theorem L24_eq {held : List Int} {x : Int} (h0 : 0 ≤ x) (hl : held.length = c.Wires.length) : circuit_Check_L24 c (held, x) = some (stepW c (held, x)) := by
  unfold circuit_Check_L24 stepW
  by_cases hx : x < (c.Wires.length : Int)
  · obtain ⟨hk, hol, hof⟩ := wire_ok hc hn hs h0 hx
    simp only [hx, decide_true, if_true, get_nth h0 hx, Option.bind_some]
    generalize nth c.Wires x = w at *
    have hw1 : wr (x + 1) = x + 1 := wr_add1 (by omega) (by omega)
    by_cases k1 : w.Kind = 1
    · simp only [k1, decide_true, if_true, okW, incW]
      by_cases hl1 : w.Of.length = 1
      · have e : decide (¬ (w.Of.length : Int) = 1) = false := by simp; omega
        simp only [e, Bool.false_eq_true, if_false, asc_eq hol hof (show (c.Switches.length : Int) ≤ 4611686018427387904 by omega), Option.bind_some, hl1, decide_true, Bool.true_and]
        cases asc c.Switches.length w.Of 0 with
        | true => simp [circuit_Check_j40, hw1]
        | false => simp
      · have e : decide (¬ (w.Of.length : Int) = 1) = true := by simp; omega
        simp [e, hl1]
    · have j51 : ∀ b, circuit_Check_j51 c held x w b = if b then some (if decide (1 ≤ w.Of.length) && decide (w.Of.length ≤ 8) && asc c.Wires.length w.Of (x + 1) then .nx (inc w.Of held, x + 1) else .br (.inr 30)) else some (.br (.inr 30)) := fun b => by
        unfold circuit_Check_j51
        cases b with
        | false => simp
        | true =>
          simp only [if_true]
          by_cases hlen : 1 ≤ w.Of.length ∧ w.Of.length ≤ 8
          · obtain ⟨l1, l2⟩ := hlen
            have e : (decide ((w.Of.length : Int) < 1) || decide (8 < (w.Of.length : Int))) = false := by simp; omega
            simp only [e, Bool.false_eq_true, if_false, hw1, asc_eq hol hof (show (c.Wires.length : Int) ≤ 4611686018427387904 by omega), Option.bind_some, l1, l2, decide_true, Bool.true_and]
            cases ha : asc c.Wires.length w.Of (x + 1) with
            | true =>
              have := L21_eq (w := w) (h := held) hol (fun y hy => by have := asc_lt ha y hy; omega)
              simp [this, circuit_Check_j40, hw1]
            | false => simp
          · have e : (decide ((w.Of.length : Int) < 1) || decide (8 < (w.Of.length : Int))) = true := by simp; omega
            have e2 : (decide (1 ≤ w.Of.length) && decide (w.Of.length ≤ 8)) = false := by simp only [Bool.and_eq_false_iff, decide_eq_false_iff_not]; omega
            simp [e, e2]
      simp only [k1, decide_false, Bool.false_eq_true, if_false, okW, incW, j51]
      by_cases k2 : w.Kind = 2
      · simp [k2]
      · by_cases k3 : w.Kind = 3
        · simp [k3]
        · simp [k2, k3]
  · simp [hx]

theorem L32_eq {held : List Int} {x : Int} (h0 : 0 ≤ x) (hl : held.length = c.Wires.length) : r03_Check_L32 c (held, x) = some (stepW c (held, x)) := by
  unfold r03_Check_L32 stepW
  by_cases hx : x < (c.Wires.length : Int)
  · obtain ⟨hk, hol, hof⟩ := wire_ok hc hn hs h0 hx
    simp only [hx, decide_true, if_true, get_nth h0 hx, Option.bind_some]
    generalize nth c.Wires x = w at *
    have hw1 : wr (x + 1) = x + 1 := wr_add1 (by omega) (by omega)
    by_cases k1 : w.Kind = 1
    · simp only [k1, decide_true, if_true, okW, incW]
      by_cases hl1 : w.Of.length = 1
      · have e : decide (¬ (w.Of.length : Int) = 1) = false := by simp; omega
        obtain ⟨y, hy⟩ : ∃ y, w.Of = [y] := List.length_eq_one_iff.1 hl1
        have hg : get w.Of 0 = some y := by rw [hy]; rfl
        simp only [e, Bool.false_eq_true, if_false, hg, Option.bind_some, r03_within, hl1, decide_true, Bool.true_and]
        rw [wr_id (n := (c.Switches.length : Int) - 1) (by omega) (by omega)]
        have e2 : asc c.Switches.length w.Of 0 = (decide (0 ≤ y) && decide (y ≤ (c.Switches.length : Int) - 1)) := by
          have : (y < (c.Switches.length : Int)) ↔ (y ≤ (c.Switches.length : Int) - 1) := by omega
          rw [hy]; simp [asc, this]
        rw [e2]
        cases (decide (0 ≤ y) && decide (y ≤ (c.Switches.length : Int) - 1)) with
        | true => simp [r03_Check_j25, hw1]
        | false => simp
      · have e : decide (¬ (w.Of.length : Int) = 1) = true := by simp; omega
        simp [e, hl1]
    · have j36 : ∀ b, r03_Check_j36 c held x w b = if b then some (if decide (1 ≤ w.Of.length) && decide (w.Of.length ≤ 8) && asc c.Wires.length w.Of (x + 1) then .nx (inc w.Of held, x + 1) else .br (.inr 30)) else some (.br (.inr 30)) := fun b => by
        unfold r03_Check_j36
        cases b with
        | false => simp
        | true =>
          simp only [if_true, r03_within]
          by_cases hlen : 1 ≤ w.Of.length ∧ w.Of.length ≤ 8
          · obtain ⟨l1, l2⟩ := hlen
            have e : (decide ((1 : Int) ≤ (w.Of.length : Int)) && decide ((w.Of.length : Int) ≤ 8)) = true := by simp; omega
            simp only [e, Bool.not_true, Bool.false_eq_true, if_false, L29_eq (c := c) (w := w) (h := held) (lo := x) hol hof (by omega) hl ⟨h0, hx⟩, Option.bind_some, l1, l2, decide_true, Bool.true_and]
            cases ha : asc c.Wires.length w.Of (x + 1) with
            | true => simp [r03_Check_j25, hw1]
            | false => simp
          · have e : (decide ((1 : Int) ≤ (w.Of.length : Int)) && decide ((w.Of.length : Int) ≤ 8)) = false := by simp only [Bool.and_eq_false_iff, decide_eq_false_iff_not]; omega
            have e2 : (decide (1 ≤ w.Of.length) && decide (w.Of.length ≤ 8)) = false := by simp only [Bool.and_eq_false_iff, decide_eq_false_iff_not]; omega
            simp [e, e2]
      simp only [k1, decide_false, Bool.false_eq_true, if_false, okW, incW, j36]
      by_cases k2 : w.Kind = 2
      · simp [k2]
      · by_cases k3 : w.Kind = 3
        · simp [k3]
        · simp [k2, k3]
  · simp [hx]
end
end Go.Nw.DM

namespace Go.Nw.DM

theorem inc_zero : ∀ {l h : List Int}, (∀ y ∈ l, 1 ≤ y) → nth (inc l h) 0 = nth h 0
  | [], _, _ => rfl
  | y :: r, h, hy => by
    have h1 := hy y List.mem_cons_self
    rw [inc, inc_zero fun z hz => hy z (List.mem_cons_of_mem _ hz)]
    have : y.toNat ≠ 0 := by omega
    simp [nth, List.getD, List.getElem?_set, this]

structure Valid (c : Circuit) : Prop where
  hz : 1 ≤ c.Hazards ∧ c.Hazards ≤ 8
  sw : 1 ≤ c.Switches.length ∧ c.Switches.length ≤ 12
  wi : 1 ≤ c.Wires.length ∧ c.Wires.length ≤ 24
  ok : ∀ x : Int, 0 ≤ x → x < c.Wires.length → okW c x (nth c.Wires x) = true
  sws : ∀ n ∈ c.Switches, 0 ≤ n ∧ n < 2 ^ c.Hazards.toNat

def JW (c : Circuit) (s : List Int × Int) : Prop := 0 ≤ s.2 ∧ s.2 ≤ c.Wires.length ∧ s.1.length = c.Wires.length ∧ nth s.1 0 = 0 ∧ ∀ x : Int, 0 ≤ x → x < s.2 → okW c x (nth c.Wires x) = true

section
variable {c : Circuit} (hc : OkC c) (hn : c.Wires.length ≤ 1000) (hs : c.Switches.length ≤ 1000)

theorem stepW_J {s s' : List Int × Int} (hJ : JW c s) (h : stepW c s = .nx s') : JW c s' ∧ s.2 < c.Wires.length ∧ s'.2 = s.2 + 1 := by
  obtain ⟨h0, h1, h2, h3, h4⟩ := hJ
  unfold stepW at h
  split at h
  · rename_i hx
    split at h
    · rename_i hok
      cases h
      refine ⟨⟨by simp only; omega, by simp only; omega, ?_, ?_, fun x hx0 hx1 => ?_⟩, hx, rfl⟩
      · simp only [incW]; split
        · exact h2
        · rw [inc_len]; exact h2
      · simp only [incW]; split
        · exact h3
        · rename_i k1
          rw [inc_zero, h3]
          intro y hy
          simp only [okW, k1, if_false] at hok
          split at hok
          · simp only [Bool.and_eq_true] at hok
            have := asc_lt hok.2 y hy
            omega
          · cases hok
      · simp only at hx1
        by_cases e : x = s.2
        · rw [e]; exact hok
        · exact h4 x hx0 (by omega)
    · cases h
  · cases h

theorem loopW {l : List Int} (hJ : JW c (l, 0)) : ∃ b, loopM (fun s => some (stepW c s)) (l, 0) = some b ∧ (match b with | .inl h => h.length = c.Wires.length ∧ nth h 0 = 0 ∧ ∀ x : Int, 0 ≤ x → x < c.Wires.length → okW c x (nth c.Wires x) = true | .inr r => r = 30) := by
  refine loopM_rule (JW c) (fun s => ((c.Wires.length : Int) - s.2).toNat) _ (fun s hJ => ?_) _ hJ
  cases h : stepW c s with
  | nx s' =>
    obtain ⟨h1, h2, h3⟩ := stepW_J hJ h
    exact .inl ⟨s', rfl, h1, by omega⟩
  | br b =>
    refine .inr ⟨b, rfl, ?_⟩
    obtain ⟨h0, h1, h2, h3, h4⟩ := hJ
    unfold stepW at h
    split at h
    · split at h
      · cases h
      · cases h; rfl
    · cases h
      exact ⟨h2, h3, fun x hx0 hx1 => h4 x hx0 (by omega)⟩

include hc hn hs in
theorem loop24 {l : List Int} (hJ : JW c (l, 0)) : loopM (circuit_Check_L24 c) (l, 0) = loopM (fun s => some (stepW c s)) (l, 0) :=
  loopM_eq (JW c) (fun s hs' => by
    have e := L24_eq hc hn hs (held := s.1) (x := s.2) hs'.1 hs'.2.2.1
    exact ⟨e, fun s' h => by rw [e] at h; exact (stepW_J hs' (by simpa using h)).1⟩) hJ
include hc hn hs in
theorem loop32 {l : List Int} (hJ : JW c (l, 0)) : loopM (r03_Check_L32 c) (l, 0) = loopM (fun s => some (stepW c s)) (l, 0) :=
  loopM_eq (JW c) (fun s hs' => by
    have e := L32_eq hc hn hs (held := s.1) (x := s.2) hs'.1 hs'.2.2.1
    exact ⟨e, fun s' h => by rw [e] at h; exact (stepW_J hs' (by simpa using h)).1⟩) hJ

def endW (h : List Int) : Int := if (h.drop 1).any (fun n => decide (¬ n = 1)) then 30 else 0
theorem j22_eq {h : List Int} (hl : 1 ≤ h.length) (hm : h.length ≤ maxLen) (h0 : nth h 0 = 0) : circuit_Check_j22 h = some (endW h) := by
  unfold circuit_Check_j22
  have hsub : sub h 1 (h.length : Int) = some (h.drop 1) := by
    unfold sub
    rw [if_pos (by omega)]
    simp
  have hx := indexFunc_any (s := h.drop 1) (f := fun z30 => some (circuit_CheckD2 z30)) (p := fun n => decide (¬ n = 1)) (by simp; omega) (fun x _ => rfl)
  simp only [get_nth (l := h) (i := 0) (by omega) (by omega), h0, Option.bind_some, hsub, hx]
  unfold endW
  cases (h.drop 1).any (fun n => decide (¬ n = 1)) <;> simp
theorem j10_eq {h : List Int} (hl : 1 ≤ h.length) (hm : h.length ≤ maxLen) : r03_Check_j10 h = some (endW h) := by
  have := loop_list_at (f := r03_Check_L38 h) h (fun (_ : Unit) k => k) (fun r _ => if r.any (fun n => decide (¬ n = 1)) then Sum.inr (30 : Int) else Sum.inl ()) (fun _ _ => True)
    (fun s k x r hd hg hk hmm _ => by
      unfold r03_Check_L38
      simp only [hk, decide_true, if_true, hg, Option.bind_some]
      by_cases hx : x = 1
      · refine .inl ⟨(), ?_, trivial, ?_⟩
        · simp [hx, wr_len hk hm]
        · simp [hx]
      · refine .inr ?_
        simp [hx])
    (fun s _ => by unfold r03_Check_L38; simp) (s := ()) 1 hl trivial
  unfold r03_Check_j10
  rw [show ((1 : Nat) : Int) = 1 from rfl] at this
  rw [this]
  unfold endW
  cases (h.drop 1).any (fun n => decide (¬ n = 1)) <;> rfl
end
end Go.Nw.DM

namespace Go.Nw.DM

theorem nth_rep {n : Nat} : nth (List.replicate n (0 : Int)) 0 = 0 := by
  cases n <;> simp [nth, List.getD, List.replicate]

theorem L8_eq {c : Circuit} (hl : c.Switches.length ≤ maxLen) (h0 : 0 ≤ c.Hazards) (h1 : c.Hazards ≤ 62) {p : Int → Bool} (hp : ∀ x, p x = !(decide (0 ≤ x) && decide (x < 2 ^ c.Hazards.toNat))) :
    loopM (r03_Check_L8 c) 0 = some (if c.Switches.any p then .inr 30 else .inl ()) := by
  have := loop_list (f := r03_Check_L8 c) c.Switches (fun (_ : Unit) k => k) (fun r _ => if r.any p then Sum.inr (30 : Int) else Sum.inl ()) (fun _ _ => True)
    (fun s k x r hd hg hk hmm _ => by
      unfold r03_Check_L8
      obtain ⟨h2, h3⟩ := pow_bound h1
      simp only [hk, decide_true, if_true, hg, Option.bind_some, u64_id h0 (by omega), shl1 h0 h1]
      rw [wr_id (n := 2 ^ c.Hazards.toNat - 1) (by omega) (by omega)]
      have e : (x ≤ 2 ^ c.Hazards.toNat - 1) ↔ (x < 2 ^ c.Hazards.toNat) := by omega
      have e2 : (!(r03_within x 0 (2 ^ c.Hazards.toNat - 1))) = p x := by rw [hp]; simp only [r03_within, e]
      rw [e2]
      cases hb : p x with
      | false => exact .inl ⟨(), by simp [wr_len hk hl], trivial, by simp [hb]⟩
      | true => exact .inr (by simp [hb]))
    (fun s _ => by unfold r03_Check_L8; simp) (s := ()) trivial
  exact this

theorem Check_eq {c : Circuit} (hc : OkC c) (hn : c.Wires.length ≤ 1000) (hs : c.Switches.length ≤ 1000) :
    ∃ r, circuit_Check c = some r ∧ r03_Check c = some r ∧ (r = 0 ∨ r = 30) ∧ (r = 0 → Valid c) := by
  unfold circuit_Check r03_Check
  rw [contains_bool3]
  by_cases hh : (1 ≤ c.Hazards ∧ c.Hazards ≤ 8) ∧ (1 ≤ c.Switches.length ∧ c.Switches.length ≤ 12) ∧ (1 ≤ c.Wires.length ∧ c.Wires.length ≤ 24)
  · obtain ⟨⟨a1, a2⟩, ⟨a3, a4⟩, ⟨a5, a6⟩⟩ := hh
    have b3 : (1 : Int) ≤ (c.Switches.length : Int) := by omega
    have b4 : (c.Switches.length : Int) ≤ 12 := by omega
    have b5 : (1 : Int) ≤ (c.Wires.length : Int) := by omega
    have b6 : (c.Wires.length : Int) ≤ 24 := by omega
    have hsw := indexFunc_any (s := c.Switches) (f := fun z13 => circuit_CheckD1 z13 c) (p := fun n => !(decide (0 ≤ n) && decide (n < 2 ^ c.Hazards.toNat))) hc.2.1.1 (fun x _ => by
      unfold circuit_CheckD1; rw [isSet_eq (by omega) (by omega)]; rfl)
    have hL8 := L8_eq (c := c) hc.2.1.1 (by omega) (by omega) (p := fun n => !(decide (0 ≤ n) && decide (n < 2 ^ c.Hazards.toNat))) (fun _ => rfl)
    simp only [a1, a2, b3, b4, b5, b6, decide_true, Bool.and_self, Bool.not_true, Bool.false_eq_true, if_false, Option.bind_some, hsw, r03_within, Bool.or_self, hL8]
    cases hany : c.Switches.any (fun n => !(decide (0 ≤ n) && decide (n < 2 ^ c.Hazards.toNat))) with
    | true => exact ⟨30, by simp, by simp, .inr rfl, fun h => by omega⟩
    | false =>
      simp only [Bool.false_eq_true, if_false]
      have hm : mks 8 (c.Wires.length : Int) (0 : Int) = some (List.replicate c.Wires.length 0) := by
        rw [mks_ok (by omega) (by omega) (by omega)]; simp
      unfold r03_Check_j6
      rw [hm]
      simp only [Option.bind_some]
      have hJ : JW c (List.replicate c.Wires.length 0, 0) := ⟨by simp, by simp, by simp, nth_rep, fun x h0 h1 => by simp only at h1; omega⟩
      rw [loop24 hc hn hs hJ, loop32 hc hn hs hJ]
      obtain ⟨b, hb, hP⟩ := loopW (c := c) hJ
      rw [hb]
      cases b with
      | inr r =>
        simp only at hP
        subst hP
        exact ⟨30, rfl, rfl, .inr rfl, fun h => by omega⟩
      | inl h =>
        simp only at hP
        obtain ⟨p1, p2, p3⟩ := hP
        refine ⟨endW h, j22_eq (by omega) (by simp only [maxLen]; omega) p2, j10_eq (by omega) (by simp only [maxLen]; omega), ?_, fun _ => ⟨⟨a1, a2⟩, ⟨a3, a4⟩, ⟨a5, a6⟩, p3, fun n hn => ?_⟩⟩
        · unfold endW; split
          · exact .inr rfl
          · exact .inl rfl
        · have := List.any_eq_false.1 hany n hn
          simpa using this
  · have e1 : (!((decide (1 ≤ c.Hazards) && decide (c.Hazards ≤ 8)) && (decide ((1 : Int) ≤ (c.Switches.length : Int)) && decide ((c.Switches.length : Int) ≤ 12)) && (decide ((1 : Int) ≤ (c.Wires.length : Int)) && decide ((c.Wires.length : Int) ≤ 24)))) = true := by
      simp only [Bool.not_eq_true', Bool.and_eq_false_iff, decide_eq_false_iff_not]; omega
    have e2 : (((!(r03_within c.Hazards 1 8)) || (!(r03_within (c.Switches.length : Int) 1 12))) || (!(r03_within (c.Wires.length : Int) 1 24))) = true := by
      by_cases g1 : 1 ≤ c.Hazards ∧ c.Hazards ≤ 8
      · by_cases g2 : 1 ≤ c.Switches.length ∧ c.Switches.length ≤ 12
        · have g3 : ¬ (1 ≤ c.Wires.length ∧ c.Wires.length ≤ 24) := fun h => hh ⟨g1, g2, h⟩
          have : r03_within (c.Wires.length : Int) 1 24 = false := by simp only [r03_within, Bool.and_eq_false_iff, decide_eq_false_iff_not]; omega
          rw [this]; simp
        · have : r03_within (c.Switches.length : Int) 1 12 = false := by simp only [r03_within, Bool.and_eq_false_iff, decide_eq_false_iff_not]; omega
          rw [this]; simp
      · have : r03_within c.Hazards 1 8 = false := by simp only [r03_within, Bool.and_eq_false_iff, decide_eq_false_iff_not]; omega
        rw [this]; simp
    rw [e1, e2]
    exact ⟨30, rfl, rfl, .inr rfl, fun h => by omega⟩
end Go.Nw.DM

namespace Go.Nw.DM

theorem get_mem {α : Type} [Inhabited α] {l : List α} {i : Int} (h0 : 0 ≤ i) (h1 : i < l.length) : get l i = some (nth l i) := get_nth h0 h1

theorem L10_eq {self : Circuit → Int → Int → Int → Int → Option Bool} {c : Circuit} {hz cl op : Int} {w : Wire} {p : Int → Bool} (hl : w.Of.length ≤ maxLen) (hp : ∀ z ∈ w.Of, self c z hz cl op = some (p z)) :
    loopM (r03_conducts_body_L10 self c hz cl op w) 0 = some (if w.Of.any (fun z => p z == decide (w.Kind = 3)) then .inr (decide (w.Kind = 3)) else .inl ()) := by
  refine loop_list (f := r03_conducts_body_L10 self c hz cl op w) w.Of (fun (_ : Unit) k => k) (fun r _ => if r.any (fun z => p z == decide (w.Kind = 3)) then Sum.inr (decide (w.Kind = 3)) else Sum.inl ()) (fun _ _ => True)
    (fun s k x r hd hg hk hmm _ => ?_) (fun s _ => by unfold r03_conducts_body_L10; simp) (s := ()) trivial
  unfold r03_conducts_body_L10
  simp only [hk, decide_true, if_true, hg, Option.bind_some, hp x hmm]
  by_cases hb : (p x == decide (w.Kind = 3)) = true
  · have e : beqB (p x) (decide (w.Kind = 3)) = true := hb
    exact .inr (by simp only [e, if_true, List.any_cons, hb, Bool.true_or])
  · have hb : (p x == decide (w.Kind = 3)) = false := Bool.eq_false_iff.2 hb
    have e : beqB (p x) (decide (w.Kind = 3)) = false := hb
    exact .inl ⟨(), by simp only [e, Bool.false_eq_true, if_false, wr_len hk hl], trivial, by simp only [List.any_cons, hb, Bool.false_or]⟩

theorem wire_eq {c : Circuit} (hc : OkC c) (hv : Valid c) (hz cl op : Int) : ∀ (n : Nat) (i : Int), 0 ≤ i → i < c.Wires.length → (c.Wires.length : Int) - i < n →
    ∃ b, _circuit_state__wire n ⟨c, hz, cl, op⟩ i = some b ∧ r03_conducts n c i hz cl op = some b
  | 0, i, h0, h1, h2 => by omega
  | n + 1, i, h0, h1, h2 => by
    have hok := hv.ok i h0 h1
    obtain ⟨hk, hol, hof⟩ := hc.2.2.2 _ (nth_toNat h0 h1)
    show ∃ b, _circuit_state__wire_body (_circuit_state__wire n) ⟨c, hz, cl, op⟩ i = some b ∧ r03_conducts_body (r03_conducts n) c i hz cl op = some b
    unfold _circuit_state__wire_body r03_conducts_body
    simp only [get_nth h0 h1, Option.bind_some]
    generalize nth c.Wires i = w at *
    have hsw := hv.sw
    by_cases k1 : w.Kind = 1
    · simp only [okW, k1, if_true, Bool.and_eq_true, decide_eq_true_eq] at hok
      obtain ⟨o1, o2⟩ := hok
      obtain ⟨y, hy⟩ : ∃ y, w.Of = [y] := List.length_eq_one_iff.1 o1
      have hg : get w.Of 0 = some y := by rw [hy]; rfl
      obtain ⟨y0, y1⟩ := asc_lt o2 y (by rw [hy]; simp)
      simp only [k1, decide_true, if_true, hg, Option.bind_some, u64_id (n := y) y0 (by omega), _circuit_state__conducts, get_nth y0 y1, shr_ok y0]
      by_cases g1 : band (shrK .i64 op y) 1 = 0 <;> by_cases g2 : band (shrK .i64 cl y) 1 = 1 <;> simp [g1, g2]
    · simp only [okW, k1, if_false] at hok
      split at hok
      · rename_i k23
        simp only [Bool.and_eq_true, decide_eq_true_eq] at hok
        have hin : ∀ z ∈ w.Of, ∃ b, _circuit_state__wire n ⟨c, hz, cl, op⟩ z = some b ∧ r03_conducts n c z hz cl op = some b := fun z hzm => by
          have := asc_lt hok.2 z hzm
          exact wire_eq hc hv hz cl op n z (by omega) this.2 (by omega)
        have hp1 : ∀ z ∈ w.Of, _circuit_state__wire n ⟨c, hz, cl, op⟩ z = some ((_circuit_state__wire n ⟨c, hz, cl, op⟩ z).getD false) := fun z hzm => by
          obtain ⟨b, e, _⟩ := hin z hzm; rw [e]; rfl
        have hp2 : ∀ z ∈ w.Of, r03_conducts n c z hz cl op = some ((_circuit_state__wire n ⟨c, hz, cl, op⟩ z).getD false) := fun z hzm => by
          obtain ⟨b, e, e2⟩ := hin z hzm; rw [e, e2]; rfl
        simp only [k1, decide_false, Bool.false_eq_true, if_false]
        rw [L10_eq hol hp2]
        generalize hpp : (fun z => (_circuit_state__wire n ⟨c, hz, cl, op⟩ z).getD false) = p at *
        have hp1' : ∀ z ∈ w.Of, _circuit_state__wire n ⟨c, hz, cl, op⟩ z = some (p z) := fun z hzm => by rw [hp1 z hzm, ← hpp]
        have hpe : ∀ z, (_circuit_state__wire n ⟨c, hz, cl, op⟩ z).getD false = p z := fun z => by rw [← hpp]
        simp only [hpe]
        rcases k23 with k2 | k3
        · have k3 : ¬ w.Kind = 3 := by omega
          have ha := indexFunc_any (s := w.Of) (f := fun z16 => _circuit_state__wireD1 (_circuit_state__wire n) z16 ⟨c, hz, cl, op⟩) (p := fun z => !p z) hol (fun z hzm => by
            unfold _circuit_state__wireD1; rw [hp1' z hzm]; rfl)
          simp only [k3, decide_false, Bool.false_eq_true, if_false, ha, Option.bind_some]
          refine ⟨_, rfl, ?_⟩
          have e : (w.Of.any fun z => p z == false) = w.Of.any fun z => !p z := by congr 1; funext z; cases p z <;> rfl
          rw [e]
          cases w.Of.any fun z => !p z with
          | true => simp
          | false => simp [r03_conducts_body_j20, k2]
        · have ha := indexFunc_any (s := w.Of) (f := fun z12 => _circuit_state__wire n ⟨c, hz, cl, op⟩ z12) (p := p) hol hp1'
          simp only [k3, decide_true, if_true, ha, Option.bind_some]
          refine ⟨_, rfl, ?_⟩
          have e : (w.Of.any fun z => p z == true) = w.Of.any p := by congr 1; funext z; cases p z <;> rfl
          rw [e]
          cases w.Of.any p with
          | true => simp
          | false => simp [r03_conducts_body_j20, k3]
      · cases hok
end Go.Nw.DM
