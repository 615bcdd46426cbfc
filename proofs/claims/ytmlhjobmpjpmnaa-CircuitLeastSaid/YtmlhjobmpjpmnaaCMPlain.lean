/- Plain facts on the models of the circuit's functions. -/
import Derived.Test.YtmlhjobmpjpmnaaCMLast
import Derived.Test.YtmlhjobmpjpmnaaNwPlain
set_option linter.all false
set_option linter.unusedVariables false
set_option linter.unusedSimpArgs false
set_option linter.unusedSectionVars false
namespace Go.Nw.CM

theorem wr_succ {x : Int} {n : Nat} (h0 : 0 ≤ x) (h1 : x < n) (hn : n ≤ maxLen) : wr (x + 1) = x + 1 :=
  wr_id (by omega) (by simp only [maxLen] at hn; omega)

theorem nth_toNat {α : Type} [Inhabited α] {l : List α} {x : Int} (h0 : 0 ≤ x) (h1 : x < l.length) : nth l x ∈ l := by
  have : x.toNat < l.length := by omega
  simp [nth, List.getD, this]

theorem any_take_step {α : Type} [Inhabited α] {l : List α} {p : α → Bool} {x : Int} (h0 : 0 ≤ x) (h1 : x < l.length) (h : (l.take x.toNat).any p = false) (hp : p (nth l x) = false) : (l.take (x + 1).toNat).any p = false := by
  have e : (x + 1).toNat = x.toNat + 1 := by omega
  have hlt : x.toNat < l.length := by omega
  rw [e, List.take_add_one, List.any_append, h]
  simp [nth, List.getD, hlt] at hp
  simp [hlt, hp]

theorem indexFunc_any {s : List Int} {f : Int → Option Bool} {p : Int → Bool} (hl : s.length ≤ maxLen) (hf : ∀ x ∈ s, f x = some (p x)) : slices_ContainsFunc___int_int_ s f = some (s.any p) := by
  obtain ⟨b, hb, hP⟩ := loopM_rule (f := slices_IndexFunc___int_int__L7 s f) (fun x => 0 ≤ x ∧ x ≤ s.length ∧ (s.take x.toNat).any p = false) (fun x => (s.length - x).toNat)
    (fun b => match b with | .inl () => s.any p = false | .inr r => 0 ≤ r ∧ s.any p = true) (fun x ⟨h0, h1, h2⟩ => by
      unfold slices_IndexFunc___int_int__L7
      by_cases hx : x < s.length
      · have hm := nth_toNat h0 hx
        simp only [hx, decide_true, if_true, get_nth h0 hx, Option.bind_some, hf _ hm]
        cases hp : p (nth s x) with
        | true => exact .inr ⟨_, rfl, h0, List.any_eq_true.2 ⟨_, hm, hp⟩⟩
        | false =>
          refine .inl ⟨x + 1, by rw [wr_succ h0 hx hl]; rfl, ⟨by omega, by omega, any_take_step h0 hx h2 hp⟩, by omega⟩
      · simp only [hx, decide_false, Bool.false_eq_true, if_false]
        refine .inr ⟨_, rfl, ?_⟩
        have : x.toNat = s.length := by omega
        rw [this, List.take_length] at h2
        exact h2) 0 ⟨by omega, by omega, by simp⟩
  unfold slices_ContainsFunc___int_int_ slices_IndexFunc___int_int_
  rw [hb]
  cases b with
  | inl u =>
    simp only [Option.bind_some, slices_IndexFunc___int_int__j2]
    simp only at hP
    rw [hP]; rfl
  | inr r =>
    simp only [Option.bind_some]
    simp only at hP
    rw [hP.2]; simp [hP.1]

theorem contains_bool3 (a b c : Bool) : slices_Contains___bool_bool_ [a, b, c] false = some (!(a && b && c)) := by
  obtain ⟨r, hb, hP⟩ := loopM_rule (f := slices_Index___bool_bool__L7 [a, b, c] false) (fun x => 0 ≤ x ∧ x ≤ 3 ∧ ([a, b, c].take x.toNat).any (!·) = false) (fun x => (3 - x).toNat)
    (fun r => match r with | .inl () => [a, b, c].any (!·) = false | .inr r => 0 ≤ r ∧ [a, b, c].any (!·) = true) (fun x ⟨h0, h1, h2⟩ => by
      unfold slices_Index___bool_bool__L7
      have hlen : (List.length [a, b, c] : Int) = 3 := rfl
      by_cases hx : x < (List.length [a, b, c] : Int)
      · have hm := nth_toNat (l := [a, b, c]) h0 hx
        simp only [hx, decide_true, if_true, get_nth h0 hx, Option.bind_some]
        cases hp : nth [a, b, c] x with
        | false =>
          refine .inr ⟨_, rfl, h0, List.any_eq_true.2 ⟨_, hm, by rw [hp]; rfl⟩⟩
        | true =>
          refine .inl ⟨x + 1, by rw [wr_succ h0 hx (show 3 ≤ maxLen by decide)]; rfl, ⟨by omega, by omega, any_take_step h0 hx h2 (by rw [hp]; rfl)⟩, by omega⟩
      · simp only [hx, decide_false, Bool.false_eq_true, if_false]
        refine .inr ⟨_, rfl, ?_⟩
        have : x.toNat = 3 := by omega
        rw [this] at h2
        exact h2) 0 ⟨by omega, by omega, by simp⟩
  unfold slices_Contains___bool_bool_ slices_Index___bool_bool_
  rw [hb]
  cases r with
  | inl u =>
    simp only [Option.bind_some, slices_Index___bool_bool__j2]
    simp only at hP
    revert hP; cases a <;> cases b <;> cases c <;> decide
  | inr r =>
    simp only [Option.bind_some]
    simp only at hP
    obtain ⟨h1, h2⟩ := hP
    simp only [h1, decide_true]
    revert h2; cases a <;> cases b <;> cases c <;> decide

theorem ascending_spec {l : List Int} {low high : Int} (hl : l.length ≤ maxLen) (hok : ∀ x ∈ l, In64 x) : ∃ b, circuit_ascending l low high = some b := by
  obtain ⟨r, hb, _⟩ := loopM_rule (f := circuit_ascending_L8 l high) (fun s => 0 ≤ s.2 ∧ s.2 ≤ l.length) (fun s => (l.length - s.2).toNat) (fun _ => True) (fun s ⟨h0, h1⟩ => by
      obtain ⟨lo, x⟩ := s
      simp only at h0 h1
      unfold circuit_ascending_L8
      by_cases hx : x < l.length
      · simp only [hx, decide_true, if_true, get_nth h0 hx, Option.bind_some]
        split
        · exact .inr ⟨_, rfl, trivial⟩
        · exact .inl ⟨_, rfl, by rw [wr_succ h0 hx hl]; simp only; omega, by rw [wr_succ h0 hx hl]; simp only; omega⟩
      · simp only [hx, decide_false, Bool.false_eq_true, if_false]
        exact .inr ⟨_, rfl, trivial⟩) (low, 0) ⟨by simp, by simp⟩
  unfold circuit_ascending
  rw [hb]
  cases r with
  | inl u => exact ⟨_, rfl⟩
  | inr r => exact ⟨_, rfl⟩
end Go.Nw.CM
