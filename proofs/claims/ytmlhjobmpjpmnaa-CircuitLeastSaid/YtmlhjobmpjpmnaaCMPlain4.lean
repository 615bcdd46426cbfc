/- The circuit's check, of the program and of the document, answer alike. -/
import Derived.Test.YtmlhjobmpjpmnaaCMPlain3
set_option linter.all false
set_option linter.unusedVariables false
set_option linter.unusedSimpArgs false
set_option linter.unusedSectionVars false
namespace Go.Nw.CM

theorem inc_zero : ∀ {l h : List Int}, (∀ y ∈ l, 1 ≤ y) → nth (inc l h) 0 = nth h 0
  | [], _, _ => rfl
  | y :: r, h, hy => by
    have h1 := hy y List.mem_cons_self
    rw [inc, inc_zero fun z hz => hy z (List.mem_cons_of_mem _ hz)]
    have : y.toNat ≠ 0 := by omega
    simp [nth, List.getD, List.getElem?_set, this]

structure Valid (c : Circuit) : Prop where
  hz : 1 ≤ c.Hazards ∧ c.Hazards ≤ 8
  sw : 1 ≤ c.Switches.length ∧ c.Switches.length ≤ 12
  wi : 1 ≤ c.Wires.length ∧ c.Wires.length ≤ 24
  ok : ∀ x : Int, 0 ≤ x → x < c.Wires.length → okW c x (nth c.Wires x) = true
  sws : ∀ n ∈ c.Switches, 0 ≤ n ∧ n < 2 ^ c.Hazards.toNat

def JW (c : Circuit) (s : List Int × Int) : Prop := 0 ≤ s.2 ∧ s.2 ≤ c.Wires.length ∧ s.1.length = c.Wires.length ∧ nth s.1 0 = 0 ∧ ∀ x : Int, 0 ≤ x → x < s.2 → okW c x (nth c.Wires x) = true

section
variable {c : Circuit} (hc : OkC c) (hn : c.Wires.length ≤ 1000) (hs : c.Switches.length ≤ 1000)

theorem stepW_J {s s' : List Int × Int} (hJ : JW c s) (h : stepW c s = .nx s') : JW c s' ∧ s.2 < c.Wires.length ∧ s'.2 = s.2 + 1 := by
  obtain ⟨h0, h1, h2, h3, h4⟩ := hJ
  unfold stepW at h
  split at h
  · rename_i hx
    split at h
    · rename_i hok
      cases h
      refine ⟨⟨by simp only; omega, by simp only; omega, ?_, ?_, fun x hx0 hx1 => ?_⟩, hx, rfl⟩
      · simp only [incW]; split
        · exact h2
        · rw [inc_len]; exact h2
      · simp only [incW]; split
        · exact h3
        · rename_i k1
          rw [inc_zero, h3]
          intro y hy
          simp only [okW, k1, if_false] at hok
          split at hok
          · simp only [Bool.and_eq_true] at hok
            have := asc_lt hok.2 y hy
            omega
          · cases hok
      · simp only at hx1
        by_cases e : x = s.2
        · rw [e]; exact hok
        · exact h4 x hx0 (by omega)
    · cases h
  · cases h

theorem loopW {l : List Int} (hJ : JW c (l, 0)) : ∃ b, loopM (fun s => some (stepW c s)) (l, 0) = some b ∧ (match b with | .inl h => h.length = c.Wires.length ∧ nth h 0 = 0 ∧ ∀ x : Int, 0 ≤ x → x < c.Wires.length → okW c x (nth c.Wires x) = true | .inr r => r = 30) := by
  refine loopM_rule (JW c) (fun s => ((c.Wires.length : Int) - s.2).toNat) _ (fun s hJ => ?_) _ hJ
  cases h : stepW c s with
  | nx s' =>
    obtain ⟨h1, h2, h3⟩ := stepW_J hJ h
    exact .inl ⟨s', rfl, h1, by omega⟩
  | br b =>
    refine .inr ⟨b, rfl, ?_⟩
    obtain ⟨h0, h1, h2, h3, h4⟩ := hJ
    unfold stepW at h
    split at h
    · split at h
      · cases h
      · cases h; rfl
    · cases h
      exact ⟨h2, h3, fun x hx0 hx1 => h4 x hx0 (by omega)⟩

include hc hn hs in
theorem loop24 {l : List Int} (hJ : JW c (l, 0)) : loopM (circuit_Check_L24 c) (l, 0) = loopM (fun s => some (stepW c s)) (l, 0) :=
  loopM_eq (JW c) (fun s hs' => by
    have e := L24_eq hc hn hs (held := s.1) (x := s.2) hs'.1 hs'.2.2.1
    exact ⟨e, fun s' h => by rw [e] at h; exact (stepW_J hs' (by simpa using h)).1⟩) hJ
include hc hn hs in
theorem loop32 {l : List Int} (hJ : JW c (l, 0)) : loopM (r03_Check_L32 c) (l, 0) = loopM (fun s => some (stepW c s)) (l, 0) :=
  loopM_eq (JW c) (fun s hs' => by
    have e := L32_eq hc hn hs (held := s.1) (x := s.2) hs'.1 hs'.2.2.1
    exact ⟨e, fun s' h => by rw [e] at h; exact (stepW_J hs' (by simpa using h)).1⟩) hJ

def endW (h : List Int) : Int := if (h.drop 1).any (fun n => decide (¬ n = 1)) then 30 else 0
theorem j22_eq {h : List Int} (hl : 1 ≤ h.length) (hm : h.length ≤ maxLen) (h0 : nth h 0 = 0) : circuit_Check_j22 h = some (endW h) := by
  unfold circuit_Check_j22
  have hsub : sub h 1 (h.length : Int) = some (h.drop 1) := by
    unfold sub
    rw [if_pos (by omega)]
    simp
  have hx := indexFunc_any (s := h.drop 1) (f := fun z30 => some (circuit_CheckD2 z30)) (p := fun n => decide (¬ n = 1)) (by simp; omega) (fun x _ => rfl)
  simp only [get_nth (l := h) (i := 0) (by omega) (by omega), h0, Option.bind_some, hsub, hx]
  unfold endW
  cases (h.drop 1).any (fun n => decide (¬ n = 1)) <;> simp
theorem j10_eq {h : List Int} (hl : 1 ≤ h.length) (hm : h.length ≤ maxLen) : r03_Check_j10 h = some (endW h) := by
  have := loop_list_at (f := r03_Check_L38 h) h (fun (_ : Unit) k => k) (fun r _ => if r.any (fun n => decide (¬ n = 1)) then Sum.inr (30 : Int) else Sum.inl ()) (fun _ _ => True)
    (fun s k x r hd hg hk hmm _ => by
      unfold r03_Check_L38
      simp only [hk, decide_true, if_true, hg, Option.bind_some]
      by_cases hx : x = 1
      · refine .inl ⟨(), ?_, trivial, ?_⟩
        · simp [hx, wr_len hk hm]
        · simp [hx]
      · refine .inr ?_
        simp [hx])
    (fun s _ => by unfold r03_Check_L38; simp) (s := ()) 1 hl trivial
  unfold r03_Check_j10
  rw [show ((1 : Nat) : Int) = 1 from rfl] at this
  rw [this]
  unfold endW
  cases (h.drop 1).any (fun n => decide (¬ n = 1)) <;> rfl
end
end Go.Nw.CM
