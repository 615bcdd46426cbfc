/- The circuit's check: the answers. -/
import Derived.Test.YtmlhjobmpjpmnaaCMPlain4
set_option linter.all false
set_option linter.unusedVariables false
set_option linter.unusedSimpArgs false
set_option linter.unusedSectionVars false
namespace Go.Nw.CM

theorem nth_rep {n : Nat} : nth (List.replicate n (0 : Int)) 0 = 0 := by
  cases n <;> simp [nth, List.getD, List.replicate]

theorem L8_eq {c : Circuit} (hl : c.Switches.length ≤ maxLen) (h0 : 0 ≤ c.Hazards) (h1 : c.Hazards ≤ 62) {p : Int → Bool} (hp : ∀ x, p x = !(decide (0 ≤ x) && decide (x < 2 ^ c.Hazards.toNat))) :
    loopM (r03_Check_L8 c) 0 = some (if c.Switches.any p then .inr 30 else .inl ()) := by
  have := loop_list (f := r03_Check_L8 c) c.Switches (fun (_ : Unit) k => k) (fun r _ => if r.any p then Sum.inr (30 : Int) else Sum.inl ()) (fun _ _ => True)
    (fun s k x r hd hg hk hmm _ => by
      unfold r03_Check_L8
      obtain ⟨h2, h3⟩ := pow_bound h1
      simp only [hk, decide_true, if_true, hg, Option.bind_some, u64_id h0 (by omega), shl1 h0 h1]
      rw [wr_id (n := 2 ^ c.Hazards.toNat - 1) (by omega) (by omega)]
      have e : (x ≤ 2 ^ c.Hazards.toNat - 1) ↔ (x < 2 ^ c.Hazards.toNat) := by omega
      have e2 : (!(r03_within x 0 (2 ^ c.Hazards.toNat - 1))) = p x := by rw [hp]; simp only [r03_within, e]
      rw [e2]
      cases hb : p x with
      | false => exact .inl ⟨(), by simp [wr_len hk hl], trivial, by simp [hb]⟩
      | true => exact .inr (by simp [hb]))
    (fun s _ => by unfold r03_Check_L8; simp) (s := ()) trivial
  exact this

theorem Check_eq {c : Circuit} (hc : OkC c) (hn : c.Wires.length ≤ 1000) (hs : c.Switches.length ≤ 1000) :
    ∃ r, circuit_Check c = some r ∧ r03_Check c = some r ∧ (r = 0 ∨ r = 30) ∧ (r = 0 → Valid c) := by
  unfold circuit_Check r03_Check
  rw [contains_bool3]
  by_cases hh : (1 ≤ c.Hazards ∧ c.Hazards ≤ 8) ∧ (1 ≤ c.Switches.length ∧ c.Switches.length ≤ 12) ∧ (1 ≤ c.Wires.length ∧ c.Wires.length ≤ 24)
  · obtain ⟨⟨a1, a2⟩, ⟨a3, a4⟩, ⟨a5, a6⟩⟩ := hh
    have b3 : (1 : Int) ≤ (c.Switches.length : Int) := by omega
    have b4 : (c.Switches.length : Int) ≤ 12 := by omega
    have b5 : (1 : Int) ≤ (c.Wires.length : Int) := by omega
    have b6 : (c.Wires.length : Int) ≤ 24 := by omega
    have hsw := indexFunc_any (s := c.Switches) (f := fun z13 => circuit_CheckD1 z13 c) (p := fun n => !(decide (0 ≤ n) && decide (n < 2 ^ c.Hazards.toNat))) hc.2.1.1 (fun x _ => by
      unfold circuit_CheckD1; rw [isSet_eq (by omega) (by omega)]; rfl)
    have hL8 := L8_eq (c := c) hc.2.1.1 (by omega) (by omega) (p := fun n => !(decide (0 ≤ n) && decide (n < 2 ^ c.Hazards.toNat))) (fun _ => rfl)
    simp only [a1, a2, b3, b4, b5, b6, decide_true, Bool.and_self, Bool.not_true, Bool.false_eq_true, if_false, Option.bind_some, hsw, r03_within, Bool.or_self, hL8]
    cases hany : c.Switches.any (fun n => !(decide (0 ≤ n) && decide (n < 2 ^ c.Hazards.toNat))) with
    | true => exact ⟨30, by simp, by simp, .inr rfl, fun h => by omega⟩
    | false =>
      simp only [Bool.false_eq_true, if_false]
      have hm : mks 8 (c.Wires.length : Int) (0 : Int) = some (List.replicate c.Wires.length 0) := by
        rw [mks_ok (by omega) (by omega) (by omega)]; simp
      unfold r03_Check_j6
      rw [hm]
      simp only [Option.bind_some]
      have hJ : JW c (List.replicate c.Wires.length 0, 0) := ⟨by simp, by simp, by simp, nth_rep, fun x h0 h1 => by simp only at h1; omega⟩
      rw [loop24 hc hn hs hJ, loop32 hc hn hs hJ]
      obtain ⟨b, hb, hP⟩ := loopW (c := c) hJ
      rw [hb]
      cases b with
      | inr r =>
        simp only at hP
        subst hP
        exact ⟨30, rfl, rfl, .inr rfl, fun h => by omega⟩
      | inl h =>
        simp only at hP
        obtain ⟨p1, p2, p3⟩ := hP
        refine ⟨endW h, j22_eq (by omega) (by simp only [maxLen]; omega) p2, j10_eq (by omega) (by simp only [maxLen]; omega), ?_, fun _ => ⟨⟨a1, a2⟩, ⟨a3, a4⟩, ⟨a5, a6⟩, p3, fun n hn => ?_⟩⟩
        · unfold endW; split
          · exact .inr rfl
          · exact .inl rfl
        · have := List.any_eq_false.1 hany n hn
          simpa using this
  · have e1 : (!((decide (1 ≤ c.Hazards) && decide (c.Hazards ≤ 8)) && (decide ((1 : Int) ≤ (c.Switches.length : Int)) && decide ((c.Switches.length : Int) ≤ 12)) && (decide ((1 : Int) ≤ (c.Wires.length : Int)) && decide ((c.Wires.length : Int) ≤ 24)))) = true := by
      simp only [Bool.not_eq_true', Bool.and_eq_false_iff, decide_eq_false_iff_not]; omega
    have e2 : (((!(r03_within c.Hazards 1 8)) || (!(r03_within (c.Switches.length : Int) 1 12))) || (!(r03_within (c.Wires.length : Int) 1 24))) = true := by
      by_cases g1 : 1 ≤ c.Hazards ∧ c.Hazards ≤ 8
      · by_cases g2 : 1 ≤ c.Switches.length ∧ c.Switches.length ≤ 12
        · have g3 : ¬ (1 ≤ c.Wires.length ∧ c.Wires.length ≤ 24) := fun h => hh ⟨g1, g2, h⟩
          have : r03_within (c.Wires.length : Int) 1 24 = false := by simp only [r03_within, Bool.and_eq_false_iff, decide_eq_false_iff_not]; omega
          rw [this]; simp
        · have : r03_within (c.Switches.length : Int) 1 12 = false := by simp only [r03_within, Bool.and_eq_false_iff, decide_eq_false_iff_not]; omega
          rw [this]; simp
      · have : r03_within c.Hazards 1 8 = false := by simp only [r03_within, Bool.and_eq_false_iff, decide_eq_false_iff_not]; omega
        rw [this]; simp
    rw [e1, e2]
    exact ⟨30, rfl, rfl, .inr rfl, fun h => by omega⟩
end Go.Nw.CM
