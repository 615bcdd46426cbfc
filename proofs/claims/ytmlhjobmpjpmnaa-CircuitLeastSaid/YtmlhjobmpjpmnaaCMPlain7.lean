/- Runs of the program and of the document answer alike; the law of the runs over 'works'. -/
import Derived.Test.YtmlhjobmpjpmnaaCMPlain6
set_option linter.all false
set_option linter.unusedVariables false
set_option linter.unusedSimpArgs false
set_option linter.unusedSectionVars false
namespace Go.Nw.CM

theorem Runs_eq {c : Circuit} (hc : OkC c) (hn : c.Wires.length ≤ 1000) (hs : c.Switches.length ≤ 1000) (hz cl op : Int) : ∃ r, circuit_Runs c hz cl op = some r ∧ r03_Runs c hz cl op = some r := by
  obtain ⟨r, e1, e2, e3, e4⟩ := Check_eq hc hn hs
  unfold circuit_Runs r03_Runs
  rw [e1, e2]
  rcases e3 with rfl | rfl
  · have hv := e4 rfl
    have v1 := hv.hz
    have v2 := hv.sw
    have v3 := hv.wi
    have hsw : ∀ n, circuit_isSet n (c.Switches.length : Int) = r03_Switches c n := fun n => by
      rw [isSet_eq (by omega) (by omega), switches_eq (by omega)]; simp
    have hhz : circuit_isSet hz c.Hazards = r03_Hazards c hz := by rw [isSet_eq (by omega) (by omega), hazards_eq (by omega) (by omega)]
    obtain ⟨b, w1, w2⟩ := wire_eq hc hv hz cl op 1000 0 (by omega) (by omega) (by omega)
    simp only [Option.bind_some, hsw, hhz, w1, w2, hazards_eq (c := c) (n := hz) (by omega) (by omega), switches_eq (c := c) (show (c.Switches.length : Int) ≤ 62 by omega)]
    generalize (decide (0 ≤ hz) && decide (hz < 2 ^ c.Hazards.toNat)) = b1
    generalize (decide (0 ≤ cl) && decide (cl < 2 ^ c.Switches.length)) = b2
    generalize (decide (0 ≤ op) && decide (op < 2 ^ c.Switches.length)) = b3
    cases b1 <;> cases b2 <;> cases b3 <;> simp
  · simp

theorem Far_spec {c : Circuit} (hc : OkC c) : ∃ b, l03_Far c = some b ∧ (b = false → c.Switches.length ≤ 20 ∧ c.Wires.length ≤ 40) := by
  unfold l03_Far
  by_cases h : (decide (20 < (c.Switches.length : Int)) || decide (40 < (c.Wires.length : Int))) = true
  · rw [if_pos h]; exact ⟨true, rfl, fun h => by cases h⟩
  · rw [if_neg h]
    have hb : c.Switches.length ≤ 20 ∧ c.Wires.length ≤ 40 := by simp at h; omega
    have := loop_list (f := l03_Far_L8 c) c.Wires (fun (_ : Unit) k => k) (fun r _ => if r.any (fun w => decide (40 < (w.Of.length : Int))) then Sum.inr true else Sum.inl ()) (fun _ _ => True)
      (fun s k x r hd hg hk hmm _ => by
        unfold l03_Far_L8
        simp only [hk, decide_true, if_true, hg, Option.bind_some]
        by_cases hx : (40 : Int) < (x.Of.length : Int)
        · exact .inr (by simp [hx])
        · exact .inl ⟨(), by simp [hx, wr_len hk hc.2.2.1], trivial, by simp [hx]⟩)
      (fun s _ => by unfold l03_Far_L8; simp) (s := ()) trivial
    rw [this]
    cases c.Wires.any (fun w => decide (40 < (w.Of.length : Int))) with
    | true => exact ⟨true, rfl, fun h => by cases h⟩
    | false => exact ⟨false, rfl, fun _ => hb⟩

/-- The plain law of the runs, where the look at the example says true. -/
theorem Runs_plain (hw : l03_works = some true) (c : Circuit) (s : l03_State) (hc : OkC c) (_ : OkS s) : l03_CircuitRuns c s = some true := by
  unfold l03_CircuitRuns
  obtain ⟨b, e1, e2⟩ := Far_spec hc
  rw [e1]
  cases b with
  | true => simp [hw]
  | false =>
    obtain ⟨h1, h2⟩ := e2 rfl
    obtain ⟨r, r1, r2⟩ := Runs_eq hc (by omega) (by omega) s.Hazards s.Closed s.Open
    obtain ⟨k, k1, k2, _⟩ := Check_eq hc (by omega) (by omega)
    simp [r1, r2, k1, k2, hw, beqB]
end Go.Nw.CM
