/- A wire conducts, of the program and of the document, alike. -/
import Derived.Test.YtmlhjobmpjpmnaaCMPlain5
set_option linter.all false
set_option linter.unusedVariables false
set_option linter.unusedSimpArgs false
set_option linter.unusedSectionVars false
namespace Go.Nw.CM

theorem get_mem {α : Type} [Inhabited α] {l : List α} {i : Int} (h0 : 0 ≤ i) (h1 : i < l.length) : get l i = some (nth l i) := get_nth h0 h1

theorem L10_eq {self : Circuit → Int → Int → Int → Int → Option Bool} {c : Circuit} {hz cl op : Int} {w : Wire} {p : Int → Bool} (hl : w.Of.length ≤ maxLen) (hp : ∀ z ∈ w.Of, self c z hz cl op = some (p z)) :
    loopM (r03_conducts_body_L10 self c hz cl op w) 0 = some (if w.Of.any (fun z => p z == decide (w.Kind = 3)) then .inr (decide (w.Kind = 3)) else .inl ()) := by
  refine loop_list (f := r03_conducts_body_L10 self c hz cl op w) w.Of (fun (_ : Unit) k => k) (fun r _ => if r.any (fun z => p z == decide (w.Kind = 3)) then Sum.inr (decide (w.Kind = 3)) else Sum.inl ()) (fun _ _ => True)
    (fun s k x r hd hg hk hmm _ => ?_) (fun s _ => by unfold r03_conducts_body_L10; simp) (s := ()) trivial
  unfold r03_conducts_body_L10
  simp only [hk, decide_true, if_true, hg, Option.bind_some, hp x hmm]
  by_cases hb : (p x == decide (w.Kind = 3)) = true
  · have e : beqB (p x) (decide (w.Kind = 3)) = true := hb
    exact .inr (by simp only [e, if_true, List.any_cons, hb, Bool.true_or])
  · have hb : (p x == decide (w.Kind = 3)) = false := Bool.eq_false_iff.2 hb
    have e : beqB (p x) (decide (w.Kind = 3)) = false := hb
    exact .inl ⟨(), by simp only [e, Bool.false_eq_true, if_false, wr_len hk hl], trivial, by simp only [List.any_cons, hb, Bool.false_or]⟩

theorem wire_eq {c : Circuit} (hc : OkC c) (hv : Valid c) (hz cl op : Int) : ∀ (n : Nat) (i : Int), 0 ≤ i → i < c.Wires.length → (c.Wires.length : Int) - i < n →
    ∃ b, _circuit_state__wire n ⟨c, hz, cl, op⟩ i = some b ∧ r03_conducts n c i hz cl op = some b
  | 0, i, h0, h1, h2 => by omega
  | n + 1, i, h0, h1, h2 => by
    have hok := hv.ok i h0 h1
    obtain ⟨hk, hol, hof⟩ := hc.2.2.2 _ (nth_toNat h0 h1)
    show ∃ b, _circuit_state__wire_body (_circuit_state__wire n) ⟨c, hz, cl, op⟩ i = some b ∧ r03_conducts_body (r03_conducts n) c i hz cl op = some b
    unfold _circuit_state__wire_body r03_conducts_body
    simp only [get_nth h0 h1, Option.bind_some]
    generalize nth c.Wires i = w at *
    have hsw := hv.sw
    by_cases k1 : w.Kind = 1
    · simp only [okW, k1, if_true, Bool.and_eq_true, decide_eq_true_eq] at hok
      obtain ⟨o1, o2⟩ := hok
      obtain ⟨y, hy⟩ : ∃ y, w.Of = [y] := List.length_eq_one_iff.1 o1
      have hg : get w.Of 0 = some y := by rw [hy]; rfl
      obtain ⟨y0, y1⟩ := asc_lt o2 y (by rw [hy]; simp)
      simp only [k1, decide_true, if_true, hg, Option.bind_some, u64_id (n := y) y0 (by omega), _circuit_state__conducts, get_nth y0 y1, shr_ok y0]
      by_cases g1 : band (shrK .i64 op y) 1 = 0 <;> by_cases g2 : band (shrK .i64 cl y) 1 = 1 <;> simp [g1, g2]
    · simp only [okW, k1, if_false] at hok
      split at hok
      · rename_i k23
        simp only [Bool.and_eq_true, decide_eq_true_eq] at hok
        have hin : ∀ z ∈ w.Of, ∃ b, _circuit_state__wire n ⟨c, hz, cl, op⟩ z = some b ∧ r03_conducts n c z hz cl op = some b := fun z hzm => by
          have := asc_lt hok.2 z hzm
          exact wire_eq hc hv hz cl op n z (by omega) this.2 (by omega)
        have hp1 : ∀ z ∈ w.Of, _circuit_state__wire n ⟨c, hz, cl, op⟩ z = some ((_circuit_state__wire n ⟨c, hz, cl, op⟩ z).getD false) := fun z hzm => by
          obtain ⟨b, e, _⟩ := hin z hzm; rw [e]; rfl
        have hp2 : ∀ z ∈ w.Of, r03_conducts n c z hz cl op = some ((_circuit_state__wire n ⟨c, hz, cl, op⟩ z).getD false) := fun z hzm => by
          obtain ⟨b, e, e2⟩ := hin z hzm; rw [e, e2]; rfl
        simp only [k1, decide_false, Bool.false_eq_true, if_false]
        rw [L10_eq hol hp2]
        generalize hpp : (fun z => (_circuit_state__wire n ⟨c, hz, cl, op⟩ z).getD false) = p at *
        have hp1' : ∀ z ∈ w.Of, _circuit_state__wire n ⟨c, hz, cl, op⟩ z = some (p z) := fun z hzm => by rw [hp1 z hzm, ← hpp]
        have hpe : ∀ z, (_circuit_state__wire n ⟨c, hz, cl, op⟩ z).getD false = p z := fun z => by rw [← hpp]
        simp only [hpe]
        rcases k23 with k2 | k3
        · have k3 : ¬ w.Kind = 3 := by omega
          have ha := indexFunc_any (s := w.Of) (f := fun z16 => _circuit_state__wireD1 (_circuit_state__wire n) z16 ⟨c, hz, cl, op⟩) (p := fun z => !p z) hol (fun z hzm => by
            unfold _circuit_state__wireD1; rw [hp1' z hzm]; rfl)
          simp only [k3, decide_false, Bool.false_eq_true, if_false, ha, Option.bind_some]
          refine ⟨_, rfl, ?_⟩
          have e : (w.Of.any fun z => p z == false) = w.Of.any fun z => !p z := by congr 1; funext z; cases p z <;> rfl
          rw [e]
          cases w.Of.any fun z => !p z with
          | true => simp
          | false => simp [r03_conducts_body_j20, k2]
        · have ha := indexFunc_any (s := w.Of) (f := fun z12 => _circuit_state__wire n ⟨c, hz, cl, op⟩ z12) (p := p) hol hp1'
          simp only [k3, decide_true, if_true, ha, Option.bind_some]
          refine ⟨_, rfl, ?_⟩
          have e : (w.Of.any fun z => p z == true) = w.Of.any p := by congr 1; funext z; cases p z <;> rfl
          rw [e]
          cases w.Of.any p with
          | true => simp
          | false => simp [r03_conducts_body_j20, k3]
      · cases hok
end Go.Nw.CM
