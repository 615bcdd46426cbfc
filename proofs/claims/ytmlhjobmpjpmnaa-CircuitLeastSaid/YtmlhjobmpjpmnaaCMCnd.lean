/- What a wire conducts, as a plain function; that it conducts less with more hazards. -/
import Derived.Test.YtmlhjobmpjpmnaaCMPlain7
import Derived.Test.YtmlhjobmpjpmnaaNwBits
set_option linter.all false
set_option linter.unusedVariables false
set_option linter.unusedSimpArgs false
set_option linter.unusedSectionVars false
namespace Go.Nw.CM

def leafB (c : Circuit) (hz cl op y : Int) : Bool := decide (band (shrK .i64 op y) 1 = 0) && (decide (band (shrK .i64 cl y) 1 = 1) || decide (band (nth c.Switches y) hz = 0))
def cnN : Nat → Circuit → Int → Int → Int → Int → Bool
  | 0 => fun _ _ _ _ _ => false
  | n + 1 => fun c hz cl op i =>
    if (nth c.Wires i).Kind = 1 then leafB c hz cl op (nth (nth c.Wires i).Of 0)
    else if (nth c.Wires i).Kind = 3 then (nth c.Wires i).Of.any (cnN n c hz cl op) else (nth c.Wires i).Of.all (cnN n c hz cl op)
abbrev cnd (c : Circuit) (hz cl op i : Int) : Bool := cnN 1000 c hz cl op i

theorem any_false_all (p : Int → Bool) : ∀ l : List Int, (l.any fun z => p z == false) = !(l.all p)
  | [] => rfl
  | a :: l => by
    simp only [List.any_cons, List.all_cons, any_false_all p l]
    cases p a <;> simp
theorem cn_eq {c : Circuit} (hc : OkC c) (hv : Valid c) (hz cl op : Int) : ∀ (n : Nat) (i : Int), 0 ≤ i → i < c.Wires.length → (c.Wires.length : Int) - i < n →
    r03_conducts n c i hz cl op = some (cnN n c hz cl op i)
  | 0, i, h0, h1, h2 => by omega
  | n + 1, i, h0, h1, h2 => by
    have hok := hv.ok i h0 h1
    obtain ⟨hk, hol, hof⟩ := hc.2.2.2 _ (nth_toNat h0 h1)
    show r03_conducts_body (r03_conducts n) c i hz cl op = some (cnN (n + 1) c hz cl op i)
    unfold r03_conducts_body
    simp only [cnN, get_nth h0 h1, Option.bind_some]
    generalize nth c.Wires i = w at *
    have hsw := hv.sw
    by_cases k1 : w.Kind = 1
    · simp only [okW, k1, if_true, Bool.and_eq_true, decide_eq_true_eq] at hok
      obtain ⟨o1, o2⟩ := hok
      obtain ⟨y, hy⟩ : ∃ y, w.Of = [y] := List.length_eq_one_iff.1 o1
      have hg : get w.Of 0 = some y := by rw [hy]; rfl
      have hn : nth w.Of 0 = y := by rw [hy]; rfl
      obtain ⟨y0, y1⟩ := asc_lt o2 y (by rw [hy]; simp)
      simp only [k1, decide_true, if_true, hg, hn, Option.bind_some, u64_id (n := y) y0 (by omega), get_nth y0 y1, shr_ok y0, leafB]
      by_cases g1 : band (shrK .i64 op y) 1 = 0 <;> by_cases g2 : band (shrK .i64 cl y) 1 = 1 <;> simp [g1, g2]
    · simp only [okW, k1, if_false] at hok
      split at hok
      · rename_i k23
        simp only [Bool.and_eq_true, decide_eq_true_eq] at hok
        have hp2 : ∀ z ∈ w.Of, r03_conducts n c z hz cl op = some (cnN n c hz cl op z) := fun z hzm => by
          have := asc_lt hok.2 z hzm
          exact cn_eq hc hv hz cl op n z (by omega) this.2 (by omega)
        simp only [k1, decide_false, Bool.false_eq_true, if_false]
        rw [L10_eq hol hp2]
        generalize cnN n c hz cl op = p
        rcases k23 with k2 | k3
        · have k3 : ¬ w.Kind = 3 := by omega
          simp only [k3, decide_false, Bool.false_eq_true, if_false]
          have e : (w.Of.any fun z => p z == false) = !(w.Of.all p) := any_false_all p _
          rw [e]
          cases w.Of.all p with
          | true => simp [r03_conducts_body_j20, k2]
          | false => simp
        · simp only [k3, decide_true, if_true]
          have e : (w.Of.any fun z => p z == true) = w.Of.any p := by congr 1; funext z; cases p z <;> rfl
          rw [e]
          cases w.Of.any p with
          | true => simp
          | false => simp [r03_conducts_body_j20, k3]
      · cases hok

section
variable {c : Circuit} (hc : OkC c) (hv : Valid c)
include hc hv

theorem ref_cnd (hz cl op i : Int) (h0 : 0 ≤ i) (h1 : i < c.Wires.length) : r03_conducts 1000 c i hz cl op = some (cnd c hz cl op i) := by
  have := hv.wi
  exact cn_eq hc hv hz cl op 1000 i h0 h1 (by omega)
theorem wire_cnd (hz cl op i : Int) (h0 : 0 ≤ i) (h1 : i < c.Wires.length) : _circuit_state__wire 1000 ⟨c, hz, cl, op⟩ i = some (cnd c hz cl op i) := by
  have := hv.wi
  obtain ⟨b, e1, e2⟩ := wire_eq hc hv hz cl op 1000 i h0 h1 (by omega)
  rw [ref_cnd hc hv hz cl op i h0 h1] at e2
  rw [e1, e2]

theorem leaf_mono {hz hz' cl cl' op op' y : Nat} (b1 : hz < 4611686018427387904) (b2 : cl < 4611686018427387904) (b3 : op < 4611686018427387904) (b1' : hz' < 4611686018427387904) (b2' : cl' < 4611686018427387904) (b3' : op' < 4611686018427387904)
    (h1 : Sub hz' hz) (h2 : Sub cl cl') (h3 : Sub op' op) (hy : y < c.Switches.length) (h : leafB c hz cl op y = true) : leafB c hz' cl' op' y = true := by
  have hsw := hv.sw
  have hm := nth_toNat (l := c.Switches) (x := (y : Int)) (by omega) (by omega)
  obtain ⟨x0, x1⟩ := hv.sws _ hm
  have hhz := hv.hz
  obtain ⟨p1, p2⟩ := pow_bound (n := c.Hazards) (by omega)
  obtain ⟨x, hx⟩ : ∃ x : Nat, nth c.Switches (y : Int) = x := ⟨(nth c.Switches (y : Int)).toNat, by omega⟩
  unfold leafB at h ⊢
  rw [hx] at h ⊢
  rw [bit_eq (by omega) (by omega), bit_eq (by omega) (by omega), band_nat (by omega) (by omega)] at h ⊢
  simp only [Bool.and_eq_true, Bool.or_eq_true, decide_eq_true_eq] at h ⊢
  obtain ⟨g1, g2⟩ := h
  constructor
  · cases ho : op'.testBit y with
    | false => rfl
    | true => rw [h3 y ho] at g1; simp at g1
  · rcases g2 with g2 | g2
    · left
      cases ho : cl.testBit y with
      | false => rw [ho] at g2; simp at g2
      | true => rw [h2 y ho]; rfl
    · right
      have : x &&& hz = 0 := by omega
      rw [and_zero_mono h1 this]; rfl

theorem cn_mono {hz hz' cl cl' op op' : Nat} (b1 : hz < 4611686018427387904) (b2 : cl < 4611686018427387904) (b3 : op < 4611686018427387904) (b1' : hz' < 4611686018427387904) (b2' : cl' < 4611686018427387904) (b3' : op' < 4611686018427387904)
    (h1 : Sub hz' hz) (h2 : Sub cl cl') (h3 : Sub op' op) : ∀ (n : Nat) (i : Int), 0 ≤ i → i < c.Wires.length → cnN n c hz cl op i = true → cnN n c hz' cl' op' i = true
  | 0, i, h0, hl, h => by simp [cnN] at h
  | n + 1, i, h0, hl, h => by
    have hok := hv.ok i h0 hl
    simp only [cnN] at h ⊢
    generalize nth c.Wires i = w at *
    by_cases k1 : w.Kind = 1
    · simp only [okW, k1, if_true, Bool.and_eq_true, decide_eq_true_eq] at hok h ⊢
      obtain ⟨o1, o2⟩ := hok
      obtain ⟨y, hy⟩ : ∃ y, w.Of = [y] := List.length_eq_one_iff.1 o1
      have hn : nth w.Of 0 = y := by rw [hy]; rfl
      obtain ⟨y0, y1⟩ := asc_lt o2 y (by rw [hy]; simp)
      rw [hn] at h ⊢
      obtain ⟨z, rfl⟩ : ∃ z : Nat, y = z := ⟨y.toNat, by omega⟩
      exact leaf_mono hc hv b1 b2 b3 b1' b2' b3' h1 h2 h3 (by omega) h
    · simp only [okW, k1, if_false] at hok h ⊢
      split at hok
      · rename_i k23
        simp only [Bool.and_eq_true, decide_eq_true_eq] at hok
        have ih : ∀ z ∈ w.Of, cnN n c hz cl op z = true → cnN n c hz' cl' op' z = true := fun z hz => by
          have := asc_lt hok.2 z hz
          exact cn_mono b1 b2 b3 b1' b2' b3' h1 h2 h3 n z (by omega) this.2
        split at h
        · rename_i k3
          rw [if_pos k3]
          obtain ⟨z, hz, g⟩ := List.any_eq_true.1 h
          exact List.any_eq_true.2 ⟨z, hz, ih z hz g⟩
        · rename_i k3
          rw [if_neg k3]
          exact List.all_eq_true.2 fun z hz => ih z hz (List.all_eq_true.1 h z hz)
      · cases hok
end
end Go.Nw.CM
