/- The plain law of the order; the theorem of the single fault. -/
import Derived.Test.YtmlhjobmpjpmnaaCMPairs
import Derived.Test.YtmlhjobmpjpmnaaCMLast2
set_option linter.all false
set_option linter.unusedVariables false
set_option linter.unusedSimpArgs false
set_option linter.unusedSectionVars false
namespace Go.Nw.CM

def inR (n : Int) (k : Nat) : Bool := decide (0 ≤ n) && decide (n < 2 ^ k)
theorem inR_iff {n : Int} {k : Nat} : inR n k = true ↔ ∃ m : Nat, n = m ∧ m < 2 ^ k := by
  unfold inR
  simp only [Bool.and_eq_true, decide_eq_true_eq]
  have e : (2 : Int) ^ k = ((2 ^ k : Nat) : Int) := by simp
  rw [e]
  constructor
  · rintro ⟨h1, h2⟩; exact ⟨n.toNat, by omega, by omega⟩
  · rintro ⟨m, rfl, h⟩; omega
theorem Far_cases {c : Circuit} (hc : OkC c) : l03_Far c = some true ∨ (l03_Far c = some false ∧ c.Switches.length ≤ 20 ∧ c.Wires.length ≤ 40) := by
  obtain ⟨b, e1, e2⟩ := Far_spec hc
  cases b with
  | true => exact .inl e1
  | false => exact .inr ⟨e1, e2 rfl⟩
theorem Check_cases {c : Circuit} (hc : OkC c) (h : c.Switches.length ≤ 20 ∧ c.Wires.length ≤ 40) :
    (circuit_Check c = some 0 ∧ r03_Check c = some 0 ∧ Valid c) ∨ (circuit_Check c = some 30 ∧ r03_Check c = some 30) := by
  obtain ⟨r, e1, e2, e3, e4⟩ := Check_eq hc (by omega) (by omega)
  rcases e3 with rfl | rfl
  · exact .inl ⟨e1, e2, e4 rfl⟩
  · exact .inr ⟨e1, e2⟩

section
variable {c : Circuit} (hc : OkC c) (hv : Valid c) (hk : circuit_Check c = some 0)
include hc hv
theorem isSetH (n : Int) : circuit_isSet n c.Hazards = some (inR n c.Hazards.toNat) := by
  have h1 := hv.hz
  exact isSet_eq (by omega) (by omega)
theorem isSetS (n : Int) : circuit_isSet n (c.Switches.length : Int) = some (inR n c.Switches.length) := by
  have h1 := hv.sw
  rw [isSet_eq (by omega) (by omega)]; simp [inR]
theorem rHaz (n : Int) : r03_Hazards c n = some (inR n c.Hazards.toNat) := by
  have h1 := hv.hz
  exact hazards_eq (by omega) (by omega)
theorem rSw (n : Int) : r03_Switches c n = some (inR n c.Switches.length) := by
  have h1 := hv.sw
  exact switches_eq (by omega)
include hk
theorem Runs_val (hz cl op : Int) : circuit_Runs c hz cl op = some (if inR hz c.Hazards.toNat && inR cl c.Switches.length && inR op c.Switches.length then (cnd c hz cl op 0, 0) else (false, 1)) := by
  have h2 := hv.wi
  unfold circuit_Runs
  simp only [hk, Option.bind_some, isSetH hc hv, isSetS hc hv, wire_cnd hc hv hz cl op 0 (by omega) (by omega)]
  cases inR hz c.Hazards.toNat <;> cases inR cl c.Switches.length <;> cases inR op c.Switches.length <;> rfl
end

theorem pow12 {n k : Nat} (h : n < 2 ^ k) (hk : k ≤ 12) : n < 4096 := by
  have := Nat.pow_le_pow_right (n := 2) (by omega) hk
  omega

theorem Order_plain (hw : l03_works = some true) (c : Circuit) (s less : l03_State) (hc : OkC c) (_ : OkS s) (_ : OkS less) : l03_CircuitOrder c s less = some true := by
  unfold l03_CircuitOrder
  rcases Far_cases hc with e | ⟨e, hl⟩
  · simp [e, hw]
  rcases Check_cases hc hl with ⟨k1, k2, hv⟩ | ⟨k1, k2⟩
  rotate_left
  · simp [e, k2, hw]
  have h1 := hv.hz
  have h2 := hv.sw
  have h3 := hv.wi
  simp only [e, k2, Option.bind_some, Bool.false_eq_true, if_false, Runs_val hc hv k1, rSw hc hv, hw]
  cases g1 : inR s.Hazards c.Hazards.toNat with
  | false => simp
  | true =>
  cases g2 : inR s.Closed c.Switches.length with
  | false => simp
  | true =>
  cases g3 : inR s.Open c.Switches.length with
  | false => simp
  | true =>
  cases g4 : inR less.Closed c.Switches.length with
  | false => simp
  | true =>
  obtain ⟨a, ea, la⟩ := inR_iff.1 g1
  obtain ⟨b, eb, lb⟩ := inR_iff.1 g2
  obtain ⟨o, eo, lo⟩ := inR_iff.1 g3
  obtain ⟨d, ed, ld⟩ := inR_iff.1 g4
  have la' := pow12 la (by omega)
  have lb' := pow12 lb (by omega)
  have lo' := pow12 lo (by omega)
  have ld' := pow12 ld (by omega)
  simp only [ea, eb, eo, ed, band_any less.Hazards (show a < 9223372036854775808 by omega), band_any less.Open (show o < 9223372036854775808 by omega), bor_nat (show b < 9223372036854775808 by omega) (show d < 9223372036854775808 by omega)]
  generalize (BitVec.ofInt 64 less.Hazards).toNat = x
  generalize (BitVec.ofInt 64 less.Open).toNat = y
  have r1 : inR ((a &&& x : Nat) : Int) c.Hazards.toNat = true := inR_iff.2 ⟨_, rfl, Nat.lt_of_le_of_lt Nat.and_le_left la⟩
  have r2 : inR ((b ||| d : Nat) : Int) c.Switches.length = true := inR_iff.2 ⟨_, rfl, Nat.or_lt_two_pow lb ld⟩
  have r3 : inR ((o &&& y : Nat) : Int) c.Switches.length = true := inR_iff.2 ⟨_, rfl, Nat.lt_of_le_of_lt Nat.and_le_left lo⟩
  have q1 := Nat.and_le_left (n := a) (m := x)
  have q3 := Nat.and_le_left (n := o) (m := y)
  have q2 : b ||| d < 2 ^ 12 := Nat.or_lt_two_pow (by omega) (by omega)
  have hm : cnd c a b o 0 = true → cnd c ((a &&& x : Nat) : Int) ((b ||| d : Nat) : Int) ((o &&& y : Nat) : Int) 0 = true := cn_mono hc hv (hz := a) (hz' := a &&& x) (cl := b) (cl' := b ||| d) (op := o) (op' := o &&& y) (by omega) (by omega) (by omega) (by omega) (by omega) (by omega) (sub_and _ _) (sub_or_l _ _) (sub_and _ _) 1000 0 (by omega) (by omega)
  rw [r1, r2, r3]
  cases f1 : cnd c a b o 0 with
  | false => simp
  | true => rw [hm f1]; simp

theorem wk_nil {c : Circuit} {cl : Int} (h : (wk c cl).length = 0) {k : Nat} (hk : k < c.Hazards.toNat) : cnd c ((2 ^ k : Nat) : Int) cl 0 0 = false := by
  have := List.eq_nil_of_length_eq_zero h
  unfold wk at this
  rw [List.map_eq_nil_iff, List.filter_eq_nil_iff] at this
  simpa using this k (List.mem_range.2 hk)

theorem crit_nil {c : Circuit} (h : (crit c).length = 0) {i : Nat} (hi : i < c.Switches.length) : (wk c ((2 ^ i : Nat) : Int)).length = 0 := by
  have := List.eq_nil_of_length_eq_zero h
  unfold crit at this
  rw [List.map_eq_nil_iff, List.filter_eq_nil_iff] at this
  have := this i (List.mem_range.2 hi)
  unfold isCrit at this
  simp only [decide_eq_true_eq] at this
  omega

section
variable {c : Circuit} (hc : OkC c) (hv : Valid c) (hk : circuit_Check c = some 0)
include hc hv hk
theorem Critical_val : circuit_Critical c = some (crit c, 0) := by
  unfold circuit_Critical
  simp only [hk, Option.bind_some, critL hc hv, circuit_Critical_j6]; rfl
theorem Pairs_val : circuit_Pairs c = some (pairs c, 0) := by
  unfold circuit_Pairs
  simp only [Critical_val hc hv hk, Option.bind_some, pairsL hc hv, circuit_Pairs_j6]; rfl
theorem Weak_val (cl : Int) : circuit_Weak c cl = some (if inR cl c.Switches.length then (wk c cl, 0) else ([], 1)) := by
  unfold circuit_Weak
  simp only [hk, Option.bind_some, isSetS hc hv, weak_eq hc hv]
  cases inR cl c.Switches.length <;> rfl
end

/-- With no weak hazard alone the machine runs with no hazards. -/
theorem safe {c : Circuit} (hc : OkC c) (hv : Valid c) {hz cl op : Nat} (lh : hz < 2 ^ c.Hazards.toNat) (h0 : hz ≠ 0) (lc : cl < 2 ^ c.Switches.length) (lo : op < 2 ^ c.Switches.length) (hw : (wk c cl).length = 0) : cnd c hz cl op 0 = false := by
  have h1 := hv.hz
  have h2 := hv.sw
  have h3 := hv.wi
  obtain ⟨k, hk, hb⟩ := bit_of_pos h0 lh
  have e := wk_nil hw hk
  have la' := pow12 lh (by omega)
  have lb' := pow12 lc (by omega)
  have lo' := pow12 lo (by omega)
  have hp := Nat.pow_le_pow_right (n := 2) (show 0 < 2 by omega) (show k ≤ 8 by omega)
  have hm := cn_mono hc hv (hz := hz) (hz' := 2 ^ k) (cl := cl) (cl' := cl) (op := op) (op' := 0) (by omega) (by omega) (by omega) (by omega) (by omega) (by omega) (sub_pow hb) (sub_refl _) (sub_zero _) 1000 0 (by omega) (by omega)
  cases f : cnd c hz cl op 0 with
  | false => rfl
  | true =>
    have := hm f
    have e' : cnN 1000 c ((2 ^ k : Nat) : Int) cl 0 0 = false := e
    rw [show ((0 : Nat) : Int) = 0 from rfl, e'] at this; cases this

theorem Single_plain (hw : l03_works = some true) (c : Circuit) (sw : Int) (s : l03_State) (hc : OkC c) (_ : In64 sw) (_ : OkS s) : l03_CircuitSingle c sw s = some true := by
  unfold l03_CircuitSingle
  rcases Far_cases hc with e | ⟨e, hl⟩
  · simp [e, hw]
  rcases Check_cases hc hl with ⟨k1, k2, hv⟩ | ⟨k1, k2⟩
  rotate_left
  · simp [e, k2, hw]
  have h1 := hv.hz
  have h2 := hv.sw
  have h3 := hv.wi
  simp only [e, k2, Option.bind_some, Bool.false_eq_true, if_false, rSw hc hv, rHaz hc hv, Critical_val hc hv k1, hw]
  by_cases g0 : 0 ≤ sw ∧ sw < (c.Switches.length : Int)
  rotate_left
  · have : (decide (sw < 0) || decide ((c.Switches.length : Int) ≤ sw)) = true := by simp only [Bool.or_eq_true, decide_eq_true_eq]; omega
    simp [this]
  have g1 : ¬ sw < 0 := by omega
  have g2 : ¬ (c.Switches.length : Int) ≤ sw := by omega
  simp only [g1, g2, decide_false, Bool.or_false]
  cases g3 : inR s.Hazards c.Hazards.toNat with
  | false => simp
  | true =>
  by_cases g4 : s.Hazards = 0
  · simp [g4]
  cases g5 : inR s.Open c.Switches.length with
  | false => simp
  | true =>
  obtain ⟨a, ea, la⟩ := inR_iff.1 g3
  obtain ⟨o, eo, lo⟩ := inR_iff.1 g5
  obtain ⟨i, ei⟩ : ∃ i : Nat, sw = i := ⟨sw.toNat, by omega⟩
  subst ei
  by_cases g6 : (0 : Int) < ((crit c).length : Int)
  · simp only [g4, g6, decide_true, decide_false, Bool.not_true, Bool.false_eq_true, Bool.or_false, if_false, Option.bind_some, not_true_eq_false, if_true]
  have g7 := crit_nil (c := c) (by omega) (show i < c.Switches.length by omega)
  simp only [g4, g6, decide_false, u64_nat (y := i) (by omega), shl_nat (y := i) (by omega), Option.bind_some, Runs_val hc hv k1, g3, g5]
  have li : 2 ^ i < 2 ^ c.Switches.length := Nat.pow_lt_pow_right (by omega) (by omega)
  have r2 : inR ((2 ^ i : Nat) : Int) c.Switches.length = true := inR_iff.2 ⟨_, rfl, li⟩
  rw [r2, ea, eo, safe hc hv la (by omega) li lo g7]
  simp
end Go.Nw.CM
