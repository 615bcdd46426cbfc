/- Plain laws on the models. -/
import Derived.Test.YtmlhjobmpjpmnaaDoorP3
import Derived.Test.YtmlhjobmpjpmnaaDoorNwBits
import Derived.KernelRfl
set_option linter.all false
set_option linter.unusedVariables false
set_option linter.unusedSimpArgs false
set_option linter.unusedSectionVars false
namespace Go.Nw.DM
theorem Far_spec {c : Circuit} (hc : OkC c) : ∃ b, l03_Far c = some b ∧ (b = false → c.Switches.length ≤ 20 ∧ c.Wires.length ≤ 40) := by
  unfold l03_Far
  by_cases h : (decide (20 < (c.Switches.length : Int)) || decide (40 < (c.Wires.length : Int))) = true
  · rw [if_pos h]; exact ⟨true, rfl, fun h => by cases h⟩
  · rw [if_neg h]
    have hb : c.Switches.length ≤ 20 ∧ c.Wires.length ≤ 40 := by simp at h; omega
    have := loop_list (f := l03_Far_L8 c) c.Wires (fun (_ : Unit) k => k) (fun r _ => if r.any (fun w => decide (40 < (w.Of.length : Int))) then Sum.inr true else Sum.inl ()) (fun _ _ => True)
      (fun s k x r hd hg hk hmm _ => by
        unfold l03_Far_L8
        simp only [hk, decide_true, if_true, hg, Option.bind_some]
        by_cases hx : (40 : Int) < (x.Of.length : Int)
        · exact .inr (by simp [hx])
        · exact .inl ⟨(), by simp [hx, wr_len hk hc.2.2.1], trivial, by simp [hx]⟩)
      (fun s _ => by unfold l03_Far_L8; simp) (s := ()) trivial
    rw [this]
    cases c.Wires.any (fun w => decide (40 < (w.Of.length : Int))) with
    | true => exact ⟨true, rfl, fun h => by cases h⟩
    | false => exact ⟨false, rfl, fun _ => hb⟩


end Go.Nw.DM

namespace Go.Nw.DM

def leafB (c : Circuit) (hz cl op y : Int) : Bool := decide (band (shrK .i64 op y) 1 = 0) && (decide (band (shrK .i64 cl y) 1 = 1) || decide (band (nth c.Switches y) hz = 0))
def cnN : Nat → Circuit → Int → Int → Int → Int → Bool
  | 0 => fun _ _ _ _ _ => false
  | n + 1 => fun c hz cl op i =>
    if (nth c.Wires i).Kind = 1 then leafB c hz cl op (nth (nth c.Wires i).Of 0)
    else if (nth c.Wires i).Kind = 3 then (nth c.Wires i).Of.any (cnN n c hz cl op) else (nth c.Wires i).Of.all (cnN n c hz cl op)
abbrev cnd (c : Circuit) (hz cl op i : Int) : Bool := cnN 1000 c hz cl op i

theorem any_false_all (p : Int → Bool) : ∀ l : List Int, (l.any fun z => p z == false) = !(l.all p)
  | [] => rfl
  | a :: l => by
    simp only [List.any_cons, List.all_cons, any_false_all p l]
    cases p a <;> simp
theorem cn_eq {c : Circuit} (hc : OkC c) (hv : Valid c) (hz cl op : Int) : ∀ (n : Nat) (i : Int), 0 ≤ i → i < c.Wires.length → (c.Wires.length : Int) - i < n →
    r03_conducts n c i hz cl op = some (cnN n c hz cl op i)
  | 0, i, h0, h1, h2 => by omega
  | n + 1, i, h0, h1, h2 => by
    have hok := hv.ok i h0 h1
    obtain ⟨hk, hol, hof⟩ := hc.2.2.2 _ (nth_toNat h0 h1)
    show r03_conducts_body (r03_conducts n) c i hz cl op = some (cnN (n + 1) c hz cl op i)
    unfold r03_conducts_body
    simp only [cnN, get_nth h0 h1, Option.bind_some]
    generalize nth c.Wires i = w at *
    have hsw := hv.sw
    by_cases k1 : w.Kind = 1
    · simp only [okW, k1, if_true, Bool.and_eq_true, decide_eq_true_eq] at hok
      obtain ⟨o1, o2⟩ := hok
      obtain ⟨y, hy⟩ : ∃ y, w.Of = [y] := List.length_eq_one_iff.1 o1
      have hg : get w.Of 0 = some y := by rw [hy]; rfl
      have hn : nth w.Of 0 = y := by rw [hy]; rfl
      obtain ⟨y0, y1⟩ := asc_lt o2 y (by rw [hy]; simp)
      simp only [k1, decide_true, if_true, hg, hn, Option.bind_some, u64_id (n := y) y0 (by omega), get_nth y0 y1, shr_ok y0, leafB]
      by_cases g1 : band (shrK .i64 op y) 1 = 0 <;> by_cases g2 : band (shrK .i64 cl y) 1 = 1 <;> simp [g1, g2]
    · simp only [okW, k1, if_false] at hok
      split at hok
      · rename_i k23
        simp only [Bool.and_eq_true, decide_eq_true_eq] at hok
        have hp2 : ∀ z ∈ w.Of, r03_conducts n c z hz cl op = some (cnN n c hz cl op z) := fun z hzm => by
          have := asc_lt hok.2 z hzm
          exact cn_eq hc hv hz cl op n z (by omega) this.2 (by omega)
        simp only [k1, decide_false, Bool.false_eq_true, if_false]
        rw [L10_eq hol hp2]
        generalize cnN n c hz cl op = p
        rcases k23 with k2 | k3
        · have k3 : ¬ w.Kind = 3 := by omega
          simp only [k3, decide_false, Bool.false_eq_true, if_false]
          have e : (w.Of.any fun z => p z == false) = !(w.Of.all p) := any_false_all p _
          rw [e]
          cases w.Of.all p with
          | true => simp [r03_conducts_body_j20, k2]
          | false => simp
        · simp only [k3, decide_true, if_true]
          have e : (w.Of.any fun z => p z == true) = w.Of.any p := by congr 1; funext z; cases p z <;> rfl
          rw [e]
          cases w.Of.any p with
          | true => simp
          | false => simp [r03_conducts_body_j20, k3]
      · cases hok

section
variable {c : Circuit} (hc : OkC c) (hv : Valid c)
include hc hv

theorem ref_cnd (hz cl op i : Int) (h0 : 0 ≤ i) (h1 : i < c.Wires.length) : r03_conducts 1000 c i hz cl op = some (cnd c hz cl op i) := by
  have := hv.wi
  exact cn_eq hc hv hz cl op 1000 i h0 h1 (by omega)
theorem wire_cnd (hz cl op i : Int) (h0 : 0 ≤ i) (h1 : i < c.Wires.length) : _circuit_state__wire 1000 ⟨c, hz, cl, op⟩ i = some (cnd c hz cl op i) := by
  have := hv.wi
  obtain ⟨b, e1, e2⟩ := wire_eq hc hv hz cl op 1000 i h0 h1 (by omega)
  rw [ref_cnd hc hv hz cl op i h0 h1] at e2
  rw [e1, e2]

theorem leaf_mono {hz hz' cl cl' op op' y : Nat} (b1 : hz < 4611686018427387904) (b2 : cl < 4611686018427387904) (b3 : op < 4611686018427387904) (b1' : hz' < 4611686018427387904) (b2' : cl' < 4611686018427387904) (b3' : op' < 4611686018427387904)
    (h1 : Sub hz' hz) (h2 : Sub cl cl') (h3 : Sub op' op) (hy : y < c.Switches.length) (h : leafB c hz cl op y = true) : leafB c hz' cl' op' y = true := by
  have hsw := hv.sw
  have hm := nth_toNat (l := c.Switches) (x := (y : Int)) (by omega) (by omega)
  obtain ⟨x0, x1⟩ := hv.sws _ hm
  have hhz := hv.hz
  obtain ⟨p1, p2⟩ := pow_bound (n := c.Hazards) (by omega)
  obtain ⟨x, hx⟩ : ∃ x : Nat, nth c.Switches (y : Int) = x := ⟨(nth c.Switches (y : Int)).toNat, by omega⟩
  unfold leafB at h ⊢
  rw [hx] at h ⊢
  rw [bit_eq (by omega) (by omega), bit_eq (by omega) (by omega), band_nat (by omega) (by omega)] at h ⊢
  simp only [Bool.and_eq_true, Bool.or_eq_true, decide_eq_true_eq] at h ⊢
  obtain ⟨g1, g2⟩ := h
  constructor
  · cases ho : op'.testBit y with
    | false => rfl
    | true => rw [h3 y ho] at g1; simp at g1
  · rcases g2 with g2 | g2
    · left
      cases ho : cl.testBit y with
      | false => rw [ho] at g2; simp at g2
      | true => rw [h2 y ho]; rfl
    · right
      have : x &&& hz = 0 := by omega
      rw [and_zero_mono h1 this]; rfl

theorem cn_mono {hz hz' cl cl' op op' : Nat} (b1 : hz < 4611686018427387904) (b2 : cl < 4611686018427387904) (b3 : op < 4611686018427387904) (b1' : hz' < 4611686018427387904) (b2' : cl' < 4611686018427387904) (b3' : op' < 4611686018427387904)
    (h1 : Sub hz' hz) (h2 : Sub cl cl') (h3 : Sub op' op) : ∀ (n : Nat) (i : Int), 0 ≤ i → i < c.Wires.length → cnN n c hz cl op i = true → cnN n c hz' cl' op' i = true
  | 0, i, h0, hl, h => by simp [cnN] at h
  | n + 1, i, h0, hl, h => by
    have hok := hv.ok i h0 hl
    simp only [cnN] at h ⊢
    generalize nth c.Wires i = w at *
    by_cases k1 : w.Kind = 1
    · simp only [okW, k1, if_true, Bool.and_eq_true, decide_eq_true_eq] at hok h ⊢
      obtain ⟨o1, o2⟩ := hok
      obtain ⟨y, hy⟩ : ∃ y, w.Of = [y] := List.length_eq_one_iff.1 o1
      have hn : nth w.Of 0 = y := by rw [hy]; rfl
      obtain ⟨y0, y1⟩ := asc_lt o2 y (by rw [hy]; simp)
      rw [hn] at h ⊢
      obtain ⟨z, rfl⟩ : ∃ z : Nat, y = z := ⟨y.toNat, by omega⟩
      exact leaf_mono hc hv b1 b2 b3 b1' b2' b3' h1 h2 h3 (by omega) h
    · simp only [okW, k1, if_false] at hok h ⊢
      split at hok
      · rename_i k23
        simp only [Bool.and_eq_true, decide_eq_true_eq] at hok
        have ih : ∀ z ∈ w.Of, cnN n c hz cl op z = true → cnN n c hz' cl' op' z = true := fun z hz => by
          have := asc_lt hok.2 z hz
          exact cn_mono b1 b2 b3 b1' b2' b3' h1 h2 h3 n z (by omega) this.2
        split at h
        · rename_i k3
          rw [if_pos k3]
          obtain ⟨z, hz, g⟩ := List.any_eq_true.1 h
          exact List.any_eq_true.2 ⟨z, hz, ih z hz g⟩
        · rename_i k3
          rw [if_neg k3]
          exact List.all_eq_true.2 fun z hz => ih z hz (List.all_eq_true.1 h z hz)
      · cases hok
end
end Go.Nw.DM

namespace Go.Nw.DM
def cast (k : Nat) : Int := k
theorem wr_k {k n : Nat} (h : k < n) (hn : n < 4611686018427387904) : wr ((k : Int) + 1) = (k : Int) + 1 := wr_id (by omega) (by omega)
def inR (n : Int) (k : Nat) : Bool := decide (0 ≤ n) && decide (n < 2 ^ k)
theorem inR_iff {n : Int} {k : Nat} : inR n k = true ↔ ∃ m : Nat, n = m ∧ m < 2 ^ k := by
  unfold inR
  simp only [Bool.and_eq_true, decide_eq_true_eq]
  have e : (2 : Int) ^ k = ((2 ^ k : Nat) : Int) := by simp
  rw [e]
  constructor
  · rintro ⟨h1, h2⟩; exact ⟨n.toNat, by omega, by omega⟩
  · rintro ⟨m, rfl, h⟩; omega
theorem Far_cases {c : Circuit} (hc : OkC c) : l03_Far c = some true ∨ (l03_Far c = some false ∧ c.Switches.length ≤ 20 ∧ c.Wires.length ≤ 40) := by
  obtain ⟨b, e1, e2⟩ := Far_spec hc
  cases b with
  | true => exact .inl e1
  | false => exact .inr ⟨e1, e2 rfl⟩
theorem Check_cases {c : Circuit} (hc : OkC c) (h : c.Switches.length ≤ 20 ∧ c.Wires.length ≤ 40) :
    (circuit_Check c = some 0 ∧ r03_Check c = some 0 ∧ Valid c) ∨ (circuit_Check c = some 30 ∧ r03_Check c = some 30) := by
  obtain ⟨r, e1, e2, e3, e4⟩ := Check_eq hc (by omega) (by omega)
  rcases e3 with rfl | rfl
  · exact .inl ⟨e1, e2, e4 rfl⟩
  · exact .inr ⟨e1, e2⟩
theorem pow12 {n k : Nat} (h : n < 2 ^ k) (hk : k ≤ 12) : n < 4096 := by
  have := Nat.pow_le_pow_right (n := 2) (by omega) hk
  omega
section
variable {c : Circuit} (hc : OkC c) (hv : Valid c)
include hc hv
theorem isSetH (n : Int) : circuit_isSet n c.Hazards = some (inR n c.Hazards.toNat) := by
  have h1 := hv.hz
  exact isSet_eq (by omega) (by omega)
theorem isSetS (n : Int) : circuit_isSet n (c.Switches.length : Int) = some (inR n c.Switches.length) := by
  have h1 := hv.sw
  rw [isSet_eq (by omega) (by omega)]; simp [inR]
theorem rHaz (n : Int) : r03_Hazards c n = some (inR n c.Hazards.toNat) := by
  have h1 := hv.hz
  exact hazards_eq (by omega) (by omega)
end
theorem has_eq {l : List Int} {n : Int} (hl : l.length ≤ maxLen) : l03_has l n = some (decide (n ∈ l)) := by
  have h := loop_list (f := l03_has_L6 l n) l (fun (_ : Unit) k => k) (fun r _ => if n ∈ r then Sum.inr true else Sum.inl ()) (fun _ _ => True)
    (fun st k x r hd hg hk hm _ => by
      unfold l03_has_L6
      simp only [hk, decide_true, if_true, hg, Option.bind_some]
      by_cases e : x = n
      · refine .inr ?_
        simp [e]
      · refine .inl ⟨(), ?_, trivial, ?_⟩
        · simp only [e, decide_false, Bool.false_eq_true, if_false, wr_len hk hl]
        · have e2 : (n ∈ x :: r) ↔ n ∈ r := by rw [List.mem_cons]; exact ⟨fun h => h.resolve_left fun h => e h.symm, .inr⟩
          simp only [e2])
    (fun st _ => by unfold l03_has_L6; simp) (s := ()) trivial
  unfold l03_has
  rw [h]
  by_cases hv : n ∈ l
  · simp [hv]
  · simp [hv, l03_has_j2]
theorem sameInts_self {l : List Int} (hl : l.length ≤ maxLen) : l03_sameInts l l = some true := by
  have h := loop_list (f := l03_sameInts_L8 l l) l (fun (_ : Unit) k => k) (fun _ _ => Sum.inl ()) (fun _ _ => True)
    (fun st k x r hd hg hk hm _ => by
      unfold l03_sameInts_L8
      simp only [hk, decide_true, if_true, hg, Option.bind_some, not_true_eq_false, decide_false, Bool.false_eq_true, if_false, wr_len hk hl]
      exact .inl ⟨(), by trivial, trivial, by trivial⟩)
    (fun st _ => by unfold l03_sameInts_L8; simp) (s := ()) trivial
  unfold l03_sameInts
  rw [h]
  simp [l03_sameInts_j4]
theorem nil_len {α : Type} : ([] : List α).length ≤ maxLen := Nat.zero_le _
def onesF : Nat → Nat → Nat
  | 0, _ => 0
  | k + 1, x => x % 2 + onesF k (x / 2)
def ones (x : Nat) : Nat := onesF 12 x
theorem onesF_le : ∀ (k x : Nat), onesF k x ≤ k
  | 0, _ => Nat.le_refl _
  | k + 1, x => by have := onesF_le k (x / 2); simp only [onesF]; omega
theorem onesL : ∀ (k x n : Nat), k ≤ 12 → x < 2 ^ k → n + k ≤ 100 → loopM r03_Ones_L5 ((x : Int), (n : Int)) = some ((n + onesF k x : Nat) : Int)
  | 0, x, n, _, h, _ => by
    have : x = 0 := by simpa using h
    subst this
    exact loopM_br rfl
  | k + 1, x, n, hk, h, hn => by
    have hp := Nat.pow_le_pow_right (n := 2) (show 0 < 2 by omega) (show k + 1 ≤ 12 by omega)
    by_cases h0 : x = 0
    · subst h0
      have : ∀ k, onesF k 0 = 0 := fun k => by induction k with
        | zero => rfl
        | succ k ih => simp [onesF, ih]
      rw [this]
      exact loopM_br rfl
    · have e : r03_Ones_L5 ((x : Int), (n : Int)) = some (.nx (((x / 2 : Nat) : Int), ((n + x % 2 : Nat) : Int))) := by
        unfold r03_Ones_L5
        have h1 : (0 : Int) < (x : Int) := by omega
        have h2 := shr_nat (a := x) (y := 1) (by omega)
        have h3 := band_nat (a := x) (b := 1) (by omega) (by omega)
        rw [show ((1 : Nat) : Int) = 1 from rfl] at h2 h3
        simp only [h1, decide_true, if_true, shr_ok (show (0 : Int) ≤ 1 by omega), Option.bind_some, h2, h3, Nat.and_one_is_mod, Nat.shiftRight_eq_div_pow, Nat.pow_one]
        rw [wr_id (by omega) (by omega)]; rfl
      rw [loopM_nx e, onesL k (x / 2) (n + x % 2) (by omega) (by rw [Nat.pow_succ] at h; omega) (by omega)]
      simp only [onesF]
      rw [Nat.add_assoc]
theorem Ones_eq {x : Nat} (h : x < 4096) : r03_Ones (x : Int) = some ((ones x : Nat) : Int) := by
  unfold r03_Ones
  have := onesL 12 x 0 (by omega) (by omega) (by omega)
  rw [show ((0 : Nat) : Int) = 0 from rfl] at this
  rw [this]
  simp [r03_Ones_j2, ones]
end Go.Nw.DM

namespace Go.Nw.DM
def okTrial (c : Circuit) (t : Trial) : Bool := inR t.Hazards c.Hazards.toNat && decide (0 ≤ t.Wire) && decide (t.Wire < (c.Wires.length : Int))
def chk (c : Circuit) (l : List Trial) : Int := if (12 : Int) < (l.length : Int) then 2 else if l.all (okTrial c) then 0 else 31
section
variable {c : Circuit} (hc : OkC c) (hv : Valid c) (hk : circuit_Check c = some 0) (hr : r03_Check c = some 0) {l : List Trial} (hl : OkTrials l)
include hc hv hl
include hk in
theorem check_val : circuit_check c l = some (chk c l) := by
  have h1 := hv.hz
  have h3 := hv.wi
  unfold circuit_check chk
  simp only [hk, Option.bind_some, not_true_eq_false, decide_false, Bool.false_eq_true, if_false]
  by_cases g : (12 : Int) < (l.length : Int)
  · simp only [g, decide_true, if_true]
  · simp only [g, decide_false, Bool.false_eq_true, if_false]
    have h := loop_list (f := circuit_check_L12 c l) l (fun (_ : Unit) k => k) (fun r _ => if r.all (okTrial c) then Sum.inl () else Sum.inr (31 : Int)) (fun _ _ => True)
      (fun st k x r hd hg hk hm _ => by
        unfold circuit_check_L12
        simp only [hk, decide_true, if_true, hg, Option.bind_some, isSetH hc hv, wr_len hk hl.1]
        have e : ((!(inR x.Hazards c.Hazards.toNat) || decide (x.Wire < 0)) || decide ((c.Wires.length : Int) ≤ x.Wire)) = !okTrial c x := by
          unfold okTrial
          by_cases a : 0 ≤ x.Wire <;> by_cases b : x.Wire < (c.Wires.length : Int)
          all_goals
            have a' : decide (x.Wire < 0) = !decide (0 ≤ x.Wire) := by by_cases z : 0 ≤ x.Wire <;> simp [z] <;> omega
            have b' : decide ((c.Wires.length : Int) ≤ x.Wire) = !decide (x.Wire < (c.Wires.length : Int)) := by by_cases z : x.Wire < (c.Wires.length : Int) <;> simp [z] <;> omega
            rw [a', b']; simp only [a, b]; cases inR x.Hazards c.Hazards.toNat <;> rfl
        rw [e, List.all_cons]
        cases okTrial c x with
        | true => exact .inl ⟨(), rfl, trivial, rfl⟩
        | false => exact .inr rfl)
      (fun st _ => by unfold circuit_check_L12; simp) (s := ()) trivial
    rw [h]
    cases l.all (okTrial c) <;> rfl
include hr in
theorem CheckTrials_val : r03_CheckTrials c l = some (chk c l) := by
  have h1 := hv.hz
  have h3 := hv.wi
  unfold r03_CheckTrials chk
  simp only [hr, Option.bind_some, not_true_eq_false, decide_false, Bool.false_eq_true, if_false]
  by_cases g : (12 : Int) < (l.length : Int)
  · simp only [g, decide_true, if_true]
  · simp only [g, decide_false, Bool.false_eq_true, if_false]
    have h := loop_list (f := r03_CheckTrials_L10 c l) l (fun (_ : Unit) k => k) (fun r _ => if r.all (okTrial c) then Sum.inl () else Sum.inr (31 : Int)) (fun _ _ => True)
      (fun st k x r hd hg hk hm _ => by
        unfold r03_CheckTrials_L10
        simp only [hk, decide_true, if_true, hg, Option.bind_some, rHaz hc hv, wr_len hk hl.1]
        rw [wr_id (n := (c.Wires.length : Int) - 1) (by omega) (by omega)]
        have e : (!(inR x.Hazards c.Hazards.toNat) || !(r03_within x.Wire 0 ((c.Wires.length : Int) - 1))) = !okTrial c x := by
          unfold okTrial r03_within
          have a' : decide (x.Wire ≤ (c.Wires.length : Int) - 1) = decide (x.Wire < (c.Wires.length : Int)) := by congr 1; simp only [eq_iff_iff]; omega
          rw [a', Bool.and_assoc]
          cases inR x.Hazards c.Hazards.toNat <;> simp
        rw [e, List.all_cons]
        cases okTrial c x with
        | true => exact .inl ⟨(), rfl, trivial, rfl⟩
        | false => exact .inr rfl)
      (fun st _ => by unfold r03_CheckTrials_L10; simp) (s := ()) trivial
    rw [h]
    cases l.all (okTrial c) <;> rfl
end
theorem chk_zero {c : Circuit} {l : List Trial} (h : chk c l = 0) : l.length ≤ 12 ∧ ∀ t ∈ l, okTrial c t = true := by
  unfold chk at h
  split at h
  · cases h
  · split at h
    · rename_i h1 h2
      exact ⟨by omega, List.all_eq_true.1 h2⟩
    · cases h

/- what a trial shows -/
def tells (c : Circuit) (t : Trial) (cl : Int) : Bool := cnd c t.Hazards cl 0 t.Wire && !cnd c t.Hazards 0 0 t.Wire
def shownN (c : Circuit) (t : Trial) : Nat → Nat
  | 0 => 0
  | k + 1 => if tells c t ((2 ^ k : Nat) : Int) then shownN c t k ||| 2 ^ k else shownN c t k
def shI (c : Circuit) (t : Trial) : Int := (shownN c t c.Switches.length : Nat)
theorem shownN_lt (c : Circuit) (t : Trial) : ∀ k, shownN c t k < 2 ^ k
  | 0 => by simp [shownN]
  | k + 1 => by
    have := shownN_lt c t k
    have h2 : 2 ^ k < 2 ^ (k + 1) := Nat.pow_lt_pow_right (by omega) (by omega)
    simp only [shownN]
    split
    · exact Nat.or_lt_two_pow (by omega) h2
    · omega
section
variable {c : Circuit} (hc : OkC c) (hv : Valid c)
include hc hv
theorem shows_val {t : Trial} (ht : okTrial c t = true) (cl : Int) : circuit_shows c t cl = some (tells c t cl) := by
  simp only [okTrial, Bool.and_eq_true, decide_eq_true_eq] at ht
  unfold circuit_shows tells
  simp only [wire_cnd hc hv _ _ _ _ ht.1.2 ht.2, Option.bind_some]
  cases cnd c t.Hazards cl 0 t.Wire <;> rfl
theorem Tells_val {t : Trial} (ht : okTrial c t = true) (cl : Int) : r03_Tells c t cl = some (tells c t cl) := by
  simp only [okTrial, Bool.and_eq_true, decide_eq_true_eq] at ht
  unfold r03_Tells tells
  simp only [ref_cnd hc hv _ _ _ _ ht.1.2 ht.2, Option.bind_some]
  cases cnd c t.Hazards cl 0 t.Wire <;> rfl
theorem shown_val {t : Trial} (ht : okTrial c t = true) : circuit_shown c t = some (shI c t) := by
  have h2 := hv.sw
  obtain ⟨b, e, rfl⟩ := loop_inv (f := circuit_shown_L7 c t) c.Switches.length (fun s k => (s, k)) (fun k s => s = ((shownN c t k : Nat) : Int)) (fun b => b = shI c t) (fun s k hk hi => by
      subst hi
      have e1 : (k : Int) < (c.Switches.length : Int) := by omega
      have := shownN_lt c t k
      have hp := Nat.pow_le_pow_right (n := 2) (show 0 < 2 by omega) (show k ≤ 12 by omega)
      refine .inl ⟨_, ?_, rfl⟩
      unfold circuit_shown_L7
      simp only [e1, decide_true, if_true, shl_nat (y := k) (by omega), Option.bind_some, shows_val hc hv ht, circuit_shown_j7, wr_k hk (show c.Switches.length < 4611686018427387904 by omega), shownN]
      rw [bor_nat (by omega) (by omega)]
      cases tells c t ((2 ^ k : Nat) : Int) <;> rfl)
    (fun s hi => ⟨s, by unfold circuit_shown_L7; simp, hi⟩) (s := 0) 0 (Nat.zero_le _) rfl
  unfold circuit_shown
  rw [show ((0 : Nat) : Int) = 0 from rfl] at e
  rw [e]; rfl
theorem rshown_val {t : Trial} (ht : okTrial c t = true) : r03_shown c t = some (shI c t) := by
  have h2 := hv.sw
  obtain ⟨b, e, rfl⟩ := loop_inv (f := r03_shown_L7 c t) c.Switches.length (fun s k => (s, k)) (fun k s => s = ((shownN c t k : Nat) : Int)) (fun b => b = shI c t) (fun s k hk hi => by
      subst hi
      have e1 : (k : Int) < (c.Switches.length : Int) := by omega
      have := shownN_lt c t k
      have hp := Nat.pow_le_pow_right (n := 2) (show 0 < 2 by omega) (show k ≤ 12 by omega)
      refine .inl ⟨_, ?_, rfl⟩
      unfold r03_shown_L7
      simp only [e1, decide_true, if_true, u64_nat (y := k) (by omega), shl_nat (y := k) (by omega), Option.bind_some, Tells_val hc hv ht, r03_shown_j7, wr_k hk (show c.Switches.length < 4611686018427387904 by omega), shownN]
      rw [bor_nat (by omega) (by omega)]
      cases tells c t ((2 ^ k : Nat) : Int) <;> rfl)
    (fun s hi => ⟨s, by unfold r03_shown_L7; simp, hi⟩) (s := 0) 0 (Nat.zero_le _) rfl
  unfold r03_shown
  rw [show ((0 : Nat) : Int) = 0 from rfl] at e
  rw [e]; rfl
end
end Go.Nw.DM

namespace Go.Nw.DM
def tz (x : Nat) : Nat := ((List.range 12).find? (x.testBit ·)).getD 0
def els : Nat → Nat → List Nat
  | 0, _ => []
  | k + 1, x => if x = 0 then [] else tz x :: els k (x &&& (x - 1))
def memN (x n : Nat) : List Nat := (List.range n).filter (x.testBit ·)
def memI (x n : Nat) : List Int := (memN x n).map cast
def elsOk : Nat → Nat → Bool
  | 0, x => x == 0
  | k + 1, x => x == 0 || elsOk k (x &&& (x - 1))
set_option maxRecDepth 100000 in
theorem ok_all : ((List.range 4096).all fun x => elsOk 12 x) = true := by kernel_rfl
set_option maxRecDepth 100000 in
theorem tz_all : ((List.range 4095).all fun x => math_bits_TrailingZeros ((x + 1 : Nat) : Int) == some ((tz (x + 1) : Nat) : Int)) = true := by kernel_rfl
set_option maxRecDepth 100000 in
theorem els_all : ((List.range 4096).all fun x => els 12 x == memN x 12) = true := by kernel_rfl
theorem tz_eq {x : Nat} (h0 : 0 < x) (h : x < 4096) : math_bits_TrailingZeros (x : Int) = some ((tz x : Nat) : Int) := by
  have := List.all_eq_true.1 tz_all (x - 1) (List.mem_range.2 (by omega))
  rw [show x - 1 + 1 = x by omega] at this
  simpa using this
theorem els_eq {x : Nat} (h : x < 4096) : els 12 x = memN x 12 := by
  have := List.all_eq_true.1 els_all x (List.mem_range.2 h)
  simpa using this
theorem ones_len : ((List.range 4096).all fun x => ones x == (memN x 12).length) = true := by kernel_rfl
theorem ones_mem {x : Nat} (h : x < 4096) : ones x = (memN x 12).length := by
  have := List.all_eq_true.1 ones_len x (List.mem_range.2 h)
  simpa using this
end Go.Nw.DM

namespace Go.Nw.DM
theorem filter_more {p : Nat → Bool} {n : Nat} : ∀ m, n ≤ m → (∀ k, n ≤ k → p k = false) → (List.range m).filter p = (List.range n).filter p
  | 0, h, _ => by rw [show n = 0 by omega]
  | m + 1, h, hp => by
    by_cases e : n = m + 1
    · rw [e]
    · rw [List.range_succ, List.filter_append, filter_more m (by omega) hp]
      simp [hp m (by omega)]
theorem memN_more {x n : Nat} (h : x < 2 ^ n) (hn : n ≤ 12) : memN x 12 = memN x n := filter_more 12 hn fun k hk => Nat.testBit_lt_two_pow (Nat.lt_of_lt_of_le h (Nat.pow_le_pow_right (by omega) hk))
theorem elsL : ∀ (k x : Nat) (out : List Int), x < 4096 → elsOk k x = true → out.length + k ≤ 100 → loopM circuit_elements_L4 ((x : Int), out) = some (out ++ (els k x).map cast)
  | 0, x, out, hx, hk, ho => by
    have : x = 0 := by simpa [elsOk] using hk
    subst this
    exact loopM_br (by unfold circuit_elements_L4; simp [els])
  | k + 1, x, out, hx, hk, ho => by
    by_cases h0 : x = 0
    · subst h0
      exact loopM_br (by unfold circuit_elements_L4; simp [els])
    · have hz : 0 < x := by omega
      have hband : band (x : Int) (((x - 1 : Nat) : Int)) = ((x &&& (x - 1) : Nat) : Int) := band_nat (by omega) (by omega)
      have hx' : x &&& (x - 1) < 4096 := Nat.lt_of_le_of_lt Nat.and_le_left hx
      have e : circuit_elements_L4 ((x : Int), out) = some (.nx (((x &&& (x - 1) : Nat) : Int), out ++ [cast (tz x)])) := by
        unfold circuit_elements_L4
        have h1 : ¬ (x : Int) = 0 := by omega
        simp only [h1, not_false_eq_true, decide_true, if_true, u64_nat (y := x) (by omega), tz_eq hz hx, Option.bind_some]
        rw [ap_ok (by simp only [List.length_cons, List.length_nil]; omega), wr_id (by omega) (by omega), show (x : Int) - 1 = ((x - 1 : Nat) : Int) by omega, hband]
        rfl
      have hk' : elsOk k (x &&& (x - 1)) = true := by
        simp only [elsOk, Bool.or_eq_true, beq_iff_eq] at hk
        exact hk.resolve_left h0
      rw [loopM_nx e, elsL k _ _ hx' hk' (by simp; omega)]
      simp only [els, h0, if_false, List.map_cons, List.append_assoc, List.singleton_append]
theorem elements_eq {x n : Nat} (h : x < 2 ^ n) (hn : n ≤ 12) : circuit_elements (x : Int) = some (memI x n) := by
  have hx := pow12 h hn
  have hok := List.all_eq_true.1 ok_all x (List.mem_range.2 hx)
  unfold circuit_elements
  rw [elsL 12 x [] hx hok (by decide), els_eq hx, memN_more h hn]
  rfl
theorem members_eq {x n : Nat} (h : x < 4096) (hn : n ≤ 12) : r03_members (x : Int) (n : Int) = some (memI x n) := by
  have := loop_filter0 (f := r03_members_L7 (x : Int) (n : Int)) n (x.testBit ·) cast (fun l k hk hl => by
      unfold r03_members_L7
      have e : (k : Int) < (n : Int) := by omega
      simp only [e, decide_true, if_true, u64_nat (y := k) (by omega), shr_ok (show (0 : Int) ≤ (k : Int) by omega), Option.bind_some, r03_members_j7, wr_k hk (show n < 4611686018427387904 by omega)]
      rw [bit_eq (by omega) (by omega), ap_ok (by simp only [List.length_cons, List.length_nil]; omega)]
      cases x.testBit k <;> rfl)
    (fun l => by
      unfold r03_members_L7
      simp)
  unfold r03_members
  rw [this]; rfl
theorem memI_len {x n : Nat} : (memI x n).length ≤ n := by
  unfold memI memN
  rw [List.length_map]
  exact Nat.le_trans (List.length_filter_le _ _) (by simp)
theorem memI_ones {x n : Nat} (h : x < 2 ^ n) (hn : n ≤ 12) : (memI x n).length = ones x := by
  rw [ones_mem (pow12 h hn), memN_more h hn]; simp [memI]
theorem mem_memI {x n k : Nat} : (k : Int) ∈ memI x n ↔ k < n ∧ x.testBit k = true := by
  unfold memI memN
  simp only [List.mem_map, List.mem_filter, List.mem_range, cast]
  constructor
  · rintro ⟨a, h, e⟩
    have : a = k := by omega
    rw [← this]; exact h
  · exact fun h => ⟨k, h, rfl⟩
theorem memI_rng {x n : Nat} {y : Int} (h : y ∈ memI x n) : ∃ k : Nat, y = k ∧ k < n ∧ x.testBit k = true := by
  unfold memI memN at h
  simp only [List.mem_map, List.mem_filter, List.mem_range, cast] at h
  obtain ⟨a, h1, h2⟩ := h
  exact ⟨a, h2.symm, h1⟩

/- what all trials show -/
def allN (f : Nat → Nat) (s : Nat) : Nat → Nat
  | 0 => 0
  | k + 1 => if s.testBit k then allN f s k ||| f k else allN f s k
theorem allN_lt {f : Nat → Nat} {m : Nat} (hf : ∀ k, f k < 2 ^ m) (s : Nat) : ∀ k, allN f s k < 2 ^ m
  | 0 => Nat.pow_pos (by omega)
  | k + 1 => by
    simp only [allN]
    split
    · exact Nat.or_lt_two_pow (allN_lt hf s k) (hf k)
    · exact allN_lt hf s k
theorem allN_bit {f : Nat → Nat} {s i : Nat} : ∀ {k}, (allN f s k).testBit i = true ↔ ∃ j, j < k ∧ s.testBit j = true ∧ (f j).testBit i = true
  | 0 => by simp [allN]
  | k + 1 => by
    simp only [allN]
    split
    · rename_i h
      rw [Nat.testBit_or, Bool.or_eq_true, allN_bit (k := k)]
      constructor
      · rintro (⟨j, h1, h2⟩ | h1)
        · exact ⟨j, by omega, h2⟩
        · exact ⟨k, by omega, h, h1⟩
      · rintro ⟨j, h1, h2, h3⟩
        by_cases e : j = k
        · subst e; exact .inr h3
        · exact .inl ⟨j, by omega, h2, h3⟩
    · rename_i h
      rw [allN_bit (k := k)]
      constructor
      · rintro ⟨j, h1, h2⟩; exact ⟨j, by omega, h2⟩
      · rintro ⟨j, h1, h2, h3⟩
        refine ⟨j, ?_, h2, h3⟩
        by_cases e : j = k
        · subst e; exact absurd h2 h
        · omega
def shK (c : Circuit) (l : List Trial) (k : Nat) : Nat := shownN c (nth l (k : Int)) c.Switches.length
def whole (c : Circuit) (l : List Trial) : Nat := allN (shK c l) (2 ^ l.length - 1) l.length
theorem shK_lt (c : Circuit) (l : List Trial) (k : Nat) : shK c l k < 2 ^ c.Switches.length := shownN_lt c _ _
theorem full_bit {n k : Nat} (h : k < n) : (2 ^ n - 1).testBit k = true := by rw [Nat.testBit_two_pow_sub_one]; simp [h]
theorem allN_full {f : Nat → Nat} {n : Nat} : ∀ k, k ≤ n → allN f (2 ^ n - 1) (k + 1) = allN f (2 ^ n - 1) k ||| f k ∨ k = n
  | k, h => by
    by_cases e : k = n
    · exact .inr e
    · left; simp only [allN, full_bit (show k < n by omega), if_true]

section
variable {c : Circuit} (hc : OkC c) (hv : Valid c) {l : List Trial} (hl : l.length ≤ 12) (ht : ∀ t ∈ l, okTrial c t = true)
include hc hv hl ht
theorem nthT (k : Nat) (hk : k < l.length) : okTrial c (nth l (k : Int)) = true := ht _ (nth_toNat (by omega) (by omega))
theorem shI_shK (k : Nat) : shI c (nth l (k : Int)) = ((shK c l k : Nat) : Int) := rfl
theorem all_val : circuit_all c l = some ((List.range l.length).map (fun k => ((shK c l k : Nat) : Int)), ((whole c l : Nat) : Int)) := by
  have hs12 := hv.sw.2
  obtain ⟨r, e, rfl⟩ := loop_inv (f := circuit_all_L8 c l) l.length (fun (s : List Int × Int) k => (s.1, s.2, k)) (fun k s => s.1 = (List.range k).map (fun k => ((shK c l k : Nat) : Int)) ∧ s.2 = ((allN (shK c l) (2 ^ l.length - 1) k : Nat) : Int))
    (fun r => r = ((List.range l.length).map (fun k => ((shK c l k : Nat) : Int)), ((whole c l : Nat) : Int)))
    (fun s k hk hi => by
      obtain ⟨s1, s2⟩ := s
      obtain ⟨i1, i2⟩ := hi
      simp only at i1 i2
      have e1 : (k : Int) < (l.length : Int) := by omega
      have b1 := pow12 (allN_lt (shK_lt c l) (2 ^ l.length - 1) k) hs12
      have b2 := pow12 (shK_lt c l k) hs12
      have hlen : s1.length = k := by rw [i1]; simp
      refine .inl ⟨(s1 ++ [((shK c l k : Nat) : Int)], ((allN (shK c l) (2 ^ l.length - 1) (k + 1) : Nat) : Int)), ?_, ?_, rfl⟩
      · unfold circuit_all_L8
        simp only [e1, decide_true, if_true, get_nth (l := l) (i := (k : Int)) (by omega) e1, Option.bind_some, shown_val hc hv (nthT hc hv hl ht k hk), shI_shK hc hv hl ht, wr_k hk (show l.length < 4611686018427387904 by omega)]
        rw [ap_ok (by simp only [List.length_cons, List.length_nil]; omega), i2, bor_nat (by omega) (by omega)]
        simp only [allN, full_bit hk, if_true, Option.bind_some]
      · simp only [i1, List.range_succ, List.map_append, List.map_cons, List.map_nil])
    (fun s hi => by
      obtain ⟨s1, s2⟩ := s
      refine ⟨(s1, s2), by unfold circuit_all_L8; simp only [Int.lt_irrefl, decide_false, Bool.false_eq_true, if_false], ?_⟩
      have h1 := hi.1
      have h2 := hi.2
      simp only at h1 h2
      rw [h1, h2]; rfl)
    (s := ([], 0)) 0 (Nat.zero_le _) ⟨rfl, rfl⟩
  unfold circuit_all
  rw [show ((0 : Nat) : Int) = 0 from rfl] at e
  rw [e]; rfl
theorem every_val : r03_every c l = some ((List.range l.length).map (fun k => ((shK c l k : Nat) : Int))) := by
  obtain ⟨r, e, rfl⟩ := loop_inv (f := r03_every_L6 c l) l.length (fun (s : List Int) k => (s, k)) (fun k s => s = (List.range k).map (fun k => ((shK c l k : Nat) : Int)))
    (fun r => r = (List.range l.length).map (fun k => ((shK c l k : Nat) : Int)))
    (fun s k hk hi => by
      have e1 : (k : Int) < (l.length : Int) := by omega
      have hlen : s.length = k := by rw [hi]; simp
      refine .inl ⟨s ++ [((shK c l k : Nat) : Int)], ?_, by simp only [hi, List.range_succ, List.map_append, List.map_cons, List.map_nil]⟩
      unfold r03_every_L6
      simp only [e1, decide_true, if_true, get_nth (l := l) (i := (k : Int)) (by omega) e1, Option.bind_some, rshown_val hc hv (nthT hc hv hl ht k hk), shI_shK hc hv hl ht, wr_k hk (show l.length < 4611686018427387904 by omega)]
      rw [ap_ok (by simp only [List.length_cons, List.length_nil]; omega)]
      rfl)
    (fun s hi => ⟨_, by unfold r03_every_L6; simp only [Int.lt_irrefl, decide_false, Bool.false_eq_true, if_false], hi⟩)
    (s := []) 0 (Nat.zero_le _) rfl
  unfold r03_every
  rw [show ((0 : Nat) : Int) = 0 from rfl] at e
  rw [e]; rfl
theorem rall_val {w : Nat} (hw : w < 4096) : r03_all c l (w : Int) = some ((allN (shK c l) w l.length : Nat) : Int) := by
  have hs12 := hv.sw.2
  obtain ⟨r, e, rfl⟩ := loop_inv (f := r03_all_L7 c l (w : Int)) l.length (fun (s : Int) k => (s, k)) (fun k s => s = ((allN (shK c l) w k : Nat) : Int)) (fun r => r = ((allN (shK c l) w l.length : Nat) : Int))
    (fun s k hk hi => by
      subst hi
      have e1 : (k : Int) < (l.length : Int) := by omega
      have b1 := pow12 (allN_lt (shK_lt c l) w k) hs12
      have b2 := pow12 (shK_lt c l k) hs12
      refine .inl ⟨_, ?_, rfl⟩
      unfold r03_all_L7
      simp only [e1, decide_true, if_true, u64_nat (y := k) (by omega), shr_ok (show (0 : Int) ≤ (k : Int) by omega), get_nth (l := l) (i := (k : Int)) (by omega) e1, Option.bind_some, rshown_val hc hv (nthT hc hv hl ht k hk), shI_shK hc hv hl ht, r03_all_j7, wr_k hk (show l.length < 4611686018427387904 by omega)]
      rw [bit_eq (by omega) (by omega), bor_nat (by omega) (by omega)]
      simp only [allN]
      cases w.testBit k <;> rfl)
    (fun s hi => ⟨s, by unfold r03_all_L7; simp only [Int.lt_irrefl, decide_false, Bool.false_eq_true, if_false], hi⟩) (s := 0) 0 (Nat.zero_le _) rfl
  unfold r03_all
  rw [show ((0 : Nat) : Int) = 0 from rfl] at e
  rw [e]; rfl
theorem whole_lt : whole c l < 2 ^ c.Switches.length := allN_lt (shK_lt c l) _ _
theorem pow_l : 2 ^ l.length - 1 < 4096 := by
  have := Nat.pow_le_pow_right (n := 2) (by omega) hl
  omega
end
end Go.Nw.DM
