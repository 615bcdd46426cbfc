/- Plain laws on the models. -/
import Derived.Test.YtmlhjobmpjpmnaaP2
import Derived.Test.YtmlhjobmpjpmnaaNwBits
import Derived.Test.YtmlhjobmpjpmnaaP1
import Derived.KernelRfl
set_option linter.all false
set_option linter.unusedVariables false
set_option linter.unusedSimpArgs false
set_option linter.unusedSectionVars false
namespace Go.Nw.CM

def leafB (c : Circuit) (hz cl op y : Int) : Bool := decide (band (shrK .i64 op y) 1 = 0) && (decide (band (shrK .i64 cl y) 1 = 1) || decide (band (nth c.Switches y) hz = 0))
def cnN : Nat → Circuit → Int → Int → Int → Int → Bool
  | 0 => fun _ _ _ _ _ => false
  | n + 1 => fun c hz cl op i =>
    if (nth c.Wires i).Kind = 1 then leafB c hz cl op (nth (nth c.Wires i).Of 0)
    else if (nth c.Wires i).Kind = 3 then (nth c.Wires i).Of.any (cnN n c hz cl op) else (nth c.Wires i).Of.all (cnN n c hz cl op)
abbrev cnd (c : Circuit) (hz cl op i : Int) : Bool := cnN 1000 c hz cl op i

theorem any_false_all (p : Int → Bool) : ∀ l : List Int, (l.any fun z => p z == false) = !(l.all p)
  | [] => rfl
  | a :: l => by
    simp only [List.any_cons, List.all_cons, any_false_all p l]
    cases p a <;> simp
theorem cn_eq {c : Circuit} (hc : OkC c) (hv : Valid c) (hz cl op : Int) : ∀ (n : Nat) (i : Int), 0 ≤ i → i < c.Wires.length → (c.Wires.length : Int) - i < n →
    r03_conducts n c i hz cl op = some (cnN n c hz cl op i)
  | 0, i, h0, h1, h2 => by omega
  | n + 1, i, h0, h1, h2 => by
    have hok := hv.ok i h0 h1
    obtain ⟨hk, hol, hof⟩ := hc.2.2.2 _ (nth_toNat h0 h1)
    show r03_conducts_body (r03_conducts n) c i hz cl op = some (cnN (n + 1) c hz cl op i)
    unfold r03_conducts_body
    simp only [cnN, get_nth h0 h1, Option.bind_some]
    generalize nth c.Wires i = w at *
    have hsw := hv.sw
    by_cases k1 : w.Kind = 1
    · simp only [okW, k1, if_true, Bool.and_eq_true, decide_eq_true_eq] at hok
      obtain ⟨o1, o2⟩ := hok
      obtain ⟨y, hy⟩ : ∃ y, w.Of = [y] := List.length_eq_one_iff.1 o1
      have hg : get w.Of 0 = some y := by rw [hy]; rfl
      have hn : nth w.Of 0 = y := by rw [hy]; rfl
      obtain ⟨y0, y1⟩ := asc_lt o2 y (by rw [hy]; simp)
      simp only [k1, decide_true, if_true, hg, hn, Option.bind_some, u64_id (n := y) y0 (by omega), get_nth y0 y1, shr_ok y0, leafB]
      by_cases g1 : band (shrK .i64 op y) 1 = 0 <;> by_cases g2 : band (shrK .i64 cl y) 1 = 1 <;> simp [g1, g2]
    · simp only [okW, k1, if_false] at hok
      split at hok
      · rename_i k23
        simp only [Bool.and_eq_true, decide_eq_true_eq] at hok
        have hp2 : ∀ z ∈ w.Of, r03_conducts n c z hz cl op = some (cnN n c hz cl op z) := fun z hzm => by
          have := asc_lt hok.2 z hzm
          exact cn_eq hc hv hz cl op n z (by omega) this.2 (by omega)
        simp only [k1, decide_false, Bool.false_eq_true, if_false]
        rw [L10_eq hol hp2]
        generalize cnN n c hz cl op = p
        rcases k23 with k2 | k3
        · have k3 : ¬ w.Kind = 3 := by omega
          simp only [k3, decide_false, Bool.false_eq_true, if_false]
          have e : (w.Of.any fun z => p z == false) = !(w.Of.all p) := any_false_all p _
          rw [e]
          cases w.Of.all p with
          | true => simp [r03_conducts_body_j20, k2]
          | false => simp
        · simp only [k3, decide_true, if_true]
          have e : (w.Of.any fun z => p z == true) = w.Of.any p := by congr 1; funext z; cases p z <;> rfl
          rw [e]
          cases w.Of.any p with
          | true => simp
          | false => simp [r03_conducts_body_j20, k3]
      · cases hok

section
variable {c : Circuit} (hc : OkC c) (hv : Valid c)
include hc hv

theorem ref_cnd (hz cl op i : Int) (h0 : 0 ≤ i) (h1 : i < c.Wires.length) : r03_conducts 1000 c i hz cl op = some (cnd c hz cl op i) := by
  have := hv.wi
  exact cn_eq hc hv hz cl op 1000 i h0 h1 (by omega)
theorem wire_cnd (hz cl op i : Int) (h0 : 0 ≤ i) (h1 : i < c.Wires.length) : _circuit_state__wire 1000 ⟨c, hz, cl, op⟩ i = some (cnd c hz cl op i) := by
  have := hv.wi
  obtain ⟨b, e1, e2⟩ := wire_eq hc hv hz cl op 1000 i h0 h1 (by omega)
  rw [ref_cnd hc hv hz cl op i h0 h1] at e2
  rw [e1, e2]

theorem leaf_mono {hz hz' cl cl' op op' y : Nat} (b1 : hz < 4611686018427387904) (b2 : cl < 4611686018427387904) (b3 : op < 4611686018427387904) (b1' : hz' < 4611686018427387904) (b2' : cl' < 4611686018427387904) (b3' : op' < 4611686018427387904)
    (h1 : Sub hz' hz) (h2 : Sub cl cl') (h3 : Sub op' op) (hy : y < c.Switches.length) (h : leafB c hz cl op y = true) : leafB c hz' cl' op' y = true := by
  have hsw := hv.sw
  have hm := nth_toNat (l := c.Switches) (x := (y : Int)) (by omega) (by omega)
  obtain ⟨x0, x1⟩ := hv.sws _ hm
  have hhz := hv.hz
  obtain ⟨p1, p2⟩ := pow_bound (n := c.Hazards) (by omega)
  obtain ⟨x, hx⟩ : ∃ x : Nat, nth c.Switches (y : Int) = x := ⟨(nth c.Switches (y : Int)).toNat, by omega⟩
  unfold leafB at h ⊢
  rw [hx] at h ⊢
  rw [bit_eq (by omega) (by omega), bit_eq (by omega) (by omega), band_nat (by omega) (by omega)] at h ⊢
  simp only [Bool.and_eq_true, Bool.or_eq_true, decide_eq_true_eq] at h ⊢
  obtain ⟨g1, g2⟩ := h
  constructor
  · cases ho : op'.testBit y with
    | false => rfl
    | true => rw [h3 y ho] at g1; simp at g1
  · rcases g2 with g2 | g2
    · left
      cases ho : cl.testBit y with
      | false => rw [ho] at g2; simp at g2
      | true => rw [h2 y ho]; rfl
    · right
      have : x &&& hz = 0 := by omega
      rw [and_zero_mono h1 this]; rfl

theorem cn_mono {hz hz' cl cl' op op' : Nat} (b1 : hz < 4611686018427387904) (b2 : cl < 4611686018427387904) (b3 : op < 4611686018427387904) (b1' : hz' < 4611686018427387904) (b2' : cl' < 4611686018427387904) (b3' : op' < 4611686018427387904)
    (h1 : Sub hz' hz) (h2 : Sub cl cl') (h3 : Sub op' op) : ∀ (n : Nat) (i : Int), 0 ≤ i → i < c.Wires.length → cnN n c hz cl op i = true → cnN n c hz' cl' op' i = true
  | 0, i, h0, hl, h => by simp [cnN] at h
  | n + 1, i, h0, hl, h => by
    have hok := hv.ok i h0 hl
    simp only [cnN] at h ⊢
    generalize nth c.Wires i = w at *
    by_cases k1 : w.Kind = 1
    · simp only [okW, k1, if_true, Bool.and_eq_true, decide_eq_true_eq] at hok h ⊢
      obtain ⟨o1, o2⟩ := hok
      obtain ⟨y, hy⟩ : ∃ y, w.Of = [y] := List.length_eq_one_iff.1 o1
      have hn : nth w.Of 0 = y := by rw [hy]; rfl
      obtain ⟨y0, y1⟩ := asc_lt o2 y (by rw [hy]; simp)
      rw [hn] at h ⊢
      obtain ⟨z, rfl⟩ : ∃ z : Nat, y = z := ⟨y.toNat, by omega⟩
      exact leaf_mono hc hv b1 b2 b3 b1' b2' b3' h1 h2 h3 (by omega) h
    · simp only [okW, k1, if_false] at hok h ⊢
      split at hok
      · rename_i k23
        simp only [Bool.and_eq_true, decide_eq_true_eq] at hok
        have ih : ∀ z ∈ w.Of, cnN n c hz cl op z = true → cnN n c hz' cl' op' z = true := fun z hz => by
          have := asc_lt hok.2 z hz
          exact cn_mono b1 b2 b3 b1' b2' b3' h1 h2 h3 n z (by omega) this.2
        split at h
        · rename_i k3
          rw [if_pos k3]
          obtain ⟨z, hz, g⟩ := List.any_eq_true.1 h
          exact List.any_eq_true.2 ⟨z, hz, ih z hz g⟩
        · rename_i k3
          rw [if_neg k3]
          exact List.all_eq_true.2 fun z hz => ih z hz (List.all_eq_true.1 h z hz)
      · cases hok
end
end Go.Nw.CM

namespace Go.Nw.CM

def cast (k : Nat) : Int := k
def wk (c : Circuit) (cl : Int) : List Int := ((List.range c.Hazards.toNat).filter fun h => cnd c ((2 ^ h : Nat) : Int) cl 0 0).map cast
def isCrit (c : Circuit) (i : Nat) : Bool := decide ((0 : Int) < ((wk c ((2 ^ i : Nat) : Int)).length : Int))
def crit (c : Circuit) : List Int := ((List.range c.Switches.length).filter (isCrit c)).map cast
theorem wr_k {k n : Nat} (h : k < n) (hn : n < 4611686018427387904) : wr ((k : Int) + 1) = (k : Int) + 1 := wr_id (by omega) (by omega)
theorem mem_crit {c : Circuit} {i : Nat} : (i : Int) ∈ crit c ↔ i < c.Switches.length ∧ isCrit c i = true := by
  unfold crit
  simp only [List.mem_map, List.mem_filter, List.mem_range, cast]
  constructor
  · rintro ⟨a, h, e⟩
    have : a = i := by omega
    rw [← this]; exact h
  · exact fun h => ⟨i, h, rfl⟩

section
variable {c : Circuit} (hc : OkC c) (hv : Valid c)
include hc hv

theorem weak_eq (cl : Int) : circuit_weak c cl = some (wk c cl) := by
  have h1 := hv.hz
  have h2 := hv.wi
  have := loop_filter0 (f := circuit_weak_L7 c cl) c.Hazards.toNat (fun h => cnd c ((2 ^ h : Nat) : Int) cl 0 0) cast (fun l k hk hl => by
      unfold circuit_weak_L7
      have e : (k : Int) < c.Hazards := by omega
      simp only [e, decide_true, if_true, shl_nat (y := k) (by omega), Option.bind_some, wire_cnd hc hv _ cl 0 0 (by omega) (by omega), circuit_weak_j7]
      rw [wr_k hk (by omega), ap_ok (by simp only [List.length_cons, List.length_nil]; omega)]
      cases cnd c ((2 ^ k : Nat) : Int) cl 0 0 <;> rfl)
    (fun l => by
      unfold circuit_weak_L7
      have e : ¬ ((c.Hazards.toNat : Nat) : Int) < c.Hazards := by omega
      simp only [e, decide_false, Bool.false_eq_true, if_false])
  unfold circuit_weak
  rw [this]; rfl
theorem rweak_eq (cl : Int) : r03_weak c cl = some (wk c cl) := by
  have h1 := hv.hz
  have h2 := hv.wi
  have := loop_filter0 (f := r03_weak_L7 c cl) c.Hazards.toNat (fun h => cnd c ((2 ^ h : Nat) : Int) cl 0 0) cast (fun l k hk hl => by
      unfold r03_weak_L7
      have e : (k : Int) < c.Hazards := by omega
      simp only [e, decide_true, if_true, u64_nat (y := k) (by omega), shl_nat (y := k) (by omega), Option.bind_some, ref_cnd hc hv _ cl 0 0 (by omega) (by omega), r03_weak_j7]
      rw [wr_k hk (by omega), ap_ok (by simp only [List.length_cons, List.length_nil]; omega)]
      cases cnd c ((2 ^ k : Nat) : Int) cl 0 0 <;> rfl)
    (fun l => by
      unfold r03_weak_L7
      have e : ¬ ((c.Hazards.toNat : Nat) : Int) < c.Hazards := by omega
      simp only [e, decide_false, Bool.false_eq_true, if_false])
  unfold r03_weak
  rw [this]; rfl

theorem critL : loopM (circuit_Critical_L11 c) ([], 0) = some (crit c) := by
  have h1 := hv.sw
  exact loop_filter0 (f := circuit_Critical_L11 c) c.Switches.length (isCrit c) cast (fun l k hk hl => by
      unfold circuit_Critical_L11
      have e : (k : Int) < (c.Switches.length : Int) := by omega
      simp only [e, decide_true, if_true, shl_nat (y := k) (by omega), Option.bind_some, weak_eq hc hv, circuit_Critical_j11]
      rw [wr_k hk (by omega), ap_ok (by simp only [List.length_cons, List.length_nil]; omega)]
      show (if isCrit c k = true then _ else _) = _
      cases isCrit c k <;> rfl)
    (fun l => by
      unfold circuit_Critical_L11
      simp)
theorem rcritL : loopM (r03_Critical_L9 c) ([], 0) = some (crit c) := by
  have h1 := hv.sw
  exact loop_filter0 (f := r03_Critical_L9 c) c.Switches.length (isCrit c) cast (fun l k hk hl => by
      unfold r03_Critical_L9
      have e : (k : Int) < (c.Switches.length : Int) := by omega
      simp only [e, decide_true, if_true, u64_nat (y := k) (by omega), shl_nat (y := k) (by omega), Option.bind_some, rweak_eq hc hv, r03_Critical_j11]
      rw [wr_k hk (by omega), ap_ok (by simp only [List.length_cons, List.length_nil]; omega)]
      show (if isCrit c k = true then _ else _) = _
      cases isCrit c k <;> rfl)
    (fun l => by
      unfold r03_Critical_L9
      simp)
end

theorem contains_int {s : List Int} {v : Int} (hl : s.length ≤ maxLen) : slices_Contains___int_int_ s v = some (decide (v ∈ s)) := by
  have h := loop_list (f := slices_Index___int_int__L7 s v) s (fun (_ : Unit) k => k) (fun r _ => if v ∈ r then Sum.inr ((s.length : Int) - (r.length : Int) + ((r.idxOf v : Nat) : Int)) else Sum.inl ()) (fun _ _ => True)
    (fun st k x r hd hg hk hm _ => by
      unfold slices_Index___int_int__L7
      simp only [hk, decide_true, if_true, hg, Option.bind_some]
      by_cases e : v = x
      · refine .inr ?_
        have hlen : ((x :: r).length : Int) = (s.length : Int) - k := by rw [← hd, List.length_drop]; omega
        subst e
        simp only [decide_true, if_true, List.mem_cons, true_or, List.idxOf_cons_self]
        rw [hlen]
        have : (s.length : Int) - ((s.length : Int) - (k : Int)) + ((0 : Nat) : Int) = k := by omega
        rw [this]
      · refine .inl ⟨(), ?_, trivial, ?_⟩
        · simp only [e, decide_false, Bool.false_eq_true, if_false, wr_len hk hl]
        · have e2 : (v ∈ x :: r) ↔ v ∈ r := by simp [e]
          simp only [e2]
          split
          · have : (x :: r).idxOf v = r.idxOf v + 1 := by
              have e3 : (x == v) = false := by simpa using fun h => e h.symm
              rw [List.idxOf_cons, e3]; rfl
            rw [this]; congr 1
            simp only [List.length_cons]; omega
          · rfl)
    (fun st _ => by unfold slices_Index___int_int__L7; simp) (s := ()) trivial
  unfold slices_Contains___int_int_ slices_Index___int_int_
  rw [h]
  by_cases hv : v ∈ s
  · simp only [hv, if_true, Option.bind_some, decide_true]
    have : (0 : Int) ≤ (s.length : Int) - (s.length : Int) + ((s.idxOf v : Nat) : Int) := by omega
    simp [this]
  · simp only [hv, if_false, Option.bind_some, decide_false]
    rfl
end Go.Nw.CM

namespace Go.Nw
theorem loop_flat {α : Type} {f : (List α × Int) → Option (Out (List α × Int) (List α))} (n B : Nat) (g : Nat → List α) (hB : ∀ k, (g k).length ≤ B)
    (step : ∀ (l : List α) (k : Nat), k < n → l.length ≤ B * k → f (l, (k : Int)) = some (.nx (l ++ g k, (k : Int) + 1)))
    (fin : ∀ l, f (l, (n : Int)) = some (.br l)) : loopM f ([], 0) = some ((List.range n).flatMap g) := by
  have key : ∀ (d k : Nat) (l : List α), n - k = d → k ≤ n → l.length ≤ B * k → loopM f (l, (k : Int)) = some (l ++ (List.range' k d).flatMap g) := by
    intro d
    induction d with
    | zero =>
      intro k s hd hk hi
      have : k = n := by omega
      subst this
      rw [loopM_br (fin s)]; simp
    | succ d ih =>
      intro k s hd hk hi
      rw [loopM_nx (step s k (by omega) hi)]
      have := ih (k + 1) (s ++ g k) (by omega) (by omega) (by rw [List.length_append, Nat.mul_succ]; have := hB k; omega)
      rw [show ((k + 1 : Nat) : Int) = (k : Int) + 1 by omega] at this
      rw [this, List.range'_succ]
      simp
  have := key n 0 [] (by omega) (by omega) (Nat.zero_le _)
  rw [List.range_eq_range']
  simpa using this
end Go.Nw
namespace Go.Nw.CM
def pq (c : Circuit) (i k : Nat) : Bool := !isCrit c i && !isCrit c k && decide ((0 : Int) < ((wk c ((2 ^ i ||| 2 ^ k : Nat) : Int)).length : Int))
def pairI (i k : Nat) : Int × Int := (cast i, cast k)
def pairsAt (c : Circuit) (i : Nat) : List (Int × Int) := ((List.range' (i + 1) (c.Switches.length - (i + 1))).filter (pq c i)).map (pairI i)
def pairs (c : Circuit) : List (Int × Int) := (List.range c.Switches.length).flatMap (pairsAt c)
theorem pairsAt_len (c : Circuit) (i : Nat) : (pairsAt c i).length ≤ c.Switches.length := by
  unfold pairsAt
  rw [List.length_map]
  exact Nat.le_trans (List.length_filter_le _ _) (by simp)
theorem mem_pairs {c : Circuit} {i k : Nat} : ((i : Int), (k : Int)) ∈ pairs c ↔ i < k ∧ k < c.Switches.length ∧ pq c i k = true := by
  unfold pairs pairsAt
  simp only [List.mem_flatMap, List.mem_range, List.mem_map, List.mem_filter, List.mem_range'_1, pairI, cast, Prod.mk.injEq]
  constructor
  · rintro ⟨a, h1, b, ⟨⟨h2, h3⟩, h4⟩, h5, h6⟩
    have e1 : a = i := by omega
    have e2 : b = k := by omega
    subst e1; subst e2
    exact ⟨by omega, by omega, h4⟩
  · rintro ⟨h1, h2, h3⟩
    exact ⟨i, by omega, k, ⟨⟨by omega, by omega⟩, h3⟩, rfl, rfl⟩
theorem isCrit_eq {c : Circuit} {i : Nat} : isCrit c i = !decide (((wk c ((2 ^ i : Nat) : Int)).length : Int) = 0) := by
  unfold isCrit
  by_cases h : ((wk c ((2 ^ i : Nat) : Int)).length : Int) = 0
  · rw [h]; rfl
  · have : (0 : Int) < ((wk c ((2 ^ i : Nat) : Int)).length : Int) := by omega
    simp only [h, this, decide_true, decide_false, Bool.not_false]
section
variable {c : Circuit} (hc : OkC c) (hv : Valid c)
include hc hv

theorem crit_len : (crit c).length ≤ maxLen := by
  have := hv.sw
  unfold crit
  rw [List.length_map]
  refine Nat.le_trans (List.length_filter_le _ _) ?_
  simp only [List.length_range, maxLen]; omega

theorem pairsL {e : Int} : loopM (circuit_Pairs_L15 c (crit c, e)) ([], 0) = some (pairs c) := by
  have h1 := hv.sw
  refine loop_flat (f := circuit_Pairs_L15 c (crit c, e)) c.Switches.length c.Switches.length (pairsAt c) (pairsAt_len c) (fun l k hk hl => ?_) (fun l => by
      unfold circuit_Pairs_L15
      simp)
  have hb : c.Switches.length * k ≤ 12 * 12 := Nat.mul_le_mul (by omega) (by omega)
  unfold circuit_Pairs_L15
  have e1 : (k : Int) < (c.Switches.length : Int) := by omega
  simp only [e1, decide_true, if_true]
  rw [wr_k hk (by omega)]
  have := loop_filter (f := circuit_Pairs_L13 c (crit c, e) (k : Int)) c.Switches.length l.length (pq c k) (pairI k) (fun l2 j hj hl2 => by
      unfold circuit_Pairs_L13
      have e2 : (j : Int) < (c.Switches.length : Int) := by omega
      simp only [e2, decide_true, if_true, shl_nat (y := k) (by omega), shl_nat (y := j) (by omega), Option.bind_some, contains_int (crit_len hc hv), circuit_Pairs_j16,
        bor_nat (pow_lt (y := k) (by omega)) (pow_lt (y := j) (by omega)), weak_eq hc hv, mem_crit, hk, hj, true_and]
      rw [wr_k hj (by omega), ap_ok (by simp only [List.length_cons, List.length_nil]; omega)]
      have e3 : pq c k j = (!isCrit c k && !isCrit c j && decide ((0 : Int) < ((wk c ((2 ^ k ||| 2 ^ j : Nat) : Int)).length : Int))) := rfl
      rw [e3]
      generalize decide ((0 : Int) < ((wk c ((2 ^ k ||| 2 ^ j : Nat) : Int)).length : Int)) = b3
      cases isCrit c k <;> cases isCrit c j <;> cases b3 <;> rfl)
    (fun l2 => by
      unfold circuit_Pairs_L13
      simp) l (k + 1) (by omega) (by omega)
  rw [show ((k + 1 : Nat) : Int) = (k : Int) + 1 by omega] at this
  rw [this]
  simp only [Option.bind_some, circuit_Pairs_j11]
  rw [wr_k hk (by omega)]; rfl
theorem rpairsL : loopM (r03_Pairs_L14 c) ([], 0) = some (pairs c) := by
  have h1 := hv.sw
  refine loop_flat (f := r03_Pairs_L14 c) c.Switches.length c.Switches.length (pairsAt c) (pairsAt_len c) (fun l k hk hl => ?_) (fun l => by
      unfold r03_Pairs_L14
      simp)
  have hb : c.Switches.length * k ≤ 12 * 12 := Nat.mul_le_mul (by omega) (by omega)
  unfold r03_Pairs_L14
  have e1 : (k : Int) < (c.Switches.length : Int) := by omega
  simp only [e1, decide_true, if_true]
  rw [wr_k hk (by omega)]
  have := loop_filter (f := r03_Pairs_L12 c (k : Int)) c.Switches.length l.length (pq c k) (pairI k) (fun l2 j hj hl2 => by
      unfold r03_Pairs_L12
      have e2 : (j : Int) < (c.Switches.length : Int) := by omega
      simp only [e2, decide_true, if_true, u64_nat (y := k) (by omega), u64_nat (y := j) (by omega), shl_nat (y := k) (by omega), shl_nat (y := j) (by omega), Option.bind_some, r03_Pairs_j16,
        bor_nat (pow_lt (y := k) (by omega)) (pow_lt (y := j) (by omega)), rweak_eq hc hv]
      rw [wr_k hj (by omega), ap_ok (by simp only [List.length_cons, List.length_nil]; omega)]
      have e3 : pq c k j = (!isCrit c k && !isCrit c j && decide ((0 : Int) < ((wk c ((2 ^ k ||| 2 ^ j : Nat) : Int)).length : Int))) := rfl
      rw [e3, isCrit_eq, isCrit_eq]
      generalize decide ((0 : Int) < ((wk c ((2 ^ k ||| 2 ^ j : Nat) : Int)).length : Int)) = b3
      generalize decide (((wk c ((2 ^ k : Nat) : Int)).length : Int) = 0) = b1
      generalize decide (((wk c ((2 ^ j : Nat) : Int)).length : Int) = 0) = b2
      cases b1 <;> cases b2 <;> cases b3 <;> rfl)
    (fun l2 => by
      unfold r03_Pairs_L12
      simp) l (k + 1) (by omega) (by omega)
  rw [show ((k + 1 : Nat) : Int) = (k : Int) + 1 by omega] at this
  rw [this]
  simp only [Option.bind_some, r03_Pairs_j11]
  rw [wr_k hk (by omega)]; rfl
end
end Go.Nw.CM

namespace Go.Nw.CM

def inR (n : Int) (k : Nat) : Bool := decide (0 ≤ n) && decide (n < 2 ^ k)
theorem inR_iff {n : Int} {k : Nat} : inR n k = true ↔ ∃ m : Nat, n = m ∧ m < 2 ^ k := by
  unfold inR
  simp only [Bool.and_eq_true, decide_eq_true_eq]
  have e : (2 : Int) ^ k = ((2 ^ k : Nat) : Int) := by simp
  rw [e]
  constructor
  · rintro ⟨h1, h2⟩; exact ⟨n.toNat, by omega, by omega⟩
  · rintro ⟨m, rfl, h⟩; omega
theorem Far_cases {c : Circuit} (hc : OkC c) : l03_Far c = some true ∨ (l03_Far c = some false ∧ c.Switches.length ≤ 20 ∧ c.Wires.length ≤ 40) := by
  obtain ⟨b, e1, e2⟩ := Far_spec hc
  cases b with
  | true => exact .inl e1
  | false => exact .inr ⟨e1, e2 rfl⟩
theorem Check_cases {c : Circuit} (hc : OkC c) (h : c.Switches.length ≤ 20 ∧ c.Wires.length ≤ 40) :
    (circuit_Check c = some 0 ∧ r03_Check c = some 0 ∧ Valid c) ∨ (circuit_Check c = some 30 ∧ r03_Check c = some 30) := by
  obtain ⟨r, e1, e2, e3, e4⟩ := Check_eq hc (by omega) (by omega)
  rcases e3 with rfl | rfl
  · exact .inl ⟨e1, e2, e4 rfl⟩
  · exact .inr ⟨e1, e2⟩

section
variable {c : Circuit} (hc : OkC c) (hv : Valid c) (hk : circuit_Check c = some 0)
include hc hv
theorem isSetH (n : Int) : circuit_isSet n c.Hazards = some (inR n c.Hazards.toNat) := by
  have h1 := hv.hz
  exact isSet_eq (by omega) (by omega)
theorem isSetS (n : Int) : circuit_isSet n (c.Switches.length : Int) = some (inR n c.Switches.length) := by
  have h1 := hv.sw
  rw [isSet_eq (by omega) (by omega)]; simp [inR]
theorem rHaz (n : Int) : r03_Hazards c n = some (inR n c.Hazards.toNat) := by
  have h1 := hv.hz
  exact hazards_eq (by omega) (by omega)
theorem rSw (n : Int) : r03_Switches c n = some (inR n c.Switches.length) := by
  have h1 := hv.sw
  exact switches_eq (by omega)
include hk
theorem Runs_val (hz cl op : Int) : circuit_Runs c hz cl op = some (if inR hz c.Hazards.toNat && inR cl c.Switches.length && inR op c.Switches.length then (cnd c hz cl op 0, 0) else (false, 1)) := by
  have h2 := hv.wi
  unfold circuit_Runs
  simp only [hk, Option.bind_some, isSetH hc hv, isSetS hc hv, wire_cnd hc hv hz cl op 0 (by omega) (by omega)]
  cases inR hz c.Hazards.toNat <;> cases inR cl c.Switches.length <;> cases inR op c.Switches.length <;> rfl
end

theorem pow12 {n k : Nat} (h : n < 2 ^ k) (hk : k ≤ 12) : n < 4096 := by
  have := Nat.pow_le_pow_right (n := 2) (by omega) hk
  omega

theorem Order_plain (hw : l03_works = some true) (c : Circuit) (s less : l03_State) (hc : OkC c) (_ : OkS s) (_ : OkS less) : l03_CircuitOrder c s less = some true := by
  unfold l03_CircuitOrder
  rcases Far_cases hc with e | ⟨e, hl⟩
  · simp [e, hw]
  rcases Check_cases hc hl with ⟨k1, k2, hv⟩ | ⟨k1, k2⟩
  rotate_left
  · simp [e, k2, hw]
  have h1 := hv.hz
  have h2 := hv.sw
  have h3 := hv.wi
  simp only [e, k2, Option.bind_some, Bool.false_eq_true, if_false, Runs_val hc hv k1, rSw hc hv, hw]
  cases g1 : inR s.Hazards c.Hazards.toNat with
  | false => simp
  | true =>
  cases g2 : inR s.Closed c.Switches.length with
  | false => simp
  | true =>
  cases g3 : inR s.Open c.Switches.length with
  | false => simp
  | true =>
  cases g4 : inR less.Closed c.Switches.length with
  | false => simp
  | true =>
  obtain ⟨a, ea, la⟩ := inR_iff.1 g1
  obtain ⟨b, eb, lb⟩ := inR_iff.1 g2
  obtain ⟨o, eo, lo⟩ := inR_iff.1 g3
  obtain ⟨d, ed, ld⟩ := inR_iff.1 g4
  have la' := pow12 la (by omega)
  have lb' := pow12 lb (by omega)
  have lo' := pow12 lo (by omega)
  have ld' := pow12 ld (by omega)
  simp only [ea, eb, eo, ed, band_any less.Hazards (show a < 9223372036854775808 by omega), band_any less.Open (show o < 9223372036854775808 by omega), bor_nat (show b < 9223372036854775808 by omega) (show d < 9223372036854775808 by omega)]
  generalize (BitVec.ofInt 64 less.Hazards).toNat = x
  generalize (BitVec.ofInt 64 less.Open).toNat = y
  have r1 : inR ((a &&& x : Nat) : Int) c.Hazards.toNat = true := inR_iff.2 ⟨_, rfl, Nat.lt_of_le_of_lt Nat.and_le_left la⟩
  have r2 : inR ((b ||| d : Nat) : Int) c.Switches.length = true := inR_iff.2 ⟨_, rfl, Nat.or_lt_two_pow lb ld⟩
  have r3 : inR ((o &&& y : Nat) : Int) c.Switches.length = true := inR_iff.2 ⟨_, rfl, Nat.lt_of_le_of_lt Nat.and_le_left lo⟩
  have q1 := Nat.and_le_left (n := a) (m := x)
  have q3 := Nat.and_le_left (n := o) (m := y)
  have q2 : b ||| d < 2 ^ 12 := Nat.or_lt_two_pow (by omega) (by omega)
  have hm : cnd c a b o 0 = true → cnd c ((a &&& x : Nat) : Int) ((b ||| d : Nat) : Int) ((o &&& y : Nat) : Int) 0 = true := cn_mono hc hv (hz := a) (hz' := a &&& x) (cl := b) (cl' := b ||| d) (op := o) (op' := o &&& y) (by omega) (by omega) (by omega) (by omega) (by omega) (by omega) (sub_and _ _) (sub_or_l _ _) (sub_and _ _) 1000 0 (by omega) (by omega)
  rw [r1, r2, r3]
  cases f1 : cnd c a b o 0 with
  | false => simp
  | true => rw [hm f1]; simp

theorem wk_nil {c : Circuit} {cl : Int} (h : (wk c cl).length = 0) {k : Nat} (hk : k < c.Hazards.toNat) : cnd c ((2 ^ k : Nat) : Int) cl 0 0 = false := by
  have := List.eq_nil_of_length_eq_zero h
  unfold wk at this
  rw [List.map_eq_nil_iff, List.filter_eq_nil_iff] at this
  simpa using this k (List.mem_range.2 hk)

theorem crit_nil {c : Circuit} (h : (crit c).length = 0) {i : Nat} (hi : i < c.Switches.length) : (wk c ((2 ^ i : Nat) : Int)).length = 0 := by
  have := List.eq_nil_of_length_eq_zero h
  unfold crit at this
  rw [List.map_eq_nil_iff, List.filter_eq_nil_iff] at this
  have := this i (List.mem_range.2 hi)
  unfold isCrit at this
  simp only [decide_eq_true_eq] at this
  omega

section
variable {c : Circuit} (hc : OkC c) (hv : Valid c) (hk : circuit_Check c = some 0)
include hc hv hk
theorem Critical_val : circuit_Critical c = some (crit c, 0) := by
  unfold circuit_Critical
  simp only [hk, Option.bind_some, critL hc hv, circuit_Critical_j6]; rfl
theorem Pairs_val : circuit_Pairs c = some (pairs c, 0) := by
  unfold circuit_Pairs
  simp only [Critical_val hc hv hk, Option.bind_some, pairsL hc hv, circuit_Pairs_j6]; rfl
theorem Weak_val (cl : Int) : circuit_Weak c cl = some (if inR cl c.Switches.length then (wk c cl, 0) else ([], 1)) := by
  unfold circuit_Weak
  simp only [hk, Option.bind_some, isSetS hc hv, weak_eq hc hv]
  cases inR cl c.Switches.length <;> rfl
end

/-- With no weak hazard alone the machine runs with no hazards. -/
theorem safe {c : Circuit} (hc : OkC c) (hv : Valid c) {hz cl op : Nat} (lh : hz < 2 ^ c.Hazards.toNat) (h0 : hz ≠ 0) (lc : cl < 2 ^ c.Switches.length) (lo : op < 2 ^ c.Switches.length) (hw : (wk c cl).length = 0) : cnd c hz cl op 0 = false := by
  have h1 := hv.hz
  have h2 := hv.sw
  have h3 := hv.wi
  obtain ⟨k, hk, hb⟩ := bit_of_pos h0 lh
  have e := wk_nil hw hk
  have la' := pow12 lh (by omega)
  have lb' := pow12 lc (by omega)
  have lo' := pow12 lo (by omega)
  have hp := Nat.pow_le_pow_right (n := 2) (show 0 < 2 by omega) (show k ≤ 8 by omega)
  have hm := cn_mono hc hv (hz := hz) (hz' := 2 ^ k) (cl := cl) (cl' := cl) (op := op) (op' := 0) (by omega) (by omega) (by omega) (by omega) (by omega) (by omega) (sub_pow hb) (sub_refl _) (sub_zero _) 1000 0 (by omega) (by omega)
  cases f : cnd c hz cl op 0 with
  | false => rfl
  | true =>
    have := hm f
    have e' : cnN 1000 c ((2 ^ k : Nat) : Int) cl 0 0 = false := e
    rw [show ((0 : Nat) : Int) = 0 from rfl, e'] at this; cases this

theorem Single_plain (hw : l03_works = some true) (c : Circuit) (sw : Int) (s : l03_State) (hc : OkC c) (_ : In64 sw) (_ : OkS s) : l03_CircuitSingle c sw s = some true := by
  unfold l03_CircuitSingle
  rcases Far_cases hc with e | ⟨e, hl⟩
  · simp [e, hw]
  rcases Check_cases hc hl with ⟨k1, k2, hv⟩ | ⟨k1, k2⟩
  rotate_left
  · simp [e, k2, hw]
  have h1 := hv.hz
  have h2 := hv.sw
  have h3 := hv.wi
  simp only [e, k2, Option.bind_some, Bool.false_eq_true, if_false, rSw hc hv, rHaz hc hv, Critical_val hc hv k1, hw]
  by_cases g0 : 0 ≤ sw ∧ sw < (c.Switches.length : Int)
  rotate_left
  · have : (decide (sw < 0) || decide ((c.Switches.length : Int) ≤ sw)) = true := by simp only [Bool.or_eq_true, decide_eq_true_eq]; omega
    simp [this]
  have g1 : ¬ sw < 0 := by omega
  have g2 : ¬ (c.Switches.length : Int) ≤ sw := by omega
  simp only [g1, g2, decide_false, Bool.or_false]
  cases g3 : inR s.Hazards c.Hazards.toNat with
  | false => simp
  | true =>
  by_cases g4 : s.Hazards = 0
  · simp [g4]
  cases g5 : inR s.Open c.Switches.length with
  | false => simp
  | true =>
  obtain ⟨a, ea, la⟩ := inR_iff.1 g3
  obtain ⟨o, eo, lo⟩ := inR_iff.1 g5
  obtain ⟨i, ei⟩ : ∃ i : Nat, sw = i := ⟨sw.toNat, by omega⟩
  subst ei
  by_cases g6 : (0 : Int) < ((crit c).length : Int)
  · simp only [g4, g6, decide_true, decide_false, Bool.not_true, Bool.false_eq_true, Bool.or_false, if_false, Option.bind_some, not_true_eq_false, if_true]
  have g7 := crit_nil (c := c) (by omega) (show i < c.Switches.length by omega)
  simp only [g4, g6, decide_false, u64_nat (y := i) (by omega), shl_nat (y := i) (by omega), Option.bind_some, Runs_val hc hv k1, g3, g5]
  have li : 2 ^ i < 2 ^ c.Switches.length := Nat.pow_lt_pow_right (by omega) (by omega)
  have r2 : inR ((2 ^ i : Nat) : Int) c.Switches.length = true := inR_iff.2 ⟨_, rfl, li⟩
  rw [r2, ea, eo, safe hc hv la (by omega) li lo g7]
  simp
end Go.Nw.CM

namespace Go.Nw.CM

theorem has_eq {l : List Int} {n : Int} (hl : l.length ≤ maxLen) : l03_has l n = some (decide (n ∈ l)) := by
  have h := loop_list (f := l03_has_L6 l n) l (fun (_ : Unit) k => k) (fun r _ => if n ∈ r then Sum.inr true else Sum.inl ()) (fun _ _ => True)
    (fun st k x r hd hg hk hm _ => by
      unfold l03_has_L6
      simp only [hk, decide_true, if_true, hg, Option.bind_some]
      by_cases e : x = n
      · refine .inr ?_
        simp [e]
      · refine .inl ⟨(), ?_, trivial, ?_⟩
        · simp only [e, decide_false, Bool.false_eq_true, if_false, wr_len hk hl]
        · have e2 : (n ∈ x :: r) ↔ n ∈ r := by rw [List.mem_cons]; exact ⟨fun h => h.resolve_left fun h => e h.symm, .inr⟩
          simp only [e2])
    (fun st _ => by unfold l03_has_L6; simp) (s := ()) trivial
  unfold l03_has
  rw [h]
  by_cases hv : n ∈ l
  · simp [hv]
  · simp [hv, l03_has_j2]
theorem sameInts_self {l : List Int} (hl : l.length ≤ maxLen) : l03_sameInts l l = some true := by
  have h := loop_list (f := l03_sameInts_L8 l l) l (fun (_ : Unit) k => k) (fun _ _ => Sum.inl ()) (fun _ _ => True)
    (fun st k x r hd hg hk hm _ => by
      unfold l03_sameInts_L8
      simp only [hk, decide_true, if_true, hg, Option.bind_some, not_true_eq_false, decide_false, Bool.false_eq_true, if_false, wr_len hk hl]
      exact .inl ⟨(), by trivial, trivial, by trivial⟩)
    (fun st _ => by unfold l03_sameInts_L8; simp) (s := ()) trivial
  unfold l03_sameInts
  rw [h]
  simp [l03_sameInts_j4]
theorem samePairs_self {l : List (Int × Int)} (hl : l.length ≤ maxLen) : l03_samePairs l l = some true := by
  have h := loop_list (f := l03_samePairs_L8 l l) l (fun (_ : Unit) k => k) (fun _ _ => Sum.inl ()) (fun _ _ => True)
    (fun st k x r hd hg hk hm _ => by
      unfold l03_samePairs_L8
      simp only [hk, decide_true, if_true, hg, Option.bind_some, Bool.and_self, Bool.not_true, Bool.false_eq_true, if_false, wr_len hk hl]
      exact .inl ⟨(), by trivial, trivial, by trivial⟩)
    (fun st _ => by unfold l03_samePairs_L8; simp) (s := ()) trivial
  unfold l03_samePairs
  rw [h]
  simp [l03_samePairs_j4]

theorem wk_pos {c : Circuit} {cl : Int} : (0 < (wk c cl).length) ↔ ∃ k, k < c.Hazards.toNat ∧ cnd c ((2 ^ k : Nat) : Int) cl 0 0 = true := by
  unfold wk
  rw [List.length_map, List.length_pos_iff_exists_mem]
  simp only [List.mem_filter, List.mem_range]
section
variable {c : Circuit} (hc : OkC c) (hv : Valid c)
include hc hv
theorem wk_mono {cl cl' : Nat} (h : Sub cl cl') (l1 : cl < 4096) (l2 : cl' < 4096) (hp : 0 < (wk c cl).length) : 0 < (wk c cl').length := by
  have h1 := hv.hz
  have h2 := hv.sw
  have h3 := hv.wi
  obtain ⟨k, hk, g⟩ := wk_pos.1 hp
  have hp := Nat.pow_le_pow_right (n := 2) (show 0 < 2 by omega) (show k ≤ 8 by omega)
  exact wk_pos.2 ⟨k, hk, cn_mono hc hv (hz := 2 ^ k) (hz' := 2 ^ k) (cl := cl) (cl' := cl') (op := 0) (op' := 0) (by omega) (by omega) (by omega) (by omega) (by omega) (by omega) (sub_refl _) h (sub_refl _) 1000 0 (by omega) (by omega) g⟩
theorem pairs_len : (pairs c).length ≤ 144 := by
  have h2 := hv.sw
  have : ∀ n, ((List.range n).flatMap (pairsAt c)).length ≤ n * c.Switches.length := by
    intro n
    induction n with
    | zero => simp
    | succ n ih =>
      rw [List.range_succ, List.flatMap_append, List.length_append, Nat.succ_mul]
      have := pairsAt_len c n
      simp only [List.flatMap_cons, List.flatMap_nil, List.append_nil]
      omega
  have h := this c.Switches.length
  have : c.Switches.length * c.Switches.length ≤ 12 * 12 := Nat.mul_le_mul (by omega) (by omega)
  unfold pairs
  omega
end
theorem pairL {l : List (Int × Int)} {a b e : Int} (hl : l.length ≤ maxLen) : loopM (l03_CircuitTwo_L13 a b (l, e)) (false, 0) = some (decide ((a, b) ∈ l)) := by
  have h := loop_list (f := l03_CircuitTwo_L13 a b (l, e)) l (fun (s : Bool) k => (s, k)) (fun r s => s || decide ((a, b) ∈ r)) (fun _ _ => True)
    (fun s k x r hd hg hk hm _ => by
      unfold l03_CircuitTwo_L13
      simp only [hk, decide_true, if_true, hg, Option.bind_some, wr_len hk hl]
      refine .inl ⟨s || (decide (x.1 = a) && decide (x.2 = b)), ?_, trivial, ?_⟩
      · cases s <;> simp
      · have : ((a, b) ∈ x :: r) ↔ (x.1 = a ∧ x.2 = b) ∨ (a, b) ∈ r := by
          rw [List.mem_cons]
          obtain ⟨x1, x2⟩ := x
          simp only [Prod.mk.injEq]
          constructor
          · rintro (⟨h1, h2⟩ | h)
            · exact .inl ⟨h1.symm, h2.symm⟩
            · exact .inr h
          · rintro (⟨h1, h2⟩ | h)
            · exact .inl ⟨h1.symm, h2.symm⟩
            · exact .inr h
        simp only [this, Bool.decide_or, Bool.decide_and, Bool.or_assoc])
    (fun s _ => by unfold l03_CircuitTwo_L13; simp) (s := false) trivial
  rw [h]; simp

theorem Two_plain (hw : l03_works = some true) (c : Circuit) (a b : Int) (hc : OkC c) (_ : In64 a) (_ : In64 b) : l03_CircuitTwo c a b = some true := by
  unfold l03_CircuitTwo
  rcases Far_cases hc with e | ⟨e, hl⟩
  · simp [e, hw]
  rcases Check_cases hc hl with ⟨k1, k2, hv⟩ | ⟨k1, k2⟩
  rotate_left
  · simp [e, k2, hw]
  have h1 := hv.hz
  have h2 := hv.sw
  have h3 := hv.wi
  simp only [e, k2, Option.bind_some, Bool.false_eq_true, if_false, hw]
  by_cases g0 : 0 ≤ a ∧ a < b ∧ b < (c.Switches.length : Int)
  rotate_left
  · have : ((decide (a < 0) || decide (b ≤ a)) || decide ((c.Switches.length : Int) ≤ b)) = true := by simp only [Bool.or_eq_true, decide_eq_true_eq]; omega
    simp only [not_true_eq_false, decide_false, Bool.false_or, this, if_true]
  have g1 : ((decide (a < 0) || decide (b ≤ a)) || decide ((c.Switches.length : Int) ≤ b)) = false := by simp only [Bool.or_eq_false_iff, decide_eq_false_iff_not]; omega
  obtain ⟨i, rfl⟩ : ∃ i : Nat, a = i := ⟨a.toNat, by omega⟩
  obtain ⟨k, rfl⟩ : ∃ i : Nat, b = i := ⟨b.toNat, by omega⟩
  have li : 2 ^ i < 2 ^ c.Switches.length := Nat.pow_lt_pow_right (by omega) (by omega)
  have lk : 2 ^ k < 2 ^ c.Switches.length := Nat.pow_lt_pow_right (by omega) (by omega)
  have lor := Nat.or_lt_two_pow li lk
  have r2 : inR ((2 ^ i ||| 2 ^ k : Nat) : Int) c.Switches.length = true := inR_iff.2 ⟨_, rfl, lor⟩
  have l1 := pow12 li (by omega)
  have l2 := pow12 lk (by omega)
  have l3 := pow12 lor (by omega)
  simp only [not_true_eq_false, decide_false, Bool.false_or, g1, Bool.false_eq_true, if_false, u64_nat (y := i) (by omega), shl_nat (y := i) (by omega), u64_nat (y := k) (by omega), shl_nat (y := k) (by omega), Option.bind_some,
    bor_nat (show 2 ^ i < 9223372036854775808 by omega) (show 2 ^ k < 9223372036854775808 by omega), Weak_val hc hv k1, Critical_val hc hv k1, Pairs_val hc hv k1, r2, if_true, Bool.or_self,
    pairL (l := pairs c) (show (pairs c).length ≤ maxLen from Nat.le_trans (pairs_len hc hv) (by decide)), l03_CircuitTwo_j30, has_eq (l := crit c) (crit_len hc hv), hw, mem_crit, mem_pairs]
  have m1 := wk_mono hc hv (sub_or_l (2 ^ i) (2 ^ k)) l1 l3
  have m2 := wk_mono hc hv (sub_or_r (2 ^ i) (2 ^ k)) l2 l3
  have e1 : i < k := by omega
  have e2 : k < c.Switches.length := by omega
  have e3 : i < c.Switches.length := by omega
  simp only [e1, e2, e3, true_and, pq]
  have c1 : isCrit c i = true → 0 < (wk c ((2 ^ i ||| 2 ^ k : Nat) : Int)).length := fun h => m1 (by unfold isCrit at h; simp only [decide_eq_true_eq] at h; omega)
  have c2 : isCrit c k = true → 0 < (wk c ((2 ^ i ||| 2 ^ k : Nat) : Int)).length := fun h => m2 (by unfold isCrit at h; simp only [decide_eq_true_eq] at h; omega)
  have e4 : decide ((0 : Int) < ((wk c ((2 ^ i ||| 2 ^ k : Nat) : Int)).length : Int)) = decide (0 < (wk c ((2 ^ i ||| 2 ^ k : Nat) : Int)).length) := by congr 1; simp only [eq_iff_iff]; omega
  rw [e4]
  by_cases p : 0 < (wk c ((2 ^ i ||| 2 ^ k : Nat) : Int)).length
  · simp only [p, decide_true]
    cases isCrit c i <;> cases isCrit c k <;> rfl
  · have n1 : isCrit c i = false := by cases h : isCrit c i; rfl; exact absurd (c1 h) p
    have n2 : isCrit c k = false := by cases h : isCrit c k; rfl; exact absurd (c2 h) p
    simp only [p, n1, n2, decide_false]; rfl
end Go.Nw.CM

namespace Go.Nw.CM
def onesF : Nat → Nat → Nat
  | 0, _ => 0
  | k + 1, x => x % 2 + onesF k (x / 2)
def ones (x : Nat) : Nat := onesF 12 x
set_option maxRecDepth 100000 in
theorem ones_all : ((List.range 4096).all fun x => math_bits_OnesCount (x : Int) == some ((ones x : Nat) : Int)) = true := by kernel_rfl
theorem onesCount_eq {x : Nat} (h : x < 4096) : math_bits_OnesCount (x : Int) = some ((ones x : Nat) : Int) := by
  have := List.all_eq_true.1 ones_all x (List.mem_range.2 h)
  simpa using this
theorem onesF_le : ∀ (k x : Nat), onesF k x ≤ k
  | 0, _ => Nat.le_refl _
  | k + 1, x => by have := onesF_le k (x / 2); simp only [onesF]; omega
theorem onesL : ∀ (k x n : Nat), k ≤ 12 → x < 2 ^ k → n + k ≤ 100 → loopM r03_Ones_L5 ((x : Int), (n : Int)) = some ((n + onesF k x : Nat) : Int)
  | 0, x, n, _, h, _ => by
    have : x = 0 := by simpa using h
    subst this
    exact loopM_br rfl
  | k + 1, x, n, hk, h, hn => by
    have hp := Nat.pow_le_pow_right (n := 2) (show 0 < 2 by omega) (show k + 1 ≤ 12 by omega)
    by_cases h0 : x = 0
    · subst h0
      have : ∀ k, onesF k 0 = 0 := fun k => by induction k with
        | zero => rfl
        | succ k ih => simp [onesF, ih]
      rw [this]
      exact loopM_br rfl
    · have e : r03_Ones_L5 ((x : Int), (n : Int)) = some (.nx (((x / 2 : Nat) : Int), ((n + x % 2 : Nat) : Int))) := by
        unfold r03_Ones_L5
        have h1 : (0 : Int) < (x : Int) := by omega
        have h2 := shr_nat (a := x) (y := 1) (by omega)
        have h3 := band_nat (a := x) (b := 1) (by omega) (by omega)
        rw [show ((1 : Nat) : Int) = 1 from rfl] at h2 h3
        simp only [h1, decide_true, if_true, shr_ok (show (0 : Int) ≤ 1 by omega), Option.bind_some, h2, h3, Nat.and_one_is_mod, Nat.shiftRight_eq_div_pow, Nat.pow_one]
        rw [wr_id (by omega) (by omega)]; rfl
      rw [loopM_nx e, onesL k (x / 2) (n + x % 2) (by omega) (by rw [Nat.pow_succ] at h; omega) (by omega)]
      simp only [onesF]
      rw [Nat.add_assoc]
theorem Ones_eq {x : Nat} (h : x < 4096) : r03_Ones (x : Int) = some ((ones x : Nat) : Int) := by
  unfold r03_Ones
  have := onesL 12 x 0 (by omega) (by omega) (by omega)
  rw [show ((0 : Nat) : Int) = 0 from rfl] at this
  rw [this]
  simp [r03_Ones_j2, ones]
end Go.Nw.CM

namespace Go.Nw
theorem loop_fold {σ β : Type} {f : (σ × Int) → Option (Out (σ × Int) β)} (n : Nat) (g : Nat → σ → σ) (out : σ → β) (Inv : Nat → σ → Prop)
    (step : ∀ (s : σ) (k : Nat), k < n → Inv k s → f (s, (k : Int)) = some (.nx (g k s, (k : Int) + 1)) ∧ Inv (k + 1) (g k s))
    (fin : ∀ s, Inv n s → f (s, (n : Int)) = some (.br (out s))) (s : σ) (h0 : Inv 0 s) : loopM f (s, 0) = some (out ((List.range n).foldl (fun s k => g k s) s)) ∧ Inv n ((List.range n).foldl (fun s k => g k s) s) := by
  have key : ∀ (d k : Nat) (s : σ), n - k = d → k ≤ n → Inv k s → loopM f (s, (k : Int)) = some (out ((List.range' k d).foldl (fun s k => g k s) s)) ∧ Inv n ((List.range' k d).foldl (fun s k => g k s) s) := by
    intro d
    induction d with
    | zero =>
      intro k s hd hk hi
      have : k = n := by omega
      subst this
      rw [loopM_br (fin s hi)]; exact ⟨rfl, hi⟩
    | succ d ih =>
      intro k s hd hk hi
      obtain ⟨e1, e2⟩ := step s k (by omega) hi
      rw [loopM_nx e1]
      have := ih (k + 1) (g k s) (by omega) (by omega) e2
      rw [show ((k + 1 : Nat) : Int) = (k : Int) + 1 by omega] at this
      rw [List.range'_succ]
      exact this
  have := key n 0 s (by omega) (by omega) h0
  rw [List.range_eq_range']
  exact this
end Go.Nw
namespace Go.Nw.CM
def takes (c : Circuit) (hz : Int) (k : Nat) (best : Int) : Bool := (decide (best < 0) || decide (ones k < ones best.toNat)) && cnd c hz (k : Int) 0 0
def stepL (c : Circuit) (hz : Int) (k : Nat) (best : Int) : Int := if takes c hz k best then (k : Int) else best
def least (c : Circuit) (hz : Int) : Int := (List.range (2 ^ c.Switches.length)).foldl (fun s k => stepL c hz k s) (-1)
def InvL (k : Nat) (best : Int) : Prop := best = -1 ∨ ∃ b : Nat, best = b ∧ b < k
theorem stepL_inv {c : Circuit} {hz : Int} {k : Nat} {best : Int} (h : InvL k best) : InvL (k + 1) (stepL c hz k best) := by
  unfold stepL
  split
  · exact .inr ⟨k, rfl, by omega⟩
  · rcases h with h | ⟨b, h1, h2⟩
    · exact .inl h
    · exact .inr ⟨b, h1, by omega⟩

section
variable {c : Circuit} (hc : OkC c) (hv : Valid c) {h : Nat} (hh : h < c.Hazards.toNat)
include hc hv hh
theorem leastL : loopM (circuit_Least_L14 c (h : Int) ((2 ^ c.Switches.length : Nat) : Int)) (-1, 0) = some (least c ((2 ^ h : Nat) : Int)) ∧ InvL (2 ^ c.Switches.length) (least c ((2 ^ h : Nat) : Int)) := by
  have h1 := hv.hz
  have h2 := hv.sw
  have h3 := hv.wi
  have hp := Nat.pow_le_pow_right (n := 2) (show 0 < 2 by omega) (show c.Switches.length ≤ 12 by omega)
  refine loop_fold (f := circuit_Least_L14 c (h : Int) ((2 ^ c.Switches.length : Nat) : Int)) (2 ^ c.Switches.length) (stepL c ((2 ^ h : Nat) : Int)) (fun s => s) InvL (fun best k hk hi => ⟨?_, stepL_inv hi⟩) (fun best _ => by
    unfold circuit_Least_L14
    simp only [Int.lt_irrefl, decide_false, Bool.false_eq_true, if_false]) (-1) (.inl rfl)
  unfold circuit_Least_L14
  have e1 : (k : Int) < ((2 ^ c.Switches.length : Nat) : Int) := by omega
  simp only [e1, decide_true, if_true, u64_nat (y := k) (by omega), onesCount_eq (x := k) (by omega), shl_nat (y := h) (by omega), Option.bind_some, wire_cnd hc hv _ (k : Int) 0 0 (by omega) (by omega), circuit_Least_j18]
  rw [wr_k hk (by omega)]
  rcases hi with rfl | ⟨b, rfl, hb⟩
  · have e2 : ¬ (0 : Int) ≤ -1 := by omega
    simp only [e2, decide_false, Bool.false_eq_true, if_false, Option.bind_some, stepL, takes]
    have e3 : (-1 : Int) < 0 := by omega
    simp only [e3, decide_true, Bool.true_or, Bool.true_and]
    cases cnd c ((2 ^ h : Nat) : Int) (k : Int) 0 0 <;> rfl
  · have e2 : (0 : Int) ≤ (b : Int) := by omega
    have e3 : ¬ (b : Int) < 0 := by omega
    simp only [e2, decide_true, if_true, u64_nat (y := b) (by omega), onesCount_eq (x := b) (by omega), Option.bind_some, stepL, takes, e3, decide_false, Bool.false_or, Int.toNat_natCast]
    have e4 : decide (((ones b : Nat) : Int) ≤ ((ones k : Nat) : Int)) = !decide (ones k < ones b) := by
      by_cases g : ones k < ones b
      · have : ¬ ((ones b : Nat) : Int) ≤ ((ones k : Nat) : Int) := by omega
        simp only [g, this, decide_true, decide_false, Bool.not_true]
      · have : ((ones b : Nat) : Int) ≤ ((ones k : Nat) : Int) := by omega
        simp only [g, this, decide_true, decide_false, Bool.not_false]
    rw [e4]
    cases decide (ones k < ones b) <;> cases cnd c ((2 ^ h : Nat) : Int) (k : Int) 0 0 <;> rfl
theorem rleastL : loopM (r03_Least_L11 c (h : Int)) (-1, 0) = some (least c ((2 ^ h : Nat) : Int)) := by
  have h1 := hv.hz
  have h2 := hv.sw
  have h3 := hv.wi
  have hp := Nat.pow_le_pow_right (n := 2) (show 0 < 2 by omega) (show c.Switches.length ≤ 12 by omega)
  refine (loop_fold (f := r03_Least_L11 c (h : Int)) (2 ^ c.Switches.length) (stepL c ((2 ^ h : Nat) : Int)) (fun s => s) InvL (fun best k hk hi => ⟨?_, stepL_inv hi⟩) (fun best _ => by
    unfold r03_Least_L11
    simp only [u64_nat (y := c.Switches.length) (by omega), shl_nat (y := c.Switches.length) (by omega), Option.bind_some, Int.lt_irrefl, decide_false, Bool.false_eq_true, if_false]) (-1) (.inl rfl)).1
  unfold r03_Least_L11
  have e1 : (k : Int) < ((2 ^ c.Switches.length : Nat) : Int) := by omega
  simp only [u64_nat (y := c.Switches.length) (by omega), shl_nat (y := c.Switches.length) (by omega), Option.bind_some, e1, decide_true, if_true, Ones_eq (x := k) (by omega), u64_nat (y := h) (by omega), shl_nat (y := h) (by omega), ref_cnd hc hv 0 _ _ _ , r03_Least_j17]
  rw [wr_k hk (by omega)]
  rcases hi with rfl | ⟨b, rfl, hb⟩
  · have e2 : (-1 : Int) < 0 := by omega
    simp only [e2, decide_true, if_true, Option.bind_some, stepL, takes, Bool.true_or, Bool.true_and, ref_cnd hc hv _ (k : Int) 0 0 (by omega) (by omega)]
    cases cnd c ((2 ^ h : Nat) : Int) (k : Int) 0 0 <;> rfl
  · have e3 : ¬ (b : Int) < 0 := by omega
    simp only [Ones_eq (x := b) (by omega), Option.bind_some, stepL, takes, e3, decide_false, Bool.false_or, Int.toNat_natCast, ref_cnd hc hv _ (k : Int) 0 0 (by omega) (by omega), Bool.false_eq_true, if_false]
    have e4 : decide (((ones k : Nat) : Int) < ((ones b : Nat) : Int)) = decide (ones k < ones b) := by
      by_cases g : ones k < ones b
      · have : ((ones k : Nat) : Int) < ((ones b : Nat) : Int) := by omega
        simp only [g, this]
      · have : ¬ ((ones k : Nat) : Int) < ((ones b : Nat) : Int) := by omega
        simp only [g, this]
    rw [e4]
    cases decide (ones k < ones b) <;> cases cnd c ((2 ^ h : Nat) : Int) (k : Int) 0 0 <;> rfl
omit hc hv hh in
theorem least_spec (hz : Int) (n : Nat) (s : Int) (hs : s = (List.range n).foldl (fun s k => stepL c hz k s) (-1)) : (s = -1 ∧ ∀ j : Nat, j < n → cnd c hz (j : Int) 0 0 = false) ∨
    ∃ b : Nat, s = b ∧ b < n ∧ cnd c hz (b : Int) 0 0 = true ∧ ∀ j : Nat, j < n → cnd c hz (j : Int) 0 0 = true → ones b ≤ ones j := by
  induction n generalizing s with
  | zero => exact .inl ⟨by rw [hs]; rfl, fun j h => by omega⟩
  | succ n ih =>
    rw [List.range_succ, List.foldl_append] at hs
    simp only [List.foldl_cons, List.foldl_nil] at hs
    have ih' := ih _ rfl
    generalize (List.range n).foldl (fun s k => stepL c hz k s) (-1) = t at *
    subst hs
    unfold stepL takes
    rcases ih' with ⟨rfl, g⟩ | ⟨b, rfl, g1, g2, g3⟩
    · have e : (-1 : Int) < 0 := by omega
      simp only [e, decide_true, Bool.true_or, Bool.true_and]
      cases hx : cnd c hz (n : Int) 0 0 with
      | false =>
        refine .inl ⟨rfl, fun j hj => ?_⟩
        by_cases ej : j = n
        · rw [ej]; exact hx
        · exact g j (by omega)
      | true =>
        refine .inr ⟨n, rfl, by omega, hx, fun j hj hj2 => ?_⟩
        by_cases ej : j = n
        · rw [ej]; exact Nat.le_refl _
        · rw [g j (by omega)] at hj2; cases hj2
    · have e : ¬ (b : Int) < 0 := by omega
      simp only [e, decide_false, Bool.false_or, Int.toNat_natCast]
      by_cases o : ones n < ones b
      · simp only [o, decide_true, Bool.true_and]
        cases hx : cnd c hz (n : Int) 0 0 with
        | false =>
          refine .inr ⟨b, rfl, by omega, g2, fun j hj hj2 => ?_⟩
          by_cases ej : j = n
          · rw [ej, hx] at hj2; cases hj2
          · exact g3 j (by omega) hj2
        | true =>
          refine .inr ⟨n, rfl, by omega, hx, fun j hj hj2 => ?_⟩
          by_cases ej : j = n
          · rw [ej]; exact Nat.le_refl _
          · have := g3 j (by omega) hj2; omega
      · simp only [o, decide_false, Bool.false_and]
        refine .inr ⟨b, rfl, by omega, g2, fun j hj hj2 => ?_⟩
        by_cases ej : j = n
        · rw [ej]; omega
        · exact g3 j (by omega) hj2
end
end Go.Nw.CM

namespace Go.Nw.CM

theorem wk_len {c : Circuit} (hv : Valid c) (cl : Int) : (wk c cl).length ≤ maxLen := by
  have := hv.hz
  unfold wk
  rw [List.length_map]
  refine Nat.le_trans (List.length_filter_le _ _) ?_
  simp only [List.length_range, maxLen]; omega
theorem nil_len {α : Type} : ([] : List α).length ≤ maxLen := Nat.zero_le _

section
variable {c : Circuit} (hc : OkC c) (hv : Valid c) (hk : circuit_Check c = some 0) (hr : r03_Check c = some 0)
include hc hv hr
theorem rWeak_val (cl : Int) : r03_Weak c cl = some (if inR cl c.Switches.length then (wk c cl, 0) else ([], 1)) := by
  unfold r03_Weak
  simp only [hr, Option.bind_some, rSw hc hv, rweak_eq hc hv]
  cases inR cl c.Switches.length <;> rfl
theorem rCritical_val : r03_Critical c = some (crit c, 0) := by
  unfold r03_Critical
  simp only [hr, Option.bind_some, rcritL hc hv, r03_Critical_j6]; rfl
theorem rPairs_val : r03_Pairs c = some (pairs c, 0) := by
  unfold r03_Pairs
  simp only [hr, Option.bind_some, rpairsL hc hv, r03_Pairs_j6]; rfl
def leastV (c : Circuit) (h : Int) : Int × Int := if inRange : 0 ≤ h ∧ h < c.Hazards then (if least c ((2 ^ h.toNat : Nat) : Int) < 0 then (0, 3) else (least c ((2 ^ h.toNat : Nat) : Int), 0)) else (0, 1)
theorem rLeast_val (h : Int) : r03_Least c h = some (leastV c h) := by
  have h1 := hv.hz
  unfold r03_Least leastV
  simp only [hr, Option.bind_some, not_true_eq_false, decide_false, Bool.false_eq_true, if_false]
  rw [wr_id (n := c.Hazards - 1) (by omega) (by omega)]
  by_cases g : 0 ≤ h ∧ h < c.Hazards
  · have e : r03_within h 0 (c.Hazards - 1) = true := by simp only [r03_within, Bool.and_eq_true, decide_eq_true_eq]; omega
    obtain ⟨k, rfl⟩ : ∃ k : Nat, h = k := ⟨h.toNat, by omega⟩
    simp only [e, g, Bool.not_true, Bool.false_eq_true, if_false, and_self, if_true, dif_pos, rleastL hc hv (h := k) (by omega), Option.bind_some, r03_Least_j8, Int.toNat_natCast]
    by_cases gl : least c ((2 ^ k : Nat) : Int) < 0 <;> simp only [gl, decide_true, decide_false, if_true, if_false, Bool.false_eq_true]
  · have e : r03_within h 0 (c.Hazards - 1) = false := by simp only [r03_within, Bool.and_eq_false_iff, decide_eq_false_iff_not]; omega
    simp only [e, g, Bool.not_false, if_true, dif_neg, not_false_eq_true]
omit hr
include hk
theorem Least_val (h : Int) : circuit_Least c h = some (leastV c h) := by
  have h1 := hv.hz
  have h2 := hv.sw
  unfold circuit_Least leastV
  simp only [hk, Option.bind_some, not_true_eq_false, decide_false, Bool.false_eq_true, if_false]
  by_cases g : 0 ≤ h ∧ h < c.Hazards
  · have e : (decide (h < 0) || decide (c.Hazards ≤ h)) = false := by simp only [Bool.or_eq_false_iff, decide_eq_false_iff_not]; omega
    obtain ⟨k, rfl⟩ : ∃ k : Nat, h = k := ⟨h.toNat, by omega⟩
    simp only [e, g, Bool.false_eq_true, if_false, and_self, if_true, dif_pos, shl_nat (y := c.Switches.length) (by omega), Option.bind_some, (leastL hc hv (h := k) (by omega)).1, circuit_Least_j11, Int.toNat_natCast]
    by_cases gl : least c ((2 ^ k : Nat) : Int) < 0 <;> simp only [gl, decide_true, decide_false, if_true, if_false, Bool.false_eq_true]
  · have e : (decide (h < 0) || decide (c.Hazards ≤ h)) = true := by simp only [Bool.or_eq_true, decide_eq_true_eq]; omega
    simp only [e, g, if_true, dif_neg, not_false_eq_true]
end

theorem Dangers_plain (hw : l03_works = some true) (c : Circuit) (closed hazard : Int) (hc : OkC c) (_ : In64 closed) (_ : In64 hazard) : l03_CircuitDangers c closed hazard = some true := by
  unfold l03_CircuitDangers
  rcases Far_cases hc with e | ⟨e, hl⟩
  · simp [e, hw]
  rcases Check_cases hc hl with ⟨k1, k2, hv⟩ | ⟨k1, k2⟩
  · simp only [e, Option.bind_some, Bool.false_eq_true, if_false, Weak_val hc hv k1, rWeak_val hc hv k2, Critical_val hc hv k1, rCritical_val hc hv k2, Pairs_val hc hv k1, rPairs_val hc hv k2, Least_val hc hv k1, rLeast_val hc hv k2, hw,
      sameInts_self (crit_len hc hv), samePairs_self (l := pairs c) (Nat.le_trans (pairs_len hc hv) (by decide))]
    cases inR closed c.Switches.length with
    | true => simp [sameInts_self (wk_len hv closed)]
    | false => simp [sameInts_self (nil_len (α := Int))]
  · have a1 : circuit_Weak c closed = some ([], 30) := by unfold circuit_Weak; simp [k1]
    have a2 : r03_Weak c closed = some ([], 30) := by unfold r03_Weak; simp [k2]
    have a3 : circuit_Critical c = some ([], 30) := by unfold circuit_Critical; simp [k1]
    have a4 : r03_Critical c = some ([], 30) := by unfold r03_Critical; simp [k2]
    have a5 : circuit_Pairs c = some ([], 30) := by unfold circuit_Pairs; simp [a3]
    have a6 : r03_Pairs c = some ([], 30) := by unfold r03_Pairs; simp [k2]
    have a7 : circuit_Least c hazard = some (0, 30) := by unfold circuit_Least; simp [k1]
    have a8 : r03_Least c hazard = some (0, 30) := by unfold r03_Least; simp [k2]
    simp [e, a1, a2, a3, a4, a5, a6, a7, a8, sameInts_self (nil_len (α := Int)), samePairs_self (nil_len (α := Int × Int)), hw]

theorem Least_plain (hw : l03_works = some true) (c : Circuit) (hazard set : Int) (hc : OkC c) (_ : In64 hazard) (_ : In64 set) : l03_CircuitLeast c hazard set = some true := by
  unfold l03_CircuitLeast
  rcases Far_cases hc with e | ⟨e, hl⟩
  · simp [e, hw]
  rcases Check_cases hc hl with ⟨k1, k2, hv⟩ | ⟨k1, k2⟩
  rotate_left
  · simp [e, k2, hw]
  have h1 := hv.hz
  have h2 := hv.sw
  have h3 := hv.wi
  by_cases g0 : 0 ≤ hazard ∧ hazard < c.Hazards
  rotate_left
  · have : ((false || decide (hazard < 0)) || decide (c.Hazards ≤ hazard)) = true := by simp only [Bool.or_eq_true, decide_eq_true_eq]; omega
    simp only [e, k2, Option.bind_some, Bool.false_eq_true, if_false, not_true_eq_false, decide_false, this, if_true, hw]
  have g1 : ((false || decide (hazard < 0)) || decide (c.Hazards ≤ hazard)) = false := by simp only [Bool.false_or, Bool.or_eq_false_iff, decide_eq_false_iff_not]; omega
  obtain ⟨k, rfl⟩ : ∃ k : Nat, hazard = k := ⟨hazard.toNat, by omega⟩
  have lk : 2 ^ k < 2 ^ c.Hazards.toNat := Nat.pow_lt_pow_right (by omega) (by omega)
  have r1 : inR ((2 ^ k : Nat) : Int) c.Hazards.toNat = true := inR_iff.2 ⟨_, rfl, lk⟩
  have hp := Nat.pow_le_pow_right (n := 2) (show 0 < 2 by omega) (show c.Switches.length ≤ 12 by omega)
  have hp0 : 0 < 2 ^ c.Switches.length := Nat.pow_pos (by omega)
  have r0 : inR (0 : Int) c.Switches.length = true := inR_iff.2 ⟨0, rfl, hp0⟩
  simp only [e, k2, Option.bind_some, Bool.false_eq_true, if_false, not_true_eq_false, decide_false, g1, Least_val hc hv k1, leastV, g0, and_self, dif_pos, Int.toNat_natCast,
    u64_nat (y := k) (by omega), shl_nat (y := k) (by omega), u64_nat (y := c.Switches.length) (by omega), shl_nat (y := c.Switches.length) (by omega), Runs_val hc hv k1, r1, r0, hw]
  rcases least_spec (c := c) ((2 ^ k : Nat) : Int) (2 ^ c.Switches.length) (least c ((2 ^ k : Nat) : Int)) rfl with ⟨hb, g⟩ | ⟨b, hb, g2, g3, g4⟩
  · have e1 : (-1 : Int) < 0 := by omega
    have e2 : wr (((2 ^ c.Switches.length : Nat) : Int) - 1) = ((2 ^ c.Switches.length - 1 : Nat) : Int) := by rw [wr_id (by omega) (by omega)]; omega
    have r2 : inR ((2 ^ c.Switches.length - 1 : Nat) : Int) c.Switches.length = true := inR_iff.2 ⟨_, rfl, by omega⟩
    have := g (2 ^ c.Switches.length - 1) (by omega)
    simp only [hb, e1, if_true, e2, r2, this]
    rfl
  · have e1 : ¬ (b : Int) < 0 := by omega
    have r2 : inR (b : Int) c.Switches.length = true := inR_iff.2 ⟨_, rfl, g2⟩
    simp only [hb, e1, if_false, r2, g3]
    cases r3 : inR set c.Switches.length with
    | false => rfl
    | true =>
      obtain ⟨m, rfl, lm⟩ := inR_iff.1 r3
      have := g4 m lm
      cases f : cnd c ((2 ^ k : Nat) : Int) (m : Int) 0 0 with
      | false => rfl
      | true =>
        have := this f
        have e3 : ((ones b : Nat) : Int) ≤ ((ones m : Nat) : Int) := by omega
        simp only [Ones_eq (x := m) (by omega), Ones_eq (x := b) (by omega), Option.bind_some, e3]
        rfl
end Go.Nw.CM

namespace Go.Nw
theorem loop_some {τ β : Type} {f : τ → Option (Out τ β)} (n : Nat) (mk : Int → τ) (q : Nat → Option β) (miss : β)
    (step : ∀ k : Nat, k < n → f (mk k) = match q k with | some b => some (.br b) | none => some (.nx (mk ((k : Int) + 1))))
    (fin : f (mk n) = some (.br miss)) : loopM f (mk 0) = some (((List.range n).findSome? q).getD miss) := by
  have key : ∀ (d k : Nat), n - k = d → k ≤ n → loopM f (mk k) = some (((List.range' k d).findSome? q).getD miss) := by
    intro d
    induction d with
    | zero =>
      intro k hd hk
      have : k = n := by omega
      subst this
      rw [loopM_br fin]; rfl
    | succ d ih =>
      intro k hd hk
      have e := step k (by omega)
      rw [List.range'_succ, List.findSome?_cons]
      cases hq : q k with
      | some b => rw [hq] at e; rw [loopM_br e]; rfl
      | none =>
        rw [hq] at e
        rw [loopM_nx e]
        have := ih (k + 1) (by omega) (by omega)
        rw [show ((k + 1 : Nat) : Int) = (k : Int) + 1 by omega] at this
        exact this
  have := key n 0 (by omega) (by omega)
  rw [List.range_eq_range']
  exact this
end Go.Nw
namespace Go.Nw.CM
def okTrial (c : Circuit) (t : Trial) : Bool := inR t.Hazards c.Hazards.toNat && decide (0 ≤ t.Wire) && decide (t.Wire < (c.Wires.length : Int))
def chk (c : Circuit) (l : List Trial) : Int := if (12 : Int) < (l.length : Int) then 2 else if l.all (okTrial c) then 0 else 31
section
variable {c : Circuit} (hc : OkC c) (hv : Valid c) (hk : circuit_Check c = some 0) (hr : r03_Check c = some 0) {l : List Trial} (hl : OkTrials l)
include hc hv hl
include hk in
theorem check_val : circuit_check c l = some (chk c l) := by
  have h1 := hv.hz
  have h3 := hv.wi
  unfold circuit_check chk
  simp only [hk, Option.bind_some, not_true_eq_false, decide_false, Bool.false_eq_true, if_false]
  by_cases g : (12 : Int) < (l.length : Int)
  · simp only [g, decide_true, if_true]
  · simp only [g, decide_false, Bool.false_eq_true, if_false]
    have h := loop_list (f := circuit_check_L12 c l) l (fun (_ : Unit) k => k) (fun r _ => if r.all (okTrial c) then Sum.inl () else Sum.inr (31 : Int)) (fun _ _ => True)
      (fun st k x r hd hg hk hm _ => by
        unfold circuit_check_L12
        simp only [hk, decide_true, if_true, hg, Option.bind_some, isSetH hc hv, wr_len hk hl.1]
        have e : ((!(inR x.Hazards c.Hazards.toNat) || decide (x.Wire < 0)) || decide ((c.Wires.length : Int) ≤ x.Wire)) = !okTrial c x := by
          unfold okTrial
          by_cases a : 0 ≤ x.Wire <;> by_cases b : x.Wire < (c.Wires.length : Int)
          all_goals
            have a' : decide (x.Wire < 0) = !decide (0 ≤ x.Wire) := by by_cases z : 0 ≤ x.Wire <;> simp [z] <;> omega
            have b' : decide ((c.Wires.length : Int) ≤ x.Wire) = !decide (x.Wire < (c.Wires.length : Int)) := by by_cases z : x.Wire < (c.Wires.length : Int) <;> simp [z] <;> omega
            rw [a', b']; simp only [a, b]; cases inR x.Hazards c.Hazards.toNat <;> rfl
        rw [e, List.all_cons]
        cases okTrial c x with
        | true => exact .inl ⟨(), rfl, trivial, rfl⟩
        | false => exact .inr rfl)
      (fun st _ => by unfold circuit_check_L12; simp) (s := ()) trivial
    rw [h]
    cases l.all (okTrial c) <;> rfl
include hr in
theorem CheckTrials_val : r03_CheckTrials c l = some (chk c l) := by
  have h1 := hv.hz
  have h3 := hv.wi
  unfold r03_CheckTrials chk
  simp only [hr, Option.bind_some, not_true_eq_false, decide_false, Bool.false_eq_true, if_false]
  by_cases g : (12 : Int) < (l.length : Int)
  · simp only [g, decide_true, if_true]
  · simp only [g, decide_false, Bool.false_eq_true, if_false]
    have h := loop_list (f := r03_CheckTrials_L10 c l) l (fun (_ : Unit) k => k) (fun r _ => if r.all (okTrial c) then Sum.inl () else Sum.inr (31 : Int)) (fun _ _ => True)
      (fun st k x r hd hg hk hm _ => by
        unfold r03_CheckTrials_L10
        simp only [hk, decide_true, if_true, hg, Option.bind_some, rHaz hc hv, wr_len hk hl.1]
        rw [wr_id (n := (c.Wires.length : Int) - 1) (by omega) (by omega)]
        have e : (!(inR x.Hazards c.Hazards.toNat) || !(r03_within x.Wire 0 ((c.Wires.length : Int) - 1))) = !okTrial c x := by
          unfold okTrial r03_within
          have a' : decide (x.Wire ≤ (c.Wires.length : Int) - 1) = decide (x.Wire < (c.Wires.length : Int)) := by congr 1; simp only [eq_iff_iff]; omega
          rw [a', Bool.and_assoc]
          cases inR x.Hazards c.Hazards.toNat <;> simp
        rw [e, List.all_cons]
        cases okTrial c x with
        | true => exact .inl ⟨(), rfl, trivial, rfl⟩
        | false => exact .inr rfl)
      (fun st _ => by unfold r03_CheckTrials_L10; simp) (s := ()) trivial
    rw [h]
    cases l.all (okTrial c) <;> rfl
end
theorem chk_zero {c : Circuit} {l : List Trial} (h : chk c l = 0) : l.length ≤ 12 ∧ ∀ t ∈ l, okTrial c t = true := by
  unfold chk at h
  split at h
  · cases h
  · split at h
    · rename_i h1 h2
      exact ⟨by omega, List.all_eq_true.1 h2⟩
    · cases h

/- what a trial shows -/
def tells (c : Circuit) (t : Trial) (cl : Int) : Bool := cnd c t.Hazards cl 0 t.Wire && !cnd c t.Hazards 0 0 t.Wire
def shownN (c : Circuit) (t : Trial) : Nat → Nat
  | 0 => 0
  | k + 1 => if tells c t ((2 ^ k : Nat) : Int) then shownN c t k ||| 2 ^ k else shownN c t k
def shI (c : Circuit) (t : Trial) : Int := (shownN c t c.Switches.length : Nat)
theorem shownN_lt (c : Circuit) (t : Trial) : ∀ k, shownN c t k < 2 ^ k
  | 0 => by simp [shownN]
  | k + 1 => by
    have := shownN_lt c t k
    have h2 : 2 ^ k < 2 ^ (k + 1) := Nat.pow_lt_pow_right (by omega) (by omega)
    simp only [shownN]
    split
    · exact Nat.or_lt_two_pow (by omega) h2
    · omega
section
variable {c : Circuit} (hc : OkC c) (hv : Valid c)
include hc hv
theorem shows_val {t : Trial} (ht : okTrial c t = true) (cl : Int) : circuit_shows c t cl = some (tells c t cl) := by
  simp only [okTrial, Bool.and_eq_true, decide_eq_true_eq] at ht
  unfold circuit_shows tells
  simp only [wire_cnd hc hv _ _ _ _ ht.1.2 ht.2, Option.bind_some]
  cases cnd c t.Hazards cl 0 t.Wire <;> rfl
theorem Tells_val {t : Trial} (ht : okTrial c t = true) (cl : Int) : r03_Tells c t cl = some (tells c t cl) := by
  simp only [okTrial, Bool.and_eq_true, decide_eq_true_eq] at ht
  unfold r03_Tells tells
  simp only [ref_cnd hc hv _ _ _ _ ht.1.2 ht.2, Option.bind_some]
  cases cnd c t.Hazards cl 0 t.Wire <;> rfl
theorem shown_val {t : Trial} (ht : okTrial c t = true) : circuit_shown c t = some (shI c t) := by
  have h2 := hv.sw
  obtain ⟨b, e, rfl⟩ := loop_inv (f := circuit_shown_L7 c t) c.Switches.length (fun s k => (s, k)) (fun k s => s = ((shownN c t k : Nat) : Int)) (fun b => b = shI c t) (fun s k hk hi => by
      subst hi
      have e1 : (k : Int) < (c.Switches.length : Int) := by omega
      have := shownN_lt c t k
      have hp := Nat.pow_le_pow_right (n := 2) (show 0 < 2 by omega) (show k ≤ 12 by omega)
      refine .inl ⟨_, ?_, rfl⟩
      unfold circuit_shown_L7
      simp only [e1, decide_true, if_true, shl_nat (y := k) (by omega), Option.bind_some, shows_val hc hv ht, circuit_shown_j7, wr_k hk (show c.Switches.length < 4611686018427387904 by omega), shownN]
      rw [bor_nat (by omega) (by omega)]
      cases tells c t ((2 ^ k : Nat) : Int) <;> rfl)
    (fun s hi => ⟨s, by unfold circuit_shown_L7; simp, hi⟩) (s := 0) 0 (Nat.zero_le _) rfl
  unfold circuit_shown
  rw [show ((0 : Nat) : Int) = 0 from rfl] at e
  rw [e]; rfl
theorem rshown_val {t : Trial} (ht : okTrial c t = true) : r03_shown c t = some (shI c t) := by
  have h2 := hv.sw
  obtain ⟨b, e, rfl⟩ := loop_inv (f := r03_shown_L7 c t) c.Switches.length (fun s k => (s, k)) (fun k s => s = ((shownN c t k : Nat) : Int)) (fun b => b = shI c t) (fun s k hk hi => by
      subst hi
      have e1 : (k : Int) < (c.Switches.length : Int) := by omega
      have := shownN_lt c t k
      have hp := Nat.pow_le_pow_right (n := 2) (show 0 < 2 by omega) (show k ≤ 12 by omega)
      refine .inl ⟨_, ?_, rfl⟩
      unfold r03_shown_L7
      simp only [e1, decide_true, if_true, u64_nat (y := k) (by omega), shl_nat (y := k) (by omega), Option.bind_some, Tells_val hc hv ht, r03_shown_j7, wr_k hk (show c.Switches.length < 4611686018427387904 by omega), shownN]
      rw [bor_nat (by omega) (by omega)]
      cases tells c t ((2 ^ k : Nat) : Int) <;> rfl)
    (fun s hi => ⟨s, by unfold r03_shown_L7; simp, hi⟩) (s := 0) 0 (Nat.zero_le _) rfl
  unfold r03_shown
  rw [show ((0 : Nat) : Int) = 0 from rfl] at e
  rw [e]; rfl
end
end Go.Nw.CM

namespace Go.Nw.CM
def eachI (c : Circuit) (l : List Trial) : List Int := l.map (shI c)
theorem shI_nat (c : Circuit) (t : Trial) (h : c.Switches.length ≤ 12) : ∃ m : Nat, shI c t = m ∧ m < 4096 :=
  ⟨_, rfl, pow12 (shownN_lt c t _) h⟩
def Sets (d : List Int) : Prop := ∀ x ∈ d, ∃ m : Nat, x = m ∧ m < 4096
theorem nth_sets {d : List Int} (h : Sets d) {i : Int} (h0 : 0 ≤ i) (h1 : i < d.length) : ∃ m : Nat, nth d i = m ∧ m < 4096 := h _ (nth_toNat h0 h1)
theorem sets_set {d : List Int} (h : Sets d) {i m : Nat} (hm : m < 4096) : Sets (d.set i (m : Int)) := fun x hx => by
  rcases List.mem_or_eq_of_mem_set hx with h1 | rfl
  · exact h x h1
  · exact ⟨m, rfl, hm⟩
theorem sets_each {c : Circuit} {l : List Trial} (h : c.Switches.length ≤ 12) : Sets (eachI c l) := fun x hx => by
  obtain ⟨t, _, rfl⟩ := List.mem_map.1 hx
  exact shI_nat c t h
theorem or_lt {a b : Nat} (ha : a < 4096) (hb : b < 4096) : a ||| b < 4096 := Nat.or_lt_two_pow (n := 12) (by omega) (by omega)

section
variable {c : Circuit} (hc : OkC c) (hv : Valid c) {l : List Trial} (hl : l.length ≤ 12) (ht : ∀ t ∈ l, okTrial c t = true)
include hc hv hl ht
theorem all_val : ∃ w, circuit_all c l = some (eachI c l, w) := by
  have h2 := hv.sw
  have h := loop_list (f := circuit_all_L8 c l) l (fun (s : List Int × Int) k => (s.1, s.2, k)) (fun r s => (s.1 ++ r.map (shI c), r.foldl (fun w t => bor w (shI c t)) s.2)) (fun k s => s.1.length = k)
    (fun st k x r hd hg hk hm hi => by
      obtain ⟨s1, s2⟩ := st
      simp only at hi
      unfold circuit_all_L8
      simp only [hk, decide_true, if_true, hg, Option.bind_some, shown_val hc hv (ht x hm), wr_len hk (show l.length ≤ maxLen from Nat.le_trans hl (by decide))]
      rw [ap_ok (by simp only [List.length_cons, List.length_nil]; omega)]
      refine .inl ⟨(s1 ++ [shI c x], bor s2 (shI c x)), rfl, by simp [hi], by simp⟩)
    (fun st _ => by unfold circuit_all_L8; simp) (s := ([], 0)) rfl
  unfold circuit_all
  rw [h]
  exact ⟨_, by simp [circuit_all_j2, eachI]; rfl⟩
theorem every_val : r03_every c l = some (eachI c l) := by
  have h2 := hv.sw
  have h := loop_list (f := r03_every_L6 c l) l (fun (s : List Int) k => (s, k)) (fun r s => s ++ r.map (shI c)) (fun k s => s.length = k)
    (fun st k x r hd hg hk hm hi => by
      unfold r03_every_L6
      simp only [hk, decide_true, if_true, hg, Option.bind_some, rshown_val hc hv (ht x hm), wr_len hk (show l.length ≤ maxLen from Nat.le_trans hl (by decide))]
      rw [ap_ok (by simp only [List.length_cons, List.length_nil]; omega)]
      refine .inl ⟨st ++ [shI c x], rfl, by simp [hi], by simp⟩)
    (fun st _ => by unfold r03_every_L6; simp) (s := []) rfl
  unfold r03_every
  rw [h]; rfl
end

/- the rota is valid -/
def okRota (l : List Trial) (r : Rota) : Bool := decide (1 ≤ r.Nights.length) && decide (r.Nights.length ≤ 60) && decide (1 ≤ r.Gap) && decide (r.Gap ≤ 60) && r.Nights.all fun n => asc (l.length : Int) n 0
structure VRota (l : List Trial) (r : Rota) : Prop where
  n1 : 1 ≤ r.Nights.length
  n2 : r.Nights.length ≤ 60
  g1 : 1 ≤ r.Gap
  g2 : r.Gap ≤ 60
  a : ∀ n ∈ r.Nights, asc (l.length : Int) n 0 = true
theorem okRota_iff {l : List Trial} {r : Rota} : okRota l r = true ↔ VRota l r := by
  unfold okRota
  simp only [Bool.and_eq_true, decide_eq_true_eq, List.all_eq_true]
  exact ⟨fun ⟨⟨⟨⟨h1, h2⟩, h3⟩, h4⟩, h5⟩ => ⟨h1, h2, h3, h4, h5⟩, fun ⟨h1, h2, h3, h4, h5⟩ => ⟨⟨⟨⟨h1, h2⟩, h3⟩, h4⟩, h5⟩⟩
section
variable {l : List Trial} (hl : l.length ≤ 12) {r : Rota} (hr : OkRota r)
include hl hr
theorem ascL12 : loopM (circuit_checkRota_L12 l r) 0 = some (if r.Nights.all (fun n => asc (l.length : Int) n 0) then .inl () else .inr 32) := by
  exact loop_list (f := circuit_checkRota_L12 l r) r.Nights (fun (_ : Unit) k => k) (fun q _ => if q.all (fun n => asc (l.length : Int) n 0) then Sum.inl () else Sum.inr (32 : Int)) (fun _ _ => True)
    (fun st k x q hd hg hk hm _ => by
      unfold circuit_checkRota_L12
      obtain ⟨x1, x2⟩ := hr.1.2 x hm
      simp only [hk, decide_true, if_true, hg, Option.bind_some, asc_eq (lo := 0) (hi := (l.length : Int)) x1 x2 (by omega), wr_len hk hr.1.1, List.all_cons]
      rcases Bool.eq_false_or_eq_true (asc (l.length : Int) x 0) with ha | ha
      · exact .inl ⟨(), by simp [ha], trivial, by simp [ha]⟩
      · exact .inr (by simp [ha]))
    (fun st _ => by unfold circuit_checkRota_L12; simp) (s := ()) trivial
theorem ascV {k : Nat} {x : List Int} (hx : get r.Nights (k : Int) = some x) (hm : x ∈ r.Nights) : loopM (r03_ValidRota_L12 r (l.length : Int) (k : Int)) (-1, 0) = some (if asc (l.length : Int) x 0 then .inl () else .inr false) := by
  obtain ⟨x1, x2⟩ := hr.1.2 x hm
  refine loop_list (f := r03_ValidRota_L12 r (l.length : Int) (k : Int)) x (fun (s : Int) k => (s, k)) (fun q s => if asc (l.length : Int) q (s + 1) then Sum.inl () else Sum.inr false) (fun _ s => -1 ≤ s ∧ s < 13)
    (fun s j y q hd hg hk hmy hi => ?_) (fun s _ => by unfold r03_ValidRota_L12; simp [hx, asc]) (s := -1) ⟨by omega, by omega⟩
  unfold r03_ValidRota_L12
  simp only [hx, hk, decide_true, if_true, hg, Option.bind_some, r03_within]
  rw [wr_id (n := s + 1) (by omega) (by omega), wr_id (n := (l.length : Int) - 1) (by omega) (by omega)]
  by_cases hcc : s + 1 ≤ y ∧ y ≤ (l.length : Int) - 1
  · obtain ⟨c1, c2⟩ := hcc
    have c3 : y < (l.length : Int) := by omega
    refine .inl ⟨y, ?_, ⟨by omega, by omega⟩, ?_⟩
    · simp only [c1, c2, decide_true, Bool.and_self, Bool.not_true, Bool.false_eq_true, if_false]
      rw [wr_len hk x1]
    · simp [asc, c1, c3]
  · refine .inr ?_
    have e : (decide (s + 1 ≤ y) && decide (y ≤ (l.length : Int) - 1)) = false := by
      simp only [Bool.and_eq_false_iff, decide_eq_false_iff_not]; omega
    have e2 : asc (l.length : Int) (y :: q) (s + 1) = false := by
      have : (decide (s + 1 ≤ y) && decide (y < (l.length : Int))) = false := by
        simp only [Bool.and_eq_false_iff, decide_eq_false_iff_not]; omega
      simp only [asc, this, Bool.false_and]
    simp only [e, Bool.not_false, if_true, e2, Bool.false_eq_true, if_false]
theorem ValidRota_val : r03_ValidRota r (l.length : Int) = some (okRota l r) := by
  have h := loop_list (f := r03_ValidRota_L14 r (l.length : Int)) r.Nights (fun (_ : Unit) k => k) (fun q _ => if q.all (fun n => asc (l.length : Int) n 0) then Sum.inl () else Sum.inr false) (fun _ _ => True)
    (fun st k x q hd hg hk hm _ => by
      unfold r03_ValidRota_L14
      simp only [hk, decide_true, if_true, ascV hl hr hg hm, List.all_cons]
      rcases Bool.eq_false_or_eq_true (asc (l.length : Int) x 0) with ha | ha
      · exact .inl ⟨(), by simp [ha, r03_ValidRota_j10, wr_len hk hr.1.1], trivial, by simp [ha]⟩
      · exact .inr (by simp [ha]))
    (fun st _ => by unfold r03_ValidRota_L14; simp) (s := ()) trivial
  unfold r03_ValidRota okRota
  rw [h]
  by_cases g : (1 ≤ r.Nights.length ∧ r.Nights.length ≤ 60) ∧ (1 ≤ r.Gap ∧ r.Gap ≤ 60)
  · obtain ⟨⟨g1, g2⟩, g3, g4⟩ := g
    have e : (!(r03_within (r.Nights.length : Int) 1 60) || !(r03_within r.Gap 1 60)) = false := by
      simp only [r03_within, Bool.or_eq_false_iff, Bool.not_eq_false', Bool.and_eq_true, decide_eq_true_eq]; omega
    simp only [e, Bool.false_eq_true, if_false, g1, g2, g3, g4, decide_true, Bool.true_and]
    cases r.Nights.all (fun n => asc (l.length : Int) n 0) <;> rfl
  · have e : (!(r03_within (r.Nights.length : Int) 1 60) || !(r03_within r.Gap 1 60)) = true := by
      simp only [r03_within, Bool.or_eq_true, Bool.not_eq_true', Bool.and_eq_false_iff, decide_eq_false_iff_not]; omega
    have e2 : (decide (1 ≤ r.Nights.length) && decide (r.Nights.length ≤ 60) && decide (1 ≤ r.Gap) && decide (r.Gap ≤ 60)) = false := by
      simp only [Bool.and_eq_false_iff, decide_eq_false_iff_not]; omega
    simp only [e, if_true, e2, Bool.false_and]
end
section
variable {c : Circuit} (hc : OkC c) (hv : Valid c) (hk : circuit_Check c = some 0) {l : List Trial} (hl : OkTrials l) {r : Rota} (hr : OkRota r)
include hc hv hk hl hr
theorem checkRota_val : circuit_checkRota c l r = some (if chk c l = 0 then (if okRota l r then 0 else 32) else chk c l) := by
  unfold circuit_checkRota
  simp only [check_val hc hv hk hl, Option.bind_some]
  by_cases g0 : chk c l = 0
  · have l12 := (chk_zero g0).1
    simp only [g0, not_true_eq_false, decide_false, Bool.false_eq_true, if_false, if_true, ascL12 l12 hr]
    unfold okRota
    by_cases g : (1 ≤ r.Nights.length ∧ r.Nights.length ≤ 60) ∧ (1 ≤ r.Gap ∧ r.Gap ≤ 60)
    · obtain ⟨⟨g1, g2⟩, g3, g4⟩ := g
      have e : (((decide ((r.Nights.length : Int) < 1) || decide (60 < (r.Nights.length : Int))) || decide (r.Gap < 1)) || decide (60 < r.Gap)) = false := by
        simp only [Bool.or_eq_false_iff, decide_eq_false_iff_not]; omega
      simp only [e, Bool.false_eq_true, if_false, g1, g2, g3, g4, decide_true, Bool.true_and]
      cases r.Nights.all (fun n => asc (l.length : Int) n 0) <;> rfl
    · have e : (((decide ((r.Nights.length : Int) < 1) || decide (60 < (r.Nights.length : Int))) || decide (r.Gap < 1)) || decide (60 < r.Gap)) = true := by
        simp only [Bool.or_eq_true, decide_eq_true_eq]; omega
      have e2 : (decide (1 ≤ r.Nights.length) && decide (r.Nights.length ≤ 60) && decide (1 ≤ r.Gap) && decide (r.Gap ≤ 60)) = false := by
        simp only [Bool.and_eq_false_iff, decide_eq_false_iff_not]; omega
      simp only [e, if_true, e2, Bool.false_and, Bool.false_eq_true, if_false]
  · simp only [g0, not_false_eq_true, decide_true, if_true, if_false]
end
end Go.Nw.CM

namespace Go.Nw.CM
def nightStep (each : List Int) (k : Nat) (n : List Int) (d : List Int) : List Int := n.foldl (fun d t => d.set k (bor (nth d k) (nth each t))) d
def dones (each : List Int) (r : Rota) : List Int := (List.range r.Nights.length).foldl (fun d k => nightStep each k (nth r.Nights (k : Int)) d) (List.replicate r.Nights.length 0)
def InvD (N : Nat) (d : List Int) : Prop := d.length = N ∧ Sets d
theorem setStep {each d : List Int} {k : Nat} {t : Int} {N : Nat} (hd : InvD N d) (he : Sets each) (hk : k < N) (h0 : 0 ≤ t) (h1 : t < each.length) : InvD N (d.set k (bor (nth d k) (nth each t))) := by
  obtain ⟨m1, e1, l1⟩ := nth_sets hd.2 (i := (k : Int)) (by omega) (by have := hd.1; omega)
  obtain ⟨m2, e2, l2⟩ := nth_sets he h0 h1
  rw [e1, e2, bor_nat (by omega) (by omega)]
  exact ⟨by simpa using hd.1, sets_set hd.2 (or_lt l1 l2)⟩
theorem nightStep_inv {each : List Int} {k N : Nat} (he : Sets each) (hk : k < N) : ∀ (n d : List Int), InvD N d → (∀ t ∈ n, 0 ≤ t ∧ t < each.length) → InvD N (nightStep each k n d)
  | [], d, hd, _ => hd
  | t :: n, d, hd, ht => by
    obtain ⟨t0, t1⟩ := ht t List.mem_cons_self
    exact nightStep_inv he hk n _ (setStep hd he hk t0 t1) fun t h => ht t (List.mem_cons_of_mem _ h)
theorem L14_val {each : List Int} {w : Int} {k N : Nat} {n d : List Int} (he : Sets each) (hk : k < N) (hd : InvD N d) (hn : ∀ t ∈ n, 0 ≤ t ∧ t < each.length) (hl : n.length ≤ maxLen) :
    loopM (circuit_CheckRota_L14 (each, w) (k : Int) n) (d, 0) = some (nightStep each k n d) := by
  refine loop_list (f := circuit_CheckRota_L14 (each, w) (k : Int) n) n (fun (s : List Int) k => (s, k)) (fun q s => nightStep each k q s) (fun _ s => InvD N s) (fun s j t q hq hg hj hm hi => ?_) (fun s _ => by unfold circuit_CheckRota_L14; simp [nightStep]) hd
  obtain ⟨t0, t1⟩ := hn t hm
  refine .inl ⟨_, ?_, setStep hi he hk t0 t1, rfl⟩
  unfold circuit_CheckRota_L14
  simp only [hj, decide_true, if_true, hg, Option.bind_some, get_nth (l := s) (i := (k : Int)) (by omega) (by have := hi.1; omega), get_nth t0 t1, wr_len hj hl, Int.toNat_natCast]
theorem L9_val {each : List Int} {r : Rota} {k N : Nat} {n d : List Int} (he : Sets each) (hk : k < N) (hd : InvD N d) (hx : get r.Nights (k : Int) = some n) (hn : ∀ t ∈ n, 0 ≤ t ∧ t < each.length) (hl : n.length ≤ maxLen) :
    loopM (r03_gap_L9 each r (k : Int)) (d, 0) = some (nightStep each k n d) := by
  refine loop_list (f := r03_gap_L9 each r (k : Int)) n (fun (s : List Int) k => (s, k)) (fun q s => nightStep each k q s) (fun _ s => InvD N s) (fun s j t q hq hg hj hm hi => ?_) (fun s _ => by unfold r03_gap_L9; simp [nightStep, hx]) hd
  obtain ⟨t0, t1⟩ := hn t hm
  refine .inl ⟨_, ?_, setStep hi he hk t0 t1, rfl⟩
  unfold r03_gap_L9
  simp only [hx, hj, decide_true, if_true, hg, Option.bind_some, get_nth (l := s) (i := (k : Int)) (by omega) (by have := hi.1; omega), get_nth t0 t1, wr_len hj hl, Int.toNat_natCast]
section
variable {each : List Int} {r : Rota} (he : Sets each) (hr : OkRota r) (hn : ∀ n ∈ r.Nights, ∀ t ∈ n, 0 ≤ t ∧ t < each.length) (h60 : r.Nights.length ≤ 60)
include he hr hn h60
theorem rep_inv : InvD r.Nights.length (List.replicate r.Nights.length 0) := ⟨by simp, fun x hx => by
  have := (List.mem_replicate.1 hx).2
  exact ⟨0, this, by omega⟩⟩
theorem L16_val {w : Int} : loopM (circuit_CheckRota_L16 r (each, w)) (List.replicate r.Nights.length 0, 0) = some (dones each r) ∧ InvD r.Nights.length (dones each r) := by
  refine loop_fold (f := circuit_CheckRota_L16 r (each, w)) r.Nights.length (fun k d => nightStep each k (nth r.Nights (k : Int)) d) (fun s => s) (fun _ s => InvD r.Nights.length s) (fun d k hk hi => ?_) (fun d _ => by unfold circuit_CheckRota_L16; simp) _ (rep_inv he hr hn h60)
  have hm := nth_toNat (l := r.Nights) (x := (k : Int)) (by omega) (by omega)
  refine ⟨?_, nightStep_inv he hk _ _ hi (hn _ hm)⟩
  unfold circuit_CheckRota_L16
  have e1 : (k : Int) < (r.Nights.length : Int) := by omega
  simp only [e1, decide_true, if_true, get_nth (l := r.Nights) (i := (k : Int)) (by omega) e1, Option.bind_some, L14_val he hk hi (hn _ hm) (hr.1.2 _ hm).1, circuit_CheckRota_j17, wr_k hk (show r.Nights.length < 4611686018427387904 by omega)]
theorem L11_val : loopM (r03_gap_L11 each r) (List.replicate r.Nights.length 0, 0) = some (dones each r) := by
  refine (loop_fold (f := r03_gap_L11 each r) r.Nights.length (fun k d => nightStep each k (nth r.Nights (k : Int)) d) (fun s => s) (fun _ s => InvD r.Nights.length s) (fun d k hk hi => ?_) (fun d _ => by unfold r03_gap_L11; simp) _ (rep_inv he hr hn h60)).1
  have hm := nth_toNat (l := r.Nights) (x := (k : Int)) (by omega) (by omega)
  refine ⟨?_, nightStep_inv he hk _ _ hi (hn _ hm)⟩
  unfold r03_gap_L11
  have e1 : (k : Int) < (r.Nights.length : Int) := by omega
  simp only [e1, decide_true, if_true, Option.bind_some, L9_val he hk hi (get_nth (l := r.Nights) (i := (k : Int)) (by omega) e1) (hn _ hm) (hr.1.2 _ hm).1, r03_gap_j37, wr_k hk (show r.Nights.length < 4611686018427387904 by omega)]
end

/- gaps -/
def orF (d : List Int) (f : Nat) : Nat → Nat
  | 0 => 0
  | k + 1 => orF d f k ||| (nth d (((f + k) % d.length : Nat) : Int)).toNat
theorem orF_lt {d : List Int} (hd : Sets d) (h0 : 0 < d.length) (f : Nat) : ∀ k, orF d f k < 4096
  | 0 => by simp [orF]
  | k + 1 => by
    have hlt := Nat.mod_lt (f + k) h0
    obtain ⟨m, e, l⟩ := nth_sets hd (i := (((f + k) % d.length : Nat) : Int)) (by omega) (by omega)
    rw [orF, e]
    exact or_lt (orF_lt hd h0 f k) (by omega)
theorem rem_nat {a b : Nat} (h : 0 < b) : rem (a : Int) (b : Int) = some ((a % b : Nat) : Int) := by
  rw [rem_ok (by omega), ← Int.ofNat_tmod]
abbrev Gap3 := Int × Int × Bool
def gapAt (d : List Int) (g sw : Nat) : Unit ⊕ Gap3 := ((List.range d.length).findSome? fun f => if (orF d f g).testBit sw then none else some (Sum.inr ((sw : Int), (f : Int), false))).getD (.inl ())
def pickG : Unit ⊕ Gap3 → Option (Unit ⊕ Gap3)
  | .inl _ => none
  | .inr r => some (.inr r)
def gapV (d : List Int) (g n : Nat) : Unit ⊕ Gap3 := ((List.range n).findSome? fun sw => pickG (gapAt d g sw)).getD (.inl ())
def gapR (d : List Int) (g n : Nat) : Gap3 := match gapV d g n with | .inl _ => (0, 0, true) | .inr r => r
section
variable {d : List Int} (hd : Sets d) (h0 : 0 < d.length) (h60 : d.length ≤ 60) {g : Nat} (hg : g ≤ 60)
include hd h0 h60 hg
theorem L13_val {sw f : Nat} (hs : sw ≤ 12) (hf : f < d.length) : loopM (circuit_gap_L13 (g : Int) d (sw : Int) (f : Int)) (false, 0) = some ((orF d f g).testBit sw) := by
  obtain ⟨b, e, rfl⟩ := loop_inv (f := circuit_gap_L13 (g : Int) d (sw : Int) (f : Int)) g (fun s k => (s, k)) (fun k s => s = (orF d f k).testBit sw) (fun b => b = (orF d f g).testBit sw) (fun s k hk hi => by
      subst hi
      refine .inl ⟨_, ?_, rfl⟩
      have e1 : (k : Int) < (g : Int) := by omega
      have hlt := Nat.mod_lt (f + k) h0
      obtain ⟨m, e, l⟩ := nth_sets hd (i := (((f + k) % d.length : Nat) : Int)) (by omega) (by omega)
      unfold circuit_gap_L13
      have e2 : wr ((f : Int) + (k : Int)) = ((f + k : Nat) : Int) := by rw [wr_id (by omega) (by omega)]; rfl
      simp only [e1, decide_true, if_true, e2, rem_nat h0, Option.bind_some, get_nth (l := d) (i := (((f + k) % d.length : Nat) : Int)) (by omega) (by omega), e, shr_ok (show (0 : Int) ≤ (sw : Int) by omega), wr_k hk (show g < 4611686018427387904 by omega)]
      rw [bit_eq (by omega) (by omega)]
      simp only [orF, e, Nat.testBit_or, Int.toNat_natCast]
      cases (orF d f k).testBit sw <;> cases m.testBit sw <;> rfl)
    (fun s hi => ⟨s, by unfold circuit_gap_L13; simp, hi⟩) (s := false) 0 (Nat.zero_le _) (by simp [orF])
  exact e
theorem L21g_val {r : Rota} (hr : r.Nights.length = d.length) (hgr : r.Gap = (g : Int)) {f : Nat} (hf : f < d.length) : loopM (r03_gap_L21 r d (f : Int)) (0, 0) = some ((orF d f g : Nat) : Int) := by
  obtain ⟨b, e, rfl⟩ := loop_inv (f := r03_gap_L21 r d (f : Int)) g (fun s k => (s, k)) (fun k s => s = ((orF d f k : Nat) : Int)) (fun b => b = ((orF d f g : Nat) : Int)) (fun s k hk hi => by
      subst hi
      refine .inl ⟨_, ?_, rfl⟩
      have e1 : (k : Int) < (g : Int) := by omega
      have hlt := Nat.mod_lt (f + k) h0
      obtain ⟨m, e, l⟩ := nth_sets hd (i := (((f + k) % d.length : Nat) : Int)) (by omega) (by omega)
      have := orF_lt hd h0 f k
      unfold r03_gap_L21
      have e2 : wr ((f : Int) + (k : Int)) = ((f + k : Nat) : Int) := by rw [wr_id (by omega) (by omega)]; rfl
      simp only [hgr, hr, e1, decide_true, if_true, e2, rem_nat h0, Option.bind_some, get_nth (l := d) (i := (((f + k) % d.length : Nat) : Int)) (by omega) (by omega), e, wr_k hk (show g < 4611686018427387904 by omega)]
      rw [bor_nat (by omega) (by omega)]
      simp only [orF, e, Int.toNat_natCast])
    (fun s hi => ⟨s, by unfold r03_gap_L21; simp [hgr], hi⟩) (s := 0) 0 (Nat.zero_le _) (by simp [orF])
  exact e
theorem L17_val {sw : Nat} (hs : sw ≤ 12) : loopM (circuit_gap_L17 (g : Int) d) ((sw : Int), 0) = some (gapAt d g sw) := by
  refine loop_some (f := circuit_gap_L17 (g : Int) d) d.length (fun k => ((sw : Int), k)) _ _ (fun k hk => ?_) (by unfold circuit_gap_L17; simp)
  unfold circuit_gap_L17
  have e1 : (k : Int) < (d.length : Int) := by omega
  simp only [e1, decide_true, if_true, L13_val hd h0 h60 hg hs hk, Option.bind_some, circuit_gap_j14, circuit_gap_j12, wr_k hk (show d.length < 4611686018427387904 by omega)]
  cases (orF d k g).testBit sw <;> rfl
theorem L25_val {r : Rota} (hr : r.Nights.length = d.length) (hgr : r.Gap = (g : Int)) {sw : Nat} (hs : sw ≤ 12) : loopM (r03_gap_L25 r d (sw : Int)) 0 = some (gapAt d g sw) := by
  refine loop_some (f := r03_gap_L25 r d (sw : Int)) d.length (fun k => k) _ _ (fun k hk => ?_) (by unfold r03_gap_L25; simp [hr])
  unfold r03_gap_L25
  have e1 : (k : Int) < (d.length : Int) := by omega
  have hb := orF_lt hd h0 k g
  simp only [hr, e1, decide_true, if_true, L21g_val hd h0 h60 hg hr hgr hk, Option.bind_some, r03_gap_j18, r03_gap_j16, u64_nat (y := sw) (by omega), shr_ok (show (0 : Int) ≤ (sw : Int) by omega), wr_k hk (show d.length < 4611686018427387904 by omega)]
  rw [bit_eq (by omega) (by omega)]
  cases (orF d k g).testBit sw <;> rfl
theorem gap_val {n : Nat} (hn : n ≤ 12) : circuit_gap (n : Int) (g : Int) d = some (gapR d g n) := by
  have h := loop_some (f := circuit_gap_L19 (n : Int) (g : Int) d) n (fun k => k) (fun sw => pickG (gapAt d g sw)) (.inl ()) (fun k hk => by
      unfold circuit_gap_L19
      have e1 : (k : Int) < (n : Int) := by omega
      simp only [e1, decide_true, if_true, L17_val hd h0 h60 hg (show k ≤ 12 by omega), Option.bind_some, circuit_gap_j7, wr_k hk (show n < 4611686018427387904 by omega)]
      cases gapAt d g k <;> rfl) (by unfold circuit_gap_L19; simp)
  unfold circuit_gap
  rw [h]
  show _ = some (gapR d g n)
  unfold gapR gapV
  cases ((List.range n).findSome? fun sw => pickG (gapAt d g sw)).getD (Sum.inl ()) <;> rfl
theorem rgapj_val {c : Circuit} {r : Rota} (hr : r.Nights.length = d.length) (hgr : r.Gap = (g : Int)) (hn : c.Switches.length ≤ 12) : r03_gap_j4 c r d = some (gapR d g c.Switches.length) := by
  have h := loop_some (f := r03_gap_L27 c r d) c.Switches.length (fun k => k) (fun sw => pickG (gapAt d g sw)) (.inl ()) (fun k hk => by
      unfold r03_gap_L27
      have e1 : (k : Int) < (c.Switches.length : Int) := by omega
      simp only [e1, decide_true, if_true, L25_val hd h0 h60 hg hr hgr (show k ≤ 12 by omega), Option.bind_some, r03_gap_j11, wr_k hk (show c.Switches.length < 4611686018427387904 by omega)]
      cases gapAt d g k <;> rfl) (by unfold r03_gap_L27; simp)
  unfold r03_gap_j4
  rw [h]
  unfold gapR gapV
  cases ((List.range c.Switches.length).findSome? fun sw => pickG (gapAt d g sw)).getD (Sum.inl ()) <;> rfl
end

def rotaV (c : Circuit) (l : List Trial) (r : Rota) : Gap3 := gapR (dones (eachI c l) r) r.Gap.toNat c.Switches.length
def checkRotaR (c : Circuit) (l : List Trial) (r : Rota) : Int × Int × Bool × Int :=
  if chk c l = 0 then (if okRota l r then ((rotaV c l r).1, (rotaV c l r).2.1, (rotaV c l r).2.2, 0) else (0, 0, false, 32)) else (0, 0, false, chk c l)
section
variable {c : Circuit} (hc : OkC c) (hv : Valid c) (hk : circuit_Check c = some 0) (hk2 : r03_Check c = some 0) {l : List Trial} (hl : OkTrials l) {r : Rota} (hr : OkRota r)
include hc hv hl hr
omit hc hv hl hr in
theorem nights_ok {l : List Trial} {r : Rota} {c : Circuit} (h : VRota l r) : ∀ n ∈ r.Nights, ∀ t ∈ n, 0 ≤ t ∧ t < (eachI c l).length := fun n hn t ht => by
  have := asc_lt (h.a n hn) t ht
  simpa [eachI] using this
theorem gapArgs (h0 : chk c l = 0) (hV : VRota l r) : Sets (eachI c l) ∧ InvD r.Nights.length (dones (eachI c l) r) ∧ ∃ g : Nat, r.Gap = g ∧ g ≤ 60 ∧ r.Gap.toNat = g := by
  have h2 := hv.sw
  have he := sets_each (c := c) (l := l) h2.2
  have v1 := hV.g1
  have v2 := hV.g2
  exact ⟨he, (L16_val (w := 0) he hr (nights_ok hV) hV.n2).2, r.Gap.toNat, by omega, by omega, rfl⟩
include hk in
theorem CheckRota_val : circuit_CheckRota c l r = some (checkRotaR c l r) := by
  have h2 := hv.sw
  unfold circuit_CheckRota checkRotaR
  simp only [checkRota_val hc hv hk hl hr, Option.bind_some]
  by_cases g0 : chk c l = 0
  · obtain ⟨l12, ht⟩ := chk_zero g0
    simp only [g0, if_true]
    cases g1 : okRota l r with
    | false => rfl
    | true =>
      have hV := okRota_iff.1 g1
      have hn1 := hV.n1
      have hn2 := hV.n2
      obtain ⟨he, hi, g, e1, e2, e3⟩ := gapArgs hc hv hl hr g0 hV
      obtain ⟨w, hall⟩ := all_val hc hv l12 ht
      simp only [not_true_eq_false, decide_false, Bool.false_eq_true, if_false, hall, Option.bind_some, if_true]
      rw [mks_ok (by omega) (by omega) (by omega)]
      simp only [Option.bind_some, Int.toNat_natCast, (L16_val (w := w) he hr (nights_ok hV) hV.n2).1, circuit_CheckRota_j10]
      have hd := hi.1
      rw [e1, gap_val hi.2 (by omega) (by omega) e2 h2.2]
      unfold rotaV
      rw [e3]; rfl
  · simp only [g0, not_false_eq_true, decide_true, if_true, if_false]
include hk2 in
theorem rCheckRota_val : r03_CheckRota c l r = some (checkRotaR c l r) := by
  have h2 := hv.sw
  unfold r03_CheckRota checkRotaR
  simp only [CheckTrials_val hc hv hk2 hl, Option.bind_some]
  by_cases g0 : chk c l = 0
  · obtain ⟨l12, ht⟩ := chk_zero g0
    simp only [g0, if_true, ValidRota_val l12 hr, Option.bind_some]
    cases g1 : okRota l r with
    | false => rfl
    | true =>
      have hV := okRota_iff.1 g1
      have hn1 := hV.n1
      have hn2 := hV.n2
      obtain ⟨he, hi, g, e1, e2, e3⟩ := gapArgs hc hv hl hr g0 hV
      simp only [not_true_eq_false, decide_false, Bool.false_eq_true, if_false, every_val hc hv l12 ht, Option.bind_some, if_true, Bool.not_true, r03_gap]
      rw [mks_ok (by omega) (by omega) (by omega)]
      simp only [Option.bind_some, Int.toNat_natCast, L11_val he hr (nights_ok hV) hV.n2]
      have hd := hi.1
      rw [rgapj_val hi.2 (by omega) (by omega) e2 hd.symm e1 h2.2]
      unfold rotaV
      rw [e3]; rfl
  · simp only [g0, not_false_eq_true, decide_true, if_true, if_false]
end
theorem farRota_val {r : Rota} (hr : OkRota r) : ∃ b, l03_farRota r = some b := by
  unfold l03_farRota
  by_cases h : decide ((80 : Int) < (r.Nights.length : Int)) = true
  · rw [if_pos h]; exact ⟨_, rfl⟩
  · rw [if_neg h]
    have := loop_list (f := l03_farRota_L8 r) r.Nights (fun (_ : Unit) k => k) (fun q _ => if q.any (fun w => decide (20 < (w.length : Int))) then Sum.inr true else Sum.inl ()) (fun _ _ => True)
      (fun s k x q hd hg hk hmm _ => by
        unfold l03_farRota_L8
        simp only [hk, decide_true, if_true, hg, Option.bind_some]
        by_cases hx : (20 : Int) < (x.length : Int)
        · exact .inr (by simp [hx])
        · exact .inl ⟨(), by simp [hx, wr_len hk hr.1.1], trivial, by simp [hx]⟩)
      (fun s _ => by unfold l03_farRota_L8; simp) (s := ()) trivial
    rw [this]
    cases r.Nights.any (fun w => decide (20 < (w.length : Int))) with
    | true => exact ⟨true, rfl⟩
    | false => exact ⟨false, rfl⟩
theorem Rotas_plain (hw : l03_works = some true) (c : Circuit) (l : List Trial) (r : Rota) (hc : OkC c) (hl : OkTrials l) (hr : OkRota r) : l03_CircuitRotas c l r = some true := by
  unfold l03_CircuitRotas
  rcases Far_cases hc with e | ⟨e, hf⟩
  · simp [e, hw]
  obtain ⟨b, eb⟩ := farRota_val hr
  simp only [e, Option.bind_some, Bool.false_or, eb, hw]
  by_cases g : (20 : Int) < (l.length : Int)
  · simp [g]
  cases b with
  | true => simp
  | false =>
  simp only [g, decide_false, Bool.false_eq_true, if_false, Option.bind_some]
  rcases Check_cases hc hf with ⟨k1, k2, hv⟩ | ⟨k1, k2⟩
  · simp only [CheckRota_val hc hv k1 hl hr, rCheckRota_val hc hv k2 hl hr, Option.bind_some]
    simp [beqB]
  · have a1 : circuit_check c l = some 30 := by unfold circuit_check; simp [k1]
    have a2 : circuit_checkRota c l r = some 30 := by unfold circuit_checkRota; simp [a1]
    have a3 : circuit_CheckRota c l r = some (0, 0, false, 30) := by unfold circuit_CheckRota; simp [a2]
    have a4 : r03_CheckTrials c l = some 30 := by unfold r03_CheckTrials; simp [k2]
    have a5 : r03_CheckRota c l r = some (0, 0, false, 30) := by unfold r03_CheckRota; simp [a4]
    simp [a3, a5, beqB]
end Go.Nw.CM

namespace Go.Nw.CM
def prevOk (x : Upset) : Option Upset → Bool
  | none => true
  | some q => decide (q.Night < x.Night) || (decide (q.Night = x.Night) && (decide (q.Kind = 1) || decide (x.Kind = 2)))
def okUp (c : Circuit) (p : Option Upset) (x : Upset) : Bool :=
  decide (0 ≤ x.Night) && decide (x.Night ≤ 1000) &&
  (if x.Kind = 1 then decide (0 ≤ x.Number) && decide (x.Number < (c.Switches.length : Int)) else if x.Kind = 2 then decide (0 < x.Number) && inR x.Number c.Hazards.toNat else false) &&
  prevOk x p
def okUps (c : Circuit) : Option Upset → List Upset → Bool
  | _, [] => true
  | p, x :: r => okUp c p x && okUps c (some x) r
theorem okUp_kind {c : Circuit} {p : Option Upset} {x : Upset} (h : okUp c p x = true) : x.Kind = 1 ∨ x.Kind = 2 := by
  unfold okUp at h
  by_cases k1 : x.Kind = 1
  · exact .inl k1
  · by_cases k2 : x.Kind = 2
    · exact .inr k2
    · simp [k1, k2] at h
def InvU (u : List Upset) (k : Nat) (p : Option Upset) : Prop := (k = 0 ∧ p = none) ∨ (∃ q, p = some q ∧ 0 < k ∧ get u ((k : Int) - 1) = some q ∧ (q.Kind = 1 ∨ q.Kind = 2))
theorem InvU_next {u : List Upset} {k : Nat} {x : Upset} {p : Option Upset} {c : Circuit} (hg : get u (k : Int) = some x) (h : okUp c p x = true) : InvU u (k + 1) (some x) :=
  .inr ⟨x, rfl, by omega, by rw [show ((k + 1 : Nat) : Int) - 1 = (k : Int) by omega]; exact hg, okUp_kind h⟩
section
variable {c : Circuit} (hc : OkC c) (hv : Valid c) {u : List Upset} (hu : OkUpsets u)
include hc hv hu
theorem checkUpsets_val : circuit_checkUpsets c u = some (if (40 : Int) < (u.length : Int) then 33 else if okUps c none u then 0 else 33) := by
  have h1 := hv.hz
  have h2 := hv.sw
  unfold circuit_checkUpsets
  by_cases g : (40 : Int) < (u.length : Int)
  · simp only [g, decide_true, if_true]
  simp only [g, decide_false, Bool.false_eq_true, if_false]
  have h := loop_list (f := circuit_checkUpsets_L19 c u) u (fun (_ : Option Upset) k => k) (fun q s => if okUps c s q then Sum.inl () else Sum.inr (33 : Int)) (InvU u)
    (fun s k x q hd hg hk hm hi => by
      have key : circuit_checkUpsets_L19 c u (k : Int) = if okUp c s x then some (.nx ((k : Int) + 1)) else some (.br (.inr 33)) := by
        unfold circuit_checkUpsets_L19
        have hj : ∀ b : Bool, circuit_checkUpsets_j13 u (k : Int) x b = if b && prevOk x s then some (.nx ((k : Int) + 1)) else some (.br (.inr 33)) := by
          intro b
          unfold circuit_checkUpsets_j13
          rcases hi with ⟨h0, rfl⟩ | ⟨p, rfl, h0, hp, _⟩
          · have e0 : ¬ (0 : Int) < (k : Int) := by omega
            simp only [e0, decide_false, Bool.false_eq_true, if_false, circuit_checkUpsets_j15, Bool.and_true, prevOk]
            cases b <;> simp [wr_len hk hu.1]
          · have e0 : (0 : Int) < (k : Int) := by omega
            simp only [e0, decide_true, if_true]
            rw [wr_id (by omega) (by omega)]
            simp only [hp, Option.bind_some, circuit_checkUpsets_j15, wr_len hk hu.1, prevOk]
            rcases Bool.eq_false_or_eq_true (b && (decide (p.Night < x.Night) || (decide (p.Night = x.Night) && (decide (p.Kind = 1) || decide (x.Kind = 2))))) with e | e <;> simp [e]
        simp only [hk, decide_true, if_true, hg, Option.bind_some, hj, isSetH hc hv]
        unfold okUp
        by_cases k1 : x.Kind = 1
        · simp only [k1, decide_true, if_true, Bool.and_assoc]
        · by_cases k2 : x.Kind = 2
          · have z21 : ¬ (2 : Int) = 1 := by omega
            simp only [k2, z21, decide_true, decide_false, Bool.false_eq_true, if_false, if_true]
            by_cases w : ((decide (0 ≤ x.Night) && decide (x.Night ≤ 1000)) && decide (0 < x.Number)) = true
            · rw [if_pos w]
              simp only [Bool.and_eq_true, decide_eq_true_eq] at w
              simp only [w.1.1, w.1.2, w.2, decide_true, Bool.true_and, Option.bind_some]
            · rw [if_neg w]
              have w' := Bool.eq_false_iff.2 w
              have : (decide (0 ≤ x.Night) && decide (x.Night ≤ 1000) && (decide (0 < x.Number) && inR x.Number c.Hazards.toNat)) = false := by rw [← Bool.and_assoc, w', Bool.false_and]
              simp only [Option.bind_some, Bool.false_and, this]
          · simp only [k1, k2, decide_false, Bool.false_eq_true, if_false, Bool.false_and, Bool.and_false]
      rw [key]
      simp only [okUps]
      rcases Bool.eq_false_or_eq_true (okUp c s x) with e | e
      · exact .inl ⟨some x, by simp [e], InvU_next hg e, by simp [e]⟩
      · exact .inr (by simp [e]))
    (fun s _ => by unfold circuit_checkUpsets_L19; simp [okUps]) (s := none) (.inl ⟨rfl, rfl⟩)
  rw [h]
  rcases Bool.eq_false_or_eq_true (okUps c none u) with e | e <;> simp [e, circuit_checkUpsets_j4]
theorem ValidUpsets_val : r03_ValidUpsets c u = some (if (40 : Int) < (u.length : Int) then false else okUps c none u) := by
  have h1 := hv.hz
  have h2 := hv.sw
  unfold r03_ValidUpsets
  by_cases g : (40 : Int) < (u.length : Int)
  · simp only [g, decide_true, if_true]
  simp only [g, decide_false, Bool.false_eq_true, if_false]
  have h := loop_list (f := r03_ValidUpsets_L17 c u) u (fun (_ : Option Upset) k => k) (fun q s => if okUps c s q then Sum.inl () else Sum.inr false) (InvU u)
    (fun s k x q hd hg hk hm hi => by
      have key : r03_ValidUpsets_L17 c u (k : Int) = if okUp c s x then some (.nx ((k : Int) + 1)) else some (.br (.inr false)) := by
        unfold r03_ValidUpsets_L17
        have eS : wr ((c.Switches.length : Int) - 1) = (c.Switches.length : Int) - 1 := wr_id (by omega) (by omega)
        have eN : decide (x.Number ≤ (c.Switches.length : Int) - 1) = decide (x.Number < (c.Switches.length : Int)) := by congr 1; simp only [eq_iff_iff]; omega
        simp only [hk, decide_true, if_true, hg, Option.bind_some, rHaz hc hv, r03_within, r03_ValidUpsets_j9, wr_len hk hu.1, eS, eN]
        unfold okUp
        rcases hi with ⟨h0, rfl⟩ | ⟨p, rfl, h0, hp, hpk⟩
        · have e0 : ¬ (0 : Int) < (k : Int) := by omega
          simp only [e0, decide_false, Bool.false_eq_true, if_false, Option.bind_some, Bool.and_true, prevOk]
          by_cases k1 : x.Kind = 1
          · simp only [k1, decide_true, if_true]
            rcases Bool.eq_false_or_eq_true (decide (0 ≤ x.Night) && decide (x.Night ≤ 1000)) with e | e <;> rcases Bool.eq_false_or_eq_true (decide (0 ≤ x.Number) && decide (x.Number < (c.Switches.length : Int))) with e' | e' <;> simp [e, e']
          · by_cases k2 : x.Kind = 2
            · have z21 : ¬ (2 : Int) = 1 := by omega
              simp only [k2, z21, decide_true, if_true, decide_false, Bool.false_eq_true, if_false]
              have eZ : inR x.Number c.Hazards.toNat = (decide (0 ≤ x.Number) && decide (x.Number < 2 ^ c.Hazards.toNat)) := rfl
              have e3 : (decide (0 < x.Number) && inR x.Number c.Hazards.toNat) = (!decide (x.Number = 0) && inR x.Number c.Hazards.toNat) := by
                rw [eZ]
                by_cases z : 0 ≤ x.Number
                · by_cases z2 : x.Number = 0 <;> simp [z2, z] <;> omega
                · simp [z]
              rw [e3]
              rcases Bool.eq_false_or_eq_true (decide (0 ≤ x.Night) && decide (x.Night ≤ 1000)) with e | e <;> by_cases z2 : x.Number = 0 <;> rcases Bool.eq_false_or_eq_true (inR x.Number c.Hazards.toNat) with e' | e' <;> simp [e, e', z2]
            · simp only [k1, k2, decide_false, Bool.false_eq_true, if_false, Bool.and_false]
              rcases Bool.eq_false_or_eq_true (decide (0 ≤ x.Night) && decide (x.Night ≤ 1000)) with e | e <;> simp [e]
        · have e0 : (0 : Int) < (k : Int) := by omega
          rw [wr_id (n := (k : Int) - 1) (by omega) (by omega)]
          simp only [hp, e0, decide_true, if_true, Option.bind_some, prevOk]
          have eK : decide (p.Kind = 2) = !decide (p.Kind = 1) := by rcases hpk with e | e <;> simp [e]
          by_cases k1 : x.Kind = 1
          · have k2 : ¬ x.Kind = 2 := by omega
            simp only [k1, k2, decide_true, if_true, eK, decide_false, Bool.or_false]
            rcases Bool.eq_false_or_eq_true (decide (0 ≤ x.Night) && decide (x.Night ≤ 1000)) with e | e <;> rcases Bool.eq_false_or_eq_true (decide (0 ≤ x.Number) && decide (x.Number < (c.Switches.length : Int))) with e' | e' <;>
              rcases Int.lt_trichotomy x.Night p.Night with t | t | t <;> by_cases pk : p.Kind = 1 <;>
              first
              | (have t1 : ¬ p.Night < x.Night := by omega
                 have t2 : ¬ p.Night = x.Night := by omega
                 simp [e, e', t, t1, t2, pk])
              | (have t2 : p.Night = x.Night := by omega
                 simp [e, e', t2, pk]; done)
              | (have t1 : ¬ x.Night < p.Night := by omega
                 have t2 : ¬ p.Night = x.Night := by omega
                 simp [e, e', t, t1, t2, pk])
          · by_cases k2 : x.Kind = 2
            · have z21 : ¬ (2 : Int) = 1 := by omega
              simp only [k2, z21, decide_true, if_true, decide_false, Bool.false_eq_true, if_false, Bool.or_true, Bool.and_true]
              have eZ : inR x.Number c.Hazards.toNat = (decide (0 ≤ x.Number) && decide (x.Number < 2 ^ c.Hazards.toNat)) := rfl
              have e3 : (decide (0 < x.Number) && inR x.Number c.Hazards.toNat) = (!decide (x.Number = 0) && inR x.Number c.Hazards.toNat) := by
                rw [eZ]
                by_cases z : 0 ≤ x.Number
                · by_cases z2 : x.Number = 0 <;> simp [z2, z] <;> omega
                · simp [z]
              rw [e3]
              have e4 : (decide (p.Night < x.Night) || decide (p.Night = x.Night)) = !decide (x.Night < p.Night) := by
                by_cases t : x.Night < p.Night
                · have t1 : ¬ p.Night < x.Night := by omega
                  have t2 : ¬ p.Night = x.Night := by omega
                  simp [t, t1, t2]
                · have : p.Night < x.Night ∨ p.Night = x.Night := by omega
                  rcases this with t1 | t1 <;> simp [t, t1]
              rw [e4]
              rcases Bool.eq_false_or_eq_true (decide (0 ≤ x.Night) && decide (x.Night ≤ 1000)) with e | e <;> by_cases z2 : x.Number = 0 <;> rcases Bool.eq_false_or_eq_true (inR x.Number c.Hazards.toNat) with e' | e' <;> by_cases t : x.Night < p.Night <;> simp [e, e', z2, t]
            · simp only [k1, k2, decide_false, Bool.false_eq_true, if_false, Bool.and_false, Bool.false_and]
              rcases Bool.eq_false_or_eq_true (decide (0 ≤ x.Night) && decide (x.Night ≤ 1000)) with e | e <;> by_cases t : x.Night < p.Night <;> simp [e, t]
      rw [key]
      simp only [okUps]
      rcases Bool.eq_false_or_eq_true (okUp c s x) with e | e
      · exact .inl ⟨some x, by simp [e], InvU_next hg e, by simp [e]⟩
      · exact .inr (by simp [e]))
    (fun s _ => by unfold r03_ValidUpsets_L17; simp [okUps]) (s := none) (.inl ⟨rfl, rfl⟩)
  rw [h]
  rcases Bool.eq_false_or_eq_true (okUps c none u) with e | e <;> simp [e, r03_ValidUpsets_j4]
end
end Go.Nw.CM

namespace Go.Nw.CM
def takeS (d : Nat) : List Upset → Nat → Nat × List Upset
  | [], m => (m, [])
  | x :: r, m => if x.Night = (d : Int) ∧ x.Kind = 1 then takeS d r (m ||| 2 ^ x.Number.toNat) else (m, x :: r)
def madeN (c : Circuit) (l : List Trial) (n : List Int) (m : Nat) : Nat := n.foldl (fun m t => if tells c (nth l t) (m : Int) then 0 else m) m
def takeR (c : Circuit) (tot d m : Nat) : List Upset → List Int → List Int × List Upset
  | [], p => (p, [])
  | x :: r, p => if x.Night = (d : Int) then takeR c tot d m r (if cnd c x.Number (m : Int) 0 0 then p ++ [((tot - (r.length + 1) : Nat) : Int)] else p) else (p, x :: r)

theorem okUps_mem {c : Circuit} : ∀ {u : List Upset} {p : Option Upset}, okUps c p u = true → ∀ x ∈ u, ∃ q, okUp c q x = true
  | [], _, _, x, hx => by cases hx
  | y :: u, p, h, x, hx => by
    simp only [okUps, Bool.and_eq_true] at h
    rcases List.mem_cons.1 hx with rfl | hx
    · exact ⟨p, h.1⟩
    · exact okUps_mem h.2 x hx
theorem okUp_facts {c : Circuit} {q : Option Upset} {x : Upset} (h : okUp c q x = true) : 0 ≤ x.Night ∧ x.Night ≤ 1000 ∧ (x.Kind = 1 → 0 ≤ x.Number ∧ x.Number < c.Switches.length) ∧ (x.Kind ≠ 1 → x.Kind = 2 ∧ 0 < x.Number ∧ inR x.Number c.Hazards.toNat = true) := by
  unfold okUp at h
  simp only [Bool.and_eq_true, decide_eq_true_eq] at h
  obtain ⟨⟨⟨h1, h2⟩, h3⟩, h4⟩ := h
  refine ⟨h1, h2, fun k => ?_, fun k => ?_⟩
  · rw [if_pos k] at h3; simpa using h3
  · rw [if_neg k] at h3
    split at h3
    · rename_i k2; simp only [Bool.and_eq_true, decide_eq_true_eq] at h3; exact ⟨k2, h3.1, h3.2⟩
    · cases h3
theorem okUps_sorted {c : Circuit} : ∀ {u : List Upset} {p : Option Upset}, okUps c p u = true → (∀ q, p = some q → ∀ x ∈ u, q.Night ≤ x.Night) ∧ u.Pairwise (fun x y => x.Night ≤ y.Night)
  | [], _, _ => ⟨fun _ _ x hx => by (cases hx), .nil⟩
  | y :: u, p, h => by
    simp only [okUps, Bool.and_eq_true] at h
    obtain ⟨s1, s2⟩ := okUps_sorted h.2
    have hp : ∀ q, p = some q → q.Night ≤ y.Night := fun q e => by
      subst e
      have := h.1
      unfold okUp at this
      simp only [Bool.and_eq_true, prevOk, Bool.or_eq_true, decide_eq_true_eq] at this
      rcases this.2 with g | g
      · omega
      · omega
    refine ⟨fun q e x hx => ?_, .cons (fun x hx => s1 y rfl x hx) s2⟩
    rcases List.mem_cons.1 hx with rfl | hx
    · exact hp q e
    · exact Int.le_trans (hp q e) (s1 y rfl x hx)

structure PS where
  stuck : List Int
  passed : List Int
  m : Nat
  a : Nat
  d : Nat
abbrev PT := List Int × List Int × Int × Int × Int
def PS.enc (s : PS) : PT := (s.stuck, s.passed, (s.m : Int), (s.a : Int), (s.d : Int))
structure PC where
  c : Circuit
  l : List Trial
  r : Rota
  u : List Upset
def PC.x1 (z : PC) (s : PS) : Nat × List Upset := takeS s.d (z.u.drop s.a) s.m
def PC.m2 (z : PC) (s : PS) : Nat := madeN z.c z.l (nth z.r.Nights ((s.d % z.r.Nights.length : Nat) : Int)) (z.x1 s).1
def PC.x2 (z : PC) (s : PS) : List Int × List Upset := takeR z.c z.u.length s.d (z.m2 s) (z.x1 s).2 s.passed
def PC.step (z : PC) (s : PS) : PS where
  stuck := if (z.x2 s).2.length < (z.u.drop s.a).length then s.stuck ++ [((z.m2 s : Nat) : Int)] else s.stuck
  passed := (z.x2 s).1
  m := z.m2 s
  a := z.u.length - (z.x2 s).2.length
  d := s.d + 1
def PC.run (z : PC) : Nat → PS → PS
  | 0, s => s
  | n + 1, s => if s.a < z.u.length then z.run n (z.step s) else s

structure PV (z : PC) : Prop where
  hc : OkC z.c
  hv : Valid z.c
  hl : OkTrials z.l
  hr : OkRota z.r
  hu : OkUpsets z.u
  ck : chk z.c z.l = 0
  vr : VRota z.l z.r
  u40 : z.u.length ≤ 40
  ups : okUps z.c none z.u = true
structure JP (z : PC) (s : PS) : Prop where
  hm : s.m < 2 ^ z.c.Switches.length
  ha : s.a ≤ z.u.length
  hd : s.d ≤ 1001
  hs : s.stuck.length ≤ s.a
  hp : s.passed.length ≤ s.a
  hn : ∀ x ∈ z.u.drop s.a, (s.d : Int) ≤ x.Night

theorem takeS_spec {n d : Nat} : ∀ {u : List Upset} {m : Nat}, (∀ x ∈ u, x.Kind = 1 → 0 ≤ x.Number ∧ x.Number < (n : Int)) → m < 2 ^ n → (takeS d u m).1 < 2 ^ n ∧ ∃ k, k ≤ u.length ∧ (takeS d u m).2 = u.drop k ∧ ∀ x ∈ u.take k, x.Night = (d : Int) ∧ x.Kind = 1
  | [], m, _, hm => ⟨hm, 0, by simp, rfl, by simp⟩
  | x :: r, m, hu, hm => by
    unfold takeS
    split
    · rename_i h
      obtain ⟨n0, n1⟩ := hu x List.mem_cons_self h.2
      have hp : 2 ^ x.Number.toNat < 2 ^ n := Nat.pow_lt_pow_right (by omega) (by omega)
      obtain ⟨h1, k, h2, h3, h4⟩ := takeS_spec (d := d) (u := r) (m := m ||| 2 ^ x.Number.toNat) (fun y hy => hu y (List.mem_cons_of_mem _ hy)) (Nat.or_lt_two_pow hm hp)
      refine ⟨h1, k + 1, by simp; exact h2, by simpa using h3, fun y hy => ?_⟩
      rw [List.take_succ_cons] at hy
      rcases List.mem_cons.1 hy with rfl | hy
      · exact h
      · exact h4 y hy
    · exact ⟨hm, 0, by simp, rfl, by simp⟩
theorem takeR_spec {c : Circuit} {tot d m : Nat} : ∀ {u : List Upset} {p : List Int}, ∃ k, k ≤ u.length ∧ (takeR c tot d m u p).2 = u.drop k ∧ (takeR c tot d m u p).1.length ≤ p.length + k ∧ (∀ x r, u.drop k = x :: r → ¬ x.Night = (d : Int))
  | [], p => ⟨0, by simp, rfl, by simp [takeR], by simp⟩
  | x :: r, p => by
    unfold takeR
    split
    · obtain ⟨k, h1, h2, h3, h4⟩ := takeR_spec (c := c) (tot := tot) (d := d) (m := m) (u := r) (p := if cnd c x.Number (m : Int) 0 0 then p ++ [((tot - (r.length + 1) : Nat) : Int)] else p)
      refine ⟨k + 1, by simp; exact h1, by simpa using h2, ?_, by simpa using h4⟩
      refine Nat.le_trans h3 ?_
      split <;> (try simp only [List.length_append, List.length_cons, List.length_nil]) <;> omega
    · rename_i h
      exact ⟨0, by simp, rfl, by simp, fun y q e => by cases e; exact h⟩
theorem madeN_lt {c : Circuit} {l : List Trial} {k : Nat} : ∀ {n : List Int} {m : Nat}, m < 2 ^ k → madeN c l n m < 2 ^ k
  | [], m, h => h
  | t :: n, m, h => by
    show madeN c l n (if tells c (nth l t) (m : Int) then 0 else m) < 2 ^ k
    refine madeN_lt ?_
    split
    · exact Nat.pow_pos (by omega)
    · exact h

section
variable {z : PC} (hz : PV z)
include hz
theorem PV.sw1 : ∀ x ∈ z.u, x.Kind = 1 → 0 ≤ x.Number ∧ x.Number < (z.c.Switches.length : Int) := fun x hx k => by
  obtain ⟨q, h⟩ := okUps_mem hz.ups x hx
  exact (okUp_facts h).2.2.1 k
theorem x1_spec {s : PS} (hj : JP z s) : (z.x1 s).1 < 2 ^ z.c.Switches.length ∧ ∃ k, s.a + k ≤ z.u.length ∧ (z.x1 s).2 = z.u.drop (s.a + k) ∧ ∀ x ∈ (z.u.drop s.a).take k, x.Night = (s.d : Int) ∧ x.Kind = 1 := by
  obtain ⟨h1, k, h2, h3, h4⟩ := takeS_spec (n := z.c.Switches.length) (d := s.d) (u := z.u.drop s.a) (m := s.m) (fun x hx => hz.sw1 x (List.mem_of_mem_drop hx)) hj.hm
  have := hj.ha
  rw [List.length_drop] at h2
  exact ⟨h1, k, by omega, by rw [List.drop_drop] at h3; exact h3, h4⟩
theorem x2_spec {s : PS} (hj : JP z s) : ∃ k, s.a + k ≤ z.u.length ∧ (z.x2 s).2 = z.u.drop (s.a + k) ∧ (z.x2 s).1.length ≤ s.passed.length + k ∧ (∀ x r, z.u.drop (s.a + k) = x :: r → ¬ x.Night = (s.d : Int)) := by
  obtain ⟨_, k1, h1, h2, _⟩ := x1_spec hz hj
  obtain ⟨k2, g1, g2, g3, g4⟩ := takeR_spec (c := z.c) (tot := z.u.length) (d := s.d) (m := z.m2 s) (u := (z.x1 s).2) (p := s.passed)
  rw [h2] at g1 g4 g2
  rw [List.length_drop] at g1
  rw [List.drop_drop] at g2 g4
  refine ⟨k1 + k2, by omega, ?_, ?_, ?_⟩
  · rw [show s.a + (k1 + k2) = s.a + k1 + k2 by omega, ← g2, ← h2]; rfl
  · unfold PC.x2
    omega
  · rw [show s.a + (k1 + k2) = s.a + k1 + k2 by omega]; exact g4
theorem step_J {s : PS} (hj : JP z s) (hlt : s.a < z.u.length) : JP z (z.step s) := by
  obtain ⟨g1, k1, h1, h2, _⟩ := x1_spec hz hj
  obtain ⟨k, g2, g3, g4, g5⟩ := x2_spec hz hj
  have hha := hj.ha
  have hhs := hj.hs
  have hhp := hj.hp
  have hlen : (z.x2 s).2.length = z.u.length - (s.a + k) := by rw [g3, List.length_drop]
  have ea : z.u.length - (z.x2 s).2.length = s.a + k := by omega
  have hhead : (s.d : Int) ≤ 1000 := by
    have hm : z.u.drop s.a ≠ [] := by simp; omega
    obtain ⟨x, hx⟩ := List.exists_mem_of_ne_nil _ hm
    obtain ⟨q, ho⟩ := okUps_mem hz.ups x (List.mem_of_mem_drop hx)
    have := hj.hn x hx
    have := (okUp_facts ho).2.1
    omega
  refine ⟨madeN_lt g1, ?_, ?_, ?_, ?_, fun x hx => ?_⟩
  · show z.u.length - (z.x2 s).2.length ≤ z.u.length
    omega
  · show s.d + 1 ≤ 1001
    omega
  · show (if (z.x2 s).2.length < (z.u.drop s.a).length then s.stuck ++ [((z.m2 s : Nat) : Int)] else s.stuck).length ≤ z.u.length - (z.x2 s).2.length
    rw [ea]
    split
    · rename_i hl
      rw [List.length_drop] at hl
      simp only [List.length_append, List.length_cons, List.length_nil]; omega
    · omega
  · show (z.x2 s).1.length ≤ z.u.length - (z.x2 s).2.length
    omega
  · have hx : x ∈ z.u.drop (z.u.length - (z.x2 s).2.length) := hx
    rw [ea] at hx
    show ((s.d + 1 : Nat) : Int) ≤ x.Night
    have hin : x ∈ z.u.drop s.a := by
      rw [← List.drop_drop] at hx; exact List.mem_of_mem_drop hx
    have h0 := hj.hn x hin
    cases hq : z.u.drop (s.a + k) with
    | nil => rw [hq] at hx; cases hx
    | cons y r =>
      have hy := g5 y r hq
      have hyin : y ∈ z.u.drop s.a := by
        have : y ∈ z.u.drop (s.a + k) := by rw [hq]; exact List.mem_cons_self
        rw [← List.drop_drop] at this; exact List.mem_of_mem_drop this
      have hy0 := hj.hn y hyin
      have hs := (okUps_sorted hz.ups).2.drop (i := s.a + k)
      rw [hq] at hs hx
      rcases List.mem_cons.1 hx with rfl | hx
      · omega
      · have := List.rel_of_pairwise_cons hs hx
        omega

theorem len_cast {k : Nat} (h : k ≤ z.u.length) : ((z.u.length - (z.u.drop k).length : Nat) : Int) = (k : Int) := by rw [List.length_drop]; omega
theorem L14_play {s : PS} (hj : JP z s) : loopM (circuit_Play_L14 z.u (s.d : Int)) ((s.m : Int), (s.a : Int)) = some (((z.x1 s).1 : Int), ((z.u.length - (z.x1 s).2.length : Nat) : Int)) := by
  have h2 := hz.hv.sw
  refine loop_list_at (f := circuit_Play_L14 z.u (s.d : Int)) z.u (fun (m : Nat) k => ((m : Int), k)) (fun q m => (((takeS s.d q m).1 : Int), ((z.u.length - (takeS s.d q m).2.length : Nat) : Int))) (fun _ m => m < 2 ^ z.c.Switches.length)
    (fun m k x q hd hg hk hm hi => ?_) (fun m _ => by unfold circuit_Play_L14; simp [takeS]) s.a hj.ha hj.hm
  have hlen : z.u.length - (q.length + 1) = k := by
    have := congrArg List.length hd
    rw [List.length_drop, List.length_cons] at this
    omega
  unfold circuit_Play_L14
  simp only [hk, decide_true, if_true, hg, Option.bind_some]
  by_cases a1 : x.Night = (s.d : Int)
  · by_cases a2 : x.Kind = 1
    · obtain ⟨n0, n1⟩ := hz.sw1 x hm a2
      obtain ⟨j, hj⟩ : ∃ j : Nat, x.Number = j := ⟨x.Number.toNat, by omega⟩
      have hp : 2 ^ j < 2 ^ z.c.Switches.length := Nat.pow_lt_pow_right (by omega) (by omega)
      have l1 := pow12 hi h2.2
      have l2 := pow12 hp h2.2
      refine .inl ⟨m ||| 2 ^ x.Number.toNat, ?_, ?_, ?_⟩
      · simp only [a1, a2, decide_true, if_true, Option.bind_some, hj, shl_nat (y := j) (by omega), wr_len hk hz.hu.1, Int.toNat_natCast]
        rw [bor_nat (by omega) (by omega)]
      · rw [hj]; exact Nat.or_lt_two_pow hi hp
      · simp only [takeS, a1, a2, and_self, if_true]
    · refine .inr ?_
      simp [a1, a2, takeS, hlen]
  · refine .inr ?_
    simp [a1, takeS, hlen]
theorem L15_play {s : PS} (hj : JP z s) : loopM (r03_Play_L15 z.u (s.d : Int)) ((s.m : Int), (s.a : Int)) = some (((z.x1 s).1 : Int), ((z.u.length - (z.x1 s).2.length : Nat) : Int)) := by
  have h2 := hz.hv.sw
  refine loop_list_at (f := r03_Play_L15 z.u (s.d : Int)) z.u (fun (m : Nat) k => ((m : Int), k)) (fun q m => (((takeS s.d q m).1 : Int), ((z.u.length - (takeS s.d q m).2.length : Nat) : Int))) (fun _ m => m < 2 ^ z.c.Switches.length)
    (fun m k x q hd hg hk hm hi => ?_) (fun m _ => by unfold r03_Play_L15; simp [takeS]) s.a hj.ha hj.hm
  have hlen : z.u.length - (q.length + 1) = k := by
    have := congrArg List.length hd
    rw [List.length_drop, List.length_cons] at this
    omega
  unfold r03_Play_L15
  simp only [hk, decide_true, if_true, hg, Option.bind_some]
  by_cases a1 : x.Night = (s.d : Int)
  · by_cases a2 : x.Kind = 1
    · obtain ⟨n0, n1⟩ := hz.sw1 x hm a2
      obtain ⟨j, hj⟩ : ∃ j : Nat, x.Number = j := ⟨x.Number.toNat, by omega⟩
      have hp : 2 ^ j < 2 ^ z.c.Switches.length := Nat.pow_lt_pow_right (by omega) (by omega)
      have l1 := pow12 hi h2.2
      have l2 := pow12 hp h2.2
      refine .inl ⟨m ||| 2 ^ x.Number.toNat, ?_, ?_, ?_⟩
      · simp only [a1, a2, decide_true, if_true, Option.bind_some, hj, u64_nat (y := j) (by omega), shl_nat (y := j) (by omega), wr_len hk hz.hu.1, Int.toNat_natCast]
        rw [bor_nat (by omega) (by omega)]
      · rw [hj]; exact Nat.or_lt_two_pow hi hp
      · simp only [takeS, a1, a2, and_self, if_true]
    · refine .inr ?_
      simp [a1, a2, takeS, hlen]
  · refine .inr ?_
    simp [a1, takeS, hlen]
omit hz in
theorem tells_zero {c : Circuit} {t : Trial} : tells c t ((0 : Nat) : Int) = false := by
  unfold tells
  rw [show ((0 : Nat) : Int) = 0 from rfl]
  cases cnd c t.Hazards 0 0 t.Wire <;> rfl
theorem made_arg (d : Nat) : ∃ x, get z.r.Nights ((d % z.r.Nights.length : Nat) : Int) = some x ∧ x = nth z.r.Nights ((d % z.r.Nights.length : Nat) : Int) ∧ x ∈ z.r.Nights := by
  have := hz.vr.n1
  have hlt := Nat.mod_lt d (show 0 < z.r.Nights.length by omega)
  exact ⟨_, get_nth (by omega) (by omega), rfl, nth_toNat (by omega) (by omega)⟩
theorem L21_play {x : List Int} (hx : x ∈ z.r.Nights) (m : Nat) : loopM (circuit_Play_L21 z.c z.l x) ((m : Int), 0) = some ((madeN z.c z.l x m : Nat) : Int) := by
  obtain ⟨_, ht⟩ := chk_zero hz.ck
  refine loop_list (f := circuit_Play_L21 z.c z.l x) x (fun (m : Nat) k => ((m : Int), k)) (fun q m => ((madeN z.c z.l q m : Nat) : Int)) (fun _ _ => True)
    (fun m k t q hd hg hk hm hi => ?_) (fun m _ => by unfold circuit_Play_L21; simp [madeN]) trivial
  obtain ⟨t0, t1⟩ := asc_lt (hz.vr.a x hx) t hm
  unfold circuit_Play_L21
  simp only [hk, decide_true, if_true, hg, Option.bind_some, get_nth t0 t1, shows_val hz.hc hz.hv (ht _ (nth_toNat t0 t1)), wr_len hk (hz.hr.1.2 x hx).1, circuit_Play_j52]
  refine .inl ⟨if tells z.c (nth z.l t) (m : Int) then 0 else m, ?_, trivial, rfl⟩
  by_cases m0 : m = 0
  · subst m0
    rw [tells_zero]; rfl
  · have : ¬ ((m : Nat) : Int) = 0 := by omega
    simp only [this, not_false_eq_true, decide_true, if_true, Option.bind_some]
    cases tells z.c (nth z.l t) (m : Int) <;> rfl
theorem L22_play {x : List Int} (hx : x ∈ z.r.Nights) (m : Nat) : loopM (r03_Play_L22 z.c z.l x) ((m : Int), 0) = some ((madeN z.c z.l x m : Nat) : Int) := by
  obtain ⟨_, ht⟩ := chk_zero hz.ck
  refine loop_list (f := r03_Play_L22 z.c z.l x) x (fun (m : Nat) k => ((m : Int), k)) (fun q m => ((madeN z.c z.l q m : Nat) : Int)) (fun _ _ => True)
    (fun m k t q hd hg hk hm hi => ?_) (fun m _ => by unfold r03_Play_L22; simp [madeN]) trivial
  obtain ⟨t0, t1⟩ := asc_lt (hz.vr.a x hx) t hm
  unfold r03_Play_L22
  simp only [hk, decide_true, if_true, hg, Option.bind_some, get_nth t0 t1, Tells_val hz.hc hz.hv (ht _ (nth_toNat t0 t1)), wr_len hk (hz.hr.1.2 x hx).1, r03_Play_j57]
  refine .inl ⟨if tells z.c (nth z.l t) (m : Int) then 0 else m, ?_, trivial, rfl⟩
  cases tells z.c (nth z.l t) (m : Int) <;> rfl
theorem L28_play {d m k0 : Nat} {p : List Int} (hk0 : k0 ≤ z.u.length) (hp : p.length ≤ k0) : loopM (circuit_Play_L28 z.c z.u (d : Int) (m : Int)) (p, (k0 : Int), (k0 : Int)) =
    some ((takeR z.c z.u.length d m (z.u.drop k0) p).1, ((z.u.length - (takeR z.c z.u.length d m (z.u.drop k0) p).2.length : Nat) : Int)) := by
  have h3 := hz.hv.wi
  have h40 := hz.u40
  refine loop_list_at (f := circuit_Play_L28 z.c z.u (d : Int) (m : Int)) z.u (fun (p : List Int) k => (p, k, k)) (fun q p => ((takeR z.c z.u.length d m q p).1, ((z.u.length - (takeR z.c z.u.length d m q p).2.length : Nat) : Int))) (fun k p => p.length ≤ k)
    (fun p k x q hd hg hk hm hi => ?_) (fun p _ => by unfold circuit_Play_L28; simp [takeR]) k0 hk0 hp
  have hlen : z.u.length - (q.length + 1) = k := by
    have := congrArg List.length hd
    rw [List.length_drop, List.length_cons] at this
    omega
  unfold circuit_Play_L28
  simp only [hk, decide_true, if_true, hg, Option.bind_some]
  by_cases a1 : x.Night = (d : Int)
  · refine .inl ⟨if cnd z.c x.Number (m : Int) 0 0 then p ++ [(k : Int)] else p, ?_, ?_, ?_⟩
    · simp only [a1, decide_true, if_true, wire_cnd hz.hc hz.hv _ _ 0 0 (show (0 : Int) ≤ 0 by omega) (show (0 : Int) < (z.c.Wires.length : Int) by omega), Option.bind_some, circuit_Play_j43, wr_len hk hz.hu.1]
      rw [ap_ok (by simp only [List.length_cons, List.length_nil]; omega)]
      cases cnd z.c x.Number (m : Int) 0 0 <;> rfl
    · split <;> (try simp only [List.length_append, List.length_cons, List.length_nil]) <;> omega
    · simp only [takeR, a1, if_true, hlen]
  · refine .inr ?_
    simp [a1, takeR, hlen]
theorem L27_play {d m k0 : Nat} {p : List Int} (hk0 : k0 ≤ z.u.length) (hp : p.length ≤ k0) : loopM (r03_Play_L27 z.c z.u (d : Int) (m : Int)) (p, (k0 : Int)) =
    some ((takeR z.c z.u.length d m (z.u.drop k0) p).1, ((z.u.length - (takeR z.c z.u.length d m (z.u.drop k0) p).2.length : Nat) : Int)) := by
  have h3 := hz.hv.wi
  have h40 := hz.u40
  refine loop_list_at (f := r03_Play_L27 z.c z.u (d : Int) (m : Int)) z.u (fun (p : List Int) k => (p, k)) (fun q p => ((takeR z.c z.u.length d m q p).1, ((z.u.length - (takeR z.c z.u.length d m q p).2.length : Nat) : Int))) (fun k p => p.length ≤ k)
    (fun p k x q hd hg hk hm hi => ?_) (fun p _ => by unfold r03_Play_L27; simp [takeR]) k0 hk0 hp
  have hlen : z.u.length - (q.length + 1) = k := by
    have := congrArg List.length hd
    rw [List.length_drop, List.length_cons] at this
    omega
  unfold r03_Play_L27
  simp only [hk, decide_true, if_true, hg, Option.bind_some]
  by_cases a1 : x.Night = (d : Int)
  · refine .inl ⟨if cnd z.c x.Number (m : Int) 0 0 then p ++ [(k : Int)] else p, ?_, ?_, ?_⟩
    · simp only [a1, decide_true, if_true, ref_cnd hz.hc hz.hv _ _ 0 0 (show (0 : Int) ≤ 0 by omega) (show (0 : Int) < (z.c.Wires.length : Int) by omega), Option.bind_some, r03_Play_j48, wr_len hk hz.hu.1]
      rw [ap_ok (by simp only [List.length_cons, List.length_nil]; omega)]
      cases cnd z.c x.Number (m : Int) 0 0 <;> rfl
    · split <;> (try simp only [List.length_append, List.length_cons, List.length_nil]) <;> omega
    · simp only [takeR, a1, if_true, hlen]
  · refine .inr ?_
    simp [a1, takeR, hlen]
theorem here_eq {s : PS} (hj : JP z s) {x : Upset} {q : List Upset} (hd : z.u.drop s.a = x :: q) : ((z.x2 s).2.length < (z.u.drop s.a).length) ↔ x.Night = (s.d : Int) := by
  have hx1 : z.x1 s = takeS s.d (x :: q) s.m := by unfold PC.x1; rw [hd]
  by_cases a1 : x.Night = (s.d : Int)
  · simp only [a1, iff_true]
    by_cases a2 : x.Kind = 1
    · have e : (z.x1 s).2 = (takeS s.d q (s.m ||| 2 ^ x.Number.toNat)).2 := by rw [hx1, takeS, if_pos ⟨a1, a2⟩]
      have hm : x ∈ z.u := List.mem_of_mem_drop (i := s.a) (by rw [hd]; exact List.mem_cons_self)
      obtain ⟨n0, n1⟩ := hz.sw1 x hm a2
      have hp : 2 ^ x.Number.toNat < 2 ^ z.c.Switches.length := Nat.pow_lt_pow_right (by omega) (by omega)
      obtain ⟨_, k, h2, h3, _⟩ := takeS_spec (n := z.c.Switches.length) (d := s.d) (u := q) (m := s.m ||| 2 ^ x.Number.toNat) (fun y hy => hz.sw1 y (List.mem_of_mem_drop (i := s.a) (by rw [hd]; exact List.mem_cons_of_mem _ hy))) (Nat.or_lt_two_pow hj.hm hp)
      obtain ⟨k2, g1, g2, _, _⟩ := takeR_spec (c := z.c) (tot := z.u.length) (d := s.d) (m := z.m2 s) (u := (z.x1 s).2) (p := s.passed)
      unfold PC.x2
      rw [g2, e, h3, hd]
      simp only [List.length_drop, List.length_cons]; omega
    · have e : (z.x1 s).2 = x :: q := by rw [hx1, takeS, if_neg (fun h => a2 h.2)]
      unfold PC.x2
      rw [e, takeR, if_pos a1, hd]
      obtain ⟨k2, g1, g2, _, _⟩ := takeR_spec (c := z.c) (tot := z.u.length) (d := s.d) (m := z.m2 s) (u := q) (p := if cnd z.c x.Number (z.m2 s : Int) 0 0 then s.passed ++ [((z.u.length - (q.length + 1) : Nat) : Int)] else s.passed)
      rw [g2]
      simp only [List.length_drop, List.length_cons]; omega
  · simp only [a1, iff_false]
    have e : (z.x1 s).2 = x :: q := by rw [hx1, takeS, if_neg (fun h => a1 h.1)]
    unfold PC.x2
    rw [e, takeR, if_neg a1, hd]
    simp
theorem prog_step {s : PS} (hj : JP z s) : circuit_Play_L32 z.c z.l z.r z.u s.enc = if s.a < z.u.length then some (.nx (z.step s).enc) else some (.br (s.stuck, s.passed)) := by
  have h40 := hz.u40
  have hn1 := hz.vr.n1
  have hst := hj.hs
  have hdd := hj.hd
  unfold circuit_Play_L32 PS.enc
  simp only
  by_cases hlt : s.a < z.u.length
  · have e1 : (s.a : Int) < (z.u.length : Int) := by omega
    obtain ⟨_, k1, h1, h2, _⟩ := x1_spec hz hj
    have e2 : z.u.length - (z.x1 s).2.length = s.a + k1 := by rw [h2, List.length_drop]; omega
    obtain ⟨x, hx, hxe, hxm⟩ := made_arg hz s.d
    have hpp := hj.hp
    simp only [hlt, if_true, e1, decide_true, L14_play hz hj, Option.bind_some, circuit_Play_j17, rem_nat (show 0 < z.r.Nights.length by omega), hx, L21_play hz hxm, circuit_Play_j23, e2, L28_play hz h1 (show s.passed.length ≤ s.a + k1 by omega)]
    rw [hxe]
    have ex2 : takeR z.c z.u.length s.d (madeN z.c z.l (nth z.r.Nights ((s.d % z.r.Nights.length : Nat) : Int)) (z.x1 s).1) (z.u.drop (s.a + k1)) s.passed = z.x2 s := by rw [← h2]; rfl
    rw [ex2]
    obtain ⟨k, g2, g3, g4, g5⟩ := x2_spec hz hj
    have e3 : z.u.length - (z.x2 s).2.length = s.a + k := by rw [g3, List.length_drop]; omega
    unfold circuit_Play_j25 circuit_Play_j15
    rw [wr_id (by omega) (by omega), ap_ok (by simp only [List.length_cons, List.length_nil]; omega)]
    by_cases hm : (z.x2 s).2.length < (z.u.drop s.a).length
    · have hm2 : (s.a : Int) < ((z.u.length - (z.x2 s).2.length : Nat) : Int) := by rw [List.length_drop] at hm; omega
      simp only [hm2, decide_true, if_true, Option.bind_some, PC.step, hm]
      rfl
    · have hm2 : ¬ (s.a : Int) < ((z.u.length - (z.x2 s).2.length : Nat) : Int) := by rw [List.length_drop] at hm; omega
      simp only [hm2, decide_false, Bool.false_eq_true, if_false, PC.step, hm]
      rfl
  · have e1 : ¬ (s.a : Int) < (z.u.length : Int) := by omega
    simp only [hlt, if_false, e1, decide_false, Bool.false_eq_true]
theorem ref_step {s : PS} (hj : JP z s) : r03_Play_L31 z.c z.l z.r z.u s.enc = if s.a < z.u.length then some (.nx (z.step s).enc) else some (.br (s.stuck, s.passed)) := by
  have h40 := hz.u40
  have hn1 := hz.vr.n1
  have hst := hj.hs
  have hdd := hj.hd
  unfold r03_Play_L31 PS.enc
  simp only
  by_cases hlt : s.a < z.u.length
  · have e1 : (s.a : Int) < (z.u.length : Int) := by omega
    obtain ⟨_, k1, h1, h2, _⟩ := x1_spec hz hj
    have e2 : z.u.length - (z.x1 s).2.length = s.a + k1 := by rw [h2, List.length_drop]; omega
    obtain ⟨x, hx, hxe, hxm⟩ := made_arg hz s.d
    have hpp := hj.hp
    have hdr : z.u.drop s.a = nth z.u (s.a : Int) :: z.u.drop (s.a + 1) := by
      rw [List.drop_eq_getElem_cons hlt]
      simp [nth, List.getD, hlt]
    have hhere := here_eq hz hj hdr
    simp only [hlt, if_true, e1, decide_true, get_nth (l := z.u) (i := (s.a : Int)) (by omega) e1, L15_play hz hj, Option.bind_some, r03_Play_j23, rem_nat (show 0 < z.r.Nights.length by omega), hx, L22_play hz hxm, r03_Play_j29, e2, L27_play hz h1 (show s.passed.length ≤ s.a + k1 by omega)]
    rw [hxe]
    have ex2 : takeR z.c z.u.length s.d (madeN z.c z.l (nth z.r.Nights ((s.d % z.r.Nights.length : Nat) : Int)) (z.x1 s).1) (z.u.drop (s.a + k1)) s.passed = z.x2 s := by rw [← h2]; rfl
    rw [ex2]
    unfold r03_Play_j31 r03_Play_j19
    rw [wr_id (by omega) (by omega), ap_ok (by simp only [List.length_cons, List.length_nil]; omega)]
    by_cases hm : (z.x2 s).2.length < (z.u.drop s.a).length
    · have hm2 := hhere.1 hm
      simp only [hm2, decide_true, if_true, Option.bind_some, PC.step, hm]
      rfl
    · have hm2 : ¬ (nth z.u (s.a : Int)).Night = (s.d : Int) := fun h => hm (hhere.2 h)
      simp only [hm2, decide_false, Bool.false_eq_true, if_false, PC.step, hm]
      rfl
  · have e1 : ¬ (s.a : Int) < (z.u.length : Int) := by omega
    simp only [hlt, if_false, e1, decide_false, Bool.false_eq_true]
theorem run_val : ∀ (n : Nat) (s : PS), JP z s → 1001 - s.d < n → JP z (z.run n s) ∧ loopM (circuit_Play_L32 z.c z.l z.r z.u) s.enc = some ((z.run n s).stuck, (z.run n s).passed) ∧ loopM (r03_Play_L31 z.c z.l z.r z.u) s.enc = some ((z.run n s).stuck, (z.run n s).passed)
  | 0, s, _, h => by omega
  | n + 1, s, hj, h => by
    have e1 := prog_step hz hj
    have e2 := ref_step hz hj
    unfold PC.run
    by_cases hlt : s.a < z.u.length
    · rw [if_pos hlt] at e1 e2 ⊢
      rw [loopM_nx e1, loopM_nx e2]
      have hj' := step_J hz hj hlt
      have hd' : (z.step s).d = s.d + 1 := rfl
      have := hj'.hd
      exact run_val n _ hj' (by omega)
    · rw [if_neg hlt] at e1 e2 ⊢
      exact ⟨hj, loopM_br e1, loopM_br e2⟩
def s0 : PS := ⟨[], [], 0, 0, 0⟩
theorem s0_J : JP z s0 := ⟨Nat.pow_pos (by omega), Nat.zero_le _, by decide, Nat.zero_le _, Nat.zero_le _, fun x hx => by
  obtain ⟨q, h⟩ := okUps_mem hz.ups x (List.mem_of_mem_drop hx)
  exact (okUp_facts h).1⟩
def PC.fin (z : PC) : PS := z.run 1002 s0
end

def playV (c : Circuit) (l : List Trial) (r : Rota) (u : List Upset) : List Int × List Int × Int :=
  if chk c l = 0 then (if okRota l r then (if (40 : Int) < (u.length : Int) then ([], [], 33) else if okUps c none u then ((PC.fin ⟨c, l, r, u⟩).stuck, (PC.fin ⟨c, l, r, u⟩).passed, 0) else ([], [], 33)) else ([], [], 32)) else ([], [], chk c l)
section
variable {c : Circuit} (hc : OkC c) (hv : Valid c) (hk : circuit_Check c = some 0) (hk2 : r03_Check c = some 0) {l : List Trial} (hl : OkTrials l) {r : Rota} (hr : OkRota r) {u : List Upset} (hu : OkUpsets u)
include hc hv hl hr hu
include hk in
theorem Play_val : circuit_Play c l r u = some (playV c l r u) := by
  unfold circuit_Play playV
  simp only [checkRota_val hc hv hk hl hr, checkUpsets_val hc hv hu, Option.bind_some]
  by_cases g0 : chk c l = 0
  · simp only [g0, if_true]
    cases g1 : okRota l r with
    | false => rfl
    | true =>
    by_cases g2 : (40 : Int) < (u.length : Int)
    · simp only [g2, if_true]; rfl
    · simp only [g2, if_false]
      cases g3 : okUps c none u with
      | false => rfl
      | true =>
        have hz : PV ⟨c, l, r, u⟩ := ⟨hc, hv, hl, hr, hu, g0, okRota_iff.1 g1, by simp only; omega, g3⟩
        have := (run_val hz 1002 s0 (s0_J hz) (by decide)).2.1
        simp only [if_true, not_true_eq_false, decide_false, Bool.false_eq_true, if_false]
        have e : s0.enc = ([], [], 0, 0, 0) := rfl
        rw [e] at this
        simp only [this, Option.bind_some]; rfl
  · simp only [g0, if_false, not_false_eq_true, decide_true, if_true]
include hk2 in
theorem rPlay_val : r03_Play c l r u = some (playV c l r u) := by
  unfold r03_Play playV
  simp only [CheckTrials_val hc hv hk2 hl, ValidUpsets_val hc hv hu, Option.bind_some]
  by_cases g0 : chk c l = 0
  · simp only [g0, if_true, ValidRota_val (chk_zero g0).1 hr, Option.bind_some]
    cases g1 : okRota l r with
    | false => rfl
    | true =>
    by_cases g2 : (40 : Int) < (u.length : Int)
    · simp only [g2, if_true]; rfl
    · simp only [g2, if_false]
      cases g3 : okUps c none u with
      | false => rfl
      | true =>
        have hz : PV ⟨c, l, r, u⟩ := ⟨hc, hv, hl, hr, hu, g0, okRota_iff.1 g1, by simp only; omega, g3⟩
        have := (run_val hz 1002 s0 (s0_J hz) (by decide)).2.2
        simp only [if_true, not_true_eq_false, decide_false, Bool.false_eq_true, if_false, Bool.not_true]
        have e : s0.enc = ([], [], 0, 0, 0) := rfl
        rw [e] at this
        simp only [this, Option.bind_some]; rfl
  · simp only [g0, if_false, not_false_eq_true, decide_true, if_true]
theorem playV_len : (playV c l r u).1.length ≤ maxLen ∧ (playV c l r u).2.1.length ≤ maxLen := by
  unfold playV
  by_cases g0 : chk c l = 0
  · simp only [g0, if_true]
    cases g1 : okRota l r with
    | false => exact ⟨nil_len, nil_len⟩
    | true =>
    by_cases g2 : (40 : Int) < (u.length : Int)
    · simp only [g2, if_true]; exact ⟨nil_len, nil_len⟩
    · simp only [g2, if_false]
      cases g3 : okUps c none u with
      | false => exact ⟨nil_len, nil_len⟩
      | true =>
        have hz : PV ⟨c, l, r, u⟩ := ⟨hc, hv, hl, hr, hu, g0, okRota_iff.1 g1, by simp only; omega, g3⟩
        have := (run_val hz 1002 s0 (s0_J hz) (by decide)).1
        have h1 := this.hs
        have h2 := this.hp
        have h3 := this.ha
        have h4 : (u.length : Int) ≤ 40 := by omega
        have h5 : (40 : Nat) ≤ maxLen := by decide
        simp only at h1 h2 h3
        exact ⟨by show (PC.run ⟨c, l, r, u⟩ 1002 s0).stuck.length ≤ maxLen; omega, by show (PC.run ⟨c, l, r, u⟩ 1002 s0).passed.length ≤ maxLen; omega⟩
  · simp only [g0, if_false]; exact ⟨nil_len, nil_len⟩
end
theorem Plays_plain (hw : l03_works = some true) (c : Circuit) (k : l03_Kept) (u : List Upset) (hc : OkC c) (hk : OkKept k) (hu : OkUpsets u) : l03_CircuitPlays c k u = some true := by
  unfold l03_CircuitPlays
  obtain ⟨hl, hr⟩ := hk
  rcases Far_cases hc with e | ⟨e, hf⟩
  · simp [e, hw]
  obtain ⟨b, eb⟩ := farRota_val hr
  simp only [e, Option.bind_some, Bool.false_or, eb, hw]
  by_cases g : (20 : Int) < (k.Trials.length : Int)
  · simp [g]
  cases b with
  | true => simp
  | false =>
  by_cases g4 : (60 : Int) < (u.length : Int)
  · simp [g, g4]
  simp only [g, g4, decide_false, Bool.false_eq_true, if_false, Option.bind_some, Bool.or_self]
  rcases Check_cases hc hf with ⟨k1, k2, hv⟩ | ⟨k1, k2⟩
  · obtain ⟨p1, p2⟩ := playV_len hc hv hl hr hu
    simp only [Play_val hc hv k1 hl hr hu, rPlay_val hc hv k2 hl hr hu, Option.bind_some, sameInts_self p1, sameInts_self p2]
    simp
  · have a1 : circuit_check c k.Trials = some 30 := by unfold circuit_check; simp [k1]
    have a2 : circuit_checkRota c k.Trials k.Rota = some 30 := by unfold circuit_checkRota; simp [a1]
    have a3 : circuit_Play c k.Trials k.Rota u = some ([], [], 30) := by unfold circuit_Play; simp [a2]
    have a4 : r03_CheckTrials c k.Trials = some 30 := by unfold r03_CheckTrials; simp [k2]
    have a5 : r03_Play c k.Trials k.Rota u = some ([], [], 30) := by unfold r03_Play; simp [a4]
    simp [a3, a5, sameInts_self (nil_len (α := Int))]
end Go.Nw.CM

namespace Go.Nw.CM

def noShow (z : PC) (i j : Nat) : Prop := ∀ t ∈ nth z.r.Nights ((j % z.r.Nights.length : Nat) : Int), tells z.c (nth z.l t) ((2 ^ i : Nat) : Int) = false
def spaced (g : Int) : Int → List Upset → Bool
  | _, [] => true
  | last, x :: r => if x.Kind = 1 then decide (g ≤ x.Night - last) && spaced g x.Night r else spaced g last r

theorem nightStep_bit {each : List Int} (he : Sets each) {k sw : Nat} {N : Nat} (hk : k < N) : ∀ (n d : List Int), InvD N d → (∀ t ∈ n, 0 ≤ t ∧ t < each.length) → (nth (nightStep each k n d) (k : Int)).toNat.testBit sw = true →
    (nth d (k : Int)).toNat.testBit sw = true ∨ ∃ t ∈ n, (nth each t).toNat.testBit sw = true
  | [], d, _, _, h => .inl h
  | t :: n, d, hd, ht, h => by
    obtain ⟨t0, t1⟩ := ht t List.mem_cons_self
    rcases nightStep_bit he hk n _ (setStep hd he hk t0 t1) (fun t h => ht t (List.mem_cons_of_mem _ h)) h with h | ⟨t', h1, h2⟩
    · obtain ⟨m1, e1, l1⟩ := nth_sets hd.2 (i := (k : Int)) (by omega) (by have := hd.1; omega)
      obtain ⟨m2, e2, l2⟩ := nth_sets he t0 t1
      rw [e1, e2, bor_nat (by omega) (by omega)] at h
      have hlt : k < d.length := by have := hd.1; omega
      have : nth (d.set k ((m1 ||| m2 : Nat) : Int)) (k : Int) = ((m1 ||| m2 : Nat) : Int) := by simp [nth, List.getD, hlt]
      rw [this] at h
      simp only [Int.toNat_natCast, Nat.testBit_or, Bool.or_eq_true] at h
      rcases h with h | h
      · left; rw [e1]; exact h
      · right; exact ⟨t, List.mem_cons_self, by rw [e2]; exact h⟩
    · exact .inr ⟨t', List.mem_cons_of_mem _ h1, h2⟩
theorem nightStep_other {each : List Int} {k j : Nat} (hj : j ≠ k) : ∀ (n d : List Int), nth (nightStep each k n d) (j : Int) = nth d (j : Int)
  | [], d => rfl
  | t :: n, d => by
    show nth (nightStep each k n (d.set k (bor (nth d k) (nth each t)))) (j : Int) = _
    rw [nightStep_other hj n]
    have : ¬ k = j := fun h => hj h.symm
    simp [nth, List.getD, List.getElem?_set, this]
theorem dones_bit {each : List Int} {r : Rota} (he : Sets each) (hn : ∀ n ∈ r.Nights, ∀ t ∈ n, 0 ≤ t ∧ t < each.length) {j sw : Nat} (hj : j < r.Nights.length) (h : (nth (dones each r) (j : Int)).toNat.testBit sw = true) :
    ∃ t ∈ nth r.Nights (j : Int), (nth each t).toNat.testBit sw = true := by
  have key : ∀ n, n ≤ r.Nights.length → let D := (List.range n).foldl (fun d k => nightStep each k (nth r.Nights (k : Int)) d) (List.replicate r.Nights.length 0)
      InvD r.Nights.length D ∧ ((nth D (j : Int)).toNat.testBit sw = true → ∃ t ∈ nth r.Nights (j : Int), (nth each t).toNat.testBit sw = true) := by
    intro n
    induction n with
    | zero =>
      intro _
      refine ⟨⟨by simp, fun x hx => ⟨0, (List.mem_replicate.1 hx).2, by omega⟩⟩, fun hb => ?_⟩
      have e : nth (List.replicate r.Nights.length (0 : Int)) (j : Int) = 0 := by simp [nth, List.getD, hj]
      simp only [List.range_zero, List.foldl_nil, e] at hb
      simp at hb
    | succ n ih =>
      intro hle
      obtain ⟨i1, i2⟩ := ih (by omega)
      simp only [List.range_succ, List.foldl_append, List.foldl_cons, List.foldl_nil]
      generalize (List.range n).foldl (fun d k => nightStep each k (nth r.Nights (k : Int)) d) (List.replicate r.Nights.length 0) = D at *
      have hm := nth_toNat (l := r.Nights) (x := (n : Int)) (by omega) (by omega)
      refine ⟨nightStep_inv he (by omega) _ _ i1 (hn _ hm), fun hb => ?_⟩
      by_cases e : j = n
      · subst e
        rcases nightStep_bit he hj _ _ i1 (hn _ hm) hb with h | h
        · exact i2 h
        · exact h
      · rw [nightStep_other e] at hb
        exact i2 hb
  exact (key r.Nights.length (Nat.le_refl _)).2 h
theorem shownN_bit {c : Circuit} {t : Trial} {sw : Nat} : ∀ {k : Nat}, (shownN c t k).testBit sw = true → tells c t ((2 ^ sw : Nat) : Int) = true
  | 0, h => by simp [shownN] at h
  | k + 1, h => by
    simp only [shownN] at h
    split at h
    · rename_i ht
      rw [Nat.testBit_or, Bool.or_eq_true] at h
      rcases h with h | h
      · exact shownN_bit h
      · rw [Nat.testBit_two_pow] at h
        have : k = sw := by simpa using h
        rw [← this]; exact ht
    · exact shownN_bit h
theorem orF_bit {d : List Int} {f sw : Nat} : ∀ {g : Nat}, (orF d f g).testBit sw = true → ∃ k, k < g ∧ (nth d (((f + k) % d.length : Nat) : Int)).toNat.testBit sw = true
  | 0, h => by simp [orF] at h
  | g + 1, h => by
    rw [orF, Nat.testBit_or, Bool.or_eq_true] at h
    rcases h with h | h
    · obtain ⟨k, h1, h2⟩ := orF_bit h
      exact ⟨k, by omega, h2⟩
    · exact ⟨g, by omega, h⟩
theorem gapR_true {d : List Int} {g n : Nat} (h : (gapR d g n).2.2 = true) {sw f : Nat} (hs : sw < n) (hf : f < d.length) : (orF d f g).testBit sw = true := by
  cases hb : (orF d f g).testBit sw with
  | true => rfl
  | false =>
    exfalso
    have h1 : ∃ r : Gap3, gapAt d g sw = .inr r ∧ r.2.2 = false := by
      unfold gapAt
      cases hx : (List.range d.length).findSome? fun f => if (orF d f g).testBit sw then none else some (Sum.inr ((sw : Int), (f : Int), false) : Unit ⊕ Gap3) with
      | none =>
        rw [List.findSome?_eq_none_iff] at hx
        have := hx f (List.mem_range.2 hf)
        rw [hb] at this; cases this
      | some y =>
        obtain ⟨a, _, ha⟩ := List.exists_of_findSome?_eq_some hx
        split at ha
        · cases ha
        · cases ha; exact ⟨_, rfl, rfl⟩
    obtain ⟨r, e, _⟩ := h1
    have h2 : ∀ sw' r', gapAt d g sw' = .inr r' → r'.2.2 = false := by
      intro sw' r' he
      unfold gapAt at he
      cases hx : (List.range d.length).findSome? fun f => if (orF d f g).testBit sw' then none else some (Sum.inr ((sw' : Int), (f : Int), false) : Unit ⊕ Gap3) with
      | none => rw [hx] at he; cases he
      | some y =>
        rw [hx] at he
        obtain ⟨a, _, ha⟩ := List.exists_of_findSome?_eq_some hx
        split at ha
        · cases ha
        · cases ha; simp only [Option.getD_some, Sum.inr.injEq] at he; rw [← he]
    unfold gapR gapV at h
    cases hx : (List.range n).findSome? fun sw => pickG (gapAt d g sw) with
    | none =>
      rw [List.findSome?_eq_none_iff] at hx
      have := hx sw (List.mem_range.2 hs)
      rw [e] at this; cases this
    | some y =>
      rw [hx] at h
      obtain ⟨a, _, ha⟩ := List.exists_of_findSome?_eq_some hx
      cases he : gapAt d g a with
      | inl _ => rw [he] at ha; cases ha
      | inr r' =>
        rw [he] at ha
        cases ha
        simp only [Option.getD_some] at h
        rw [h2 a r' he] at h; cases h

/-- In any Gap nights some trial shows each switch. -/
theorem accepts {z : PC} (hz : PV z) (h : (rotaV z.c z.l z.r).2.2 = true) {g : Nat} (hg : z.r.Gap = (g : Int)) {i : Nat} (hi : i < z.c.Switches.length) (f : Nat) : ∃ k, k < g ∧ ¬ noShow z i (f + k) := by
  have h2 := hz.hv.sw
  have hn1 := hz.vr.n1
  have he := sets_each (c := z.c) (l := z.l) h2.2
  obtain ⟨_, hinv, _⟩ := gapArgs hz.hc hz.hv hz.hl hz.hr hz.ck hz.vr
  have hlen := hinv.1
  unfold rotaV at h
  have hb := gapR_true h hi (f := f % z.r.Nights.length) (by rw [hlen]; exact Nat.mod_lt _ (by omega))
  obtain ⟨k, hk, hb⟩ := orF_bit hb
  rw [hg, Int.toNat_natCast] at hk
  refine ⟨k, hk, fun hno => ?_⟩
  rw [hlen] at hb
  rw [show (f % z.r.Nights.length + k) % z.r.Nights.length = (f + k) % z.r.Nights.length by rw [Nat.mod_add_mod]] at hb
  have hlt := Nat.mod_lt (f + k) (show 0 < z.r.Nights.length by omega)
  obtain ⟨t, ht, hbt⟩ := dones_bit he (nights_ok hz.vr) hlt hb
  have hno := hno t ht
  have hm := nth_toNat (l := z.r.Nights) (x := (((f + k) % z.r.Nights.length : Nat) : Int)) (by omega) (by omega)
  obtain ⟨t0, t1⟩ := asc_lt (hz.vr.a _ hm) t ht
  have e : nth (eachI z.c z.l) t = shI z.c (nth z.l t) := by
    have hl : t.toNat < z.l.length := by omega
    simp [eachI, nth, List.getD, hl]
  rw [e] at hbt
  unfold shI at hbt
  rw [Int.toNat_natCast] at hbt
  rw [shownN_bit hbt] at hno; cases hno

structure NV (z : PC) (last : Int) (s : PS) : Prop where
  sp : spaced z.r.Gap last (z.u.drop s.a) = true
  lt : last < (s.d : Int)
  one : s.m = 0 ∨ ∃ i, i < z.c.Switches.length ∧ s.m = 2 ^ i ∧ ∃ t : Nat, last = t ∧ ∀ j, t ≤ j → j < s.d → noShow z i j
  st : ∀ x ∈ s.stuck, x = 0 ∨ ∃ i, i < z.c.Switches.length ∧ x = ((2 ^ i : Nat) : Int)
  pa : (crit z.c).length = 0 → s.passed = []

theorem takeS_sp {g : Int} (hg : 1 ≤ g) {d : Nat} : ∀ {u : List Upset} {last : Int} {m : Nat}, spaced g last u = true → takeS d u m = (m, u) ∨ ∃ x r, u = x :: r ∧ x.Night = (d : Int) ∧ x.Kind = 1 ∧ takeS d u m = (m ||| 2 ^ x.Number.toNat, r) ∧ g ≤ (d : Int) - last ∧ spaced g (d : Int) r = true
  | [], _, _, _ => .inl rfl
  | x :: r, last, m, h => by
    by_cases hx : x.Night = (d : Int) ∧ x.Kind = 1
    · right
      simp only [spaced, hx.2, if_true, Bool.and_eq_true, decide_eq_true_eq] at h
      rw [hx.1] at h
      refine ⟨x, r, rfl, hx.1, hx.2, ?_, h.1, h.2⟩
      rw [takeS, if_pos hx]
      rcases takeS_sp hg (d := d) (u := r) (last := (d : Int)) (m := m ||| 2 ^ x.Number.toNat) h.2 with e | ⟨_, _, _, _, _, _, g2, _⟩
      · exact e
      · omega
    · left; rw [takeS, if_neg hx]
theorem takeR_sp {c : Circuit} {tot d m : Nat} {g last : Int} : ∀ {u : List Upset} {p : List Int}, (∀ y ∈ u, y.Night = (d : Int) → y.Kind = 2 ∧ (cnd c y.Number (m : Int) 0 0 = false ∨ (crit c).length ≠ 0)) → spaced g last u = true →
    spaced g last (takeR c tot d m u p).2 = true ∧ ((crit c).length = 0 → (takeR c tot d m u p).1 = p)
  | [], p, _, h => ⟨h, fun _ => rfl⟩
  | x :: r, p, hu, h => by
    unfold takeR
    split
    · rename_i hx
      obtain ⟨k2, hc⟩ := hu x List.mem_cons_self hx
      have k1 : ¬ x.Kind = 1 := by omega
      simp only [spaced, k1, if_false] at h
      obtain ⟨h1, h2⟩ := takeR_sp (c := c) (tot := tot) (d := d) (m := m) (u := r) (p := if cnd c x.Number (m : Int) 0 0 then p ++ [((tot - (r.length + 1) : Nat) : Int)] else p) (fun y hy => hu y (List.mem_cons_of_mem _ hy)) h
      refine ⟨h1, fun h0 => ?_⟩
      rw [h2 h0]
      rcases hc with hc | hc
      · rw [hc]; rfl
      · exact absurd h0 hc
    · exact ⟨h, fun _ => rfl⟩
theorem madeN_zero {c : Circuit} {l : List Trial} : ∀ (n : List Int), madeN c l n 0 = 0
  | [] => rfl
  | t :: n => by
    show madeN c l n (if tells c (nth l t) ((0 : Nat) : Int) then 0 else 0) = 0
    rw [tells_zero]; exact madeN_zero n
theorem madeN_one {c : Circuit} {l : List Trial} {m : Nat} : ∀ (n : List Int), madeN c l n m = 0 ∨ (madeN c l n m = m ∧ ∀ t ∈ n, tells c (nth l t) (m : Int) = false)
  | [] => .inr ⟨rfl, by simp⟩
  | t :: n => by
    show madeN c l n (if tells c (nth l t) (m : Int) then 0 else m) = 0 ∨ (madeN c l n (if tells c (nth l t) (m : Int) then 0 else m) = m ∧ _)
    cases ht : tells c (nth l t) (m : Int) with
    | true => left; exact madeN_zero n
    | false =>
      rcases madeN_one (m := m) n with h | ⟨h1, h2⟩
      · exact .inl h
      · refine .inr ⟨h1, fun t' ht' => ?_⟩
        rcases List.mem_cons.1 ht' with rfl | ht'
        · exact ht
        · exact h2 t' ht'
theorem okUps_drop {c : Circuit} : ∀ {u : List Upset} {p : Option Upset} {k : Nat}, okUps c p u = true → ∃ q, okUps c q (u.drop k) = true
  | u, p, 0, h => ⟨p, h⟩
  | [], p, k + 1, h => ⟨none, rfl⟩
  | x :: u, p, k + 1, h => by
    simp only [okUps, Bool.and_eq_true] at h
    exact okUps_drop (u := u) h.2
theorem danger_rest {c : Circuit} {d : Int} : ∀ {u : List Upset} {p : Upset}, p.Night = d → p.Kind = 2 → okUps c (some p) u = true → ∀ y ∈ u, y.Night = d → y.Kind = 2
  | [], _, _, _, _, y, hy, _ => by cases hy
  | x :: u, p, hp1, hp2, h, y, hy, hd => by
    have hs := okUps_sorted h
    simp only [okUps, Bool.and_eq_true] at h
    have hx := h.1
    unfold okUp at hx
    simp only [Bool.and_eq_true, prevOk, Bool.or_eq_true, decide_eq_true_eq] at hx
    have h12 : ¬ p.Kind = 1 := by omega
    rcases List.mem_cons.1 hy with rfl | hy
    · rcases hx.2 with g | g
      · omega
      · exact g.2.resolve_left h12
    · have hle := List.rel_of_pairwise_cons hs.2 hy
      rcases hx.2 with g | g
      · omega
      · exact danger_rest (u := u) (p := x) (by omega) (g.2.resolve_left h12) h.2 y hy hd

section
variable {z : PC} (hz : PV z)
include hz
theorem wk_one (h0 : (crit z.c).length = 0) {m : Nat} (hm : m = 0 ∨ ∃ i, i < z.c.Switches.length ∧ m = 2 ^ i) : (wk z.c (m : Int)).length = 0 := by
  have h2 := hz.hv.sw
  rcases hm with rfl | ⟨i, hi, rfl⟩
  · have e := crit_nil h0 (i := 0) (by omega)
    rcases Nat.eq_zero_or_pos (wk z.c ((0 : Nat) : Int)).length with h | h
    · exact h
    · have := wk_mono hz.hc hz.hv (cl := 0) (cl' := 2 ^ 0) (sub_zero _) (by omega) (by omega) h
      omega
  · exact crit_nil h0 hi
theorem step_N (hacc : (rotaV z.c z.l z.r).2.2 = true) {last : Int} {s : PS} (hj : JP z s) (hlt : s.a < z.u.length) (hn : NV z last s) : ∃ last', NV z last' (z.step s) := by
  have h2 := hz.hv.sw
  have hg1 := hz.vr.g1
  obtain ⟨g, hg⟩ : ∃ g : Nat, z.r.Gap = g := ⟨z.r.Gap.toNat, by omega⟩
  -- the switches that stick
  have hx1 : ∃ last', spaced z.r.Gap last' (z.x1 s).2 = true ∧ last' < (s.d : Int) + 1 ∧ ((z.x1 s).1 = 0 ∨ ∃ i, i < z.c.Switches.length ∧ (z.x1 s).1 = 2 ^ i ∧ ∃ t : Nat, last' = t ∧ t ≤ s.d ∧ ∀ j, t ≤ j → j < s.d → noShow z i j) := by
    have hlt' := hn.lt
    rcases takeS_sp hg1 (d := s.d) (u := z.u.drop s.a) (last := last) (m := s.m) hn.sp with e | ⟨x, r, hd, a1, a2, e, hgap, hsp⟩
    · refine ⟨last, ?_, by omega, ?_⟩
      · unfold PC.x1; rw [e]; exact hn.sp
      · unfold PC.x1; rw [e]
        rcases hn.one with h | ⟨i, hi, hm, t, ht, hs⟩
        · exact .inl h
        · exact .inr ⟨i, hi, hm, t, ht, by omega, hs⟩
    · refine ⟨s.d, ?_, by omega, ?_⟩
      · unfold PC.x1; rw [e]; exact hsp
      · have hm0 : s.m = 0 := by
          rcases hn.one with h | ⟨i, hi, hm, t, ht, hs⟩
          · exact h
          · exfalso
            obtain ⟨k, hk, hno⟩ := accepts hz hacc hg hi t
            exact hno (hs (t + k) (by omega) (by omega))
        have hmem : x ∈ z.u := List.mem_of_mem_drop (i := s.a) (by rw [hd]; exact List.mem_cons_self)
        obtain ⟨n0, n1⟩ := hz.sw1 x hmem a2
        refine .inr ⟨x.Number.toNat, by omega, ?_, s.d, rfl, Nat.le_refl _, fun j h1 h2 => by omega⟩
        unfold PC.x1; rw [e, hm0]; simp
  obtain ⟨last', hs1, hs2, hs3⟩ := hx1
  -- the trials
  have hm2 : z.m2 s = 0 ∨ ∃ i, i < z.c.Switches.length ∧ z.m2 s = 2 ^ i ∧ ∃ t : Nat, last' = t ∧ ∀ j, t ≤ j → j < s.d + 1 → noShow z i j := by
    unfold PC.m2
    rcases hs3 with h | ⟨i, hi, hm, t, ht, htd, hs⟩
    · left; rw [h]; exact madeN_zero _
    · rcases madeN_one (c := z.c) (l := z.l) (m := (z.x1 s).1) (nth z.r.Nights ((s.d % z.r.Nights.length : Nat) : Int)) with h | ⟨h1, h3⟩
      · exact .inl h
      · refine .inr ⟨i, hi, by rw [h1, hm], t, ht, fun j j1 j2 => ?_⟩
        by_cases ej : j = s.d
        · subst ej
          intro t' ht'
          have := h3 t' ht'
          rw [hm] at this; exact this
        · exact hs j j1 (by omega)
  have hm2' : z.m2 s = 0 ∨ ∃ i, i < z.c.Switches.length ∧ z.m2 s = 2 ^ i := by
    rcases hm2 with h | ⟨i, h1, h2, _⟩
    · exact .inl h
    · exact .inr ⟨i, h1, h2⟩
  -- the dangers
  obtain ⟨hm1lt, k1, hk1, he1, _⟩ := x1_spec hz hj
  have hdang : ∀ y ∈ (z.x1 s).2, y.Night = (s.d : Int) → y.Kind = 2 := by
    obtain ⟨q, hq⟩ := okUps_drop (k := s.a + k1) hz.ups
    rw [← he1] at hq
    -- the head is no switch of this night
    have hhead : ∀ x r, (z.x1 s).2 = x :: r → ¬ (x.Night = (s.d : Int) ∧ x.Kind = 1) := by
      have : ∀ (u : List Upset) (m : Nat) x r, (takeS s.d u m).2 = x :: r → ¬ (x.Night = (s.d : Int) ∧ x.Kind = 1) := by
        intro u
        induction u with
        | nil => intro m x r h; cases h
        | cons y u ih =>
          intro m x r h
          unfold takeS at h
          split at h
          · exact ih _ x r h
          · rename_i hn; cases h; exact hn
      exact this _ _
    intro y hy hyd
    cases hrest : (z.x1 s).2 with
    | nil => rw [hrest] at hy; cases hy
    | cons x r =>
      rw [hrest] at hq hy
      have hsrt := (okUps_sorted hq).2
      simp only [okUps, Bool.and_eq_true] at hq
      have hk := okUp_kind hq.1
      have hxin : x ∈ z.u.drop s.a := by
        have : x ∈ z.u.drop (s.a + k1) := by rw [← he1, hrest]; exact List.mem_cons_self
        rw [← List.drop_drop] at this; exact List.mem_of_mem_drop this
      have hxn := hj.hn x hxin
      have hxle : x.Night ≤ (s.d : Int) := by
        rcases List.mem_cons.1 hy with rfl | hy
        · omega
        · have := List.rel_of_pairwise_cons hsrt hy; omega
      have hxd : x.Night = (s.d : Int) := by omega
      have hx2 : x.Kind = 2 := hk.resolve_left fun h => hhead x r hrest ⟨hxd, h⟩
      rcases List.mem_cons.1 hy with rfl | hy
      · exact hx2
      · exact danger_rest hxd hx2 hq.2 y hy hyd
  have hx2 := takeR_sp (c := z.c) (tot := z.u.length) (d := s.d) (m := z.m2 s) (g := z.r.Gap) (last := last') (u := (z.x1 s).2) (p := s.passed) (fun y hy hyd => by
    refine ⟨hdang y hy hyd, ?_⟩
    by_cases h0 : (crit z.c).length = 0
    · left
      have hmem : y ∈ z.u := List.mem_of_mem_drop (i := s.a + k1) (by rw [← he1]; exact hy)
      obtain ⟨q, ho⟩ := okUps_mem hz.ups y hmem
      have hk2 := hdang y hy hyd
      obtain ⟨_, n0, nr⟩ := (okUp_facts ho).2.2.2 (by omega)
      obtain ⟨h, hh, hl⟩ := inR_iff.1 nr
      rw [hh]
      have hmlt : z.m2 s < 2 ^ z.c.Switches.length := madeN_lt hm1lt
      exact safe hz.hc hz.hv hl (by omega) hmlt (op := 0) (Nat.pow_pos (by omega)) (wk_one hz h0 hm2')
    · exact .inr h0) hs1
  obtain ⟨k, g2, g3, g4, g5⟩ := x2_spec hz hj
  have ea : z.u.length - (z.x2 s).2.length = s.a + k := by rw [g3, List.length_drop]; omega
  refine ⟨last', ?_, ?_, ?_, ?_, fun h0 => ?_⟩
  · show spaced z.r.Gap last' (z.u.drop (z.u.length - (z.x2 s).2.length)) = true
    rw [ea, ← g3]; exact hx2.1
  · show last' < ((s.d + 1 : Nat) : Int)
    omega
  · exact hm2
  · intro x hx
    have hx : x ∈ (if (z.x2 s).2.length < (z.u.drop s.a).length then s.stuck ++ [((z.m2 s : Nat) : Int)] else s.stuck) := hx
    split at hx
    · rcases List.mem_append.1 hx with hx | hx
      · exact hn.st x hx
      · rcases List.mem_cons.1 hx with rfl | hx
        · rcases hm2' with h | ⟨i, h1, h2⟩
          · left; omega
          · exact .inr ⟨i, h1, by rw [h2]⟩
        · cases hx
    · exact hn.st x hx
  · show (z.x2 s).1 = []
    have := hx2.2 h0
    rw [show (z.x2 s).1 = s.passed from this]
    exact hn.pa h0
theorem run_N (hacc : (rotaV z.c z.l z.r).2.2 = true) : ∀ (n : Nat) (s : PS) (last : Int), JP z s → NV z last s → ∃ last', NV z last' (z.run n s)
  | 0, s, last, _, h => ⟨last, h⟩
  | n + 1, s, last, hj, h => by
    unfold PC.run
    by_cases hlt : s.a < z.u.length
    · rw [if_pos hlt]
      obtain ⟨last', h'⟩ := step_N hz hacc hj hlt h
      exact run_N hacc n _ last' (step_J hz hj hlt) h'
    · rw [if_neg hlt]; exact ⟨last, h⟩
end

theorem spacedL {k : l03_Kept} {u : List Upset} (hu : OkUpsets u) (hn : ∀ x ∈ u, 0 ≤ x.Night ∧ x.Night ≤ 1000) (b : Bool) : loopM (l03_CircuitNever_L15 k u) (b, -60, 0) = some (b && spaced k.Rota.Gap (-60) u) := by
  refine loop_list (f := l03_CircuitNever_L15 k u) u (fun (s : Bool × Int) j => (s.1, s.2, j)) (fun q s => s.1 && spaced k.Rota.Gap s.2 q) (fun _ s => -60 ≤ s.2 ∧ s.2 ≤ 1000)
    (fun s j x q hd hg hj hm hi => ?_) (fun s _ => by unfold l03_CircuitNever_L15; simp [spaced]) (s := (b, -60)) ⟨by simp only; omega, by simp only; omega⟩
  obtain ⟨s1, s2⟩ := s
  obtain ⟨i1, i2⟩ := hi
  simp only at i1 i2
  obtain ⟨n0, n1⟩ := hn x hm
  unfold l03_CircuitNever_L15
  simp only [hj, decide_true, if_true, hg, Option.bind_some, l03_CircuitNever_j70, wr_len hj hu.1]
  rw [wr_id (by omega) (by omega)]
  by_cases k1 : x.Kind = 1
  · simp only [k1, decide_true, if_true]
    refine .inl ⟨(s1 && decide (k.Rota.Gap ≤ x.Night - s2), x.Night), rfl, ⟨by simp only; omega, by simp only; omega⟩, ?_⟩
    simp only [spaced, k1, if_true, Bool.and_assoc]
  · simp only [k1, decide_false, Bool.false_eq_true, if_false]
    refine .inl ⟨(s1, s2), rfl, ⟨i1, i2⟩, ?_⟩
    simp only [spaced, k1, if_false]
theorem ones_pow {i : Nat} (h : i < 12) : ones (2 ^ i) = 1 := by
  have : ((List.range 12).all fun i => ones (2 ^ i) == 1) = true := by decide
  have := List.all_eq_true.1 this i (List.mem_range.2 h)
  simpa using this
theorem L23_val {c : Circuit} (hc : OkC c) (hv : Valid c) {l p : List Int} {e : Int} (hl : l.length ≤ maxLen) (h : ∀ x ∈ l, x = 0 ∨ ∃ i, i < c.Switches.length ∧ x = ((2 ^ i : Nat) : Int)) : loopM (l03_CircuitNever_L23 c (l, p, e)) 0 = some (.inl ()) := by
  have h2 := hv.sw
  refine loop_list (f := l03_CircuitNever_L23 c (l, p, e)) l (fun (_ : Unit) k => k) (fun _ _ => Sum.inl ()) (fun _ _ => True)
    (fun st k x r hd hg hk hm _ => ?_) (fun st _ => by unfold l03_CircuitNever_L23; simp) (s := ()) trivial
  have : ∃ n : Nat, r03_Ones x = some ((n : Nat) : Int) ∧ n ≤ 1 ∧ inR x c.Switches.length = true := by
    rcases h x hm with rfl | ⟨i, hi, rfl⟩
    · exact ⟨ones 0, Ones_eq (x := 0) (by omega), by decide, inR_iff.2 ⟨0, rfl, Nat.pow_pos (by omega)⟩⟩
    · have hp : 2 ^ i < 2 ^ c.Switches.length := Nat.pow_lt_pow_right (by omega) hi
      exact ⟨ones (2 ^ i), Ones_eq (pow12 hp h2.2), by rw [ones_pow (by omega)]; omega, inR_iff.2 ⟨_, rfl, hp⟩⟩
  obtain ⟨n, e1, e2, e3⟩ := this
  refine .inl ⟨(), ?_, trivial, rfl⟩
  unfold l03_CircuitNever_L23
  have e4 : ¬ (1 : Int) < ((n : Nat) : Int) := by omega
  simp only [hk, decide_true, if_true, hg, Option.bind_some, e1, e4, decide_false, Bool.false_eq_true, if_false, rSw hc hv, e3, Bool.not_true, wr_len hk hl]

theorem Never_plain (hw : l03_works = some true) (c : Circuit) (k : l03_Kept) (u : List Upset) (hc : OkC c) (hk : OkKept k) (hu : OkUpsets u) : l03_CircuitNever c k u = some true := by
  unfold l03_CircuitNever
  obtain ⟨hl, hr⟩ := hk
  rcases Far_cases hc with e | ⟨e, hf⟩
  · simp [e, hw]
  obtain ⟨b, eb⟩ := farRota_val hr
  cases b with
  | true => simp [e, eb, hw]
  | false =>
  rcases Check_cases hc hf with ⟨k1, k2, hv⟩ | ⟨k1, k2⟩
  rotate_left
  · have a4 : r03_CheckTrials c k.Trials = some 30 := by unfold r03_CheckTrials; simp [k2]
    simp [e, eb, a4, hw]
  simp only [e, eb, Option.bind_some, Bool.false_eq_true, if_false, CheckTrials_val hc hv k2 hl, ValidUpsets_val hc hv hu, hw]
  by_cases g0 : chk c k.Trials = 0
  rotate_left
  · simp [g0]
  simp only [g0, not_true_eq_false, decide_false, Bool.false_eq_true, if_false, ValidRota_val (chk_zero g0).1 hr, Option.bind_some]
  cases g1 : okRota k.Trials k.Rota with
  | false => simp
  | true =>
  simp only [Bool.not_true, Bool.false_eq_true, if_false]
  by_cases g2 : (40 : Int) < (u.length : Int)
  · simp [g2]
  simp only [g2, if_false]
  cases g3 : okUps c none u with
  | false => simp
  | true =>
  have hz : PV ⟨c, k.Trials, k.Rota, u⟩ := ⟨hc, hv, hl, hr, hu, g0, okRota_iff.1 g1, by simp only; omega, g3⟩
  have hpv : playV c k.Trials k.Rota u = ((PC.fin ⟨c, k.Trials, k.Rota, u⟩).stuck, (PC.fin ⟨c, k.Trials, k.Rota, u⟩).passed, 0) := by
    unfold playV; simp only [g0, g1, g2, g3, if_true, if_false]
  have hcr : checkRotaR c k.Trials k.Rota = ((rotaV c k.Trials k.Rota).1, (rotaV c k.Trials k.Rota).2.1, (rotaV c k.Trials k.Rota).2.2, 0) := by
    unfold checkRotaR; simp only [g0, g1, if_true]
  have hnn : ∀ x ∈ u, 0 ≤ x.Night ∧ x.Night ≤ 1000 := fun x hx => by
    obtain ⟨q, h⟩ := okUps_mem g3 x hx
    exact ⟨(okUp_facts h).1, (okUp_facts h).2.1⟩
  simp only [Bool.not_true, Bool.false_eq_true, if_false, CheckRota_val hc hv k1 hl hr, Critical_val hc hv k1, Play_val hc hv k1 hl hr hu, Option.bind_some, hcr, hpv, not_true_eq_false, decide_false, Bool.or_self, spacedL hu hnn, l03_CircuitNever_j38]
  cases g4 : ((rotaV c k.Trials k.Rota).2.2 && spaced k.Rota.Gap (-60) u) with
  | false => simp [hw]
  | true =>
  rw [Bool.and_eq_true] at g4
  have hN0 : NV ⟨c, k.Trials, k.Rota, u⟩ (-60) s0 := ⟨g4.2, (by decide), .inl rfl, fun x hx => (by cases hx), fun _ => rfl⟩
  obtain ⟨last', hN⟩ := run_N hz g4.1 1002 s0 (-60) (s0_J hz) hN0
  have hlen := (playV_len hc hv hl hr hu).1
  rw [hpv] at hlen
  simp only [Bool.not_true, Bool.false_eq_true, if_false, L23_val hc hv hlen hN.st, Option.bind_some, l03_CircuitNever_j44, hw]
  by_cases g5 : (0 : Int) < ((crit c).length : Int)
  · simp only [g5, decide_true, Bool.true_or, if_true, Option.bind_some]
  · have : (PC.fin ⟨c, k.Trials, k.Rota, u⟩).passed = [] := hN.pa (by show (crit c).length = 0; omega)
    simp [this]
end Go.Nw.CM

namespace Go.Nw.CM
/- what the nights of a rota show -/
theorem nightStep_at {each : List Int} {k : Nat} : ∀ (n d : List Int), k < d.length → nth (nightStep each k n d) (k : Int) = n.foldl (fun s t => bor s (nth each t)) (nth d (k : Int))
  | [], d, _ => rfl
  | t :: n, d, hk => by
    show nth (nightStep each k n (d.set k (bor (nth d k) (nth each t)))) (k : Int) = _
    rw [nightStep_at n _ (by simpa using hk)]
    have : nth (d.set k (bor (nth d k) (nth each t))) (k : Int) = bor (nth d k) (nth each t) := by simp [nth, List.getD, hk]
    rw [this]; rfl
theorem nightStep_len {each : List Int} {k : Nat} : ∀ (n d : List Int), (nightStep each k n d).length = d.length
  | [], _ => rfl
  | t :: n, d => by
    show (nightStep each k n (d.set k (bor (nth d k) (nth each t)))).length = _
    rw [nightStep_len n]; simp
theorem dones_at {each : List Int} {r : Rota} : (dones each r).length = r.Nights.length ∧ ∀ j : Nat, j < r.Nights.length → nth (dones each r) (j : Int) = (nth r.Nights (j : Int)).foldl (fun s t => bor s (nth each t)) 0 := by
  have key : ∀ n, n ≤ r.Nights.length → ((List.range n).foldl (fun d k => nightStep each k (nth r.Nights (k : Int)) d) (List.replicate r.Nights.length 0)).length = r.Nights.length ∧
      ∀ j : Nat, j < r.Nights.length → nth ((List.range n).foldl (fun d k => nightStep each k (nth r.Nights (k : Int)) d) (List.replicate r.Nights.length 0)) (j : Int) = if j < n then (nth r.Nights (j : Int)).foldl (fun s t => bor s (nth each t)) 0 else 0 := by
    intro n
    induction n with
    | zero => intro _; exact ⟨by simp, fun j hj => by simp [nth, List.getD, hj]⟩
    | succ n ih =>
      intro hle
      obtain ⟨i1, i2⟩ := ih (by omega)
      simp only [List.range_succ, List.foldl_append, List.foldl_cons, List.foldl_nil]
      generalize (List.range n).foldl (fun d k => nightStep each k (nth r.Nights (k : Int)) d) (List.replicate r.Nights.length 0) = D at *
      refine ⟨by rw [nightStep_len]; exact i1, fun j hj => ?_⟩
      by_cases e : j = n
      · subst e
        rw [nightStep_at _ _ (by omega), i2 j hj, if_neg (by omega), if_pos (by omega)]
      · rw [nightStep_other e, i2 j hj]
        by_cases g : j < n
        · rw [if_pos g, if_pos (by omega)]
        · rw [if_neg g, if_neg (by omega)]
  obtain ⟨h1, h2⟩ := key r.Nights.length (Nat.le_refl _)
  exact ⟨h1, fun j hj => by have := h2 j hj; rw [if_pos hj] at this; exact this⟩
theorem nth_ext {α : Type} [Inhabited α] {a b : List α} (hl : a.length = b.length) (h : ∀ j : Nat, j < a.length → nth a (j : Int) = nth b (j : Int)) : a = b := by
  apply List.ext_getElem hl
  intro j h1 h2
  have := h j h1
  simpa [nth, List.getD, h1, h2] using this
theorem nth_map {α β : Type} [Inhabited α] [Inhabited β] {l : List α} {f : α → β} {j : Nat} (h : j < l.length) : nth (l.map f) (j : Int) = f (nth l (j : Int)) := by
  simp [nth, List.getD, h]

def oneN (x : Int) : List Int := if 0 ≤ x then [x] else []
def setN (each : List Int) (x : Int) : Int := if 0 ≤ x then nth each x else 0
def asRota (list : List Int) (g : Int) : Rota := ⟨list.map oneN, g⟩
def tried (l : List Int) : Nat := (l.filter fun x => decide (0 ≤ x)).length
def InRange (n : Nat) (list : List Int) : Prop := ∀ x ∈ list, -1 ≤ x ∧ x < (n : Int)
theorem tried_le (l : List Int) : tried l ≤ l.length := List.length_filter_le _ _
theorem tried_cons {x : Int} {r : List Int} : tried (x :: r) = (if 0 ≤ x then 1 else 0) + tried r := by
  unfold tried
  by_cases h : 0 ≤ x
  · simp [h]; omega
  · simp [h]
theorem zero_or {m : Nat} (h : m < 4096) : bor 0 ((m : Nat) : Int) = m := by
  have := bor_nat (a := 0) (b := m) (by omega) (by omega)
  rw [show ((0 : Nat) : Int) = 0 from rfl] at this
  rw [this]; simp
theorem dones_as {each list : List Int} {g : Int} (he : Sets each) (hr : InRange each.length list) : dones each (asRota list g) = list.map (setN each) := by
  obtain ⟨h1, h2⟩ := dones_at (each := each) (r := asRota list g)
  have hl : (asRota list g).Nights.length = list.length := by simp [asRota]
  refine nth_ext (by rw [h1, hl]; simp) fun j hj => ?_
  rw [h1] at hj
  rw [h2 j hj]
  rw [hl] at hj
  have e1 : nth (asRota list g).Nights (j : Int) = oneN (nth list (j : Int)) := nth_map hj
  rw [e1, nth_map hj]
  have hm := nth_toNat (l := list) (x := (j : Int)) (by omega) (by omega)
  obtain ⟨r1, r2⟩ := hr _ hm
  unfold oneN setN
  split
  · rename_i h0
    obtain ⟨m, e, lm⟩ := nth_sets he h0 r2
    simp only [List.foldl_cons, List.foldl_nil, e, zero_or lm]
  · rfl
theorem sets_as {each list : List Int} (he : Sets each) (hr : InRange each.length list) : Sets (list.map (setN each)) := fun x hx => by
  obtain ⟨y, hy, rfl⟩ := List.mem_map.1 hx
  obtain ⟨r1, r2⟩ := hr y hy
  unfold setN
  split
  · rename_i h0; exact nth_sets he h0 r2
  · exact ⟨0, rfl, by omega⟩
theorem AsRota_val {list : List Int} (hl : list.length ≤ 1000) (g : Int) : r03_AsRota list g = some (asRota list g) := by
  have h := loop_list (f := r03_AsRota_L9 list) list (fun (s : List (List Int)) k => (s, k)) (fun r s => s ++ r.map oneN) (fun k s => s.length = k)
    (fun s k x r hd hg hk hm hi => by
      unfold r03_AsRota_L9
      simp only [hk, decide_true, if_true, hg, Option.bind_some, r03_AsRota_j10]
      rw [ap_ok (by simp only [List.length_cons, List.length_nil]; omega), ap_ok (by simp only [List.length_cons, List.length_nil]; omega), wr_len hk (show list.length ≤ maxLen from Nat.le_trans hl (by decide))]
      refine .inl ⟨s ++ [oneN x], ?_, by simp [hi], by simp⟩
      unfold oneN
      by_cases h0 : 0 ≤ x <;> simp [h0])
    (fun s _ => by unfold r03_AsRota_L9; simp) (s := []) rfl
  unfold r03_AsRota
  rw [h]; rfl
theorem tried_val {list : List Int} (hl : list.length ≤ 1000) : r03_tried list = some ((tried list : Nat) : Int) := by
  have h := loop_list (f := r03_tried_L7 list) list (fun (s : Nat) k => ((s : Int), k)) (fun r s => ((s + tried r : Nat) : Int)) (fun k s => s ≤ k)
    (fun s k x r hd hg hk hm hi => by
      unfold r03_tried_L7
      simp only [hk, decide_true, if_true, hg, Option.bind_some, r03_tried_j7, wr_len hk (show list.length ≤ maxLen from Nat.le_trans hl (by decide))]
      rw [wr_id (n := (s : Int) + 1) (by omega) (by omega), tried_cons]
      by_cases h0 : 0 ≤ x
      · refine .inl ⟨s + 1, by simp [h0], by omega, ?_⟩
        simp only [h0, if_true]; omega
      · refine .inl ⟨s, by simp [h0], by omega, ?_⟩
        simp only [h0, if_false]; omega)
    (fun s _ => by unfold r03_tried_L7; simp [tried]) (s := 0) (Nat.le_refl _)
  unfold r03_tried
  rw [show (((0 : Nat) : Int)) = 0 from rfl] at h
  rw [h]; simp [r03_tried_j2]

/- lists by numbers -/
def dig (b n x j : Nat) : Int := ((x / b ^ (n - 1 - j) % b : Nat) : Int) - 1
def listOf (b n x : Nat) : List Int := (List.range n).map (dig b n x)
theorem listOf_len (b n x : Nat) : (listOf b n x).length = n := by simp [listOf]
theorem listOf_nth {b n x j : Nat} (h : j < n) : nth (listOf b n x) (j : Int) = dig b n x j := by
  unfold listOf
  simp [nth, List.getD, h]
theorem listOf_range {m n x : Nat} : InRange m (listOf (m + 1) n x) := fun y hy => by
  obtain ⟨j, _, rfl⟩ := List.mem_map.1 hy
  have := Nat.mod_lt (x / (m + 1) ^ (n - 1 - j)) (show 0 < m + 1 by omega)
  unfold dig; omega
theorem listOf_succ (b n x : Nat) : listOf b (n + 1) x = listOf b n (x / b) ++ [((x % b : Nat) : Int) - 1] := by
  unfold listOf
  rw [List.range_succ, List.map_append]
  congr 1
  · apply List.map_congr_left
    intro j hj
    have hj := List.mem_range.1 hj
    unfold dig
    rw [show n + 1 - 1 - j = (n - 1 - j) + 1 by omega, Nat.pow_succ, Nat.mul_comm, ← Nat.div_div_eq_div_mul]
  · simp [dig]
theorem listOf_onto {m : Nat} : ∀ (n : Nat) (l : List Int), l.length = n → InRange m l → ∃ x, x < (m + 1) ^ n ∧ listOf (m + 1) n x = l
  | 0, l, hl, _ => ⟨0, by simp, by rw [List.eq_nil_of_length_eq_zero hl]; rfl⟩
  | n + 1, l, hl, hr => by
    have hne : l ≠ [] := fun e => by rw [e] at hl; simp at hl
    obtain ⟨l', y, rfl⟩ : ∃ l' y, l = l' ++ [y] := ⟨l.dropLast, l.getLast hne, (List.dropLast_concat_getLast hne).symm⟩
    obtain ⟨x, hx, e⟩ := listOf_onto (m := m) n l' (by simpa using hl) (fun z hz => hr z (List.mem_append_left _ hz))
    obtain ⟨y0, y1⟩ := hr y (by simp)
    obtain ⟨k, hk⟩ : ∃ k : Nat, y = (k : Int) - 1 := ⟨(y + 1).toNat, by omega⟩
    have hkm : k < m + 1 := by omega
    have hd : (x * (m + 1) + k) / (m + 1) = x := by
      rw [Nat.mul_comm, Nat.mul_add_div (by omega), Nat.div_eq_of_lt hkm]; rfl
    have hmm : (x * (m + 1) + k) % (m + 1) = k := by rw [Nat.mul_comm, Nat.mul_add_mod, Nat.mod_eq_of_lt hkm]
    refine ⟨x * (m + 1) + k, ?_, ?_⟩
    · rw [Nat.pow_succ]
      have : (x + 1) * (m + 1) ≤ (m + 1) ^ n * (m + 1) := Nat.mul_le_mul_right _ hx
      rw [Nat.succ_mul] at this; omega
    · rw [listOf_succ, hd, hmm, e, hk]
theorem quo_nat {a b : Nat} (hb : 0 < b) (ha : a < 4611686018427387904) : quo .i64 (a : Int) (b : Int) = some ((a / b : Nat) : Int) := by
  rw [quo_ok (by omega), ← Int.ofNat_tdiv]
  have := Nat.div_le_self a b
  rw [wrap_nat (by omega)]
theorem drop_tried {l : List Int} {k : Nat} {x : Int} (h : k < l.length) (e : nth l (k : Int) = x) : tried (l.drop k) = (if 0 ≤ x then 1 else 0) + tried (l.drop (k + 1)) := by
  have : l.drop k = nth l (k : Int) :: l.drop (k + 1) := by
    rw [List.drop_eq_getElem_cons h]; simp [nth, List.getD, h]
  rw [this, tried_cons, e]

section
variable {b n : Nat} (hb : 1 ≤ b) (hb13 : b ≤ 13) (hn : n ≤ 60)
include hb hb13 hn
/-- The program's lists and sets of a number. -/
theorem L30_val {l : List Trial} {each : List Int} {w : Int} {x : Nat} {ls0 ss0 : List Int} (hl : l.length + 1 = b) (he : Sets each) (hel : each.length = l.length) (hx : x < 4611686018427387904) (h1 : ls0.length = n) (h2 : ss0.length = n) :
    loopM (circuit_Rota_L30 l (each, w)) (ls0, ss0, 0, (n : Int) - 1, (x : Int)) = some (listOf b n x, (listOf b n x).map (setN each), ((tried (listOf b n x) : Nat) : Int)) := by
  obtain ⟨r, e, rfl⟩ := loop_inv (f := circuit_Rota_L30 l (each, w)) n (fun (s : List Int × List Int × Nat × Nat) k => (s.1, s.2.1, (s.2.2.1 : Int), (n : Int) - 1 - k, (s.2.2.2 : Int)))
    (fun k s => s.1.length = n ∧ s.2.1.length = n ∧ s.2.2.2 = x / b ^ k ∧ s.2.2.1 = tried ((listOf b n x).drop (n - k)) ∧ s.2.2.1 ≤ k ∧ ∀ j, n - k ≤ j → j < n → nth s.1 (j : Int) = dig b n x j ∧ nth s.2.1 (j : Int) = setN each (dig b n x j))
    (fun r => r = (listOf b n x, (listOf b n x).map (setN each), ((tried (listOf b n x) : Nat) : Int)))
    (fun s k hk hi => by
      obtain ⟨s1, s2, s3, s4⟩ := s
      obtain ⟨i1, i2, i3, i4, i5, i6⟩ := hi
      simp only at i1 i2 i3 i4 i5 i6
      have hq : x / b ^ k ≤ x := Nat.div_le_self _ _
      have hm := Nat.mod_lt (x / b ^ k) (show 0 < b by omega)
      obtain ⟨p, hp⟩ : ∃ p, p + k + 1 = n := ⟨n - 1 - k, by omega⟩
      have ei : (n : Int) - 1 - (k : Int) = (p : Int) := by omega
      have ed : dig b n x p = ((x / b ^ k % b : Nat) : Int) - 1 := by unfold dig; rw [show n - 1 - p = k by omega]
      have ewl : wr ((l.length : Int) + 1) = (b : Int) := by rw [wr_id (by omega) (by omega)]; omega
      have edw : wr (((x / b ^ k % b : Nat) : Int) - 1) = dig b n x p := by rw [wr_id (by omega) (by omega), ed]
      have ei1 : wr ((p : Int) - 1) = (n : Int) - 1 - ((k : Int) + 1) := by rw [wr_id (by omega) (by omega)]; omega
      have hp0 : (0 : Int) ≤ (p : Int) := by omega
      have hget : ∀ (q : List Int) (v : Int), q.length = n → get (q.set p v) (p : Int) = some v := fun q v hq => by
        have : p < q.length := by omega
        simp [get, this]
      have hdrop := drop_tried (l := listOf b n x) (k := p) (x := dig b n x p) (by rw [listOf_len]; omega) (listOf_nth (by omega))
      rw [show n - k = p + 1 by omega] at i4 i6
      refine .inl ⟨((s1.set p (dig b n x p)), (s2.set p (setN each (dig b n x p))), (if 0 ≤ dig b n x p then s3 + 1 else s3), s4 / b), ?_, ?_, ?_, ?_, ?_, ?_, ?_⟩
      · unfold circuit_Rota_L30
        simp only [ei, hp0, decide_true, if_true, ewl, i3]
        rw [rem_nat (show 0 < b by omega)]
        simp only [Option.bind_some, get_nth (l := s1) (i := (p : Int)) hp0 (by omega), get_nth (l := s2) (i := (p : Int)) hp0 (by omega), Int.toNat_natCast, edw, hget s1 _ i1, hget s2 _ i2]
        by_cases h0 : 0 ≤ dig b n x p
        · have hlt : dig b n x p < (each.length : Int) := by rw [ed]; omega
          simp only [h0, decide_true, if_true, get_nth (l := each) (i := dig b n x p) h0 hlt, Option.bind_some, circuit_Rota_j40, ewl, ei1]
          rw [quo_nat (show 0 < b by omega) (by omega), wr_id (n := (s3 : Int) + 1) (by omega) (by omega)]
          simp only [Option.bind_some, setN, h0, if_true, List.set_set]
          rfl
        · simp only [h0, decide_false, Bool.false_eq_true, if_false, circuit_Rota_j40, ewl, ei1]
          rw [quo_nat (show 0 < b by omega) (by omega)]
          simp only [Option.bind_some, setN, h0, if_false]
      · simpa using i1
      · simpa using i2
      · simp only [i3, Nat.pow_succ, Nat.div_div_eq_div_mul]
      · simp only
        rw [show n - (k + 1) = p by omega, hdrop, i4]
        split <;> omega
      · simp only; split <;> omega
      · intro j hj1 hj2
        rw [show n - (k + 1) = p by omega] at hj1
        simp only
        by_cases e : j = p
        · subst e
          have a1 : j < s1.length := by omega
          have a2 : j < s2.length := by omega
          simp [nth, List.getD, a1, a2]
        · have : ¬ p = j := fun h => e h.symm
          have := i6 j (by omega) hj2
          simpa [nth, List.getD, List.getElem?_set, show ¬ p = j from fun h => e h.symm] using this)
    (fun s hi => by
      obtain ⟨s1, s2, s3, s4⟩ := s
      obtain ⟨i1, i2, i3, i4, i5, i6⟩ := hi
      simp only at i1 i2 i3 i4 i5 i6
      refine ⟨_, ?_, rfl⟩
      have e0 : ¬ (0 : Int) ≤ (n : Int) - 1 - (n : Int) := by omega
      unfold circuit_Rota_L30
      simp only [e0, decide_false, Bool.false_eq_true, if_false]
      rw [Nat.sub_self, List.drop_zero] at i4
      have f1 : s1 = listOf b n x := nth_ext (by rw [i1, listOf_len]) fun j hj => by rw [(i6 j (by omega) (by omega)).1, listOf_nth (by omega)]
      have f2 : s2 = (listOf b n x).map (setN each) := nth_ext (by rw [i2, List.length_map, listOf_len]) fun j hj => by rw [(i6 j (by omega) (by omega)).2, nth_map (by rw [listOf_len]; omega), listOf_nth (by omega)]
      rw [f1, f2, i4])
    (s := (ls0, ss0, 0, x)) 0 (Nat.zero_le _) ⟨h1, h2, by simp, by simp [List.drop_of_length_le, listOf_len, tried], Nat.le_refl _, fun j h h' => by omega⟩
  simp only [Int.natCast_zero, Int.sub_zero] at e
  exact e
theorem L25_val' {l : List Trial} {x : Nat} {ls0 : List Int} (hl : l.length + 1 = b) (hx : x < 4611686018427387904) (h1 : ls0.length = n) :
    loopM (r03_Rota_L25 l) (ls0, (x : Int), (n : Int) - 1) = some (listOf b n x) := by
  obtain ⟨r, e, rfl⟩ := loop_inv (f := r03_Rota_L25 l) n (fun (s : List Int × Nat) k => (s.1, (s.2 : Int), (n : Int) - 1 - k))
    (fun k s => s.1.length = n ∧ s.2 = x / b ^ k ∧ ∀ j, n - k ≤ j → j < n → nth s.1 (j : Int) = dig b n x j)
    (fun r => r = listOf b n x)
    (fun s k hk hi => by
      obtain ⟨s1, s4⟩ := s
      obtain ⟨i1, i3, i6⟩ := hi
      simp only at i1 i3 i6
      have hq : x / b ^ k ≤ x := Nat.div_le_self _ _
      have hm := Nat.mod_lt (x / b ^ k) (show 0 < b by omega)
      obtain ⟨p, hp⟩ : ∃ p, p + k + 1 = n := ⟨n - 1 - k, by omega⟩
      have ei : (n : Int) - 1 - (k : Int) = (p : Int) := by omega
      have ed : dig b n x p = ((x / b ^ k % b : Nat) : Int) - 1 := by unfold dig; rw [show n - 1 - p = k by omega]
      have ewl : wr ((l.length : Int) + 1) = (b : Int) := by rw [wr_id (by omega) (by omega)]; omega
      have edw : wr (((x / b ^ k % b : Nat) : Int) - 1) = dig b n x p := by rw [wr_id (by omega) (by omega), ed]
      have ei1 : wr ((p : Int) - 1) = (n : Int) - 1 - ((k : Int) + 1) := by rw [wr_id (by omega) (by omega)]; omega
      have hp0 : (0 : Int) ≤ (p : Int) := by omega
      rw [show n - k = p + 1 by omega] at i6
      refine .inl ⟨((s1.set p (dig b n x p)), s4 / b), ?_, ?_, ?_, ?_⟩
      · unfold r03_Rota_L25
        simp only [ei, hp0, decide_true, if_true, ewl, i3]
        rw [rem_nat (show 0 < b by omega), quo_nat (show 0 < b by omega) (by omega)]
        simp only [Option.bind_some, get_nth (l := s1) (i := (p : Int)) hp0 (by omega), Int.toNat_natCast, edw, ei1]
      · simpa using i1
      · simp only [i3, Nat.pow_succ, Nat.div_div_eq_div_mul]
      · intro j hj1 hj2
        rw [show n - (k + 1) = p by omega] at hj1
        simp only
        by_cases e : j = p
        · subst e
          have a1 : j < s1.length := by omega
          simp [nth, List.getD, a1]
        · have := i6 j (by omega) hj2
          simpa [nth, List.getD, List.getElem?_set, show ¬ p = j from fun h => e h.symm] using this)
    (fun s hi => by
      obtain ⟨s1, s4⟩ := s
      obtain ⟨i1, i3, i6⟩ := hi
      simp only at i1 i3 i6
      have e0 : ¬ (0 : Int) ≤ (n : Int) - 1 - (n : Int) := by omega
      have f1 : s1 = listOf b n x := nth_ext (by rw [i1, listOf_len]) fun j hj => by rw [i6 j (by omega) (by omega), listOf_nth (by omega)]
      refine ⟨s1, ?_, f1⟩
      unfold r03_Rota_L25
      simp only [e0, decide_false, Bool.false_eq_true, if_false])
    (s := (ls0, x)) 0 (Nat.zero_le _) ⟨h1, by simp, fun j h h' => by omega⟩
  simp only [Int.natCast_zero, Int.sub_zero] at e
  exact e
end
end Go.Nw.CM
