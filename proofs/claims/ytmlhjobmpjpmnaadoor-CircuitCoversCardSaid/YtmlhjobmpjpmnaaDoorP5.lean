/- Plain laws on the models. -/
import Derived.Test.YtmlhjobmpjpmnaaDoorDMLaws
import Derived.Test.YtmlhjobmpjpmnaaDoorDMWorks
set_option linter.all false
set_option linter.unusedVariables false
set_option linter.unusedSimpArgs false
set_option linter.unusedSectionVars false
namespace Go.Nw.DM
theorem sub_bits {n x i : Nat} (hx : x < 2 ^ n) : (2 ^ n - 1 - x).testBit i = (decide (i < n) && !x.testBit i) := by
  rw [show 2 ^ n - 1 - x = 2 ^ n - (x + 1) by omega]
  exact Nat.testBit_two_pow_sub_succ hx i
theorem bclr_full {n x : Nat} (hn : n ≤ 12) (hx : x < 2 ^ n) : bclr (((2 ^ n - 1 : Nat)) : Int) (x : Int) = ((2 ^ n - 1 - x : Nat) : Int) := by
  have hp := Nat.pow_le_pow_right (n := 2) (show 0 < 2 by omega) hn
  show IntKind.wrap .i64 ((BitVec.ofInt 64 ((2 ^ n - 1 : Nat) : Int) &&& ~~~BitVec.ofInt 64 (x : Int)).toNat : Int) = _
  have e : (BitVec.ofInt 64 ((2 ^ n - 1 : Nat) : Int) &&& ~~~BitVec.ofInt 64 (x : Int)).toNat = 2 ^ n - 1 - x := by
    rw [BitVec.toNat_and, BitVec.toNat_not, ofInt_nat (2 ^ n - 1) (by omega), ofInt_nat x (by omega)]
    apply Nat.eq_of_testBit_eq
    intro i
    rw [Nat.testBit_and, sub_bits hx, Nat.testBit_two_pow_sub_one, sub_bits (n := 64) (by omega)]
    by_cases h : i < n
    · have : i < 64 := by omega
      simp [h, this]
    · simp [h]
  rw [e]
  exact wrap_nat (show _ < 2 ^ 63 by omega)
section
variable {c : Circuit} (hc : OkC c) (hv : Valid c) {l : List Trial} (hl : OkTrials l)
include hc hv hl
section
variable (hk : circuit_Check c = some 0) (hz : chk c l = 0)
include hk hz
theorem Shows_ok {i : Nat} (hi : i < l.length) : circuit_Shows c l (i : Int) = some (memI (shK c l i) c.Switches.length, 0) := by
  obtain ⟨h12, ht⟩ := chk_zero hz
  have h1 : ¬ (i : Int) < 0 := by omega
  have h2 : ¬ (l.length : Int) ≤ (i : Int) := by omega
  unfold circuit_Shows
  simp only [check_val hc hv hk hl, hz, Option.bind_some, not_true_eq_false, decide_false, Bool.false_eq_true, if_false, h1, h2, Bool.or_self, get_nth (l := l) (i := (i : Int)) (by omega) (by omega), shown_val hc hv (nthT hc hv h12 ht i hi), shI_shK hc hv h12 ht, elements_eq (shK_lt c l i) hv.sw.2]
theorem Blind_ok : circuit_Blind c l = some (memI (2 ^ c.Switches.length - 1 - whole c l) c.Switches.length, 0) := by
  obtain ⟨h12, ht⟩ := chk_zero hz
  have hs12 := hv.sw.2
  have hp := Nat.pow_le_pow_right (n := 2) (show 0 < 2 by omega) hs12
  have hp0 : 0 < 2 ^ c.Switches.length := Nat.pow_pos (by omega)
  have hw := whole_lt hc hv h12 ht
  have ew : wr (((2 ^ c.Switches.length : Nat) : Int) - 1) = ((2 ^ c.Switches.length - 1 : Nat) : Int) := by rw [wr_id (by omega) (by omega)]; omega
  unfold circuit_Blind
  simp only [check_val hc hv hk hl, hz, Option.bind_some, not_true_eq_false, decide_false, Bool.false_eq_true, if_false, all_val hc hv h12 ht, shl_nat (y := c.Switches.length) (by omega), ew, bclr_full hs12 hw, elements_eq (x := 2 ^ c.Switches.length - 1 - whole c l) (n := c.Switches.length) (by omega) hs12]
theorem Fewest_ok : ∃ b, circuit_Fewest c l = some (memI b l.length, 0) ∧ bestF c l (2 ^ l.length) = some b ∧ b < 2 ^ l.length ∧ covers c l b = true ∧ ∀ s, s < 2 ^ l.length → covers c l s = true → ones b ≤ ones s := by
  obtain ⟨h12, ht⟩ := chk_zero hz
  obtain ⟨b, hb, h1, h2, h3⟩ := best_some hc hv h12 ht
  refine ⟨b, ?_, hb, h1, h2, h3⟩
  have h := progF hc hv h12 ht (w := ((whole c l : Nat) : Int)) rfl
  unfold circuit_Fewest
  simp only [check_val hc hv hk hl, hz, Option.bind_some, not_true_eq_false, decide_false, Bool.false_eq_true, if_false, all_val hc hv h12 ht, shl_nat (y := l.length) (by omega), h, hb, circuit_Fewest_j10, Option.map_some, Option.getD_some]
end
section
variable (hr : r03_Check c = some 0) (hz : chk c l = 0)
include hr hz
theorem rShows_ok {i : Nat} (hi : i < l.length) : r03_Shows c l (i : Int) = some (memI (shK c l i) c.Switches.length, 0) := by
  obtain ⟨h12, ht⟩ := chk_zero hz
  have e : (!(r03_within (i : Int) 0 (wr ((l.length : Int) - 1)))) = false := by
    rw [wr_id (by omega) (by omega)]
    have h1 : (0 : Int) ≤ (i : Int) := by omega
    have h2 : (i : Int) ≤ (l.length : Int) - 1 := by omega
    simp [r03_within, h1, h2]
  have hs12 := hv.sw.2
  have hb := pow12 (shK_lt c l i) hs12
  unfold r03_Shows
  simp only [CheckTrials_val hc hv hr hl, hz, Option.bind_some, not_true_eq_false, decide_false, Bool.false_eq_true, if_false, e, get_nth (l := l) (i := (i : Int)) (by omega) (by omega), rshown_val hc hv (nthT hc hv h12 ht i hi), shI_shK hc hv h12 ht, members_eq hb hs12]
theorem rBlind_ok : r03_Blind c l = some (memI (2 ^ c.Switches.length - 1 - whole c l) c.Switches.length, 0) := by
  obtain ⟨h12, ht⟩ := chk_zero hz
  have hs12 := hv.sw.2
  have hp := Nat.pow_le_pow_right (n := 2) (show 0 < 2 by omega) hs12
  have hp0 : 0 < 2 ^ c.Switches.length := Nat.pow_pos (by omega)
  have hq := Nat.pow_le_pow_right (n := 2) (show 0 < 2 by omega) h12
  have hq0 : 0 < 2 ^ l.length := Nat.pow_pos (by omega)
  have hw := whole_lt hc hv h12 ht
  have ew : wr (((2 ^ c.Switches.length : Nat) : Int) - 1) = ((2 ^ c.Switches.length - 1 : Nat) : Int) := by rw [wr_id (by omega) (by omega)]; omega
  have eq : wr (((2 ^ l.length : Nat) : Int) - 1) = ((2 ^ l.length - 1 : Nat) : Int) := by rw [wr_id (by omega) (by omega)]; omega
  have es : wr (((2 ^ c.Switches.length - 1 : Nat) : Int) - ((whole c l : Nat) : Int)) = ((2 ^ c.Switches.length - 1 - whole c l : Nat) : Int) := by rw [wr_id (by omega) (by omega)]; omega
  have ha : allN (shK c l) (2 ^ l.length - 1) l.length = whole c l := rfl
  unfold r03_Blind
  simp only [CheckTrials_val hc hv hr hl, hz, Option.bind_some, not_true_eq_false, decide_false, Bool.false_eq_true, if_false, u64_nat (y := l.length) (by omega), u64_nat (y := c.Switches.length) (by omega), shl_nat (y := l.length) (by omega), eq, rall_val hc hv h12 ht (pow_l hc hv h12 ht), ha, shl_nat (y := c.Switches.length) (by omega), ew, es, members_eq (x := 2 ^ c.Switches.length - 1 - whole c l) (n := c.Switches.length) (by omega) hs12]
theorem rFewest_ok {b : Nat} (hb : bestF c l (2 ^ l.length) = some b) : r03_Fewest c l = some (memI b l.length, 0) := by
  obtain ⟨h12, ht⟩ := chk_zero hz
  have hq := Nat.pow_le_pow_right (n := 2) (show 0 < 2 by omega) h12
  have hq0 : 0 < 2 ^ l.length := Nat.pow_pos (by omega)
  have eq : wr (((2 ^ l.length : Nat) : Int) - 1) = ((2 ^ l.length - 1 : Nat) : Int) := by rw [wr_id (by omega) (by omega)]; omega
  have ha : allN (shK c l) (2 ^ l.length - 1) l.length = whole c l := rfl
  have hbl := (bestF_lt hb).1
  have h := refF hc hv h12 ht
  have hw : bestW c l (2 ^ l.length) = b := by unfold bestW; rw [hb]; rfl
  rw [hw] at h
  unfold r03_Fewest
  simp only [CheckTrials_val hc hv hr hl, hz, Option.bind_some, not_true_eq_false, decide_false, Bool.false_eq_true, if_false, u64_nat (y := l.length) (by omega), shl_nat (y := l.length) (by omega), eq, rall_val hc hv h12 ht (pow_l hc hv h12 ht), ha, every_val hc hv h12 ht, h, r03_Fewest_j12, members_eq (x := b) (n := l.length) (by omega) h12]
end
end
theorem Trials_plain (hw : l03_works = some true) (c : Circuit) (l : List Trial) (trial : Int) (hc : OkC c) (hl : OkTrials l) (hi : In64 trial) : l03_CircuitTrials c l trial = some true := by
  have hm : (100 : Nat) ≤ maxLen := by decide
  unfold l03_CircuitTrials
  rcases Far_cases hc with e | ⟨e, hb⟩
  · simp only [e, Option.bind_some, Bool.true_or, if_true, hw]
  · rw [e]
    simp only [Option.bind_some, Bool.false_or]
    by_cases g : (20 : Int) < (l.length : Int)
    · simp only [g, decide_true, if_true, hw, Option.bind_some]
    · simp only [g, decide_false, Bool.false_eq_true, if_false]
      have key : ∃ v1 e1 v2 e2 v3 e3, circuit_Shows c l trial = some (v1, e1) ∧ r03_Shows c l trial = some (v1, e1) ∧ circuit_Blind c l = some (v2, e2) ∧ r03_Blind c l = some (v2, e2) ∧ circuit_Fewest c l = some (v3, e3) ∧ r03_Fewest c l = some (v3, e3) ∧ v1.length ≤ maxLen ∧ v2.length ≤ maxLen ∧ v3.length ≤ maxLen := by
        rcases Check_cases hc hb with ⟨hk, hr, hv⟩ | ⟨hk, hr⟩
        · by_cases hz : chk c l = 0
          · obtain ⟨h12, ht⟩ := chk_zero hz
            have hs12 := hv.sw.2
            obtain ⟨b, q1, q2, _⟩ := Fewest_ok hc hv hl hk hz
            have q3 := rFewest_ok hc hv hl hr hz q2
            have m2 := memI_len (x := 2 ^ c.Switches.length - 1 - whole c l) (n := c.Switches.length)
            have m3 := memI_len (x := b) (n := l.length)
            by_cases hin : 0 ≤ trial ∧ trial < (l.length : Int)
            · obtain ⟨k, rfl⟩ : ∃ k : Nat, trial = k := ⟨trial.toNat, by omega⟩
              have m1 := memI_len (x := shK c l k) (n := c.Switches.length)
              exact ⟨_, _, _, _, _, _, Shows_ok hc hv hl hk hz (by omega), rShows_ok hc hv hl hr hz (by omega), Blind_ok hc hv hl hk hz, rBlind_ok hc hv hl hr hz, q1, q3, by omega, by omega, by omega⟩
            · refine ⟨[], 1, _, _, _, _, ?_, ?_, Blind_ok hc hv hl hk hz, rBlind_ok hc hv hl hr hz, q1, q3, nil_len, by omega, by omega⟩
              · have e : (decide (trial < 0) || decide ((l.length : Int) ≤ trial)) = true := by
                  rw [Bool.or_eq_true, decide_eq_true_eq, decide_eq_true_eq]; omega
                unfold circuit_Shows
                simp only [check_val hc hv hk hl, hz, Option.bind_some, not_true_eq_false, decide_false, Bool.false_eq_true, if_false, e, if_true]
              · have e : (!(r03_within trial 0 (wr ((l.length : Int) - 1)))) = true := by
                  rw [wr_id (by omega) (by omega)]
                  unfold r03_within
                  rw [Bool.not_eq_true', Bool.and_eq_false_iff, decide_eq_false_iff_not, decide_eq_false_iff_not]
                  omega
                unfold r03_Shows
                simp only [CheckTrials_val hc hv hr hl, hz, Option.bind_some, not_true_eq_false, decide_false, Bool.false_eq_true, if_false, e, if_true]
          · have n1 : decide (¬chk c l = 0) = true := by simp [hz]
            refine ⟨[], chk c l, [], chk c l, [], chk c l, ?_, ?_, ?_, ?_, ?_, ?_, nil_len, nil_len, nil_len⟩
            · unfold circuit_Shows; simp only [check_val hc hv hk hl, Option.bind_some, n1, if_true]
            · unfold r03_Shows; simp only [CheckTrials_val hc hv hr hl, Option.bind_some, n1, if_true]
            · unfold circuit_Blind; simp only [check_val hc hv hk hl, Option.bind_some, n1, if_true]
            · unfold r03_Blind; simp only [CheckTrials_val hc hv hr hl, Option.bind_some, n1, if_true]
            · unfold circuit_Fewest; simp only [check_val hc hv hk hl, Option.bind_some, n1, if_true]
            · unfold r03_Fewest; simp only [CheckTrials_val hc hv hr hl, Option.bind_some, n1, if_true]
        · have n1 : decide (¬(30 : Int) = 0) = true := by decide
          have c1 : circuit_check c l = some 30 := by unfold circuit_check; simp only [hk, Option.bind_some, n1, if_true]
          have c2 : r03_CheckTrials c l = some 30 := by unfold r03_CheckTrials; simp only [hr, Option.bind_some, n1, if_true]
          refine ⟨[], 30, [], 30, [], 30, ?_, ?_, ?_, ?_, ?_, ?_, nil_len, nil_len, nil_len⟩
          · unfold circuit_Shows; simp only [c1, Option.bind_some, n1, if_true]
          · unfold r03_Shows; simp only [c2, Option.bind_some, n1, if_true]
          · unfold circuit_Blind; simp only [c1, Option.bind_some, n1, if_true]
          · unfold r03_Blind; simp only [c2, Option.bind_some, n1, if_true]
          · unfold circuit_Fewest; simp only [c1, Option.bind_some, n1, if_true]
          · unfold r03_Fewest; simp only [c2, Option.bind_some, n1, if_true]
      obtain ⟨v1, e1, v2, e2, v3, e3, a1, a2, a3, a4, a5, a6, b1, b2, b3⟩ := key
      simp only [a1, a2, a3, a4, a5, a6, Option.bind_some, not_true_eq_false, decide_false, decide_true, Bool.false_eq_true, if_false, if_true, sameInts_self b1, sameInts_self b2, sameInts_self b3, Bool.not_true, hw]
end Go.Nw.DM

namespace Go.Nw.DM
/- a set by its members -/
def setOf (p : Nat → Bool) : Nat → Nat
  | 0 => 0
  | k + 1 => if p k then setOf p k ||| 2 ^ k else setOf p k
theorem setOf_lt (p : Nat → Bool) : ∀ k, setOf p k < 2 ^ k
  | 0 => by simp [setOf]
  | k + 1 => by
    have h := setOf_lt p k
    have hp : 2 ^ k < 2 ^ (k + 1) := by rw [Nat.pow_succ]; have : 0 < 2 ^ k := Nat.pow_pos (by omega); omega
    simp only [setOf]
    by_cases e : p k = true
    · rw [if_pos e]; exact Nat.or_lt_two_pow (by omega) hp
    · rw [if_neg e]; omega
theorem setOf_bit {p : Nat → Bool} {i : Nat} : ∀ k, (setOf p k).testBit i = (decide (i < k) && p i)
  | 0 => by simp [setOf]
  | k + 1 => by
    simp only [setOf]
    by_cases e : p k = true
    · rw [if_pos e, Nat.testBit_or, setOf_bit k, Nat.testBit_two_pow]
      by_cases h : i = k
      · subst h; simp [e]
      · have h1 : ¬ k = i := fun z => h z.symm
        by_cases h2 : i < k
        · have : i < k + 1 := by omega
          simp [h1, h2, this]
        · have : ¬ i < k + 1 := by omega
          simp [h1, h2, this]
    · rw [if_neg e, setOf_bit k]
      by_cases h : i = k
      · subst h; simp at e; simp [e]
      · by_cases h2 : i < k
        · have : i < k + 1 := by omega
          simp [h2, this]
        · have : ¬ i < k + 1 := by omega
          simp [h2, this]
def cnt (p : Nat → Bool) (k : Nat) : Nat := ((List.range k).filter p).length
theorem cnt_le (p : Nat → Bool) (k : Nat) : cnt p k ≤ k := by unfold cnt; exact Nat.le_trans (List.length_filter_le _ _) (by simp)
theorem cnt_succ (p : Nat → Bool) (k : Nat) : cnt p (k + 1) = if p k then cnt p k + 1 else cnt p k := by
  unfold cnt
  rw [List.range_succ, List.filter_append, List.length_append]
  by_cases e : p k = true <;> simp [e]
theorem cnt_ones {p : Nat → Bool} {n : Nat} (hn : n ≤ 12) : ones (setOf p n) = cnt p n := by
  rw [← memI_ones (setOf_lt p n) hn]
  unfold memI memN cnt
  rw [List.length_map]
  congr 1
  apply List.filter_congr
  intro x hx
  rw [setOf_bit]
  have := List.mem_range.1 hx
  simp [this]
/- a row of truth values over the first places -/
def tab (n : Nat) (f : Nat → Bool) : List Bool := (List.range n).map f
theorem tab_len (n : Nat) (f : Nat → Bool) : (tab n f).length = n := by simp [tab]
theorem tab_get {n : Nat} {f : Nat → Bool} {k : Nat} (h : k < n) : get (tab n f) (k : Int) = some (f k) := by
  rw [get_nth (by omega) (by rw [tab_len]; omega)]
  simp [nth, tab, List.getD, h]
theorem tab_set {n : Nat} {f g : Nat → Bool} {k : Nat} {v : Bool} (hv : g k = v) (hg : ∀ x, x ≠ k → g x = f x) : (tab n f).set k v = tab n g := by
  apply List.ext_getElem
  · simp [tab]
  · intro i h1 h2
    rw [List.getElem_set]
    by_cases e : k = i
    · subst e; simp [tab, hv]
    · simp [tab, e, hg i fun z => e z.symm]
theorem tab_congr {n : Nat} {f g : Nat → Bool} (h : ∀ x, x < n → f x = g x) : tab n f = tab n g := by
  unfold tab
  apply List.map_congr_left
  intro x hx
  exact h x (List.mem_range.1 hx)
theorem tab_mks {n : Nat} (hn : n ≤ 12) : mks 1 (n : Int) false = some (tab n fun _ => false) := by
  rw [mks_ok (by omega) (by omega) (by omega)]
  congr 1
  apply List.ext_getElem
  · simp [tab]
  · intro i h1 h2; simp [tab]
def inTake (m : List Int) (k x : Nat) : Bool := decide ((x : Int) ∈ m.take k)
section
variable {c : Circuit} (hc : OkC c) (hv : Valid c) {l : List Trial} (hl : OkTrials l) (hk : circuit_Check c = some 0) (hz : chk c l = 0)
include hc hv hl hk hz
theorem inner {b i : Nat} {q cn e : Int} {f g : Nat → Bool} (hil : i < l.length) :
    loopM (l03_CircuitCovers_L24 (memI b l.length, e) (i : Int) (memI (shK c l i) c.Switches.length, 0) q cn) (tab c.Switches.length f, tab c.Switches.length g, 0) =
      some (.inl (tab c.Switches.length (fun x => f x || (b.testBit i && (shK c l i).testBit x)), tab c.Switches.length (fun x => g x || (decide (band q 1 = 1) && (shK c l i).testBit x)), cn)) := by
  obtain ⟨h12, ht⟩ := chk_zero hz
  have hs12 := hv.sw.2
  have hm : (12 : Nat) ≤ maxLen := by decide
  have ml := memI_len (x := shK c l i) (n := c.Switches.length)
  have mb := memI_len (x := b) (n := l.length)
  have hhas : l03_has (memI b l.length) (i : Int) = some (b.testBit i) := by
    rw [has_eq (by omega)]
    congr 1
    rw [Bool.eq_iff_iff, decide_eq_true_eq, mem_memI]
    exact ⟨fun h => h.2, fun h => ⟨hil, h⟩⟩
  obtain ⟨r, er, rfl⟩ := loop_inv (f := l03_CircuitCovers_L24 (memI b l.length, e) (i : Int) (memI (shK c l i) c.Switches.length, 0) q cn) (memI (shK c l i) c.Switches.length).length
    (fun (s : Unit × Nat) k => (tab c.Switches.length (fun x => f x || (b.testBit i && inTake (memI (shK c l i) c.Switches.length) s.2 x)), tab c.Switches.length (fun x => g x || (decide (band q 1 = 1) && inTake (memI (shK c l i) c.Switches.length) s.2 x)), k))
    (fun k s => s.2 = k) (fun r => r = .inl (tab c.Switches.length (fun x => f x || (b.testBit i && (shK c l i).testBit x)), tab c.Switches.length (fun x => g x || (decide (band q 1 = 1) && (shK c l i).testBit x)), cn))
    (fun s k hkk hi => by
      obtain ⟨u, s⟩ := s
      simp only at hi
      subst hi
      have e1 : (s : Int) < ((memI (shK c l i) c.Switches.length).length : Int) := by omega
      have hmem := nth_toNat (l := memI (shK c l i) c.Switches.length) (x := (s : Int)) (by omega) e1
      obtain ⟨j, hj, hjn, hjb⟩ := memI_rng hmem
      have hg := get_nth (l := memI (shK c l i) c.Switches.length) (i := (s : Int)) (by omega) e1
      rw [hj] at hg
      have n1 : ¬ (j : Int) < 0 := by omega
      have n2 : ¬ (c.Switches.length : Int) ≤ (j : Int) := by omega
      have htake : ∀ x, inTake (memI (shK c l i) c.Switches.length) (s + 1) x = (inTake (memI (shK c l i) c.Switches.length) s x || decide (x = j)) := by
        intro x
        unfold inTake
        have h2 : (memI (shK c l i) c.Switches.length).take (s + 1) = (memI (shK c l i) c.Switches.length).take s ++ [(j : Int)] := by
          rw [List.take_succ]
          congr 1
          have : (memI (shK c l i) c.Switches.length)[s]? = some (j : Int) := by
            have hx := hj
            unfold nth at hx
            rw [List.getD] at hx
            have hlt : ((s : Int)).toNat < (memI (shK c l i) c.Switches.length).length := by omega
            rw [List.getElem?_eq_getElem hlt, Option.getD_some] at hx
            rw [List.getElem?_eq_getElem hkk]
            exact congrArg some hx
          rw [this]; rfl
        rw [h2, Bool.eq_iff_iff, decide_eq_true_eq, Bool.or_eq_true, decide_eq_true_eq, decide_eq_true_eq, List.mem_append, List.mem_singleton]
        constructor
        · rintro (h | h)
          · exact .inl h
          · exact .inr (by omega)
        · rintro (h | h)
          · exact .inl h
          · exact .inr (by omega)
      refine .inl ⟨((), s + 1), ?_, rfl⟩
      unfold l03_CircuitCovers_L24
      simp only [e1, decide_true, if_true, hg, Option.bind_some, tab_len, n1, n2, decide_false, Bool.or_self, Bool.false_eq_true, if_false, tab_get hjn, hhas]
      rw [wr_k hkk (by omega)]
      have f1 : (if (f j || (b.testBit i && inTake (memI (shK c l i) c.Switches.length) s j)) = true then some true else some (b.testBit i)) = some (f j || b.testBit i) := by
        cases f j <;> cases b.testBit i <;> cases inTake (memI (shK c l i) c.Switches.length) s j <;> rfl
      rw [f1]
      simp only [Option.bind_some, Int.toNat_natCast]
      rw [tab_set (g := fun x => f x || (b.testBit i && inTake (memI (shK c l i) c.Switches.length) (s + 1) x)) (by
            simp only [htake j, decide_true, Bool.or_true, Bool.and_true]) (fun x hx => by simp only [htake x, hx, decide_false, Bool.or_false]),
        tab_set (g := fun x => g x || (decide (band q 1 = 1) && inTake (memI (shK c l i) c.Switches.length) (s + 1) x)) (by
            simp only [htake j, decide_true, Bool.or_true, Bool.and_true]
            cases g j <;> cases decide (band q 1 = 1) <;> simp) (fun x hx => by simp only [htake x, hx, decide_false, Bool.or_false])])
    (fun s hi => by
      obtain ⟨u, s⟩ := s
      simp only at hi
      subst hi
      refine ⟨.inl (tab c.Switches.length (fun x => f x || (b.testBit i && inTake (memI (shK c l i) c.Switches.length) (memI (shK c l i) c.Switches.length).length x)), tab c.Switches.length (fun x => g x || (decide (band q 1 = 1) && inTake (memI (shK c l i) c.Switches.length) (memI (shK c l i) c.Switches.length).length x)), cn), by unfold l03_CircuitCovers_L24; simp only [Int.lt_irrefl, decide_false, Bool.false_eq_true, if_false], ?_⟩
      have hall : ∀ x, x < c.Switches.length → inTake (memI (shK c l i) c.Switches.length) (memI (shK c l i) c.Switches.length).length x = (shK c l i).testBit x := by
        intro x hx
        unfold inTake
        rw [List.take_length, Bool.eq_iff_iff, decide_eq_true_eq, mem_memI]
        exact ⟨fun h => h.2, fun h => ⟨hx, h⟩⟩
      rw [tab_congr (f := fun x => f x || (b.testBit i && inTake _ _ x)) (g := fun x => f x || (b.testBit i && (shK c l i).testBit x)) (fun x hx => by simp only [hall x hx]),
        tab_congr (f := fun x => g x || (decide (band q 1 = 1) && inTake _ _ x)) (g := fun x => g x || (decide (band q 1 = 1) && (shK c l i).testBit x)) (fun x hx => by simp only [hall x hx])])
    (s := ((), 0)) 0 (Nat.zero_le _) rfl
  have i0 : ∀ x, inTake (memI (shK c l i) c.Switches.length) 0 x = false := fun x => by simp [inTake]
  simp only [i0, Bool.and_false, Bool.or_false] at er
  exact er
def fp (fewer : Int) (i : Nat) : Bool := decide (band (shrK .i64 fewer (i : Int)) 1 = 1)
theorem outer {b : Nat} {fewer e : Int} :
    loopM (l03_CircuitCovers_L26 c l fewer (memI b l.length, e)) (tab c.Switches.length (fun _ => false), tab c.Switches.length (fun _ => false), 0, 0) =
      some (.inl (tab c.Switches.length (fun x => (allN (shK c l) b l.length).testBit x), tab c.Switches.length (fun x => (allN (shK c l) (setOf (fp fewer) l.length) l.length).testBit x), ((cnt (fp fewer) l.length : Nat) : Int))) := by
  obtain ⟨h12, ht⟩ := chk_zero hz
  obtain ⟨r, er, rfl⟩ := loop_inv (f := l03_CircuitCovers_L26 c l fewer (memI b l.length, e)) l.length
    (fun (s : Nat) k => (tab c.Switches.length (fun x => (allN (shK c l) b s).testBit x), tab c.Switches.length (fun x => (allN (shK c l) (setOf (fp fewer) l.length) s).testBit x), ((cnt (fp fewer) s : Nat) : Int), k))
    (fun k s => s = k) (fun r => r = .inl (tab c.Switches.length (fun x => (allN (shK c l) b l.length).testBit x), tab c.Switches.length (fun x => (allN (shK c l) (setOf (fp fewer) l.length) l.length).testBit x), ((cnt (fp fewer) l.length : Nat) : Int)))
    (fun s k hkk hi => by
      subst hi
      have e1 : (s : Int) < (l.length : Int) := by omega
      have hcn := cnt_le (fp fewer) s
      refine .inl ⟨s + 1, ?_, rfl⟩
      unfold l03_CircuitCovers_L26
      have a1 : ∀ x, (allN (shK c l) b (s + 1)).testBit x = ((allN (shK c l) b s).testBit x || (b.testBit s && (shK c l s).testBit x)) := by
        intro x; simp only [allN]
        by_cases z : b.testBit s = true
        · rw [if_pos z, Nat.testBit_or, z, Bool.true_and]
        · rw [if_neg z]; simp at z; simp [z]
      have sb : (setOf (fp fewer) l.length).testBit s = fp fewer s := by rw [setOf_bit]; simp [hkk]
      have a2 : ∀ x, (allN (shK c l) (setOf (fp fewer) l.length) (s + 1)).testBit x = ((allN (shK c l) (setOf (fp fewer) l.length) s).testBit x || (fp fewer s && (shK c l s).testBit x)) := by
        intro x; simp only [allN, sb]
        by_cases z : fp fewer s = true
        · rw [if_pos z, Nat.testBit_or, z, Bool.true_and]
        · rw [if_neg z]; simp at z; simp [z]
      simp only [e1, decide_true, if_true, Shows_ok hc hv hl hk hz hkk, Option.bind_some, not_true_eq_false, decide_false, Bool.false_eq_true, if_false, u64_nat (y := s) (by omega), shr_ok (show (0 : Int) ≤ (s : Int) by omega)]
      rw [show wr (((cnt (fp fewer) s : Nat) : Int) + 1) = ((cnt (fp fewer) s : Nat) : Int) + 1 from wr_id (by omega) (by omega)]
      have hfp : decide (band (shrK .i64 fewer (s : Int)) 1 = 1) = fp fewer s := rfl
      rw [hfp]
      unfold l03_CircuitCovers_j66 l03_CircuitCovers_j58
      rw [inner hc hv hl hk hz hkk, inner hc hv hl hk hz hkk]
      simp only [Option.bind_some, a1, a2, hfp, cnt_succ]
      rw [wr_k hkk (by omega)]
      by_cases z : fp fewer s = true
      · simp only [z, if_true]; rfl
      · simp only [z, if_false]; rfl)
    (fun s hi => by
      subst hi
      exact ⟨.inl (tab c.Switches.length (fun x => (allN (shK c l) b l.length).testBit x), tab c.Switches.length (fun x => (allN (shK c l) (setOf (fp fewer) l.length) l.length).testBit x), ((cnt (fp fewer) l.length : Nat) : Int)), by unfold l03_CircuitCovers_L26; simp only [Int.lt_irrefl, decide_false, Bool.false_eq_true, if_false], rfl⟩)
    (s := 0) 0 (Nat.zero_le _) rfl
  have z0 : ∀ s x, (allN (shK c l) s 0).testBit x = false := fun s x => by simp [allN]
  have c0 : cnt (fp fewer) 0 = 0 := rfl
  simp only [z0, c0] at er
  exact er
theorem last {b : Nat} {e : Int} {g : Nat → Bool} (hcov : covers c l b = true) :
    ∃ w, loopM (l03_CircuitCovers_L34 (memI (2 ^ c.Switches.length - 1 - whole c l) c.Switches.length, e) (tab c.Switches.length (fun x => (allN (shK c l) b l.length).testBit x)) (tab c.Switches.length g)) (true, 0) = some (.inl w) ∧ (w = true → ∀ x, x < c.Switches.length → (whole c l).testBit x = true → g x = true) := by
  obtain ⟨h12, ht⟩ := chk_zero hz
  have hs12 := hv.sw.2
  have hm : (12 : Nat) ≤ maxLen := by decide
  have ml := memI_len (x := 2 ^ c.Switches.length - 1 - whole c l) (n := c.Switches.length)
  have hwl := whole_lt hc hv h12 ht
  have hcv : allN (shK c l) b l.length = whole c l := by unfold covers at hcov; exact of_decide_eq_true hcov
  rw [hcv]
  obtain ⟨r, er, w, rfl, hw⟩ := loop_inv (f := l03_CircuitCovers_L34 (memI (2 ^ c.Switches.length - 1 - whole c l) c.Switches.length, e) (tab c.Switches.length (fun x => (whole c l).testBit x)) (tab c.Switches.length g)) c.Switches.length
    (fun (w : Bool) k => (w, k)) (fun k w => w = true → ∀ x, x < k → (whole c l).testBit x = true → g x = true)
    (fun r => ∃ w, r = .inl w ∧ (w = true → ∀ x, x < c.Switches.length → (whole c l).testBit x = true → g x = true))
    (fun w k hkk hi => by
      have e1 : (k : Int) < (c.Switches.length : Int) := by omega
      have hhas : l03_has (memI (2 ^ c.Switches.length - 1 - whole c l) c.Switches.length) (k : Int) = some (!(whole c l).testBit k) := by
        rw [has_eq (by omega)]
        congr 1
        rw [Bool.eq_iff_iff, decide_eq_true_eq, mem_memI, sub_bits hwl]
        simp [hkk]
      refine .inl ⟨w && (g k || !(whole c l).testBit k), ?_, ?_⟩
      · unfold l03_CircuitCovers_L34
        simp only [tab_len, e1, decide_true, if_true, tab_get hkk, hhas, Option.bind_some, wr_k hkk (show c.Switches.length < 4611686018427387904 by omega)]
        cases (whole c l).testBit k <;> cases w <;> cases g k <;> rfl
      · intro h x hx hb
        rw [Bool.and_eq_true] at h
        by_cases z : x = k
        · subst z
          have := h.2
          rw [hb] at this
          simpa using this
        · exact hi h.1 x (by omega) hb)
    (fun w hi => ⟨.inl w, by unfold l03_CircuitCovers_L34; simp only [tab_len, Int.lt_irrefl, decide_false, Bool.false_eq_true, if_false], w, rfl, hi⟩)
    (s := true) 0 (Nat.zero_le _) (fun _ x hx => absurd hx (Nat.not_lt_zero _))
  exact ⟨w, er, hw⟩
theorem cover_sub {s : Nat} (hs : ∀ x, x < c.Switches.length → (whole c l).testBit x = true → (allN (shK c l) s l.length).testBit x = true) : covers c l s = true := by
  obtain ⟨h12, ht⟩ := chk_zero hz
  unfold covers
  rw [decide_eq_true_eq]
  apply Nat.eq_of_testBit_eq
  intro i
  rw [Bool.eq_iff_iff]
  constructor
  · intro h
    unfold whole
    rw [allN_bit] at h ⊢
    obtain ⟨j, h1, h2, h3⟩ := h
    exact ⟨j, h1, full_bit h1, h3⟩
  · intro h
    by_cases hi : i < c.Switches.length
    · exact hs i hi h
    · have := whole_lt hc hv h12 ht
      rw [Nat.testBit_lt_two_pow (Nat.lt_of_lt_of_le this (Nat.pow_le_pow_right (by omega) (by omega)))] at h
      cases h
end
theorem Covers_plain (hw : l03_works = some true) (c : Circuit) (l : List Trial) (fewer : Int) (hc : OkC c) (hl : OkTrials l) (hi : In64 fewer) : l03_CircuitCovers c l fewer = some true := by
  unfold l03_CircuitCovers
  rcases Far_cases hc with e | ⟨e, hb⟩
  · simp only [e, Option.bind_some, if_true, hw]
  · rw [e]
    simp only [Option.bind_some, Bool.false_eq_true, if_false]
    rcases Check_cases hc hb with ⟨hk, hr, hv⟩ | ⟨hk, hr⟩
    · simp only [CheckTrials_val hc hv hr hl, Option.bind_some]
      by_cases hz : chk c l = 0
      · obtain ⟨h12, ht⟩ := chk_zero hz
        obtain ⟨b, q1, q2, q3, q4, q5⟩ := Fewest_ok hc hv hl hk hz
        simp only [hz, not_true_eq_false, decide_false, Bool.false_eq_true, if_false, q1, Blind_ok hc hv hl hk hz, Option.bind_some, Bool.or_self, tab_mks hv.sw.2, outer hc hv hl hk hz]
        unfold l03_CircuitCovers_j24
        obtain ⟨w, l1, l2⟩ := last hc hv hl hk hz (b := b) (e := 0) (g := fun x => (allN (shK c l) (setOf (fp fewer) l.length) l.length).testBit x) q4
        rw [l1]
        simp only [Option.bind_some, l03_CircuitCovers_j26, hw]
        cases w with
        | false => rfl
        | true =>
          have hcv := cover_sub hc hv hl hk hz (l2 rfl)
          have := q5 _ (setOf_lt (fp fewer) l.length) hcv
          rw [cnt_ones h12] at this
          have m := memI_ones q3 h12
          have : ((memI b l.length).length : Int) ≤ ((cnt (fp fewer) l.length : Nat) : Int) := by omega
          simp [this]
      · have n1 : decide (¬chk c l = 0) = true := by simp [hz]
        simp only [n1, if_true, hw, Option.bind_some]
    · have n1 : decide (¬(30 : Int) = 0) = true := by decide
      have c2 : r03_CheckTrials c l = some 30 := by unfold r03_CheckTrials; simp only [hr, Option.bind_some, n1, if_true]
      simp only [c2, Option.bind_some, n1, if_true, hw]
end Go.Nw.DM
