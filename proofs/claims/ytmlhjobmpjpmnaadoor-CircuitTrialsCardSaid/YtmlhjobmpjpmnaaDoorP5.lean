/- What Shows, Blind and Fewest give; the trials' law. -/
import Derived.Test.YtmlhjobmpjpmnaaDoorDMLaws
import Derived.Test.YtmlhjobmpjpmnaaDoorDMWorks
set_option linter.all false
set_option linter.unusedVariables false
set_option linter.unusedSimpArgs false
set_option linter.unusedSectionVars false
namespace Go.Nw.DM
theorem sub_bits {n x i : Nat} (hx : x < 2 ^ n) : (2 ^ n - 1 - x).testBit i = (decide (i < n) && !x.testBit i) := by
  rw [show 2 ^ n - 1 - x = 2 ^ n - (x + 1) by omega]
  exact Nat.testBit_two_pow_sub_succ hx i
theorem bclr_full {n x : Nat} (hn : n ≤ 12) (hx : x < 2 ^ n) : bclr (((2 ^ n - 1 : Nat)) : Int) (x : Int) = ((2 ^ n - 1 - x : Nat) : Int) := by
  have hp := Nat.pow_le_pow_right (n := 2) (show 0 < 2 by omega) hn
  show IntKind.wrap .i64 ((BitVec.ofInt 64 ((2 ^ n - 1 : Nat) : Int) &&& ~~~BitVec.ofInt 64 (x : Int)).toNat : Int) = _
  have e : (BitVec.ofInt 64 ((2 ^ n - 1 : Nat) : Int) &&& ~~~BitVec.ofInt 64 (x : Int)).toNat = 2 ^ n - 1 - x := by
    rw [BitVec.toNat_and, BitVec.toNat_not, ofInt_nat (2 ^ n - 1) (by omega), ofInt_nat x (by omega)]
    apply Nat.eq_of_testBit_eq
    intro i
    rw [Nat.testBit_and, sub_bits hx, Nat.testBit_two_pow_sub_one, sub_bits (n := 64) (by omega)]
    by_cases h : i < n
    · have : i < 64 := by omega
      simp [h, this]
    · simp [h]
  rw [e]
  exact wrap_nat (show _ < 2 ^ 63 by omega)
section
variable {c : Circuit} (hc : OkC c) (hv : Valid c) {l : List Trial} (hl : OkTrials l)
include hc hv hl
section
variable (hk : circuit_Check c = some 0) (hz : chk c l = 0)
include hk hz
theorem Shows_ok {i : Nat} (hi : i < l.length) : circuit_Shows c l (i : Int) = some (memI (shK c l i) c.Switches.length, 0) := by
  obtain ⟨h12, ht⟩ := chk_zero hz
  have h1 : ¬ (i : Int) < 0 := by omega
  have h2 : ¬ (l.length : Int) ≤ (i : Int) := by omega
  unfold circuit_Shows
  simp only [check_val hc hv hk hl, hz, Option.bind_some, not_true_eq_false, decide_false, Bool.false_eq_true, if_false, h1, h2, Bool.or_self, get_nth (l := l) (i := (i : Int)) (by omega) (by omega), shown_val hc hv (nthT hc hv h12 ht i hi), shI_shK hc hv h12 ht, elements_eq (shK_lt c l i) hv.sw.2]
theorem Blind_ok : circuit_Blind c l = some (memI (2 ^ c.Switches.length - 1 - whole c l) c.Switches.length, 0) := by
  obtain ⟨h12, ht⟩ := chk_zero hz
  have hs12 := hv.sw.2
  have hp := Nat.pow_le_pow_right (n := 2) (show 0 < 2 by omega) hs12
  have hp0 : 0 < 2 ^ c.Switches.length := Nat.pow_pos (by omega)
  have hw := whole_lt hc hv h12 ht
  have ew : wr (((2 ^ c.Switches.length : Nat) : Int) - 1) = ((2 ^ c.Switches.length - 1 : Nat) : Int) := by rw [wr_id (by omega) (by omega)]; omega
  unfold circuit_Blind
  simp only [check_val hc hv hk hl, hz, Option.bind_some, not_true_eq_false, decide_false, Bool.false_eq_true, if_false, all_val hc hv h12 ht, shl_nat (y := c.Switches.length) (by omega), ew, bclr_full hs12 hw, elements_eq (x := 2 ^ c.Switches.length - 1 - whole c l) (n := c.Switches.length) (by omega) hs12]
theorem Fewest_ok : ∃ b, circuit_Fewest c l = some (memI b l.length, 0) ∧ bestF c l (2 ^ l.length) = some b ∧ b < 2 ^ l.length ∧ covers c l b = true ∧ ∀ s, s < 2 ^ l.length → covers c l s = true → ones b ≤ ones s := by
  obtain ⟨h12, ht⟩ := chk_zero hz
  obtain ⟨b, hb, h1, h2, h3⟩ := best_some hc hv h12 ht
  refine ⟨b, ?_, hb, h1, h2, h3⟩
  have h := progF hc hv h12 ht (w := ((whole c l : Nat) : Int)) rfl
  unfold circuit_Fewest
  simp only [check_val hc hv hk hl, hz, Option.bind_some, not_true_eq_false, decide_false, Bool.false_eq_true, if_false, all_val hc hv h12 ht, shl_nat (y := l.length) (by omega), h, hb, circuit_Fewest_j10, Option.map_some, Option.getD_some]
end
section
variable (hr : r03_Check c = some 0) (hz : chk c l = 0)
include hr hz
theorem rShows_ok {i : Nat} (hi : i < l.length) : r03_Shows c l (i : Int) = some (memI (shK c l i) c.Switches.length, 0) := by
  obtain ⟨h12, ht⟩ := chk_zero hz
  have e : (!(r03_within (i : Int) 0 (wr ((l.length : Int) - 1)))) = false := by
    rw [wr_id (by omega) (by omega)]
    have h1 : (0 : Int) ≤ (i : Int) := by omega
    have h2 : (i : Int) ≤ (l.length : Int) - 1 := by omega
    simp [r03_within, h1, h2]
  have hs12 := hv.sw.2
  have hb := pow12 (shK_lt c l i) hs12
  unfold r03_Shows
  simp only [CheckTrials_val hc hv hr hl, hz, Option.bind_some, not_true_eq_false, decide_false, Bool.false_eq_true, if_false, e, get_nth (l := l) (i := (i : Int)) (by omega) (by omega), rshown_val hc hv (nthT hc hv h12 ht i hi), shI_shK hc hv h12 ht, members_eq hb hs12]
theorem rBlind_ok : r03_Blind c l = some (memI (2 ^ c.Switches.length - 1 - whole c l) c.Switches.length, 0) := by
  obtain ⟨h12, ht⟩ := chk_zero hz
  have hs12 := hv.sw.2
  have hp := Nat.pow_le_pow_right (n := 2) (show 0 < 2 by omega) hs12
  have hp0 : 0 < 2 ^ c.Switches.length := Nat.pow_pos (by omega)
  have hq := Nat.pow_le_pow_right (n := 2) (show 0 < 2 by omega) h12
  have hq0 : 0 < 2 ^ l.length := Nat.pow_pos (by omega)
  have hw := whole_lt hc hv h12 ht
  have ew : wr (((2 ^ c.Switches.length : Nat) : Int) - 1) = ((2 ^ c.Switches.length - 1 : Nat) : Int) := by rw [wr_id (by omega) (by omega)]; omega
  have eq : wr (((2 ^ l.length : Nat) : Int) - 1) = ((2 ^ l.length - 1 : Nat) : Int) := by rw [wr_id (by omega) (by omega)]; omega
  have es : wr (((2 ^ c.Switches.length - 1 : Nat) : Int) - ((whole c l : Nat) : Int)) = ((2 ^ c.Switches.length - 1 - whole c l : Nat) : Int) := by rw [wr_id (by omega) (by omega)]; omega
  have ha : allN (shK c l) (2 ^ l.length - 1) l.length = whole c l := rfl
  unfold r03_Blind
  simp only [CheckTrials_val hc hv hr hl, hz, Option.bind_some, not_true_eq_false, decide_false, Bool.false_eq_true, if_false, u64_nat (y := l.length) (by omega), u64_nat (y := c.Switches.length) (by omega), shl_nat (y := l.length) (by omega), eq, rall_val hc hv h12 ht (pow_l hc hv h12 ht), ha, shl_nat (y := c.Switches.length) (by omega), ew, es, members_eq (x := 2 ^ c.Switches.length - 1 - whole c l) (n := c.Switches.length) (by omega) hs12]
theorem rFewest_ok {b : Nat} (hb : bestF c l (2 ^ l.length) = some b) : r03_Fewest c l = some (memI b l.length, 0) := by
  obtain ⟨h12, ht⟩ := chk_zero hz
  have hq := Nat.pow_le_pow_right (n := 2) (show 0 < 2 by omega) h12
  have hq0 : 0 < 2 ^ l.length := Nat.pow_pos (by omega)
  have eq : wr (((2 ^ l.length : Nat) : Int) - 1) = ((2 ^ l.length - 1 : Nat) : Int) := by rw [wr_id (by omega) (by omega)]; omega
  have ha : allN (shK c l) (2 ^ l.length - 1) l.length = whole c l := rfl
  have hbl := (bestF_lt hb).1
  have h := refF hc hv h12 ht
  have hw : bestW c l (2 ^ l.length) = b := by unfold bestW; rw [hb]; rfl
  rw [hw] at h
  unfold r03_Fewest
  simp only [CheckTrials_val hc hv hr hl, hz, Option.bind_some, not_true_eq_false, decide_false, Bool.false_eq_true, if_false, u64_nat (y := l.length) (by omega), shl_nat (y := l.length) (by omega), eq, rall_val hc hv h12 ht (pow_l hc hv h12 ht), ha, every_val hc hv h12 ht, h, r03_Fewest_j12, members_eq (x := b) (n := l.length) (by omega) h12]
end
end
theorem Trials_plain (hw : l03_works = some true) (c : Circuit) (l : List Trial) (trial : Int) (hc : OkC c) (hl : OkTrials l) (hi : In64 trial) : l03_CircuitTrials c l trial = some true := by
  have hm : (100 : Nat) ≤ maxLen := by decide
  unfold l03_CircuitTrials
  rcases Far_cases hc with e | ⟨e, hb⟩
  · simp only [e, Option.bind_some, Bool.true_or, if_true, hw]
  · rw [e]
    simp only [Option.bind_some, Bool.false_or]
    by_cases g : (20 : Int) < (l.length : Int)
    · simp only [g, decide_true, if_true, hw, Option.bind_some]
    · simp only [g, decide_false, Bool.false_eq_true, if_false]
      have key : ∃ v1 e1 v2 e2 v3 e3, circuit_Shows c l trial = some (v1, e1) ∧ r03_Shows c l trial = some (v1, e1) ∧ circuit_Blind c l = some (v2, e2) ∧ r03_Blind c l = some (v2, e2) ∧ circuit_Fewest c l = some (v3, e3) ∧ r03_Fewest c l = some (v3, e3) ∧ v1.length ≤ maxLen ∧ v2.length ≤ maxLen ∧ v3.length ≤ maxLen := by
        rcases Check_cases hc hb with ⟨hk, hr, hv⟩ | ⟨hk, hr⟩
        · by_cases hz : chk c l = 0
          · obtain ⟨h12, ht⟩ := chk_zero hz
            have hs12 := hv.sw.2
            obtain ⟨b, q1, q2, _⟩ := Fewest_ok hc hv hl hk hz
            have q3 := rFewest_ok hc hv hl hr hz q2
            have m2 := memI_len (x := 2 ^ c.Switches.length - 1 - whole c l) (n := c.Switches.length)
            have m3 := memI_len (x := b) (n := l.length)
            by_cases hin : 0 ≤ trial ∧ trial < (l.length : Int)
            · obtain ⟨k, rfl⟩ : ∃ k : Nat, trial = k := ⟨trial.toNat, by omega⟩
              have m1 := memI_len (x := shK c l k) (n := c.Switches.length)
              exact ⟨_, _, _, _, _, _, Shows_ok hc hv hl hk hz (by omega), rShows_ok hc hv hl hr hz (by omega), Blind_ok hc hv hl hk hz, rBlind_ok hc hv hl hr hz, q1, q3, by omega, by omega, by omega⟩
            · refine ⟨[], 1, _, _, _, _, ?_, ?_, Blind_ok hc hv hl hk hz, rBlind_ok hc hv hl hr hz, q1, q3, nil_len, by omega, by omega⟩
              · have e : (decide (trial < 0) || decide ((l.length : Int) ≤ trial)) = true := by
                  rw [Bool.or_eq_true, decide_eq_true_eq, decide_eq_true_eq]; omega
                unfold circuit_Shows
                simp only [check_val hc hv hk hl, hz, Option.bind_some, not_true_eq_false, decide_false, Bool.false_eq_true, if_false, e, if_true]
              · have e : (!(r03_within trial 0 (wr ((l.length : Int) - 1)))) = true := by
                  rw [wr_id (by omega) (by omega)]
                  unfold r03_within
                  rw [Bool.not_eq_true', Bool.and_eq_false_iff, decide_eq_false_iff_not, decide_eq_false_iff_not]
                  omega
                unfold r03_Shows
                simp only [CheckTrials_val hc hv hr hl, hz, Option.bind_some, not_true_eq_false, decide_false, Bool.false_eq_true, if_false, e, if_true]
          · have n1 : decide (¬chk c l = 0) = true := by simp [hz]
            refine ⟨[], chk c l, [], chk c l, [], chk c l, ?_, ?_, ?_, ?_, ?_, ?_, nil_len, nil_len, nil_len⟩
            · unfold circuit_Shows; simp only [check_val hc hv hk hl, Option.bind_some, n1, if_true]
            · unfold r03_Shows; simp only [CheckTrials_val hc hv hr hl, Option.bind_some, n1, if_true]
            · unfold circuit_Blind; simp only [check_val hc hv hk hl, Option.bind_some, n1, if_true]
            · unfold r03_Blind; simp only [CheckTrials_val hc hv hr hl, Option.bind_some, n1, if_true]
            · unfold circuit_Fewest; simp only [check_val hc hv hk hl, Option.bind_some, n1, if_true]
            · unfold r03_Fewest; simp only [CheckTrials_val hc hv hr hl, Option.bind_some, n1, if_true]
        · have n1 : decide (¬(30 : Int) = 0) = true := by decide
          have c1 : circuit_check c l = some 30 := by unfold circuit_check; simp only [hk, Option.bind_some, n1, if_true]
          have c2 : r03_CheckTrials c l = some 30 := by unfold r03_CheckTrials; simp only [hr, Option.bind_some, n1, if_true]
          refine ⟨[], 30, [], 30, [], 30, ?_, ?_, ?_, ?_, ?_, ?_, nil_len, nil_len, nil_len⟩
          · unfold circuit_Shows; simp only [c1, Option.bind_some, n1, if_true]
          · unfold r03_Shows; simp only [c2, Option.bind_some, n1, if_true]
          · unfold circuit_Blind; simp only [c1, Option.bind_some, n1, if_true]
          · unfold r03_Blind; simp only [c2, Option.bind_some, n1, if_true]
          · unfold circuit_Fewest; simp only [c1, Option.bind_some, n1, if_true]
          · unfold r03_Fewest; simp only [c2, Option.bind_some, n1, if_true]
      obtain ⟨v1, e1, v2, e2, v3, e3, a1, a2, a3, a4, a5, a6, b1, b2, b3⟩ := key
      simp only [a1, a2, a3, a4, a5, a6, Option.bind_some, not_true_eq_false, decide_false, decide_true, Bool.false_eq_true, if_false, if_true, sameInts_self b1, sameInts_self b2, sameInts_self b3, Bool.not_true, hw]
end Go.Nw.DM
