/- The plain laws of the trials and of the covers. -/
import Derived.Test.YtmlhjobmpjpmnaaDoorP4
set_option linter.all false
set_option linter.unusedVariables false
set_option linter.unusedSimpArgs false
set_option linter.unusedSectionVars false
namespace Go.Nw.DM
def lexL : List Int → List Int → Bool
  | [], [] => false
  | [], _ :: _ => true
  | _ :: _, [] => false
  | a :: x, b :: y => if a = b then lexL x y else decide (a < b)
theorem cmp_eq (x y : Int) : cmp_Compare_int_ x y = if x < y then -1 else if y < x then 1 else 0 := by
  unfold cmp_Compare_int_ cmp_isNaN_int_
  by_cases h1 : x < y
  · simp [h1]
  · by_cases h2 : y < x <;> simp [h1, h2]
theorem compare_eq {a b : List Int} (ha : a.length ≤ 1000) (hb : b.length ≤ 1000) : ∃ r, slices_Compare___int_int_ a b = some r ∧ decide (r < 0) = lexL a b := by
  have hm : (1000 : Nat) ≤ maxLen := by decide
  have key : ∀ (x y : List Int) (k : Nat), a.drop k = x → b.drop k = y → k ≤ a.length → k ≤ b.length → ∃ r, loopM (slices_Compare___int_int__L11 a b) (k : Int) = some r ∧
      ∃ v, (match r with | .inl () => slices_Compare___int_int__j2 a b | .inr r' => some r') = some v ∧ decide (v < 0) = lexL x y := by
    intro x
    induction x with
    | nil =>
      intro y k h1 h2 h3 h4
      have hk : k = a.length := by have := List.drop_eq_nil_iff.1 h1; omega
      refine ⟨.inl (), loopM_br ?_, ?_⟩
      · unfold slices_Compare___int_int__L11
        have : ¬ (k : Int) < (a.length : Int) := by omega
        simp only [this, decide_false, Bool.false_eq_true, if_false]
      · simp only [slices_Compare___int_int__j2]
        cases y with
        | nil =>
          have hk2 := List.drop_eq_nil_iff.1 h2
          have : ¬ (a.length : Int) < (b.length : Int) := by omega
          exact ⟨0, by simp [this], by simp [lexL]⟩
        | cons c y =>
          have hlt : k < b.length := by
            rcases Nat.lt_or_ge k b.length with h | h
            · exact h
            · rw [List.drop_eq_nil_of_le h] at h2; cases h2
          have : (a.length : Int) < (b.length : Int) := by omega
          exact ⟨-1, by simp [this], by simp [lexL]⟩
    | cons c x ih =>
      intro y k h1 h2 h3 h4
      obtain ⟨g1, g2, g3, _⟩ := drop_get h1
      cases y with
      | nil =>
        have hk2 := List.drop_eq_nil_iff.1 h2
        refine ⟨.inr 1, loopM_br ?_, 1, rfl, by simp [lexL]⟩
        unfold slices_Compare___int_int__L11
        have : (b.length : Int) ≤ (k : Int) := by omega
        simp only [g2, decide_true, if_true, g1, Option.bind_some, this]
      | cons d y =>
        obtain ⟨q1, q2, q3, _⟩ := drop_get h2
        have hn : ¬ (b.length : Int) ≤ (k : Int) := by omega
        by_cases e : c = d
        · subst e
          have hstep : slices_Compare___int_int__L11 a b (k : Int) = some (.nx ((k + 1 : Nat) : Int)) := by
            unfold slices_Compare___int_int__L11
            simp only [g2, decide_true, if_true, g1, Option.bind_some, hn, decide_false, Bool.false_eq_true, if_false, q1, cmp_eq, Int.lt_irrefl, not_true_eq_false]
            rw [wr_len g2 (Nat.le_trans ha hm)]; rfl
          rw [loopM_nx hstep]
          have hk1 : k + 1 ≤ a.length := by omega
          have hk2 : k + 1 ≤ b.length := by omega
          obtain ⟨r, e1, v, e2, e3⟩ := ih y (k + 1) g3 q3 hk1 hk2
          exact ⟨r, e1, v, e2, by rw [e3]; simp [lexL]⟩
        · have hne : ¬ cmp_Compare_int_ c d = 0 := by
            rw [cmp_eq]
            by_cases z : c < d
            · simp [z]
            · have : d < c := by omega
              simp [z, this]
          refine ⟨.inr (cmp_Compare_int_ c d), loopM_br ?_, cmp_Compare_int_ c d, rfl, ?_⟩
          · unfold slices_Compare___int_int__L11
            simp only [g2, decide_true, if_true, g1, Option.bind_some, hn, decide_false, Bool.false_eq_true, if_false, q1, hne, not_false_eq_true]
          · simp only [lexL, e, if_false, cmp_eq]
            by_cases z : c < d
            · simp [z]
            · have : d < c := by omega
              simp [z, this]
  obtain ⟨r, e1, v, e2, e3⟩ := key a b 0 rfl rfl (Nat.zero_le _) (Nat.zero_le _)
  refine ⟨v, ?_, e3⟩
  unfold slices_Compare___int_int_
  rw [show ((0 : Nat) : Int) = 0 from rfl] at e1
  rw [e1]
  cases r <;> exact e2
theorem less_eq {a b : List Int} (hl : a.length = b.length) (ha : a.length ≤ 1000) : r03_less a b = some (lexL a b) := by
  have hm : (1000 : Nat) ≤ maxLen := by decide
  have key : ∀ (x y : List Int) (k : Nat), a.drop k = x → b.drop k = y → k ≤ a.length → ∃ r, loopM (r03_less_L6 a b) (k : Int) = some r ∧ (match r with | .inl () => r03_less_j2 | .inr r' => some r') = some (lexL x y) := by
    intro x
    induction x with
    | nil =>
      intro y k h1 h2 h3
      have hk : k = a.length := by have := List.drop_eq_nil_iff.1 h1; omega
      refine ⟨.inl (), loopM_br ?_, ?_⟩
      · unfold r03_less_L6
        have : ¬ (k : Int) < (a.length : Int) := by omega
        simp only [this, decide_false, Bool.false_eq_true, if_false]
      · have : y = [] := by rw [← h2]; exact List.drop_eq_nil_of_le (by omega)
        subst this; rfl
    | cons c x ih =>
      intro y k h1 h2 h3
      obtain ⟨g1, g2, g3, _⟩ := drop_get h1
      cases y with
      | nil =>
        have hk2 := List.drop_eq_nil_iff.1 h2
        omega
      | cons d y =>
        obtain ⟨q1, q2, q3, _⟩ := drop_get h2
        by_cases e : c = d
        · subst e
          have hstep : r03_less_L6 a b (k : Int) = some (.nx ((k + 1 : Nat) : Int)) := by
            unfold r03_less_L6
            simp only [g2, decide_true, if_true, g1, Option.bind_some, q1, not_true_eq_false, decide_false, Bool.false_eq_true, if_false]
            rw [wr_len g2 (Nat.le_trans ha hm)]; rfl
          rw [loopM_nx hstep]
          obtain ⟨r, e1, e2⟩ := ih y (k + 1) g3 q3 (by omega)
          exact ⟨r, e1, by rw [e2]; simp [lexL]⟩
        · refine ⟨.inr (decide (c < d)), loopM_br ?_, by simp [lexL, e]⟩
          unfold r03_less_L6
          simp only [g2, decide_true, if_true, g1, Option.bind_some, q1, e, not_false_eq_true]
  obtain ⟨r, e1, e2⟩ := key a b 0 rfl rfl (Nat.zero_le _)
  unfold r03_less
  rw [show ((0 : Nat) : Int) = 0 from rfl] at e1
  rw [e1]
  cases r <;> exact e2
theorem lexL_irrefl : ∀ a, lexL a a = false
  | [] => rfl
  | a :: x => by simp [lexL, lexL_irrefl x]
theorem ones_le {s n : Nat} (h : s < 2 ^ n) (hn : n ≤ 12) : ones s ≤ n := by
  rw [← memI_ones h hn]; exact memI_len
theorem ones_full {s n : Nat} (h : s < 2 ^ n) (hn : n ≤ 12) (ho : ones s = n) : s = 2 ^ n - 1 := by
  rw [← memI_ones h hn] at ho
  unfold memI memN at ho
  rw [List.length_map] at ho
  have hall : ∀ k, k < n → s.testBit k = true := fun k hk => by
    have hl : ((List.range n).filter (s.testBit ·)).length = (List.range n).length := by rw [ho]; simp
    have := List.length_filter_eq_length_iff.1 hl k (List.mem_range.2 hk)
    exact this
  apply Nat.eq_of_testBit_eq
  intro i
  rw [Nat.testBit_two_pow_sub_one]
  by_cases hi : i < n
  · rw [hall i hi]; simp [hi]
  · rw [Nat.testBit_lt_two_pow (Nat.lt_of_lt_of_le h (Nat.pow_le_pow_right (by omega) (by omega)))]; simp [hi]

/- the fewest -/
def covers (c : Circuit) (l : List Trial) (s : Nat) : Bool := decide (allN (shK c l) s l.length = whole c l)
def better (n s b : Nat) : Bool := decide (ones s < ones b) || (decide (ones s = ones b) && lexL (memI s n) (memI b n))
def betterO (n k : Nat) : Option Nat → Bool
  | none => true
  | some b => better n k b
def bestF (c : Circuit) (l : List Trial) : Nat → Option Nat
  | 0 => none
  | k + 1 => if covers c l k && betterO l.length k (bestF c l k) then some k else bestF c l k
def bestW (c : Circuit) (l : List Trial) (k : Nat) : Nat := (bestF c l k).getD (2 ^ l.length - 1)
theorem bestF_lt {c : Circuit} {l : List Trial} : ∀ {k b}, bestF c l k = some b → b < k ∧ covers c l b = true
  | 0, b, h => by cases h
  | k + 1, b, h => by
    simp only [bestF] at h
    by_cases hc : (covers c l k && betterO l.length k (bestF c l k)) = true
    · rw [if_pos hc] at h
      cases h
      rw [Bool.and_eq_true] at hc
      exact ⟨by omega, hc.1⟩
    · rw [if_neg hc] at h
      obtain ⟨h1, h2⟩ := bestF_lt h
      exact ⟨by omega, h2⟩
theorem bestF_min {c : Circuit} {l : List Trial} : ∀ {k s}, s < k → covers c l s = true → ∃ b, bestF c l k = some b ∧ ones b ≤ ones s
  | 0, s, h, _ => by omega
  | k + 1, s, h, hc => by
    simp only [bestF]
    by_cases e : s = k
    · subst e
      cases hb : bestF c l s with
      | none => rw [hc, show betterO l.length s none = true from rfl, Bool.and_self, if_pos rfl]; exact ⟨s, rfl, Nat.le_refl _⟩
      | some b =>
        rw [hc, show betterO l.length s (some b) = better l.length s b from rfl, Bool.true_and]
        by_cases hbe : better l.length s b = true
        · rw [if_pos hbe]; exact ⟨s, rfl, Nat.le_refl _⟩
        · rw [if_neg hbe]
          refine ⟨b, rfl, ?_⟩
          rw [Bool.not_eq_true] at hbe
          simp only [better, Bool.or_eq_false_iff, decide_eq_false_iff_not] at hbe
          omega
    · obtain ⟨b, h1, h2⟩ := bestF_min (k := k) (s := s) (by omega) hc
      rw [h1, show betterO l.length k (some b) = better l.length k b from rfl]
      by_cases z : (covers c l k && better l.length k b) = true
      · rw [if_pos z]
        refine ⟨k, rfl, ?_⟩
        rw [Bool.and_eq_true] at z
        have := z.2
        simp only [better, Bool.or_eq_true, Bool.and_eq_true, decide_eq_true_eq] at this
        rcases this with h | h <;> omega
      · rw [if_neg z]; exact ⟨b, rfl, h2⟩

section
variable {c : Circuit} (hc : OkC c) (hv : Valid c) {l : List Trial} (hl : l.length ≤ 12) (ht : ∀ t ∈ l, okTrial c t = true)
include hc hv hl ht
theorem gotL {s : Nat} (hs : s < 2 ^ l.length) {w : Int} : loopM (circuit_Fewest_L16 ((List.range l.length).map (fun k => ((shK c l k : Nat) : Int)), w) (memI s l.length)) (0, 0) = some ((allN (shK c l) s l.length : Nat) : Int) := by
  have hs12 := hv.sw.2
  have hm : (12 : Nat) ≤ maxLen := by decide
  have hml := memI_len (x := s) (n := l.length)
  -- over the elements below a number
  have key : ∀ n, n ≤ l.length → ((memN s n).map cast).foldl (fun (g : Int) t => bor g (nth ((List.range l.length).map (fun k => ((shK c l k : Nat) : Int))) t)) 0 = ((allN (shK c l) s n : Nat) : Int) := by
    intro n
    induction n with
    | zero => intro _; rfl
    | succ n ih =>
      intro hn
      have ih := ih (by omega)
      unfold memN at ih ⊢
      rw [List.range_succ, List.filter_append, List.map_append, List.foldl_append, ih]
      simp only [allN]
      by_cases hb : s.testBit n = true
      · have e1 : nth ((List.range l.length).map (fun k => ((shK c l k : Nat) : Int))) (cast n) = ((shK c l n : Nat) : Int) := by
          have : n < l.length := by omega
          simp [cast, nth, List.getD, this]
        simp only [List.filter_cons, hb, if_true, List.filter_nil, List.map_cons, List.map_nil, List.foldl_cons, List.foldl_nil, e1]
        exact bor_nat (by have := pow12 (allN_lt (shK_lt c l) s n) hs12; omega) (by have := pow12 (shK_lt c l n) hs12; omega)
      · simp [hb]
  have h := loop_list (f := circuit_Fewest_L16 ((List.range l.length).map (fun k => ((shK c l k : Nat) : Int)), w) (memI s l.length)) (memI s l.length) (fun (g : Int) k => (g, k)) (fun r g => r.foldl (fun (g : Int) t => bor g (nth ((List.range l.length).map (fun k => ((shK c l k : Nat) : Int))) t)) g) (fun _ _ => True)
    (fun g k x r hd hg hk hmx _ => by
      obtain ⟨j, rfl, hj, _⟩ := memI_rng hmx
      unfold circuit_Fewest_L16
      simp only [hk, decide_true, if_true, hg, Option.bind_some, get_nth (l := (List.range l.length).map (fun k => ((shK c l k : Nat) : Int))) (i := (j : Int)) (by omega) (by simp; omega), wr_len hk (show (memI s l.length).length ≤ maxLen by omega)]
      exact .inl ⟨_, rfl, trivial, rfl⟩)
    (fun g _ => by unfold circuit_Fewest_L16; simp) (s := 0) trivial
  rw [h, ← key l.length (Nat.le_refl _)]
  rfl
theorem haveL {s : Nat} (hs : s < 4096) : loopM (r03_Fewest_L16 l ((List.range l.length).map (fun k => ((shK c l k : Nat) : Int))) (s : Int)) (0, 0) = some ((allN (shK c l) s l.length : Nat) : Int) := by
  have hs12 := hv.sw.2
  obtain ⟨r, e, rfl⟩ := loop_inv (f := r03_Fewest_L16 l ((List.range l.length).map (fun k => ((shK c l k : Nat) : Int))) (s : Int)) l.length (fun (g : Int) k => (g, k)) (fun k g => g = ((allN (shK c l) s k : Nat) : Int)) (fun r => r = ((allN (shK c l) s l.length : Nat) : Int))
    (fun g k hk hi => by
      subst hi
      have e1 : (k : Int) < (l.length : Int) := by omega
      have b1 := pow12 (allN_lt (shK_lt c l) s k) hs12
      have b2 := pow12 (shK_lt c l k) hs12
      have e2 : nth ((List.range l.length).map (fun k => ((shK c l k : Nat) : Int))) (k : Int) = ((shK c l k : Nat) : Int) := by simp [nth, List.getD, hk]
      refine .inl ⟨_, ?_, rfl⟩
      unfold r03_Fewest_L16
      simp only [e1, decide_true, if_true, u64_nat (y := k) (by omega), shr_ok (show (0 : Int) ≤ (k : Int) by omega), get_nth (l := (List.range l.length).map (fun k => ((shK c l k : Nat) : Int))) (i := (k : Int)) (by omega) (by simp; omega), e2, Option.bind_some, r03_Fewest_j49, wr_k hk (show l.length < 4611686018427387904 by omega)]
      rw [bit_eq (by omega) (by omega), bor_nat (by omega) (by omega)]
      simp only [allN]
      cases s.testBit k <;> rfl)
    (fun g hi => ⟨g, by unfold r03_Fewest_L16; simp only [Int.lt_irrefl, decide_false, Bool.false_eq_true, if_false], hi⟩) (s := 0) 0 (Nat.zero_le _) rfl
  exact e
theorem progF {w : Int} (hw : w = ((whole c l : Nat) : Int)) : loopM (circuit_Fewest_L20 ((List.range l.length).map (fun k => ((shK c l k : Nat) : Int)), w) ((2 ^ l.length : Nat) : Int)) (none, false, 0) = some ((bestF c l (2 ^ l.length)).map fun b => memI b l.length) := by
  subst hw
  have hp := Nat.pow_le_pow_right (n := 2) (show 0 < 2 by omega) hl
  obtain ⟨r, e, rfl⟩ := loop_inv (f := circuit_Fewest_L20 ((List.range l.length).map (fun k => ((shK c l k : Nat) : Int)), ((whole c l : Nat) : Int)) ((2 ^ l.length : Nat) : Int)) (2 ^ l.length) (fun (o : Option Nat) k => (o.map fun b => memI b l.length, o.isSome, k))
    (fun k o => o = bestF c l k) (fun r => r = (bestF c l (2 ^ l.length)).map fun b => memI b l.length)
    (fun o k hk hi => by
      have e1 : (k : Int) < ((2 ^ l.length : Nat) : Int) := by omega
      refine .inl ⟨if covers c l k && betterO l.length k o then some k else o, ?_, by rw [hi]; simp only [bestF]⟩
      have hob : ∀ b, o = some b → b < 2 ^ l.length := fun b h => by have := bestF_lt (by rw [← hi, h]); omega
      clear hi
      unfold circuit_Fewest_L20
      simp only [e1, decide_true, if_true, elements_eq hk hl, Option.bind_some, gotL hc hv hl ht hk, circuit_Fewest_j19, circuit_Fewest_j15]
      rw [wr_k hk (by omega)]
      have hcov : decide (((allN (shK c l) k l.length : Nat) : Int) = ((whole c l : Nat) : Int)) = covers c l k := by
        unfold covers; congr 1; simp only [eq_iff_iff]; omega
      rw [hcov]
      have hlk := memI_len (x := k) (n := l.length)
      cases o with
      | none => cases covers c l k <;> rfl
      | some b =>
        have hb := hob b rfl
        have hlb := memI_len (x := b) (n := l.length)
        obtain ⟨r, hr1, hr2⟩ := compare_eq (a := memI k l.length) (b := memI b l.length) (by omega) (by omega)
        have o1 := memI_ones hk hl
        have o2 := memI_ones hb hl
        simp only [Option.map_some, Option.getD_some, Option.isSome_some, Bool.not_true, Bool.false_or, hr1, Option.bind_some, hr2, better]
        have f1 : decide (((memI k l.length).length : Int) < ((memI b l.length).length : Int)) = decide (ones k < ones b) := by congr 1; simp only [eq_iff_iff]; omega
        have f2 : decide (((memI k l.length).length : Int) = ((memI b l.length).length : Int)) = decide (ones k = ones b) := by congr 1; simp only [eq_iff_iff]; omega
        rw [f1, f2, show betterO l.length k (some b) = (decide (ones k < ones b) || (decide (ones k = ones b) && lexL (memI k l.length) (memI b l.length))) from rfl]
        cases covers c l k <;> cases decide (ones k < ones b) <;> cases decide (ones k = ones b) <;> cases lexL (memI k l.length) (memI b l.length) <;> rfl)
    (fun o hi => ⟨o.map fun b => memI b l.length, by unfold circuit_Fewest_L20; simp only [Int.lt_irrefl, decide_false, Bool.false_eq_true, if_false], by rw [hi]⟩) (s := none) 0 (Nat.zero_le _) rfl
  exact e
theorem refF : loopM (r03_Fewest_L21 l ((2 ^ l.length : Nat) : Int) ((whole c l : Nat) : Int) ((List.range l.length).map (fun k => ((shK c l k : Nat) : Int)))) (((2 ^ l.length - 1 : Nat) : Int), 0) = some ((bestW c l (2 ^ l.length) : Nat) : Int) := by
  have hp := Nat.pow_le_pow_right (n := 2) (show 0 < 2 by omega) hl
  have hp0 : 0 < 2 ^ l.length := Nat.pow_pos (by omega)
  have ew : wr (((2 ^ l.length : Nat) : Int) - 1) = ((2 ^ l.length - 1 : Nat) : Int) := by rw [wr_id (by omega) (by omega)]; omega
  obtain ⟨r, e, rfl⟩ := loop_inv (f := r03_Fewest_L21 l ((2 ^ l.length : Nat) : Int) ((whole c l : Nat) : Int) ((List.range l.length).map (fun k => ((shK c l k : Nat) : Int)))) (2 ^ l.length) (fun (b : Nat) k => ((b : Int), k))
    (fun k b => b = bestW c l k) (fun r => r = ((bestW c l (2 ^ l.length) : Nat) : Int))
    (fun b k hk hi => by
      have e1 : (k : Int) ≤ ((2 ^ l.length - 1 : Nat) : Int) := by omega
      have hb : b < 2 ^ l.length := by
        rw [hi]; unfold bestW
        cases hx : bestF c l k with
        | none => simp only [Option.getD_none]; omega
        | some x => have := bestF_lt hx; simp only [Option.getD_some]; omega
      refine .inl ⟨bestW c l (k + 1), ?_, rfl⟩
      unfold r03_Fewest_L21
      simp only [ew, e1, decide_true, if_true, haveL hc hv hl ht (show k < 4096 by omega), Option.bind_some, r03_Fewest_j21, r03_Fewest_j19, Ones_eq (x := k) (by omega), Ones_eq (x := b) (by omega), members_eq (x := k) (by omega) hl, members_eq (x := b) (by omega) hl]
      rw [wr_k hk (by omega)]
      have hcov : decide (¬((allN (shK c l) k l.length : Nat) : Int) = ((whole c l : Nat) : Int)) = !covers c l k := by
        unfold covers
        by_cases z : allN (shK c l) k l.length = whole c l
        · rw [z]; simp
        · have : ¬ ((allN (shK c l) k l.length : Nat) : Int) = ((whole c l : Nat) : Int) := by omega
          simp [z, this]
      rw [hcov]
      -- what the next best is
      have hnext : bestW c l (k + 1) = if covers c l k && better l.length k b then k else b := by
        unfold bestW at hi ⊢
        simp only [bestF]
        cases hx : bestF c l k with
        | some x =>
          rw [hx] at hi
          simp only [Option.getD_some] at hi
          subst hi
          rw [show betterO l.length k (some b) = better l.length k b from rfl]
          by_cases z : (covers c l k && better l.length k b) = true
          · rw [if_pos z, if_pos z]; rfl
          · rw [if_neg z, if_neg z]; rfl
        | none =>
          rw [hx] at hi
          simp only [Option.getD_none] at hi
          simp only [betterO, Bool.and_true]
          cases hcv : covers c l k with
          | false => simp [hi]
          | true =>
            simp only [if_true, Option.getD_some, Bool.true_and]
            have hle := ones_le hk hl
            have hbo : ones b = l.length := by
              rw [hi, ← memI_ones (show 2 ^ l.length - 1 < 2 ^ l.length by omega) hl]
              unfold memI memN
              rw [List.length_map]
              have : (List.range l.length).filter ((2 ^ l.length - 1).testBit ·) = List.range l.length := List.filter_eq_self.2 fun j hj => full_bit (List.mem_range.1 hj)
              rw [this]; simp
            by_cases z : ones k < ones b
            · simp [better, z]
            · have hk' := ones_full hk hl (by omega)
              have : k = b := by rw [hk', hi]
              subst this
              simp [better, lexL_irrefl]
      rw [hnext]
      have g1 : decide (((ones b : Nat) : Int) < ((ones k : Nat) : Int)) = decide (ones b < ones k) := by congr 1; simp only [eq_iff_iff]; omega
      have g2 : decide (((ones k : Nat) : Int) < ((ones b : Nat) : Int)) = decide (ones k < ones b) := by congr 1; simp only [eq_iff_iff]; omega
      rw [g1, g2]
      unfold better
      cases covers c l k with
      | false => simp
      | true =>
        by_cases z1 : ones b < ones k
        · have z2 : ¬ ones k < ones b := by omega
          have z3 : ¬ ones k = ones b := by omega
          simp [z1, z2, z3]
        · by_cases z2 : ones k < ones b
          · simp [z1, z2]
          · have z3 : ones k = ones b := by omega
            have hlen : (memI k l.length).length = (memI b l.length).length := by rw [memI_ones hk hl, memI_ones hb hl, z3]
            have hlk := memI_len (x := k) (n := l.length)
            simp only [z3, Nat.lt_irrefl, decide_false, decide_true, Bool.not_true, Bool.false_eq_true, if_false, Bool.false_or, Bool.true_and, less_eq hlen (show (memI k l.length).length ≤ 1000 by omega), Option.bind_some]
            cases lexL (memI k l.length) (memI b l.length) <;> rfl)
    (fun b hi => ⟨(b : Int), by
      unfold r03_Fewest_L21
      have : ¬ ((2 ^ l.length : Nat) : Int) ≤ ((2 ^ l.length - 1 : Nat) : Int) := by omega
      simp only [ew, this, decide_false, Bool.false_eq_true, if_false], by rw [hi]⟩) (s := 2 ^ l.length - 1) 0 (Nat.zero_le _) rfl
  exact e
theorem whole_covers : covers c l (2 ^ l.length - 1) = true := by unfold covers whole; simp
theorem best_some : ∃ b, bestF c l (2 ^ l.length) = some b ∧ b < 2 ^ l.length ∧ covers c l b = true ∧ ∀ s, s < 2 ^ l.length → covers c l s = true → ones b ≤ ones s := by
  have hp0 : 0 < 2 ^ l.length := Nat.pow_pos (by omega)
  obtain ⟨b, h1, _⟩ := bestF_min (c := c) (l := l) (k := 2 ^ l.length) (s := 2 ^ l.length - 1) (by omega) (whole_covers hc hv hl ht)
  refine ⟨b, h1, (bestF_lt h1).1, (bestF_lt h1).2, fun s hs hcs => ?_⟩
  obtain ⟨b', h2, h3⟩ := bestF_min (c := c) (l := l) (k := 2 ^ l.length) hs hcs
  rw [h1] at h2; cases h2; exact h3
end
end Go.Nw.DM
