/- Plain laws on the models. -/
import Derived.Test.YteoedeeljnboeaaP1
import Derived.Test.YteoedeeljnboeaaNwSearch
set_option linter.all false
set_option linter.unusedVariables false
set_option linter.unusedSimpArgs false
set_option linter.unusedSectionVars false
namespace Go.Nw.HM

/-- What the numbers of a hall are. -/
structure Crowded (n : Nat) (lo : Int) (l : List Crowd) : Prop where
  each : ∀ (k : Nat) x, l[k]? = some x → 0 ≤ x.Comb ∧ x.Comb < n ∧ 0 ≤ x.People.Low ∧ x.People.Low ≤ x.People.High ∧ x.People.High ≤ 1000
structure Valid (h : Hall) : Prop where
  u1 : 1 ≤ h.Until
  u2 : h.Until ≤ 100
  c1 : 1 ≤ h.Combs.length
  c2 : h.Combs.length ≤ 8
  t2 : h.Trains.length ≤ 12
  s2 : h.Shifts.length ≤ 20
  comb : ∀ (k : Nat) x, h.Combs[k]? = some x → 0 ≤ x.Rate ∧ x.Rate ≤ 1000 ∧ 0 ≤ x.Limit ∧ x.Limit ≤ 100000 ∧ (x.Next = -1 ∨ (k < x.Next ∧ x.Next < h.Combs.length)) ∧ 1 ≤ x.Walk.Low ∧ x.Walk.Low ≤ x.Walk.High ∧ x.Walk.High ≤ 20
  train : ∀ (k : Nat) x, h.Trains[k]? = some x → 0 ≤ x.At.Low ∧ x.At.Low ≤ x.At.High ∧ x.At.High ≤ h.Until - 1 ∧ x.Crowds.length ≤ 4 ∧
    (∀ (j : Nat) y, x.Crowds[j]? = some y → 0 ≤ y.People.Low ∧ y.People.Low ≤ y.People.High ∧ y.People.High ≤ 1000 ∧ y.Comb < h.Combs.length ∧ (match j with | 0 => -1 < y.Comb | j + 1 => ∀ z, x.Crowds[j]? = some z → z.Comb < y.Comb))
  shift : ∀ (k : Nat) x, h.Shifts[k]? = some x → 0 ≤ x.At ∧ x.At < h.Until ∧ 0 ≤ x.Comb ∧ x.Comb < h.Combs.length ∧ 0 ≤ x.Rate ∧ x.Rate ≤ 1000 ∧ (∀ j y, k = j + 1 → h.Shifts[j]? = some y → y.At ≤ x.At)

def goodComb (n : Nat) (k : Nat) (x : Comb) : Prop := 0 ≤ x.Rate ∧ x.Rate ≤ 1000 ∧ 0 ≤ x.Limit ∧ x.Limit ≤ 100000 ∧ (x.Next = -1 ∨ ((k : Int) < x.Next ∧ x.Next < n)) ∧ 1 ≤ x.Walk.Low ∧ x.Walk.Low ≤ x.Walk.High ∧ x.Walk.High ≤ 20
def goodCrowd (n : Nat) (l : List Crowd) (j : Nat) (y : Crowd) : Prop := 0 ≤ y.People.Low ∧ y.People.Low ≤ y.People.High ∧ y.People.High ≤ 1000 ∧ y.Comb < n ∧ (match j with | 0 => -1 < y.Comb | j + 1 => ∀ z, l[j]? = some z → z.Comb < y.Comb)
def goodTrain (n : Nat) (u : Int) (x : Train) : Prop := 0 ≤ x.At.Low ∧ x.At.Low ≤ x.At.High ∧ x.At.High ≤ u - 1 ∧ x.Crowds.length ≤ 4 ∧ ∀ (j : Nat) y, x.Crowds[j]? = some y → goodCrowd n x.Crowds j y
def goodShift (n : Nat) (u : Int) (l : List Shift) (k : Nat) (x : Shift) : Prop := 0 ≤ x.At ∧ x.At < u ∧ 0 ≤ x.Comb ∧ x.Comb < n ∧ 0 ≤ x.Rate ∧ x.Rate ≤ 1000 ∧ (∀ j y, k = j + 1 → l[j]? = some y → y.At ≤ x.At)

/- Whether the lists are not too long for the law. -/
theorem Far_ok {h : Hall} (hk : OkHall h) : ∃ b, l06_Far h = some b := by
  unfold l06_Far
  split
  · exact ⟨_, rfl⟩
  · have hl : h.Trains.length ≤ maxLen := hk.2.1.1
    rcases loop_scan (f := l06_Far_L8 h) h.Trains (fun _ x => 10 < x.Crowds.length) (.inr true) (.inl ()) (fun k x hx hb => by
      simp only [l06_Far_L8, get_k hx, Option.bind_some]
      rw [if_pos (by simpa using lt_k hx), if_pos (by simp; omega)]) (fun k x hx hb => by
      simp only [l06_Far_L8, get_k hx, Option.bind_some]
      rw [if_pos (by simpa using lt_k hx), if_neg (by simp; omega), wr_k (lt_k hx) hl]) (by simp [l06_Far_L8]) with ⟨_, h2⟩ | ⟨_, h2⟩
    · rw [h2]; exact ⟨_, rfl⟩
    · rw [h2]; exact ⟨_, rfl⟩
end Go.Nw.HM

namespace Go.Nw.HM

def Sizes (h : Hall) : Prop := 1 ≤ h.Until ∧ h.Until ≤ 100 ∧ 1 ≤ h.Combs.length ∧ h.Combs.length ≤ 8 ∧ h.Trains.length ≤ 12 ∧ h.Shifts.length ≤ 20
def V (h : Hall) : Prop := Sizes h ∧ (∀ (k : Nat) x, h.Combs[k]? = some x → goodComb h.Combs.length k x) ∧ (∀ (k : Nat) x, h.Trains[k]? = some x → goodTrain h.Combs.length h.Until x) ∧ (∀ (k : Nat) x, h.Shifts[k]? = some x → goodShift h.Combs.length h.Until h.Shifts k x)
def prevC (l : List Crowd) : Nat → Int
  | 0 => -1
  | j + 1 => ((l[j]?).map (·.Comb)).getD 0
theorem prevC_s {l : List Crowd} {k : Nat} {x : Crowd} (h : l[k]? = some x) : prevC l (k + 1) = x.Comb := by simp [prevC, h]

theorem goodCrowd_prev {n : Nat} {l : List Crowd} {k : Nat} {x : Crowd} (hx : l[k]? = some x) : goodCrowd n l k x ↔ (0 ≤ x.People.Low ∧ x.People.Low ≤ x.People.High ∧ x.People.High ≤ 1000 ∧ x.Comb < n ∧ prevC l k < x.Comb) := by
  unfold goodCrowd
  cases k with
  | zero => simp [prevC]
  | succ j =>
    obtain ⟨z, hz⟩ := ex_k (show j < l.length by have := lt_k hx; omega)
    simp [prevC, hz]

section
variable {h : Hall} (hk : OkHall h) (hs : Sizes h)
include hk hs
theorem crowd_ref {t : Train} (ht : OkTrain t) : ((∀ k x, t.Crowds[k]? = some x → goodCrowd h.Combs.length t.Crowds k x) ∧ loopM (r06_Check_L23 h t) (-1, 0) = some (.inl ())) ∨ ((∃ k x, t.Crowds[k]? = some x ∧ ¬ goodCrowd h.Combs.length t.Crowds k x) ∧ loopM (r06_Check_L23 h t) (-1, 0) = some (.inr 60)) := by
  have hn := wr_len1 (n := h.Combs.length) (by have := hs.2.2.2.1; simp only [maxLen]; omega)
  have hl : t.Crowds.length ≤ maxLen := ht.2.1
  have hpb : ∀ k, (∀ j y, j < k → t.Crowds[j]? = some y → ¬ ¬ goodCrowd h.Combs.length t.Crowds j y) → k ≤ t.Crowds.length → -1 ≤ prevC t.Crowds k ∧ prevC t.Crowds k < 8 := fun k hg hkl => by
    have key : ∀ m, m ≤ k → -1 ≤ prevC t.Crowds m ∧ prevC t.Crowds m < 8 := by
      intro m
      induction m with
      | zero => intro _; simp [prevC]
      | succ m ih =>
        intro hm
        obtain ⟨y, hy⟩ := ex_k (show m < t.Crowds.length by omega)
        have hgy := (goodCrowd_prev hy).1 (Classical.not_not.1 (hg m y (by omega) hy))
        have := ih (by omega)
        rw [prevC_s hy]
        have := hs.2.2.2.1
        omega
    exact key k (Nat.le_refl _)
  have := loop_scanS (f := r06_Check_L23 h t) t.Crowds (fun s k => (s, k)) (prevC t.Crowds) (fun k x => ¬ goodCrowd h.Combs.length t.Crowds k x) (.inr 60) (.inl ()) (fun k x hg hx hb => by
    obtain ⟨p1, p2⟩ := hpb k hg (by have := lt_k hx; omega)
    simp only [r06_Check_L23, get_k hx, Option.bind_some, hn, wr_id (show -9223372036854775808 ≤ prevC t.Crowds k + 1 by omega) (by omega)]
    rw [if_pos (by simpa using lt_k hx), if_pos]
    rw [goodCrowd_prev hx] at hb
    simp only [r06_within, r06_spanned, Bool.or_eq_true, Bool.not_eq_true', Bool.and_eq_false_iff, decide_eq_false_iff_not]
    omega) (fun k x hg hx hb => by
    obtain ⟨p1, p2⟩ := hpb k hg (by have := lt_k hx; omega)
    simp only [r06_Check_L23, get_k hx, Option.bind_some, hn, wr_id (show -9223372036854775808 ≤ prevC t.Crowds k + 1 by omega) (by omega)]
    rw [if_pos (by simpa using lt_k hx), if_neg, wr_k (lt_k hx) hl, prevC_s hx]
    have hb := (goodCrowd_prev hx).1 (Classical.not_not.1 hb)
    simp only [r06_within, r06_spanned, Bool.or_eq_true, Bool.not_eq_true', Bool.and_eq_false_iff, decide_eq_false_iff_not]
    omega) (by simp [r06_Check_L23]) (s0 := -1) rfl
  simpa using this
theorem crowd_prog {t : Train} (ht : OkTrain t) : ((∀ k x, t.Crowds[k]? = some x → goodCrowd h.Combs.length t.Crowds k x) ∧ loopM (halls_isTrain_L9 h t) (-1, 0) = some (.inl ())) ∨ ((∃ k x, t.Crowds[k]? = some x ∧ ¬ goodCrowd h.Combs.length t.Crowds k x) ∧ loopM (halls_isTrain_L9 h t) (-1, 0) = some (.inr false)) := by
  have hl : t.Crowds.length ≤ maxLen := ht.2.1
  have := loop_scanS (f := halls_isTrain_L9 h t) t.Crowds (fun s k => (s, k)) (prevC t.Crowds) (fun k x => ¬ goodCrowd h.Combs.length t.Crowds k x) (.inr false) (.inl ()) (fun k x hg hx hb => by
    simp only [halls_isTrain_L9, get_k hx, Option.bind_some]
    rw [if_pos (by simpa using lt_k hx), if_pos]
    rw [goodCrowd_prev hx] at hb
    simp only [halls_span, Bool.or_eq_true, Bool.not_eq_true', Bool.and_eq_false_iff, decide_eq_false_iff_not, decide_eq_true_eq]
    omega) (fun k x hg hx hb => by
    simp only [halls_isTrain_L9, get_k hx, Option.bind_some]
    rw [if_pos (by simpa using lt_k hx), if_neg, wr_k (lt_k hx) hl, prevC_s hx]
    have hb := (goodCrowd_prev hx).1 (Classical.not_not.1 hb)
    simp only [halls_span, Bool.or_eq_true, Bool.not_eq_true', Bool.and_eq_false_iff, decide_eq_false_iff_not, decide_eq_true_eq]
    omega) (by simp [halls_isTrain_L9]) (s0 := -1) rfl
  simpa using this
theorem isTrain_eq {t : Train} (ht : OkTrain t) : ∃ b, halls_isTrain h t = some b ∧ (b = true ↔ goodTrain h.Combs.length h.Until t) := by
  have hu : wr (h.Until - 1) = h.Until - 1 := wr_id (by have := hs.1; omega) (by have := hs.2.1; omega)
  unfold halls_isTrain
  rcases crowd_prog hk hs ht with ⟨h1, h2⟩ | ⟨⟨k, x, hx, hb⟩, h2⟩
  · rw [h2]
    simp only [Option.bind_some, halls_isTrain_j2, hu]
    refine ⟨_, rfl, ?_⟩
    simp only [halls_span, Bool.and_eq_true, decide_eq_true_eq, goodTrain]
    constructor
    · rintro ⟨⟨⟨a, b⟩, c⟩, d⟩; exact ⟨a, b, c, by omega, h1⟩
    · rintro ⟨a, b, c, d, _⟩; exact ⟨⟨⟨a, b⟩, c⟩, by omega⟩
  · rw [h2]
    refine ⟨false, rfl, by simp; exact fun hg => hb (hg.2.2.2.2 k x hx)⟩
end
end Go.Nw.HM

namespace Go.Nw.HM


theorem hasT {l : List Train} {f : Train → Option Bool} {p : Train → Prop} (hl : l.length ≤ maxLen) (hf : ∀ x ∈ l, ∃ b, f x = some b ∧ (b = true ↔ p x)) :
    ∃ b, slices_ContainsFunc___api_Train_api_Train_ l f = some b ∧ (b = true ↔ ∃ x ∈ l, p x) := has_spec rfl hl hf
theorem hasI {l : List Int} {f : Int → Option Bool} {p : Int → Prop} (hl : l.length ≤ maxLen) (hf : ∀ x ∈ l, ∃ b, f x = some b ∧ (b = true ↔ p x)) :
    ∃ b, slices_ContainsFunc___int_int_ l f = some b ∧ (b = true ↔ ∃ x ∈ l, p x) := has_spec rfl hl hf
theorem wr_pred {j n : Nat} (h : j + 1 < n) (hn : n ≤ maxLen) : wr (((j + 1 : Nat) : Int) - 1) = (j : Int) := by
  rw [wr_id (by omega) (by simp only [maxLen] at hn; omega)]; omega
theorem isComb_eq {h : Hall} {k : Nat} {x : Comb} (hx : h.Combs[k]? = some x) : ∃ b, halls_isComb h k = some b ∧ (b = true ↔ goodComb h.Combs.length k x) := by
  unfold halls_isComb
  rw [get_k hx]
  refine ⟨_, rfl, ?_⟩
  simp only [halls_in, halls_span, goodComb, Bool.and_eq_true, Bool.or_eq_true, decide_eq_true_eq]
  omega
theorem sizes_of {h : Hall} (hk : OkHall h) : Sizes h ∨ (¬ Sizes h ∧ halls_Check h = some 60 ∧ r06_Check h = some 60) := by
  by_cases hs : Sizes h
  · exact .inl hs
  · refine .inr ⟨hs, ?_, ?_⟩
    · unfold halls_Check
      rw [if_pos]
      simp only [Bool.or_eq_true, decide_eq_true_eq]
      unfold Sizes at hs; omega
    · unfold r06_Check
      rw [if_pos]
      simp only [r06_within, Bool.or_eq_true, Bool.not_eq_true', Bool.and_eq_false_iff, decide_eq_false_iff_not, decide_eq_true_eq]
      unfold Sizes at hs; omega
/-- The program's check. -/
theorem Check_prog {h : Hall} (hk : OkHall h) : (V h ∧ halls_Check h = some 0) ∨ (¬ V h ∧ halls_Check h = some 60) := by
  rcases sizes_of hk with hs | ⟨hs, h1, _⟩
  · have e1 : h.Combs.length ≤ maxLen := hk.1.1
    have e2 : h.Trains.length ≤ maxLen := hk.2.1.1
    have e3 : h.Shifts.length ≤ maxLen := hk.2.2.1.1
    unfold halls_Check
    rw [if_neg (by simp only [Bool.or_eq_true, decide_eq_true_eq]; unfold Sizes at hs; omega)]
    rcases loop_scan' (f := halls_Check_L9 h) h.Combs (fun k x => ¬ goodComb h.Combs.length k x) (.inr 60) (.inl ()) (fun k x _ hx hb => by
        obtain ⟨b, b1, b2⟩ := isComb_eq hx
        have : b = false := bool_ne fun hh => hb (b2.1 hh)
        subst this
        simp [halls_Check_L9, b1, lt_k hx]) (fun k x _ hx hb => by
        obtain ⟨b, b1, b2⟩ := isComb_eq hx
        have : b = true := b2.2 (Classical.not_not.1 hb)
        subst this
        simp [halls_Check_L9, b1, lt_k hx, wr_k (lt_k hx) e1]) (by simp [halls_Check_L9]) with ⟨c1, c2⟩ | ⟨⟨k, x, hx, hb⟩, c2⟩
    · rw [c2]
      simp only [Option.bind_some, halls_Check_j9]
      obtain ⟨b, b1, b2⟩ := hasT (l := h.Trains) (f := fun z => halls_CheckD1 z h) (p := fun t => ¬ goodTrain h.Combs.length h.Until t) e2 fun t ht => by
        obtain ⟨b, b1, b2⟩ := isTrain_eq hk hs (hk.2.1.2 t ht)
        refine ⟨!b, by simp [halls_CheckD1, b1], ?_⟩
        cases b <;> simp_all
      rw [b1]
      simp only [Option.bind_some]
      cases b with
      | true =>
        rw [if_pos rfl]
        obtain ⟨t, ht, hbad⟩ := b2.1 rfl
        obtain ⟨j, hj, rfl⟩ := List.getElem_of_mem ht
        exact .inr ⟨fun hv => hbad (hv.2.2.1 j _ (List.getElem?_eq_getElem hj)), rfl⟩
      | false =>
        rw [if_neg (by simp)]
        have ht : ∀ (k : Nat) x, h.Trains[k]? = some x → goodTrain h.Combs.length h.Until x := fun k x hx => Classical.byContradiction fun hn => by have := b2.2 ⟨x, List.mem_of_getElem? hx, hn⟩; cases this
        rcases loop_scan' (f := halls_Check_L18 h) h.Shifts (fun k x => ¬ goodShift h.Combs.length h.Until h.Shifts k x) (.inr 60) (.inl ()) (fun k x _ hx hb => by
            simp only [halls_Check_L18, get_k hx, Option.bind_some]
            rw [if_pos (by simpa using lt_k hx)]
            unfold goodShift at hb
            by_cases q : x.At < 0 ∨ h.Until ≤ x.At
            · rw [if_pos (by simpa using q)]; simp
            · rw [if_neg (by simpa using q)]
              cases k with
              | zero =>
                simp only [Int.natCast_zero, Int.lt_irrefl, decide_false, Bool.false_eq_true, if_false, Option.bind_some, Bool.false_or]
                rw [if_pos]
                simp only [halls_in, Bool.or_eq_true, Bool.not_eq_true', Bool.and_eq_false_iff, decide_eq_false_iff_not, decide_eq_true_eq]
                refine Classical.byContradiction fun hc => hb ⟨by omega, by omega, by omega, by omega, by omega, by omega, fun j y hj => by omega⟩
              | succ j =>
                obtain ⟨y, hy⟩ := ex_k (show j < h.Shifts.length by have := lt_k hx; omega)
                rw [if_pos (by simp <;> omega), wr_pred (lt_k hx) e3, get_k hy]
                simp only [Option.bind_some]
                rw [if_pos]
                simp only [halls_in, Bool.or_eq_true, Bool.not_eq_true', Bool.and_eq_false_iff, decide_eq_false_iff_not, decide_eq_true_eq]
                refine Classical.byContradiction fun hc => hb ⟨by omega, by omega, by omega, by omega, by omega, by omega, fun j' y' hj' hy' => by
                  obtain rfl : j' = j := by omega
                  rw [hy] at hy'; cases hy'; omega⟩) (fun k x _ hx hb => by
            have hb := Classical.not_not.1 hb
            obtain ⟨q1, q2, q3, q4, q5, q6, q7⟩ := hb
            simp only [halls_Check_L18, get_k hx, Option.bind_some]
            rw [if_pos (by simpa using lt_k hx), if_neg (by simp; omega)]
            cases k with
            | zero =>
              simp only [Int.natCast_zero, Int.lt_irrefl, decide_false, Bool.false_eq_true, if_false, Option.bind_some, Bool.false_or]
              rw [if_neg]
              · rfl
              · simp only [halls_in, Bool.or_eq_true, Bool.not_eq_true', Bool.and_eq_false_iff, decide_eq_false_iff_not, decide_eq_true_eq]
                omega
            | succ j =>
              obtain ⟨y, hy⟩ := ex_k (show j < h.Shifts.length by have := lt_k hx; omega)
              have := q7 j y rfl hy
              rw [if_pos (by simp <;> omega), wr_pred (lt_k hx) e3, get_k hy]
              simp only [Option.bind_some]
              rw [if_neg, wr_k (lt_k hx) e3]
              simp only [halls_in, Bool.or_eq_true, Bool.not_eq_true', Bool.and_eq_false_iff, decide_eq_false_iff_not, decide_eq_true_eq]
              omega) (by simp [halls_Check_L18]) with ⟨d1, d2⟩ | ⟨⟨k, x, hx, hb⟩, d2⟩
        · rw [d2]
          exact .inl ⟨⟨hs, fun k x hx => Classical.not_not.1 (c1 k x hx), ht, fun k x hx => Classical.not_not.1 (d1 k x hx)⟩, rfl⟩
        · rw [d2]
          exact .inr ⟨fun hv => hb (hv.2.2.2 k x hx), rfl⟩
    · rw [c2]
      exact .inr ⟨fun hv => hb (hv.2.1 k x hx), rfl⟩
  · exact .inr ⟨fun hv => hs hv.1, h1⟩
end Go.Nw.HM

namespace Go.Nw.HM
theorem Check_ref {h : Hall} (hk : OkHall h) : (V h ∧ r06_Check h = some 0) ∨ (¬ V h ∧ r06_Check h = some 60) := by
  rcases sizes_of hk with hs | ⟨hs, _, h1⟩
  · have e1 : h.Combs.length ≤ maxLen := hk.1.1
    have e2 : h.Trains.length ≤ maxLen := hk.2.1.1
    have e3 : h.Shifts.length ≤ maxLen := hk.2.2.1.1
    have hu : wr (h.Until - 1) = h.Until - 1 := wr_id (by have := hs.1; omega) (by have := hs.2.1; omega)
    have hn := wr_len1 e1
    unfold r06_Check
    rw [if_neg (by simp only [r06_within, Bool.or_eq_true, Bool.not_eq_true', Bool.and_eq_false_iff, decide_eq_false_iff_not, decide_eq_true_eq]; unfold Sizes at hs; omega)]
    rcases loop_scan' (f := r06_Check_L10 h) h.Combs (fun k x => ¬ goodComb h.Combs.length k x) (.inr 60) (.inl ()) (fun k x _ hx hb => by
        simp only [r06_Check_L10, get_k hx, Option.bind_some, hn, wr_k (lt_k hx) e1]
        rw [if_pos (by simpa using lt_k hx), if_pos]
        simp only [r06_within, r06_spanned, Bool.or_eq_true, Bool.and_eq_true, Bool.not_eq_true', Bool.and_eq_false_iff, decide_eq_false_iff_not, decide_eq_true_eq]
        unfold goodComb at hb; omega) (fun k x _ hx hb => by
        have hb := Classical.not_not.1 hb
        simp only [r06_Check_L10, get_k hx, Option.bind_some, hn, wr_k (lt_k hx) e1]
        rw [if_pos (by simpa using lt_k hx), if_neg]
        simp only [r06_within, r06_spanned, Bool.or_eq_true, Bool.and_eq_true, Bool.not_eq_true', Bool.and_eq_false_iff, decide_eq_false_iff_not, decide_eq_true_eq]
        unfold goodComb at hb; omega) (by simp [r06_Check_L10]) with ⟨c1, c2⟩ | ⟨⟨k, x, hx, hb⟩, c2⟩
    · rw [c2]
      simp only [Option.bind_some, r06_Check_j7]
      rcases loop_scan' (f := r06_Check_L25 h) h.Trains (fun _ x => ¬ goodTrain h.Combs.length h.Until x) (.inr 60) (.inl ()) (fun k x _ hx hb => by
          simp only [r06_Check_L25, get_k hx, Option.bind_some, hu]
          rw [if_pos (by simpa using lt_k hx)]
          by_cases q : ¬ (0 ≤ x.At.Low ∧ x.At.Low ≤ x.At.High ∧ x.At.High ≤ h.Until - 1) ∨ 4 < x.Crowds.length
          · rw [if_pos]
            simp only [r06_spanned, Bool.or_eq_true, Bool.not_eq_true', Bool.and_eq_false_iff, decide_eq_false_iff_not, decide_eq_true_eq]
            omega
          · rw [if_neg (by
              simp only [r06_spanned, Bool.or_eq_true, Bool.not_eq_true', Bool.and_eq_false_iff, decide_eq_false_iff_not, decide_eq_true_eq]
              omega)]
            rcases crowd_ref hk hs (hk.2.1.2 x (List.mem_of_getElem? hx)) with ⟨d1, d2⟩ | ⟨_, d2⟩
            · exact absurd ⟨by omega, by omega, by omega, by omega, d1⟩ hb
            · rw [d2]; rfl) (fun k x _ hx hb => by
          have hb := Classical.not_not.1 hb
          obtain ⟨q1, q2, q3, q4, q5⟩ := hb
          simp only [r06_Check_L25, get_k hx, Option.bind_some, hu]
          rw [if_pos (by simpa using lt_k hx), if_neg (by
              simp only [r06_spanned, Bool.or_eq_true, Bool.not_eq_true', Bool.and_eq_false_iff, decide_eq_false_iff_not, decide_eq_true_eq]
              omega)]
          rcases crowd_ref hk hs (hk.2.1.2 x (List.mem_of_getElem? hx)) with ⟨d1, d2⟩ | ⟨⟨j, y, hy, hb⟩, d2⟩
          · rw [d2]; simp only [Option.bind_some, r06_Check_j34, wr_k (lt_k hx) e2]
          · exact absurd (q5 j y hy) hb) (by simp [r06_Check_L25]) with ⟨t1, t2⟩ | ⟨⟨k, x, hx, hb⟩, t2⟩
      · rw [t2]
        simp only [Option.bind_some, r06_Check_j9]
        rcases loop_scan' (f := r06_Check_L32 h) h.Shifts (fun k x => ¬ goodShift h.Combs.length h.Until h.Shifts k x) (.inr 60) (.inl ()) (fun k x _ hx hb => by
            simp only [r06_Check_L32, get_k hx, Option.bind_some, hu, hn]
            rw [if_pos (by simpa using lt_k hx)]
            unfold goodShift at hb
            by_cases q : 0 ≤ x.At ∧ x.At < h.Until ∧ 0 ≤ x.Comb ∧ x.Comb < h.Combs.length ∧ 0 ≤ x.Rate ∧ x.Rate ≤ 1000
            · rw [if_neg (by
                simp only [r06_within, Bool.or_eq_true, Bool.not_eq_true', Bool.and_eq_false_iff, decide_eq_false_iff_not, decide_eq_true_eq]
                omega)]
              cases k with
              | zero => exact absurd ⟨q.1, q.2.1, q.2.2.1, q.2.2.2.1, q.2.2.2.2.1, q.2.2.2.2.2, fun j y hj => by omega⟩ hb
              | succ j =>
                obtain ⟨y, hy⟩ := ex_k (show j < h.Shifts.length by have := lt_k hx; omega)
                rw [if_pos (by simp <;> omega), wr_pred (lt_k hx) e3, get_k hy]
                simp only [Option.bind_some]
                rw [if_pos]
                simp only [decide_eq_true_eq]
                refine Classical.byContradiction fun hc => hb ⟨by omega, by omega, by omega, by omega, by omega, by omega, fun j' y' hj' hy' => by
                  obtain rfl : j' = j := by omega
                  rw [hy] at hy'; cases hy'; omega⟩
            · rw [if_pos (by
                simp only [r06_within, Bool.or_eq_true, Bool.not_eq_true', Bool.and_eq_false_iff, decide_eq_false_iff_not, decide_eq_true_eq]
                omega)]
              simp) (fun k x _ hx hb => by
            have hb := Classical.not_not.1 hb
            obtain ⟨q1, q2, q3, q4, q5, q6, q7⟩ := hb
            simp only [r06_Check_L32, get_k hx, Option.bind_some, hu, hn]
            rw [if_pos (by simpa using lt_k hx), if_neg (by
                simp only [r06_within, Bool.or_eq_true, Bool.not_eq_true', Bool.and_eq_false_iff, decide_eq_false_iff_not, decide_eq_true_eq]
                omega)]
            cases k with
            | zero => simp; rfl
            | succ j =>
              obtain ⟨y, hy⟩ := ex_k (show j < h.Shifts.length by have := lt_k hx; omega)
              have := q7 j y rfl hy
              rw [if_pos (by simp <;> omega), wr_pred (lt_k hx) e3, get_k hy]
              simp only [Option.bind_some]
              rw [if_neg (by simp only [decide_eq_true_eq]; omega), wr_k (lt_k hx) e3]) (by simp [r06_Check_L32]) with ⟨d1, d2⟩ | ⟨⟨k, x, hx, hb⟩, d2⟩
        · rw [d2]
          exact .inl ⟨⟨hs, fun k x hx => Classical.not_not.1 (c1 k x hx), fun k x hx => Classical.not_not.1 (t1 k x hx), fun k x hx => Classical.not_not.1 (d1 k x hx)⟩, rfl⟩
        · rw [d2]
          exact .inr ⟨fun hv => hb (hv.2.2.2 k x hx), rfl⟩
      · rw [t2]
        exact .inr ⟨fun hv => hb (hv.2.2.1 k x hx), rfl⟩
    · rw [c2]
      exact .inr ⟨fun hv => hb (hv.2.1 k x hx), rfl⟩
  · exact .inr ⟨fun hv => hs hv.1, h1⟩
theorem Check_both {h : Hall} (hk : OkHall h) : (V h ∧ halls_Check h = some 0 ∧ r06_Check h = some 0) ∨ (¬ V h ∧ halls_Check h = some 60 ∧ r06_Check h = some 60) := by
  rcases Check_prog hk with ⟨h1, h2⟩ | ⟨h1, h2⟩ <;> rcases Check_ref hk with ⟨h3, h4⟩ | ⟨h3, h4⟩
  · exact .inl ⟨h1, h2, h4⟩
  · exact absurd h1 h3
  · exact absurd h3 h1
  · exact .inr ⟨h1, h2, h4⟩
end Go.Nw.HM

namespace Go.Nw.HM
/-- How many ticks. -/
def T (h : Hall) : Nat := h.Until.toNat
def rate0 (h : Hall) (c : Nat) : Int := ((h.Combs[c]?).map (·.Rate)).getD 0
def rstep (c : Nat) (t : Int) (a : Int) (s : Shift) : Int := if s.Comb = (c : Int) ∧ s.At ≤ t then s.Rate else a
/-- The rate of a comb in a tick. -/
def rateAt (h : Hall) (c : Nat) (t : Nat) : Int := h.Shifts.foldl (rstep c t) (rate0 h c)
theorem T_int {h : Hall} (hv : V h) : (T h : Int) = h.Until := by have := hv.1.1; unfold T; omega
theorem T_le {h : Hall} (hv : V h) : T h ≤ 100 := by have := hv.1.2.1; unfold T; omega
theorem T_pos {h : Hall} (hv : V h) : 0 < T h := by have := hv.1.1; unfold T; omega
def sub0 (c : Nat) (a : Int) (s : Shift) : Int := if s.Comb = (c : Int) then s.Rate else a
/-- The rate behind so many shifts. -/
def G (h : Hall) (c k : Nat) : Int := (h.Shifts.take k).foldl (sub0 c) (rate0 h c)
theorem G_succ {h : Hall} {c k : Nat} {x : Shift} (hx : h.Shifts[k]? = some x) : G h c (k + 1) = if x.Comb = (c : Int) then x.Rate else G h c k := by
  unfold G
  rw [List.take_add_one, hx]
  simp [List.foldl_append, sub0]
theorem sorted {h : Hall} (hv : V h) : ∀ (d j : Nat) (x y : Shift), h.Shifts[j]? = some x → h.Shifts[j + d]? = some y → x.At ≤ y.At := by
  intro d
  induction d with
  | zero => intro j x y hx hy; rw [Nat.add_zero, hx] at hy; cases hy; exact Int.le_refl _
  | succ d ih =>
    intro j x y hx hy
    obtain ⟨z, hz⟩ := ex_k (show j + d < h.Shifts.length by have := lt_k hy; omega)
    have h1 := ih j x z hx hz
    have h2 := (hv.2.2.2 _ y hy).2.2.2.2.2.2 (j + d) z (by omega) hz
    omega
/-- The first shifts, all those up to a tick. -/
def Upto (h : Hall) (t : Int) (k : Nat) : Prop := k ≤ h.Shifts.length ∧ (∀ j x, j < k → h.Shifts[j]? = some x → x.At ≤ t) ∧ ∀ x, h.Shifts[k]? = some x → t < x.At
theorem G_rate {h : Hall} (hv : V h) {c k t : Nat} (hu : Upto h t k) : G h c k = rateAt h c t := by
  unfold G rateAt
  conv => rhs; rw [← List.take_append_drop k h.Shifts, List.foldl_append]
  have e1 : (h.Shifts.take k).foldl (sub0 c) (rate0 h c) = (h.Shifts.take k).foldl (rstep c t) (rate0 h c) := by
    have : ∀ (l : List Shift), (∀ x ∈ l, x.At ≤ (t : Int)) → ∀ a, l.foldl (sub0 c) a = l.foldl (rstep c t) a := by
      intro l
      induction l with
      | nil => intro _ a; rfl
      | cons s l ih =>
        intro hl a
        simp only [List.foldl_cons]
        rw [ih (fun x hx => hl x (List.mem_cons_of_mem _ hx))]
        congr 1
        simp [sub0, rstep, hl s List.mem_cons_self]
    refine this _ (fun x hx => ?_) _
    obtain ⟨j, hj, rfl⟩ := List.getElem_of_mem hx
    have hj' : j < k := by simp at hj; omega
    have hjl : j < h.Shifts.length := by simp at hj; omega
    refine hu.2.1 j _ hj' ?_
    rw [List.getElem_take, List.getElem?_eq_getElem hjl]
  rw [e1]
  have : ∀ (l : List Shift), (∀ x ∈ l, (t : Int) < x.At) → ∀ a, l.foldl (rstep c t) a = a := by
    intro l
    induction l with
    | nil => intro _ a; rfl
    | cons s l ih =>
      intro hl a
      have := hl s List.mem_cons_self
      simp only [List.foldl_cons]
      rw [show rstep c t a s = a from by unfold rstep; rw [if_neg (by omega)]]
      exact ih (fun x hx => hl x (List.mem_cons_of_mem _ hx)) a
  refine (this _ ?_ _).symm
  intro x hx
  obtain ⟨j, hj, rfl⟩ := List.getElem_of_mem hx
  have hjl : k + j < h.Shifts.length := by simp at hj; omega
  obtain ⟨z, hz⟩ := ex_k (show k < h.Shifts.length by omega)
  have h1 := hu.2.2 z hz
  have h2 := sorted hv j k z _ hz (List.getElem?_eq_getElem hjl)
  rw [List.getElem_drop]
  omega
theorem inner {h : Hall} (hv : V h) (c t : Nat) : ∀ (d k : Nat), h.Shifts.length - k = d → k ≤ h.Shifts.length → (∀ j x, j < k → h.Shifts[j]? = some x → x.At ≤ (t : Int)) →
    ∃ k', loopM (halls_rates_L10 h c t) (G h c k, (k : Int)) = some (G h c k', (k' : Int)) ∧ Upto h t k' := by
  have hl : h.Shifts.length ≤ maxLen := by have := hv.1.2.2.2.2.2; simp only [maxLen]; omega
  intro d
  induction d with
  | zero =>
    intro k hd hk hb
    have : k = h.Shifts.length := by omega
    subst this
    refine ⟨h.Shifts.length, loopM_br (by simp [halls_rates_L10]), Nat.le_refl _, hb, fun x hx => ?_⟩
    have := lt_k hx; omega
  | succ d ih =>
    intro k hd hk hb
    obtain ⟨x, hx⟩ := ex_k (show k < h.Shifts.length by omega)
    by_cases hat : x.At ≤ (t : Int)
    · rw [loopM_nx (s' := (G h c (k + 1), ((k + 1 : Nat) : Int))) (by
        simp only [halls_rates_L10, get_k hx, Option.bind_some]
        rw [if_pos (by simpa using lt_k hx)]
        simp only [Option.bind_some, hat, decide_true, if_true, halls_rates_j25, wr_k (lt_k hx) hl, G_succ hx]
        by_cases e : x.Comb = (c : Int)
        · simp [e]
        · simp [e])]
      refine ih (k + 1) (by omega) (by omega) fun j y hj hy => ?_
      by_cases e : j = k
      · subst e; rw [hx] at hy; cases hy; exact hat
      · exact hb j y (by omega) hy
    · refine ⟨k, loopM_br (by
        simp only [halls_rates_L10, get_k hx, Option.bind_some]
        rw [if_pos (by simpa using lt_k hx)]
        simp [hat]), by omega, hb, fun y hy => ?_⟩
      rw [hx] at hy; cases hy; omega
theorem rates_prog {h : Hall} (hv : V h) {c : Nat} (hc : c < h.Combs.length) : halls_rates h c = some (tab (T h) (rateAt h c)) := by
  obtain ⟨x, hx⟩ := ex_k hc
  have hT := T_le hv
  unfold halls_rates
  rw [← T_int hv, mks_nat (by omega) (by omega)]
  simp only [Option.bind_some, get_k hx]
  obtain ⟨b, h1, h2⟩ := loop_inv (f := halls_rates_L13 h c (tab (T h) fun _ => 0)) (T h) (fun (s : List Int × Int × Int) k => (s.1, s.2.1, s.2.2, k))
    (fun k s => ∃ m : Nat, s = (fill (T h) (rateAt h c) 0 k, G h c m, (m : Int)) ∧ m ≤ h.Shifts.length ∧ ∀ j x, j < m → h.Shifts[j]? = some x → x.At < (k : Int)) (fun b => b = tab (T h) (rateAt h c))
    (fun s k hk ⟨m, hs, hm, hm2⟩ => by
      subst hs
      obtain ⟨k', i1, i2⟩ := inner hv c k (h.Shifts.length - m) m rfl hm fun j x hj hx => by have := hm2 j x hj hx; omega
      refine .inl ⟨(fill (T h) (rateAt h c) 0 (k + 1), G h c k', (k' : Int)), ?_, k', rfl, i2.1, fun j x hj hx => by have := i2.2.1 j x hj hx; omega⟩
      simp only [halls_rates_L13, tab_len]
      rw [if_pos (by simpa using hk), i1]
      simp only [Option.bind_some, halls_rates_j13, get_fill hk, halls_rates_j11, wr_k hk (by simp only [maxLen]; omega)]
      rw [show ((k : Nat) : Int).toNat = k from by omega, fill_set (G_rate hv i2)])
    (fun s ⟨m, hs, _⟩ => by
      subst hs
      exact ⟨fill (T h) (rateAt h c) 0 (T h), by simp [halls_rates_L13, tab_len], by rw [fill_all (Nat.le_refl _)]⟩) (s := (tab (T h) (fun _ => 0), x.Rate, 0)) 0 (by omega) ⟨0, by
        rw [← tab_rep, fill_zero (f := rateAt h c)]
        simp [G, rate0, hx], by omega, fun j x hj => by omega⟩
  simp only at h1
  rw [show ((0 : Nat) : Int) = 0 from rfl] at h1
  rw [h1, h2]; rfl
theorem rate_bounds {h : Hall} (hv : V h) {c : Nat} (t : Nat) : 0 ≤ rateAt h c t ∧ rateAt h c t ≤ 1000 := by
  unfold rateAt
  have h0 : 0 ≤ rate0 h c ∧ rate0 h c ≤ 1000 := by
    unfold rate0
    cases hx : h.Combs[c]? with
    | none => simp
    | some x => have := hv.2.1 c x hx; simp [goodComb] at this ⊢; omega
  have : ∀ (l : List Shift), (∀ x ∈ l, 0 ≤ x.Rate ∧ x.Rate ≤ 1000) → ∀ a, 0 ≤ a ∧ a ≤ 1000 → 0 ≤ l.foldl (rstep c t) a ∧ l.foldl (rstep c t) a ≤ 1000 := by
    intro l
    induction l with
    | nil => intro _ a ha; exact ha
    | cons s l ih =>
      intro hl a ha
      refine ih (fun x hx => hl x (List.mem_cons_of_mem _ hx)) _ ?_
      have := hl s List.mem_cons_self
      unfold rstep; split <;> omega
  refine this _ (fun x hx => ?_) _ h0
  obtain ⟨j, hj, rfl⟩ := List.getElem_of_mem hx
  have := hv.2.2.2 j _ (List.getElem?_eq_getElem hj)
  exact ⟨this.2.2.2.2.1, this.2.2.2.2.2.1⟩
theorem open_prog {h : Hall} (hv : V h) : halls_open h = some (tab h.Combs.length fun c => tab (T h) (rateAt h c)) := by
  unfold halls_open
  have hn := hv.1.2.2.2.1
  have := loop_stepsX (f := halls_open_L6 h) h.Combs.length (fun s k => (s, k)) (fun k => tab k fun c => tab (T h) (rateAt h c)) (tab h.Combs.length fun c => tab (T h) (rateAt h c)) (s0 := []) rfl (fun k hk => by
    simp only [halls_open_L6]
    rw [if_pos (by simpa using hk), rates_prog hv hk]
    simp only [Option.bind_some]
    rw [ap_ok (by simp [tab_len]; omega)]
    simp only [Option.bind_some, wr_k hk (by simp only [maxLen]; omega), tab_succ]) (by simp [halls_open_L6])
  rw [this]; rfl
end Go.Nw.HM

namespace Go.Nw.HM
def crowdOf (c : Nat) (y : Crowd) : Int := if y.Comb = (c : Int) then y.People.High else 0
def trainOf (c s t : Nat) (x : Train) : Int := if x.At.High < (s : Int) ∨ (t : Int) < x.At.Low then 0 else (x.Crowds.map (crowdOf c)).sum
/-- How many people trains may bring to a comb from a tick to another one. -/
def brought (h : Hall) (c s t : Nat) : Int := (h.Trains.map (trainOf c s t)).sum
theorem crowd_bound {h : Hall} (hv : V h) {x : Train} (hx : x ∈ h.Trains) (c k : Nat) (hk : k ≤ x.Crowds.length) : 0 ≤ psum x.Crowds (crowdOf c) k ∧ psum x.Crowds (crowdOf c) k ≤ 4000 := by
  obtain ⟨j, hj, rfl⟩ := List.getElem_of_mem hx
  have hg := hv.2.2.1 j _ (List.getElem?_eq_getElem hj)
  have := psum_bound (l := h.Trains[j].Crowds) (g := crowdOf c) (B := 1000) (fun y hy => by
    obtain ⟨i, hi, rfl⟩ := List.getElem_of_mem hy
    have := hg.2.2.2.2 i _ (List.getElem?_eq_getElem hi)
    unfold goodCrowd at this
    unfold crowdOf; split <;> omega) k hk
  have := hg.2.2.2.1
  omega
theorem train_bound {h : Hall} (hv : V h) {x : Train} (hx : x ∈ h.Trains) (c s t : Nat) : 0 ≤ trainOf c s t x ∧ trainOf c s t x ≤ 4000 := by
  unfold trainOf
  split
  · omega
  · rw [← psum_all]; exact crowd_bound hv hx c _ (Nat.le_refl _)
theorem trains_bound {h : Hall} (hv : V h) (c s t k : Nat) (hk : k ≤ h.Trains.length) : 0 ≤ psum h.Trains (trainOf c s t) k ∧ psum h.Trains (trainOf c s t) k ≤ 48000 := by
  have := psum_bound (l := h.Trains) (g := trainOf c s t) (B := 4000) (fun x hx => train_bound hv hx c s t) k hk
  have := hv.1.2.2.2.2.1
  omega
theorem brought_bound {h : Hall} (hv : V h) (c s t : Nat) : 0 ≤ brought h c s t ∧ brought h c s t ≤ 48000 := by
  unfold brought; rw [← psum_all]; exact trains_bound hv c s t _ (Nat.le_refl _)
theorem wr_small {n : Int} (h1 : -1000000000000 ≤ n) (h2 : n ≤ 1000000000000) : wr n = n := wr_id (by omega) (by omega)
theorem brought_prog {h : Hall} (hv : V h) (c s t : Nat) : halls_brought h c s t = some (brought h c s t) := by
  have e2 : h.Trains.length ≤ maxLen := by have := hv.1.2.2.2.2.1; simp only [maxLen]; omega
  unfold halls_brought
  have := loop_stepsX (f := halls_brought_L13 h c s t) h.Trains.length (fun s k => (s, k)) (psum h.Trains (trainOf c s t)) (brought h c s t) (s0 := 0) psum_zero.symm (fun k hk => by
    obtain ⟨x, hx⟩ := ex_k hk
    have hm := List.mem_of_getElem? hx
    simp only [halls_brought_L13, get_k hx, Option.bind_some]
    rw [if_pos (by simpa using hk), psum_succ hx]
    have hb := trains_bound hv c s t k (by omega)
    by_cases q : x.At.High < (s : Int) ∨ (t : Int) < x.At.Low
    · rw [if_pos (by simpa using q)]
      simp only [halls_brought_j7, wr_k hk e2]
      rw [show trainOf c s t x = 0 from if_pos q, Int.add_zero]
    · rw [if_neg (by simpa using q)]
      have e3 : x.Crowds.length ≤ maxLen := by have := (hv.2.2.1 k x hx).2.2.2.1; simp only [maxLen]; omega
      have := loop_stepsX (f := halls_brought_L11 c x) x.Crowds.length (fun s k => (s, k)) (fun j => psum h.Trains (trainOf c s t) k + psum x.Crowds (crowdOf c) j) (psum h.Trains (trainOf c s t) k + trainOf c s t x) (s0 := psum h.Trains (trainOf c s t) k) (by simp [psum_zero]) (fun j hj => by
        obtain ⟨y, hy⟩ := ex_k hj
        have hc1 := crowd_bound hv hm c j (by omega)
        have hc2 := crowd_bound hv hm c (j + 1) (by omega)
        simp only [halls_brought_L11, get_k hy, Option.bind_some]
        rw [if_pos (by simpa using hj), psum_succ hy]
        rw [psum_succ hy] at hc2
        by_cases e : y.Comb = (c : Int)
        · rw [if_pos (by simpa using e)]
          rw [show crowdOf c y = y.People.High from if_pos e] at hc2 ⊢
          simp only [halls_brought_j17, wr_k hj e3]
          rw [wr_small (by omega) (by omega), Int.add_assoc]
        · rw [if_neg (by simpa using e)]
          rw [show crowdOf c y = 0 from if_neg e]
          simp only [halls_brought_j17, wr_k hj e3, Int.add_zero]) (by
        simp only [halls_brought_L11]
        rw [if_neg (by simp), psum_all, show trainOf c s t x = (x.Crowds.map (crowdOf c)).sum from if_neg q])
      rw [this]
      simp only [Option.bind_some, halls_brought_j7, wr_k hk e2]) (by
    simp only [halls_brought_L13]
    rw [if_neg (by simp), psum_all]; rfl)
  rw [this]; rfl

/-- The bounds of a comb. -/
structure Bd where
  come : Nat → Nat → Int
  most : Nat → Int
  flow : Nat → Int
  deriving Inhabited
def behind (b : Bd) (to k : Nat) : Int := if k < to then b.come (k + 1) to else 0
def way (b : Bd) (a to k : Nat) : Int := nsum b.flow k - nsum b.flow a + b.most k + behind b to k
def passN (b : Bd) (a to : Nat) : Int := lmin (min (b.come 0 to) (nsum b.flow (to + 1) - nsum b.flow a)) (way b a to) a (to + 1 - a)
def passF (b : Bd) (from_ to_ : Int) : Int := if to_ < from_ ∨ to_ < 0 then 0 else passN b (max from_ 0).toNat to_.toNat
def walkIn (h : Hall) (c : Nat) (prev : Nat → Bd) (s t u : Nat) : Int := match h.Combs[u]? with
  | some x => if x.Next = (c : Int) then passF (prev u) ((s : Int) - x.Walk.High) ((t : Int) - x.Walk.Low) else 0
  | none => 0
def comeOf (h : Hall) (c : Nat) (prev : Nat → Bd) (s t : Nat) : Int := brought h c s t + nsum (walkIn h c prev s t) c
def mostOf (come : Nat → Nat → Int) (R : Nat → Int) (t : Nat) : Int := lmax 0 (fun s => come s t - (nsum R t - nsum R s)) 0 (t + 1)
def mkBd (h : Hall) (R : Nat → Nat → Int) (c : Nat) (prev : Nat → Bd) : Bd :=
  { come := comeOf h c prev, most := mostOf (comeOf h c prev) (R c), flow := fun t => min (mostOf (comeOf h c prev) (R c) t) (R c t) }
def bdL (h : Hall) (R : Nat → Nat → Int) : Nat → Nat → Bd
  | 0 => fun _ => default
  | n + 1 => fun u => if u = n then mkBd h R n (bdL h R n) else bdL h R n u
/-- The bounds of a comb, with the rates `R`. -/
def bd (h : Hall) (R : Nat → Nat → Int) (c : Nat) : Bd := bdL h R (c + 1) c
theorem bdL_s {h : Hall} {R : Nat → Nat → Int} {n u : Nat} : bdL h R (n + 1) u = if u = n then mkBd h R n (bdL h R n) else bdL h R n u := rfl
theorem bdL_lt {h : Hall} {R : Nat → Nat → Int} {n u : Nat} (hu : u < n) : bdL h R n u = bd h R u := by
  induction n with
  | zero => omega
  | succ n ih =>
    by_cases e : u = n
    · subst e; rfl
    · rw [bdL_s, if_neg e]; exact ih (by omega)
theorem walkIn_congr {h : Hall} {c s t u : Nat} {p q : Nat → Bd} (hpq : p u = q u) : walkIn h c p s t u = walkIn h c q s t u := by
  unfold walkIn; rw [hpq]
theorem comeOf_congr {h : Hall} {c : Nat} {p q : Nat → Bd} (hpq : ∀ u, u < c → p u = q u) : comeOf h c p = comeOf h c q := by
  funext s t
  unfold comeOf
  rw [nsum_congr fun u hu => walkIn_congr (hpq u hu)]
theorem bd_eq {h : Hall} {R : Nat → Nat → Int} {c : Nat} : bd h R c = mkBd h R c (bd h R) := by
  have : bd h R c = mkBd h R c (bdL h R c) := by show bdL h R (c + 1) c = _; rw [bdL_s, if_pos rfl]
  rw [this]
  unfold mkBd
  rw [comeOf_congr fun u hu => bdL_lt hu]
end Go.Nw.HM

namespace Go.Nw.HM
/-- The numbers of a bound are not too great. -/
structure BdOk (b : Bd) (n : Nat) (B : Int) : Prop where
  come : ∀ s t, s ≤ t → t < n → 0 ≤ b.come s t ∧ b.come s t ≤ B
  most : ∀ t, t < n → 0 ≤ b.most t ∧ b.most t ≤ B
  flow : ∀ t, t < n → 0 ≤ b.flow t ∧ b.flow t ≤ 1000
def comeT (n : Nat) (b : Bd) (s : Nat) : List Int := tab n fun t => if s ≤ t then b.come s t else 0
def bdT (n : Nat) (b : Bd) (r : Nat → Int) : halls_bound := ⟨tab (n + 1) (nsum r), tab (n + 1) (nsum b.flow), tab n b.most, tab n (comeT n b)⟩
theorem get_come {n : Nat} {b : Bd} {s t : Nat} (hs : s < n) (ht : t < n) (hst : s ≤ t) : (get (tab n (comeT n b)) (s : Int)).bind (fun x => get x (t : Int)) = some (b.come s t) := by
  rw [get_tab hs]
  simp only [Option.bind_some, comeT]
  rw [get_tab ht, if_pos hst]
theorem come_row {n : Nat} {b : Bd} {s t : Nat} (ht : t < n) (hst : s ≤ t) : get (comeT n b s) (t : Int) = some (b.come s t) := by
  unfold comeT; rw [get_tab ht, if_pos hst]
section
variable {n : Nat} {b : Bd} {B : Int} (hb : BdOk b n B) (hB : B ≤ 1000000000) (hn : n ≤ 1000) {r : Nat → Int}
include hb hB hn
theorem flow_diff {a k : Nat} (hak : a ≤ k) (hk : k ≤ n) : 0 ≤ nsum b.flow k - nsum b.flow a ∧ nsum b.flow k - nsum b.flow a ≤ 1000000 := by
  have := nsum_diff (f := b.flow) (B := 1000) hak fun i h1 h2 => hb.flow i (by omega)
  omega
theorem behind_bound {to k : Nat} (hk : k ≤ to) (hto : to < n) : 0 ≤ behind b to k ∧ behind b to k ≤ B := by
  have := hb.most k (by omega)
  unfold behind; split
  · exact hb.come _ _ (by omega) hto
  · omega
theorem way_bound {a to k : Nat} (hak : a ≤ k) (hk : k ≤ to) (hto : to < n) : 0 ≤ way b a to k ∧ way b a to k ≤ 3000000000 := by
  have h1 := flow_diff hb hB hn hak (show k ≤ n by omega)
  have h2 := hb.most k (by omega)
  have h3 := behind_bound hb hB hn hk hto
  unfold way; omega
theorem pass_bound {a to : Nat} (ha : a ≤ to) (hto : to < n) : 0 ≤ passN b a to ∧ passN b a to ≤ B := by
  have h1 := hb.come 0 to (by omega) hto
  have h2 := flow_diff hb hB hn (show a ≤ to + 1 by omega) (show to + 1 ≤ n by omega)
  unfold passN
  refine ⟨lmin_le.2 ⟨by omega, fun i hi => (way_bound hb hB hn (by omega) (show a + i ≤ to by omega) hto).1⟩, ?_⟩
  have := lmin_z (z := min (b.come 0 to) (nsum b.flow (to + 1) - nsum b.flow a)) (g := way b a to) (a := a) (n := to + 1 - a)
  omega
theorem passF_bound {f t : Int} (ht : t < n) : 0 ≤ passF b f t ∧ passF b f t ≤ max 0 B := by
  unfold passF
  split
  · omega
  · have := pass_bound hb hB hn (a := (max f 0).toNat) (to := t.toNat) (by omega) (by omega)
    omega
theorem passes_prog {f t : Int} (hf : -1000 ≤ f) (ht : t < n) : __halls_bound__passes (bdT n b r) f t = some (passF b f t) := by
  unfold __halls_bound__passes passF
  by_cases q : t < f ∨ t < 0
  · rw [if_pos (by simpa using q), if_pos q]
  · rw [if_neg (by simpa using q), if_neg q]
    obtain ⟨to, hto⟩ : ∃ to : Nat, t = to := ⟨t.toNat, by omega⟩
    subst hto
    obtain ⟨a, ha⟩ : ∃ a : Nat, max f 0 = a := ⟨(max f 0).toNat, by omega⟩
    have hm : mx f 0 = (a : Int) := by rw [mx_eq]; exact ha
    have hat : a ≤ to := by omega
    have hton : to < n := by omega
    rw [hm, ha]
    have e0 : ((0 : Int)) = ((0 : Nat) : Int) := rfl
    simp only [bdT]
    rw [e0, get_tab (show 0 < n by omega)]
    simp only [Option.bind_some]
    rw [come_row hton (by omega), show wr ((to : Int) + 1) = ((to + 1 : Nat) : Int) from by rw [wr_small (by omega) (by omega)]; omega, get_tab (show to + 1 < n + 1 by omega)]
    simp only [Option.bind_some]
    rw [get_tab (show a < n + 1 by omega)]
    simp only [Option.bind_some]
    have hc := hb.come 0 to (by omega) hton
    have hfd := flow_diff hb hB hn (show a ≤ to + 1 by omega) (show to + 1 ≤ n by omega)
    rw [wr_small (by omega) (by omega), mn_eq]
    have := loop_from (f := __halls_bound__passes_L12 ⟨tab (n + 1) (nsum r), tab (n + 1) (nsum b.flow), tab n b.most, tab n (comeT n b)⟩ f to) (to + 1) (fun s k => (s, k))
      (fun k => lmin (min (b.come 0 to) (nsum b.flow (to + 1) - nsum b.flow a)) (way b a to) a (k - a)) (passN b a to) (s0 := min (b.come 0 to) (nsum b.flow (to + 1) - nsum b.flow a)) a (by rw [Nat.sub_self]; rfl) (by omega) (fun k hak hk => ?_) (by
        simp only [__halls_bound__passes_L12]
        rw [if_neg (by simp; omega)]; rfl)
    · rw [this]
      simp [__halls_bound__passes_j13]
    · have hst : lmin (min (b.come 0 to) (nsum b.flow (to + 1) - nsum b.flow a)) (way b a to) a (k + 1 - a) = min (lmin (min (b.come 0 to) (nsum b.flow (to + 1) - nsum b.flow a)) (way b a to) a (k - a)) (way b a to k) := by
        rw [show k + 1 - a = (k - a) + 1 by omega]
        show min _ (way b a to (a + (k - a))) = _
        rw [show a + (k - a) = k by omega]
      rw [hst]
      have hfk := flow_diff hb hB hn hak (show k ≤ n by omega)
      have hmk := hb.most k (by omega)
      have hbk := behind_bound hb hB hn (show k ≤ to by omega) hton
      have fin2 : ∀ L : Int, __halls_bound__passes_j19 ⟨tab (n + 1) (nsum r), tab (n + 1) (nsum b.flow), tab n b.most, tab n (comeT n b)⟩ f L k (behind b to k) = some (.nx (min L (way b a to k), (k : Int) + 1)) := fun L => by
        unfold __halls_bound__passes_j19
        simp only [hm]
        rw [get_tab (show k < n + 1 by omega)]
        simp only [Option.bind_some]
        rw [get_tab (show a < n + 1 by omega)]
        simp only [Option.bind_some]
        rw [get_tab (show k < n by omega)]
        simp only [Option.bind_some]
        rw [wr_small (n := nsum b.flow k - nsum b.flow a) (by omega) (by omega), wr_small (n := nsum b.flow k - nsum b.flow a + b.most k) (by omega) (by omega), wr_small (n := nsum b.flow k - nsum b.flow a + b.most k + behind b to k) (by omega) (by omega), wr_small (n := (k : Int) + 1) (by omega) (by omega), mn_eq]
        rfl
      simp only [__halls_bound__passes_L12]
      rw [if_pos (by simp; omega)]
      by_cases e : k < to
      · rw [if_pos (by simpa using e), show wr ((k : Int) + 1) = ((k + 1 : Nat) : Int) from by rw [wr_small (by omega) (by omega)]; omega, get_tab (show k + 1 < n by omega)]
        simp only [Option.bind_some]
        rw [come_row hton (by omega)]
        simp only [Option.bind_some]
        rw [show b.come (k + 1) to = behind b to k from by unfold behind; rw [if_pos e]]
        exact fin2 _
      · rw [if_neg (by simpa using e)]
        have := fin2 (lmin (min (b.come 0 to) (nsum b.flow (to + 1) - nsum b.flow a)) (way b a to) a (k - a))
        rw [show behind b to k = 0 from by unfold behind; rw [if_neg e]] at this
        exact this
end
end Go.Nw.HM

namespace Go.Nw.HM
def Bn (c : Nat) : Int := 48000 * 2 ^ c
theorem Bn_succ (c : Nat) : Bn (c + 1) = 2 * Bn c := by unfold Bn; rw [Int.pow_succ]; omega
theorem Bn_pos (c : Nat) : 48000 ≤ Bn c := by
  induction c with
  | zero => simp [Bn]
  | succ c ih => rw [Bn_succ]; omega
theorem Bn_sum (c : Nat) : nsum Bn c = Bn c - 48000 := by
  induction c with
  | zero => simp [nsum_zero, Bn]
  | succ c ih => rw [nsum_succ, ih, Bn_succ]; omega
theorem Bn_mono {a b : Nat} (h : a ≤ b) : Bn a ≤ Bn b := by
  induction b with
  | zero => have : a = 0 := by omega
            subst this; exact Int.le_refl _
  | succ b ih =>
    by_cases e : a = b + 1
    · subst e; exact Int.le_refl _
    · have := ih (by omega); have := Bn_pos b; rw [Bn_succ]; omega
theorem Bn_small {c : Nat} (h : c ≤ 8) : Bn c ≤ 1000000000 := by
  have := Bn_mono h
  have e : Bn 8 = 12288000 := by decide
  omega
theorem nsum_le {f g : Nat → Int} : ∀ {k : Nat}, (∀ i, i < k → f i ≤ g i) → nsum f k ≤ nsum g k
  | 0, _ => by simp [nsum_zero]
  | k + 1, h => by rw [nsum_succ, nsum_succ]; have := nsum_le (k := k) fun i hi => h i (by omega); have := h k (by omega); omega
theorem nsum_nn {f : Nat → Int} : ∀ {k : Nat}, (∀ i, i < k → 0 ≤ f i) → 0 ≤ nsum f k
  | 0, _ => by simp [nsum_zero]
  | k + 1, h => by rw [nsum_succ]; have := nsum_nn (k := k) fun i hi => h i (by omega); have := h k (by omega); omega

/-- Rates. -/
structure Rt (h : Hall) (R : Nat → Nat → Int) : Prop where
  r : ∀ c t, c < h.Combs.length → t < T h → 0 ≤ R c t ∧ R c t ≤ 1000
section
variable {h : Hall} (hv : V h) {R : Nat → Nat → Int} (hR : Rt h R)
include hv hR
theorem bd_ok : ∀ (c : Nat), c < h.Combs.length → BdOk (bd h R c) (T h) (Bn c) := by
  intro c
  induction c using Nat.strongRecOn with
  | _ c ih =>
    intro hc
    have hn := hv.1.2.2.2.1
    have hT := T_le hv
    have hw : ∀ s t u, s ≤ t → t < T h → u < c → 0 ≤ walkIn h c (bd h R) s t u ∧ walkIn h c (bd h R) s t u ≤ Bn u := fun s t u hst ht hu => by
      obtain ⟨x, hx⟩ := ex_k (show u < h.Combs.length by omega)
      have hg := hv.2.1 u x hx
      unfold goodComb at hg
      have hB := Bn_pos u
      unfold walkIn
      rw [hx]
      simp only
      split
      · have := passF_bound (ih u hu (by omega)) (Bn_small (by omega)) (show T h ≤ 1000 by omega) (f := (s : Int) - x.Walk.High) (t := (t : Int) - x.Walk.Low) (by omega)
        omega
      · omega
    have hcome : ∀ s t, s ≤ t → t < T h → 0 ≤ comeOf h c (bd h R) s t ∧ comeOf h c (bd h R) s t ≤ Bn c := fun s t hst ht => by
      unfold comeOf
      have h1 := brought_bound hv c s t
      have h2 := nsum_nn (f := walkIn h c (bd h R) s t) (k := c) fun u hu => (hw s t u hst ht hu).1
      have h3 := nsum_le (f := walkIn h c (bd h R) s t) (g := Bn) (k := c) fun u hu => (hw s t u hst ht hu).2
      rw [Bn_sum] at h3
      omega
    have hmost : ∀ t, t < T h → 0 ≤ mostOf (comeOf h c (bd h R)) (R c) t ∧ mostOf (comeOf h c (bd h R)) (R c) t ≤ Bn c := fun t ht => by
      refine ⟨lmax_z, lmax_le.2 ⟨by have := Bn_pos c; omega, fun i hi => ?_⟩⟩
      rw [Nat.zero_add]
      have h1 := hcome i t (by omega) ht
      have h2 := nsum_mono (f := R c) (show i ≤ t by omega) fun j h1 h2 => (hR.r c j hc (by omega)).1
      omega
    rw [bd_eq]
    exact ⟨hcome, hmost, fun t ht => by
      have h1 := hmost t ht
      have h2 := hR.r c t hc ht
      simp only [mkBd]; omega⟩
theorem walk_bound {c : Nat} (hc : c < h.Combs.length) {s t : Nat} (hst : s ≤ t) (ht : t < T h) (u : Nat) (hu : u ≤ c) : 0 ≤ nsum (walkIn h c (bd h R) s t) u ∧ nsum (walkIn h c (bd h R) s t) u ≤ 1000000000 := by
  have hn := hv.1.2.2.2.1
  have hT := T_le hv
  have hw : ∀ u, u < c → 0 ≤ walkIn h c (bd h R) s t u ∧ walkIn h c (bd h R) s t u ≤ Bn u := fun u hu => by
    obtain ⟨x, hx⟩ := ex_k (show u < h.Combs.length by omega)
    have hg := hv.2.1 u x hx
    unfold goodComb at hg
    have hB := Bn_pos u
    unfold walkIn
    rw [hx]
    simp only
    split
    · have := passF_bound (bd_ok hv hR u (by omega)) (Bn_small (by omega)) (show T h ≤ 1000 by omega) (f := (s : Int) - x.Walk.High) (t := (t : Int) - x.Walk.Low) (by omega)
      omega
    · omega
  have h2 := nsum_nn (f := walkIn h c (bd h R) s t) (k := u) fun i hi => (hw i (by omega)).1
  have h3 := nsum_le (f := walkIn h c (bd h R) s t) (g := Bn) (k := u) fun i hi => (hw i (by omega)).2
  rw [Bn_sum] at h3
  have := Bn_small (c := u) (by omega)
  omega
def rowAt (b : Bd) (n s t : Nat) : List Int := tab n fun i => if s ≤ i ∧ i < t then b.come s i else 0
/-- A row of Come. -/
theorem row_prog {c : Nat} (hc : c < h.Combs.length) {s : Nat} (hs : s < T h) :
    loopM (halls_bounds_L21 h (tab c fun u => bdT (T h) (bd h R u) (R u)) c s) (tab (T h) (fun _ => 0), (s : Int)) = some (comeT (T h) (bd h R c) s) := by
  have hn := hv.1.2.2.2.1
  have hT := T_le hv
  have hTi := T_int hv
  have hb := bd_ok hv hR c hc
  refine loop_from (f := halls_bounds_L21 h (tab c fun u => bdT (T h) (bd h R u) (R u)) c s) (T h) (fun r k => (r, k)) (rowAt (bd h R c) (T h) s) _ s (by
    unfold rowAt
    exact tab_congr fun i hi => by rw [if_neg (by omega)]) (by omega) (fun t hst ht => ?_) (by
    simp only [halls_bounds_L21]
    rw [← hTi, if_neg (by simp)]
    simp only [rowAt, comeT, Option.some.injEq, Out.br.injEq]
    exact tab_congr fun i hi => by by_cases q : s ≤ i <;> simp [q, hi])
  simp only [halls_bounds_L21]
  rw [← hTi, if_pos (by simpa using ht), brought_prog hv]
  simp only [Option.bind_some]
  rw [show get (rowAt (bd h R c) (T h) s t) (t : Int) = some 0 from by unfold rowAt; rw [get_tab ht, if_neg (by omega)]]
  simp only [Option.bind_some]
  rw [sub_ok (by omega) (by omega) (by omega)]
  simp only [Option.bind_some]
  have el : (h.Combs.take ((c : Int)).toNat).drop ((0 : Int)).toNat = h.Combs.take c := by simp
  rw [el]
  have hlen : (h.Combs.take c).length = c := by simp; omega
  have hat : ∀ u, u < c → (h.Combs.take c)[u]? = h.Combs[u]? := fun u hu => by rw [List.getElem?_take, if_pos hu]
  have := loop_stepsX (f := halls_bounds_L19 (tab c fun u => bdT (T h) (bd h R u) (R u)) c s t (h.Combs.take c)) c (fun r k => (r, k))
    (fun u => (rowAt (bd h R c) (T h) s t).set t (brought h c s t + nsum (walkIn h c (bd h R) s t) u)) (rowAt (bd h R c) (T h) s (t + 1)) (s0 := (rowAt (bd h R c) (T h) s t).set ((t : Int)).toNat (brought h c s t)) (by simp [nsum_zero]) (fun u hu => by
      obtain ⟨x, hx⟩ := ex_k (show u < h.Combs.length by omega)
      have hg := hv.2.1 u x hx
      unfold goodComb at hg
      have hx' : (h.Combs.take c)[u]? = some x := by rw [hat u hu]; exact hx
      have hwb := walk_bound hv hR hc hst ht u (by omega)
      have hwb' := walk_bound hv hR hc hst ht (u + 1) (by omega)
      have hbb := brought_bound hv c s t
      simp only [halls_bounds_L19, hlen]
      rw [if_pos (by simpa using hu), get_k hx']
      simp only [Option.bind_some]
      rw [nsum_succ] at hwb' ⊢
      by_cases e : x.Next = (c : Int)
      · rw [if_pos (by simpa using e)]
        rw [show get ((rowAt (bd h R c) (T h) s t).set t (brought h c s t + nsum (walkIn h c (bd h R) s t) u)) (t : Int) = some (brought h c s t + nsum (walkIn h c (bd h R) s t) u) from by unfold rowAt; rw [tab_set, get_tab ht, if_pos rfl]]
        simp only [Option.bind_some]
        rw [get_tab hu]
        simp only [Option.bind_some]
        rw [wr_small (n := (s : Int) - x.Walk.High) (by omega) (by omega), wr_small (n := (t : Int) - x.Walk.Low) (by omega) (by omega),
          passes_prog (bd_ok hv hR u (by omega)) (Bn_small (by omega)) (by omega) (by omega) (by omega)]
        have ew : walkIn h c (bd h R) s t u = passF (bd h R u) ((s : Int) - x.Walk.High) ((t : Int) - x.Walk.Low) := by
          unfold walkIn; rw [hx]; simp only; rw [if_pos e]
        rw [← ew]
        simp only [Option.bind_some, halls_bounds_j81]
        rw [wr_small (n := brought h c s t + nsum (walkIn h c (bd h R) s t) u + walkIn h c (bd h R) s t u) (by omega) (by omega), wr_small (n := (u : Int) + 1) (by omega) (by omega)]
        simp [Int.add_assoc]
      · rw [if_neg (by simpa using e)]
        have ew : walkIn h c (bd h R) s t u = 0 := by
          unfold walkIn; rw [hx]; simp only; rw [if_neg e]
        rw [ew, Int.add_zero]
        simp only [halls_bounds_j81]
        rw [wr_small (n := (u : Int) + 1) (by omega) (by omega)]) (by
      simp only [halls_bounds_L19, hlen]
      rw [if_neg (by simp)]
      simp only [Option.some.injEq, Out.br.injEq]
      unfold rowAt
      rw [tab_set]
      refine tab_congr fun i hi => ?_
      by_cases e : i = t
      · subst e
        rw [if_pos rfl, if_pos (by omega)]
        rw [bd_eq]; rfl
      · rw [if_neg e]
        by_cases q : s ≤ i ∧ i < t
        · rw [if_pos q, if_pos (by omega)]
        · rw [if_neg q, if_neg (by omega)])
  rw [this]
  simp only [Option.bind_some, halls_bounds_j70]
  rw [wr_small (n := (t : Int) + 1) (by omega) (by omega)]
end
end Go.Nw.HM

namespace Go.Nw.HM
section
variable {h : Hall} (hv : V h) {R : Nat → Nat → Int} (hR : Rt h R)
include hv hR
abbrev opT (h : Hall) (R : Nat → Nat → Int) : List (List Int) := tab h.Combs.length fun c => tab (T h) (R c)
omit hv in
theorem rsum_bound {c : Nat} (hc : c < h.Combs.length) {k : Nat} (hk : k ≤ T h) : 0 ≤ nsum (R c) k ∧ nsum (R c) k ≤ 1000 * k :=
  nsum_bound fun i hi => hR.r c i hc (by omega)
theorem cols_prog {c : Nat} (hc : c < h.Combs.length) :
    loopM (halls_bounds_L25 h (opT h R) (tab c fun u => bdT (T h) (bd h R u) (R u)) c) ([0], [], 0) = some (tab (T h + 1) (nsum (R c)), tab (T h) (comeT (T h) (bd h R c))) := by
  have hT := T_le hv
  have hTi := T_int hv
  refine loop_stepsX (f := halls_bounds_L25 h (opT h R) (tab c fun u => bdT (T h) (bd h R u) (R u)) c) (T h) (fun (p : List Int × List (List Int)) k => (p.1, p.2, k))
    (fun k => (tab (k + 1) (nsum (R c)), tab k (comeT (T h) (bd h R c)))) _ (s0 := ([0], [])) rfl (fun s hs => ?_) (by
    simp only [halls_bounds_L25]
    rw [← hTi, if_neg (by simp)])
  simp only [halls_bounds_L25]
  rw [← hTi, if_pos (by simpa using hs), mks_nat (by omega) (by omega)]
  simp only [Option.bind_some]
  rw [row_prog hv hR hc hs]
  simp only [Option.bind_some, halls_bounds_j55]
  rw [ap_ok (by simp [tab_len]; omega)]
  simp only [Option.bind_some]
  rw [get_tab (show s < s + 1 by omega)]
  simp only [Option.bind_some]
  rw [get_tab hc]
  simp only [Option.bind_some]
  rw [get_tab hs]
  simp only [Option.bind_some]
  rw [ap_ok (by simp [tab_len]; omega)]
  simp only [Option.bind_some, halls_bounds_j51]
  have h1 := rsum_bound hR hc (show s ≤ T h by omega)
  have h2 := hR.r c s hc hs
  rw [wr_small (n := nsum (R c) s + R c s) (by omega) (by omega), wr_small (n := (s : Int) + 1) (by omega) (by omega), ← nsum_succ, ← tab_succ, ← tab_succ]
theorem most_prog {c : Nat} (hc : c < h.Combs.length) {t : Nat} (ht : t < T h) :
    loopM (halls_bounds_L35 (tab (T h + 1) (nsum (R c))) (tab (T h) (comeT (T h) (bd h R c))) t) (0, 0) = some ((bd h R c).most t) := by
  have hT := T_le hv
  have hb := bd_ok hv hR c hc
  have hn := hv.1.2.2.2.1
  have hB := Bn_small (c := c) (by omega)
  have e1 : wr ((t : Int) + 1) = ((t + 1 : Nat) : Int) := by rw [wr_small (by omega) (by omega)]; omega
  have em : (bd h R c).most t = lmax 0 (fun s => (bd h R c).come s t - (nsum (R c) t - nsum (R c) s)) 0 (t + 1) := by rw [bd_eq]; rfl
  refine loop_stepsX (f := halls_bounds_L35 (tab (T h + 1) (nsum (R c))) (tab (T h) (comeT (T h) (bd h R c))) t) (t + 1) (fun p k => (p, k))
    (lmax 0 (fun s => (bd h R c).come s t - (nsum (R c) t - nsum (R c) s)) 0) _ (s0 := 0) rfl (fun s hs => ?_) (by
    simp only [halls_bounds_L35, e1]
    rw [if_neg (by simp), em])
  simp only [halls_bounds_L35, e1]
  rw [if_pos (by simp; omega), get_tab (show s < T h by omega)]
  simp only [Option.bind_some]
  rw [come_row ht (by omega)]
  simp only [Option.bind_some]
  rw [get_tab (show t < T h + 1 by omega)]
  simp only [Option.bind_some]
  rw [get_tab (show s < T h + 1 by omega)]
  simp only [Option.bind_some]
  have h1 := rsum_bound hR hc (show s ≤ T h by omega)
  have h2 := rsum_bound hR hc (show t ≤ T h by omega)
  have h3 := hb.come s t (by omega) ht
  rw [wr_small (n := nsum (R c) t - nsum (R c) s) (by omega) (by omega), wr_small (n := (bd h R c).come s t - (nsum (R c) t - nsum (R c) s)) (by omega) (by omega), wr_small (n := (s : Int) + 1) (by omega) (by omega), mx_eq]
  simp only [lmax, Nat.zero_add]
theorem flow_prog {c : Nat} (hc : c < h.Combs.length) :
    loopM (halls_bounds_L39 h (opT h R) c (tab (T h + 1) (nsum (R c))) (tab (T h) (comeT (T h) (bd h R c)))) ([0], [], 0) = some (tab (T h + 1) (nsum (bd h R c).flow), tab (T h) (bd h R c).most) := by
  have hT := T_le hv
  have hTi := T_int hv
  have hb := bd_ok hv hR c hc
  refine loop_stepsX (f := halls_bounds_L39 h (opT h R) c (tab (T h + 1) (nsum (R c))) (tab (T h) (comeT (T h) (bd h R c)))) (T h) (fun (p : List Int × List Int) k => (p.1, p.2, k))
    (fun k => (tab (k + 1) (nsum (bd h R c).flow), tab k (bd h R c).most)) _ (s0 := ([0], [])) rfl (fun t ht => ?_) (by
    simp only [halls_bounds_L39]
    rw [← hTi, if_neg (by simp)])
  simp only [halls_bounds_L39]
  rw [← hTi, if_pos (by simpa using ht), most_prog hv hR hc ht]
  simp only [Option.bind_some, halls_bounds_j20]
  rw [ap_ok (by simp [tab_len]; omega)]
  simp only [Option.bind_some]
  rw [get_tab (show t < t + 1 by omega)]
  simp only [Option.bind_some]
  rw [get_tab hc]
  simp only [Option.bind_some]
  rw [get_tab ht]
  simp only [Option.bind_some]
  rw [ap_ok (by simp [tab_len]; omega)]
  simp only [Option.bind_some, halls_bounds_j18]
  have ef : min ((bd h R c).most t) (R c t) = (bd h R c).flow t := by rw [bd_eq]; rfl
  have h1 := nsum_bound (f := (bd h R c).flow) (B := 1000) (k := t) fun i hi => hb.flow i (by omega)
  have h2 := hb.flow t ht
  rw [mn_eq, ef, wr_small (n := nsum (bd h R c).flow t + (bd h R c).flow t) (by omega) (by omega), wr_small (n := (t : Int) + 1) (by omega) (by omega), ← nsum_succ, ← tab_succ, ← tab_succ]
/-- The program's bounds. -/
theorem bounds_prog : halls_bounds h (opT h R) = some (tab h.Combs.length fun c => bdT (T h) (bd h R c) (R c)) := by
  have hn := hv.1.2.2.2.1
  unfold halls_bounds
  have := loop_stepsX (f := halls_bounds_L42 h (opT h R)) h.Combs.length (fun s k => (s, k)) (fun k => tab k fun c => bdT (T h) (bd h R c) (R c)) (tab h.Combs.length fun c => bdT (T h) (bd h R c) (R c)) (s0 := []) rfl (fun c hc => by
    simp only [halls_bounds_L42]
    rw [if_pos (by simpa using hc), cols_prog hv hR hc]
    simp only [Option.bind_some, halls_bounds_j9]
    rw [flow_prog hv hR hc]
    simp only [Option.bind_some, halls_bounds_j11]
    rw [ap_ok (by simp [tab_len]; omega)]
    simp only [Option.bind_some, halls_bounds_j7]
    rw [wr_small (n := (c : Int) + 1) (by omega) (by omega), tab_succ (n := c)]
    rfl) (by simp [halls_bounds_L42])
  rw [this]; rfl
end
/-- With the hall's own rates. -/
theorem own_rates {h : Hall} (hv : V h) : Rt h (rateAt h) := ⟨fun c t _ _ => rate_bounds hv t⟩
theorem own_prog {h : Hall} (hv : V h) : (halls_open h).bind (halls_bounds h) = some (tab h.Combs.length fun c => bdT (T h) (bd h (rateAt h) c) (rateAt h c)) := by
  rw [open_prog hv]; exact bounds_prog hv (own_rates hv)
abbrev own (h : Hall) : Nat → Bd := bd h (rateAt h)
end Go.Nw.HM

namespace Go.Nw.HM
theorem V_ok {h : Hall} (hv : V h) : OkHall h := by
  obtain ⟨⟨s1, s2, s3, s4, s5, s6⟩, hc, ht, hs⟩ := hv
  have at_ : ∀ {α : Type} {l : List α} {x : α}, x ∈ l → ∃ k : Nat, l[k]? = some x := fun {α l x} hx => by
    obtain ⟨j, hj, rfl⟩ := List.getElem_of_mem hx
    exact ⟨j, List.getElem?_eq_getElem hj⟩
  refine ⟨⟨by simp only [maxLen]; omega, fun x hx => ?_⟩, ⟨by simp only [maxLen]; omega, fun x hx => ?_⟩, ⟨by simp only [maxLen]; omega, fun x hx => ?_⟩, by unfold In64; omega⟩
  · obtain ⟨k, hk⟩ := at_ hx
    have := hc k x hk
    unfold goodComb at this
    simp only [OkComb, OkSpan, In64]; omega
  · obtain ⟨k, hk⟩ := at_ hx
    obtain ⟨q1, q2, q3, q4, q5⟩ := ht k x hk
    refine ⟨by simp only [OkSpan, In64]; omega, by simp only [maxLen]; omega, fun y hy => ?_⟩
    obtain ⟨j, hj⟩ := at_ hy
    have h5 := q5 j y hj
    have : -1 < y.Comb := by
      have key : ∀ (j : Nat) (y : Crowd), x.Crowds[j]? = some y → -1 < y.Comb := by
        intro j
        induction j with
        | zero => intro y hy; exact (q5 0 y hy).2.2.2.2
        | succ j ih =>
          intro y hy
          obtain ⟨z, hz⟩ := ex_k (show j < x.Crowds.length by have := lt_k hy; omega)
          have := ih z hz
          have := (q5 (j + 1) y hy).2.2.2.2 z hz
          omega
      exact key j y hj
    unfold goodCrowd at h5
    simp only [OkCrowd, OkSpan, In64]; omega
  · obtain ⟨k, hk⟩ := at_ hx
    have := hs k x hk
    unfold goodShift at this
    simp only [OkShift, In64]; omega
theorem Check_v {h : Hall} (hv : V h) : halls_Check h = some 0 ∧ r06_Check h = some 0 := by
  rcases Check_both (V_ok hv) with ⟨_, h1, h2⟩ | ⟨h1, _⟩
  · exact ⟨h1, h2⟩
  · exact absurd hv h1
/-- The program's check of a comb and of ticks. -/
theorem check_prog {h : Hall} (hv : V h) (c : Int) (ts : List Int) (hl : ts.length ≤ maxLen) :
    halls_check h c ts = some (if (0 ≤ c ∧ c < h.Combs.length) ∧ ∀ t ∈ ts, 0 ≤ t ∧ t < h.Until then 0 else 1) := by
  unfold halls_check
  rw [(Check_v hv).1]
  simp only [Option.bind_some]
  rw [if_neg (by simp)]
  by_cases q : 0 ≤ c ∧ c < h.Combs.length
  · rw [if_neg (by simp; omega)]
    obtain ⟨b, b1, b2⟩ := hasI (l := ts) (f := fun z => some (halls_checkD1 z h)) (p := fun t => ¬ (0 ≤ t ∧ t < h.Until)) hl fun t ht => ⟨_, rfl, by
      simp only [halls_checkD1, Bool.or_eq_true, decide_eq_true_eq]; omega⟩
    rw [b1]
    simp only [Option.bind_some]
    cases b with
    | true =>
      obtain ⟨t, h1, h2⟩ := b2.1 rfl
      rw [if_pos rfl, if_neg fun hh => h2 (hh.2 t h1)]
    | false =>
      rw [if_neg (by simp), if_pos ⟨q, fun t ht => Classical.byContradiction fun hh => by have := b2.2 ⟨t, ht, hh⟩; cases this⟩]
  · rw [if_pos (by simp; omega)]
    simp only [Option.bind_some, if_true]
    rw [if_neg fun hh => q hh.1]
theorem check_in {h : Hall} (hv : V h) {c : Nat} (hc : c < h.Combs.length) : halls_check h c [] = some 0 := by
  rw [check_prog hv c [] (by simp), if_pos ⟨by omega, fun t ht => by cases ht⟩]
theorem bounds_in {h : Hall} (hv : V h) {α : Type} (f : List halls_bound → Option α) : ((halls_open h).bind fun y => (halls_bounds h y).bind f) = f (tab h.Combs.length fun c => bdT (T h) (own h c) (rateAt h c)) := by
  have := own_prog hv
  cases e : halls_open h with
  | none => rw [e] at this; cases this
  | some y =>
    rw [e] at this
    simp only [Option.bind_some] at this ⊢
    rw [this]; rfl
theorem Most_prog {h : Hall} (hv : V h) {c : Nat} (hc : c < h.Combs.length) : halls_Most h c = some (tab (T h) (own h c).most, 0) := by
  unfold halls_Most
  rw [check_in hv hc]
  simp only [Option.bind_some]
  rw [if_neg (by simp), bounds_in hv, get_tab hc]
  rfl
def limit (h : Hall) (c : Nat) : Int := ((h.Combs[c]?).map (·.Limit)).getD 0
theorem limit_at {h : Hall} {c : Nat} {x : Comb} (hx : h.Combs[c]? = some x) : limit h c = x.Limit := by simp [limit, hx]
def Keeps (h : Hall) (c : Nat) : Prop := ∀ t, t < T h → (own h c).most t ≤ limit h c
theorem keeps_prog {h : Hall} (hv : V h) {c : Nat} (hc : c < h.Combs.length) : (Keeps h c ∧ l06_keeps h c = some (true, true)) ∨ (¬ Keeps h c ∧ l06_keeps h c = some (false, true)) := by
  obtain ⟨x, hx⟩ := ex_k hc
  have hT := T_le hv
  unfold l06_keeps
  rw [Most_prog hv hc]
  simp only [Option.bind_some]
  rw [if_neg (by simp)]
  rcases loop_scan (f := l06_keeps_L9 h c (tab (T h) (own h c).most, 0)) (tab (T h) (own h c).most) (fun _ m => limit h c < m) (.inr (false, true)) (.inl ()) (fun k m hm hb => by
    simp only [l06_keeps_L9, get_k hm, get_k hx, Option.bind_some]
    rw [if_pos (by simpa using lt_k hm), if_pos (by rw [← limit_at hx]; simpa using hb)]) (fun k m hm hb => by
    simp only [l06_keeps_L9, get_k hm, get_k hx, Option.bind_some]
    rw [if_pos (by simpa using lt_k hm), if_neg (by rw [← limit_at hx]; simpa using hb), wr_k (lt_k hm) (by simp only [tab_len, maxLen]; omega)]) (by simp [l06_keeps_L9]) with ⟨h1, h2⟩ | ⟨⟨k, m, hm, hb⟩, h2⟩
  · rw [h2]
    exact .inl ⟨fun t ht => Int.not_lt.1 (h1 t _ (tab_at ht)), rfl⟩
  · rw [h2]
    refine .inr ⟨fun hk => ?_, rfl⟩
    have hkt : k < T h := by have := lt_k hm; rwa [tab_len] at this
    rw [tab_at hkt] at hm; cases hm
    exact absurd (hk k hkt) (Int.not_le.2 hb)

/- A hall with a fixed rate of a comb. -/
def setRate (r : Int) (x : Comb) : Comb := ⟨r, x.Limit, x.Next, x.Walk⟩
def atH (h : Hall) (c : Nat) (r : Int) : Hall := ⟨h.Combs.modify c (setRate r), h.Trains, h.Shifts.filter (fun s => decide (s.Comb ≠ (c : Int))), h.Until⟩
section
variable {h : Hall} (hv : V h) {c : Nat} (hc : c < h.Combs.length) {r : Int} (hr : 0 ≤ r ∧ r ≤ 1000)
theorem at_comb {u : Nat} : (atH h c r).Combs[u]? = if c = u then (h.Combs[u]?).map (setRate r) else h.Combs[u]? := by
  simp only [atH, List.getElem?_modify]
  by_cases e : c = u
  · subst e; simp
  · simp [e]
theorem at_len : (atH h c r).Combs.length = h.Combs.length := by simp [atH]
include hv hc
theorem At_prog : r06_At h c r = some (atH h c r) := by
  obtain ⟨x, hx⟩ := ex_k hc
  have hn := hv.1.2.2.2.1
  have hs := hv.1.2.2.2.2.2
  unfold r06_At
  rw [ap_ok (by simp; omega)]
  simp only [Option.bind_some, List.nil_append, get_k hx]
  have := loop_stepsX (f := r06_At_L10 h c) h.Shifts.length (fun s k => (s, k)) (fun k => (h.Shifts.take k).filter (fun s => decide (s.Comb ≠ (c : Int)))) (h.Shifts.filter (fun s => decide (s.Comb ≠ (c : Int)))) (s0 := []) (by simp) (fun k hk => by
    obtain ⟨y, hy⟩ := ex_k hk
    simp only [r06_At_L10, get_k hy, Option.bind_some]
    rw [if_pos (by simpa using hk), List.take_add_one, hy, List.filter_append]
    have hfl : ((h.Shifts.take k).filter (fun s => decide (s.Comb ≠ (c : Int)))).length ≤ 20 := by
      have := List.length_filter_le (fun s : Shift => decide (s.Comb ≠ (c : Int))) (h.Shifts.take k)
      have : (h.Shifts.take k).length ≤ h.Shifts.length := by rw [List.length_take]; omega
      omega
    by_cases e : y.Comb = (c : Int)
    · rw [if_neg (by simpa using e)]
      simp only [r06_At_j11, wr_k hk (show h.Shifts.length ≤ maxLen by simp only [maxLen]; omega)]
      simp [e]
    · rw [if_pos (by simpa using e), ap_ok (by simp only [List.length_cons, List.length_nil]; omega)]
      simp only [Option.bind_some, r06_At_j11, wr_k hk (show h.Shifts.length ≤ maxLen by simp only [maxLen]; omega)]
      simp [e]) (by simp [r06_At_L10])
  rw [this]
  simp only [Option.bind_some, r06_At_j6, atH, Option.some.injEq, Hall.mk.injEq, and_true]
  refine List.ext_getElem? fun u => ?_
  rw [List.getElem?_modify, List.getElem?_set]
  by_cases e : c = u
  · subst e; rw [hx]; simp [hc, setRate]
  · simp [e]
include hr in
theorem at_V : V (atH h c r) := by
  obtain ⟨⟨s1, s2, s3, s4, s5, s6⟩, v1, v2, v3⟩ := hv
  refine ⟨⟨s1, s2, by rw [at_len]; exact s3, by rw [at_len]; exact s4, s5, ?_⟩, fun k x hx => ?_, fun k x hx => ?_, fun k x hx => ?_⟩
  · have := List.length_filter_le (fun s : Shift => decide (s.Comb ≠ (c : Int))) h.Shifts
    show (h.Shifts.filter _).length ≤ 20
    omega
  · rw [at_len]
    rw [at_comb] at hx
    by_cases e : c = k
    · rw [if_pos e] at hx
      cases hy : h.Combs[k]? with
      | none => rw [hy] at hx; cases hx
      | some y =>
        rw [hy] at hx; cases hx
        have := v1 k y hy
        unfold goodComb at this ⊢
        simp only [setRate]; omega
    · rw [if_neg e] at hx; exact v1 k x hx
  · rw [at_len]; exact v2 k x hx
  · rw [at_len]
    have hm : x ∈ h.Shifts := (List.mem_filter.1 (List.mem_of_getElem? hx)).1
    obtain ⟨j, hj, hj'⟩ := List.getElem_of_mem hm
    have hg := v3 j x (by rw [List.getElem?_eq_getElem hj, hj'])
    refine ⟨hg.1, hg.2.1, hg.2.2.1, hg.2.2.2.1, hg.2.2.2.2.1, hg.2.2.2.2.2.1, fun i y hi hy => ?_⟩
    have pw : h.Shifts.Pairwise fun a b => a.At ≤ b.At := by
      rw [List.pairwise_iff_getElem]
      intro a b ha hb hab
      obtain ⟨d, rfl⟩ : ∃ d, b = a + d := ⟨b - a, by omega⟩
      exact sorted ⟨⟨s1, s2, s3, s4, s5, s6⟩, v1, v2, v3⟩ d a _ _ (List.getElem?_eq_getElem ha) (List.getElem?_eq_getElem hb)
    have pf := (List.pairwise_iff_getElem.1 (pw.filter (fun s => decide (s.Comb ≠ (c : Int)))))
    subst hi
    obtain ⟨a1, a2⟩ := List.getElem?_eq_some_iff.1 hy
    obtain ⟨b1, b2⟩ := List.getElem?_eq_some_iff.1 hx
    have := pf i (i + 1) a1 b1 (by omega)
    have e1 : (List.filter (fun s => decide (s.Comb ≠ (c : Int))) h.Shifts)[i]'a1 = y := a2
    have e2 : (List.filter (fun s => decide (s.Comb ≠ (c : Int))) h.Shifts)[i + 1]'b1 = x := b2
    rw [e1, e2] at this
    exact this
omit hv hc in
theorem at_T : T (atH h c r) = T h := rfl
omit hv in
theorem at_rate {t : Nat} : rateAt (atH h c r) c t = r := by
  unfold rateAt
  have h0 : rate0 (atH h c r) c = r := by
    obtain ⟨x, hx⟩ := ex_k hc
    unfold rate0; rw [at_comb, if_pos rfl, hx]; rfl
  rw [h0]
  have : ∀ (l : List Shift), (∀ s ∈ l, s.Comb ≠ (c : Int)) → l.foldl (rstep c t) r = r := by
    intro l
    induction l with
    | nil => intro _; rfl
    | cons s l ih =>
      intro hl
      rw [List.foldl_cons, show rstep c t r s = r from by unfold rstep; rw [if_neg fun hh => hl s List.mem_cons_self hh.1]]
      exact ih fun x hx => hl x (List.mem_cons_of_mem _ hx)
  exact this _ fun s hs => by simpa using (List.mem_filter.1 hs).2
omit hv hc in
theorem at_rate_ne {u t : Nat} (hu : u ≠ c) : rateAt (atH h c r) u t = rateAt h u t := by
  unfold rateAt
  have h0 : rate0 (atH h c r) u = rate0 h u := by unfold rate0; rw [at_comb, if_neg fun hh => hu hh.symm]
  rw [h0]
  have : ∀ (l : List Shift) (a : Int), (l.filter (fun s => decide (s.Comb ≠ (c : Int)))).foldl (rstep u t) a = l.foldl (rstep u t) a := by
    intro l
    induction l with
    | nil => intro _; rfl
    | cons s l ih =>
      intro a
      by_cases e : s.Comb = (c : Int)
      · rw [List.filter_cons_of_neg (by simp [e]), List.foldl_cons, show rstep u t a s = a from by unfold rstep; rw [if_neg fun hh => by omega]]
        exact ih a
      · rw [List.filter_cons_of_pos (by simp [e]), List.foldl_cons, List.foldl_cons]
        exact ih _
  exact this _ _
omit hv hc in
theorem at_limit {u : Nat} : limit (atH h c r) u = limit h u := by
  unfold limit; rw [at_comb]
  by_cases e : c = u
  · rw [if_pos e]; cases h.Combs[u]? <;> rfl
  · rw [if_neg e]
omit hv hc in
theorem at_walk {u c' s t : Nat} {p : Nat → Bd} : walkIn (atH h c r) c' p s t u = walkIn h c' p s t u := by
  unfold walkIn; rw [at_comb]
  by_cases e : c = u
  · rw [if_pos e]; cases h.Combs[u]? <;> rfl
  · rw [if_neg e]
omit hv hc in
theorem at_comeOf {c' : Nat} {p : Nat → Bd} : comeOf (atH h c r) c' p = comeOf h c' p := by
  funext s t
  unfold comeOf
  rw [nsum_congr fun u _ => at_walk]; rfl
end
/-- Bounds look only at the combs ahead of them, and at their rates. -/
theorem bd_congr {h : Hall} {R S : Nat → Nat → Int} : ∀ {c : Nat}, (∀ u, u ≤ c → R u = S u) → bd h R c = bd h S c := by
  intro c
  induction c using Nat.strongRecOn with
  | _ c ih =>
    intro hR
    rw [bd_eq, bd_eq (R := S)]
    unfold mkBd
    rw [comeOf_congr fun u hu => ih u hu fun v hv => hR v (by omega), hR c (Nat.le_refl _)]
theorem bd_at {h : Hall} {c : Nat} {r : Int} {R : Nat → Nat → Int} : ∀ {u : Nat}, bd (atH h c r) R u = bd h R u := by
  intro u
  induction u using Nat.strongRecOn with
  | _ u ih =>
    rw [bd_eq, bd_eq (h := h)]
    unfold mkBd
    rw [at_comeOf, comeOf_congr fun v hv => ih v hv]
theorem come_congr {h : Hall} {R S : Nat → Nat → Int} {c : Nat} (hR : ∀ u, u < c → R u = S u) : (bd h R c).come = (bd h S c).come := by
  rw [bd_eq, bd_eq (R := S)]
  exact comeOf_congr fun u hu => bd_congr fun v hv => hR v (by omega)
theorem at_come {h : Hall} {c : Nat} {r : Int} : (own (atH h c r) c).come = (own h c).come := by
  unfold own
  rw [bd_at]
  exact come_congr fun u hu => funext fun t => at_rate_ne (by omega)
theorem most_eq {h : Hall} {R : Nat → Nat → Int} {c t : Nat} : (bd h R c).most t = lmax 0 (fun s => (bd h R c).come s t - (nsum (R c) t - nsum (R c) s)) 0 (t + 1) := by rw [bd_eq]; rfl
theorem nsum_const {r : Int} {k : Nat} : nsum (fun _ => r) k = r * k := by
  induction k with
  | zero => simp [nsum_zero]
  | succ k ih => rw [nsum_succ, ih, Int.natCast_add, Int.mul_add]; simp
/-- When a comb keeps its limit with a fixed rate. -/
theorem at_keeps {h : Hall} (hv : V h) {c : Nat} (hc : c < h.Combs.length) {r : Int} : Keeps (atH h c r) c ↔ ∀ t, t < T h → ∀ s, s ≤ t → (own h c).come s t - r * ((t : Int) - s) ≤ limit h c := by
  have hl : 0 ≤ limit h c := by
    obtain ⟨x, hx⟩ := ex_k hc
    rw [limit_at hx]; exact (hv.2.1 c x hx).2.2.1
  unfold Keeps
  rw [at_T, at_limit]
  refine forall_congr' fun t => imp_congr_right fun ht => ?_
  unfold own
  rw [most_eq, lmax_le]
  have e : ∀ s, s ≤ t → (bd (atH h c r) (rateAt (atH h c r)) c).come (0 + s) t - (nsum (rateAt (atH h c r) c) t - nsum (rateAt (atH h c r) c) (0 + s)) = (bd h (rateAt h) c).come s t - r * ((t : Int) - s) := fun s hs => by
    have e1 : rateAt (atH h c r) c = fun _ => r := funext fun t => at_rate hc
    have := at_come (h := h) (c := c) (r := r)
    unfold own at this
    rw [this, e1, nsum_const, nsum_const, Nat.zero_add, Int.mul_sub]
  constructor
  · rintro ⟨_, h2⟩ s hs
    have := h2 s (by omega)
    rwa [e s hs] at this
  · intro h2
    refine ⟨hl, fun s hs => ?_⟩
    rw [e s (by omega)]
    exact h2 s (by omega)
end Go.Nw.HM

namespace Go.Nw.HM
theorem q_le {a d r : Int} (hd : 1 ≤ d) (hr : 0 ≤ r) : (a + d - 1).tdiv d ≤ r ↔ a ≤ r * d := by
  by_cases h : 0 ≤ a + d - 1
  · rw [Int.tdiv_eq_ediv_of_nonneg h]
    have := Int.ediv_lt_iff_lt_mul (a := a + d - 1) (b := r + 1) (c := d) (by omega)
    rw [Int.add_mul, Int.one_mul] at this
    omega
  · have h1 : (a + d - 1).tdiv d ≤ 0 := by
      have := Int.neg_tdiv (a := -(a + d - 1)) (b := d)
      rw [Int.neg_neg] at this
      rw [this]
      have := Int.tdiv_nonneg (a := -(a + d - 1)) (b := d) (by omega) (by omega)
      omega
    have h2 : 0 ≤ r * d := Int.mul_nonneg hr (by omega)
    omega
theorem q_bound {a d : Int} (ha : -1000000000000 ≤ a) (ha' : a ≤ 1000000000000) : -1000000000000 ≤ a.tdiv d ∧ a.tdiv d ≤ 1000000000000 := by
  have h := Int.natAbs_tdiv a d
  have h2 : (a.tdiv d).natAbs ≤ a.natAbs := by rw [h]; exact Nat.div_le_self _ _
  omega
section
variable {h : Hall} (hv : V h) {c : Nat} (hc : c < h.Combs.length)
def qN (h : Hall) (c s t : Nat) : Int := ((own h c).come s t - limit h c + ((t : Int) - s) - 1).tdiv ((t : Int) - s)
def nest (h : Hall) (c : Nat) : Nat → Int
  | 0 => 0
  | s + 1 => lmax (nest h c s) (qN h c s) (s + 1) (T h - (s + 1))
theorem nest_le {n : Nat} {r : Int} : nest h c n ≤ r ↔ 0 ≤ r ∧ ∀ s, s < n → ∀ t, s < t → t < T h → qN h c s t ≤ r := by
  induction n with
  | zero => simp [nest]
  | succ n ih =>
    simp only [nest, lmax_le, ih]
    constructor
    · rintro ⟨⟨h1, h2⟩, h3⟩
      refine ⟨h1, fun s hs t hst ht => ?_⟩
      by_cases e : s = n
      · subst e
        have := h3 (t - (s + 1)) (by omega)
        rwa [show s + 1 + (t - (s + 1)) = t by omega] at this
      · exact h2 s (by omega) t hst ht
    · rintro ⟨h1, h2⟩
      exact ⟨⟨h1, fun s hs => h2 s (by omega)⟩, fun i hi => h2 n (by omega) _ (by omega) (by omega)⟩
include hv hc
theorem own_ok : BdOk (own h c) (T h) 1000000000 := by
  have hn := hv.1.2.2.2.1
  have := bd_ok hv (own_rates hv) c hc
  have hB := Bn_small (c := c) (by omega)
  exact ⟨fun s t hst ht => by have := this.come s t hst ht; unfold own; omega, fun t ht => by have := this.most t ht; unfold own; omega, this.flow⟩
theorem limit_bound : 0 ≤ limit h c ∧ limit h c ≤ 100000 := by
  obtain ⟨x, hx⟩ := ex_k hc
  have := hv.2.1 c x hx
  unfold goodComb at this
  rw [limit_at hx]; omega
theorem nest_bound (n : Nat) : 0 ≤ nest h c n ∧ nest h c n ≤ 1000000000000 := by
  refine ⟨?_, nest_le.2 ⟨by omega, fun s hs t hst ht => ?_⟩⟩
  · have := (nest_le (h := h) (c := c) (n := n) (r := nest h c n)).1 (Int.le_refl _)
    exact this.1
  · have h1 := (own_ok hv hc).come s t (by omega) ht
    have h2 := limit_bound hv hc
    have h3 := T_le hv
    exact (q_bound (by omega) (by omega)).2
theorem row_need {x : Comb} (hx : h.Combs[c]? = some x) {s : Nat} (hs : s < T h) (N : Int) :
    loopM (halls_Need_L15 h (bdT (T h) (own h c) (rateAt h c)) x s) (N, ((s + 1 : Nat) : Int)) = some (lmax N (qN h c s) (s + 1) (T h - (s + 1))) := by
  have hT := T_le hv
  have hTi := T_int hv
  refine loop_from (f := halls_Need_L15 h (bdT (T h) (own h c) (rateAt h c)) x s) (T h) (fun s k => (s, k)) (fun k => lmax N (qN h c s) (s + 1) (k - (s + 1))) _ (s + 1) (by rw [Nat.sub_self]; rfl) (by omega) (fun t hst ht => ?_) (by
    simp only [halls_Need_L15]
    rw [← hTi, if_neg (by simp)])
  simp only [halls_Need_L15]
  have h1 := (own_ok hv hc).come s t (by omega) ht
  have h2 := limit_bound hv hc
  have hl := limit_at hx
  rw [← hTi, if_pos (by simpa using ht)]
  simp only [bdT]
  rw [get_tab hs]
  simp only [Option.bind_some]
  rw [come_row ht (by omega)]
  simp only [Option.bind_some]
  rw [← hl, wr_small (n := (own h c).come s t - limit h c) (by omega) (by omega), wr_small (n := (own h c).come s t - limit h c + t) (by omega) (by omega),
    wr_small (n := (own h c).come s t - limit h c + t - s) (by omega) (by omega), wr_small (n := (own h c).come s t - limit h c + t - s - 1) (by omega) (by omega), wr_small (n := (t : Int) - s) (by omega) (by omega), wr_small (n := (t : Int) + 1) (by omega) (by omega), quo_ok (by omega)]
  have hq := q_bound (a := (own h c).come s t - limit h c + t - s - 1) (d := (t : Int) - s) (by omega) (by omega)
  simp only [Option.bind_some]
  rw [show IntKind.i64.wrap (((own h c).come s t - limit h c + t - s - 1).tdiv ((t : Int) - s)) = ((own h c).come s t - limit h c + t - s - 1).tdiv ((t : Int) - s) from wr_small (by omega) (by omega), mx_eq]
  rw [show t + 1 - (s + 1) = (t - (s + 1)) + 1 by omega]
  simp only [lmax]
  rw [show s + 1 + (t - (s + 1)) = t by omega]
  congr 4
  unfold qN
  congr 1
  omega
theorem need_ok : (∃ r, halls_Need h c = some r ∧ r = (0, 3) ∧ ∀ r, 0 ≤ r → r ≤ 1000 → ¬ Keeps (atH h c r) c) ∨ (∃ m, halls_Need h c = some (m, 0) ∧ 0 ≤ m ∧ m ≤ 1000 ∧ ∀ r, 0 ≤ r → (Keeps (atH h c r) c ↔ m ≤ r)) := by
  obtain ⟨x, hx⟩ := ex_k hc
  have hT := T_le hv
  have hTi := T_int hv
  have hl := limit_at hx
  unfold halls_Need
  rw [check_in hv hc]
  simp only [Option.bind_some]
  rw [if_neg (by simp), bounds_in hv, get_tab hc]
  simp only [Option.bind_some, get_k hx]
  have keyR : ∀ r, 0 ≤ r → (Keeps (atH h c r) c ↔ (∀ s, s < T h → (own h c).come s s ≤ limit h c) ∧ nest h c (T h) ≤ r) := fun r hr => by
    rw [at_keeps hv hc, nest_le]
    constructor
    · intro hk
      refine ⟨fun s hs => ?_, hr, fun s hs t hst ht => ?_⟩
      · have := hk s hs s (Nat.le_refl _)
        rw [Int.sub_self, Int.mul_zero] at this; omega
      · have h1 := hk t ht s (by omega)
        unfold qN
        rw [q_le (by omega) hr]; omega
    · rintro ⟨hd, _, hn⟩ t ht s hst
      by_cases e : s = t
      · subst e
        have := hd s ht
        rw [Int.sub_self, Int.mul_zero]; omega
      · have := hn s (by omega) t (by omega) ht
        unfold qN at this
        rw [q_le (by omega) hr] at this
        omega
  have hat : ∀ k y, (List.range (T h))[k]? = some y → k < T h := fun k y hk => by have := lt_k hk; simpa using this
  rcases loop_scanS (f := halls_Need_L17 h (bdT (T h) (own h c) (rateAt h c)) x) (List.range (T h)) (fun s k => (s, k)) (nest h c) (fun k _ => limit h c < (own h c).come k k) (.inr (0, 3)) (.inl (nest h c (T h))) (fun s y _ hy hb => by
      have hs := hat s y hy
      simp only [halls_Need_L17]
      rw [← hTi, if_pos (by simpa using hs)]
      simp only [bdT]
      rw [get_tab hs]
      simp only [Option.bind_some]
      rw [come_row hs (Nat.le_refl _)]
      simp only [Option.bind_some]
      rw [if_pos (by rw [← hl]; simpa using hb)]) (fun s y _ hy hb => by
      have hs := hat s y hy
      simp only [halls_Need_L17]
      rw [← hTi, if_pos (by simpa using hs)]
      have := row_need hv hc hx hs (nest h c s)
      rw [show wr ((s : Int) + 1) = ((s + 1 : Nat) : Int) from by rw [wr_small (by omega) (by omega)]; omega, this]
      simp only [bdT]
      rw [get_tab hs]
      simp only [Option.bind_some]
      rw [come_row hs (Nat.le_refl _)]
      simp only [Option.bind_some]
      rw [if_neg (by rw [← hl]; simpa using hb)]
      simp only [halls_Need_j21]
      rw [show wr ((s : Int) + 1) = ((s + 1 : Nat) : Int) from by rw [wr_small (by omega) (by omega)]; omega]
      simp [nest]) (by
      simp only [halls_Need_L17, List.length_range]
      rw [← hTi, if_neg (by simp)]) (s0 := 0) rfl with ⟨h1, h2⟩ | ⟨⟨k, y, hy, hb⟩, h2⟩
  · rw [h2]
    have hd : ∀ s, s < T h → (own h c).come s s ≤ limit h c := fun s hs => Int.not_lt.1 (h1 s s (by simp [hs]))
    simp only [Option.bind_some, halls_Need_j14]
    by_cases q : 1000 < nest h c (T h)
    · rw [if_pos (by simpa using q)]
      exact .inl ⟨_, rfl, rfl, fun r h1 h2 hk => by have := ((keyR r h1).1 hk).2; omega⟩
    · rw [if_neg (by simpa using q)]
      exact .inr ⟨_, rfl, (nest_bound hv hc _).1, by omega, fun r hr => by rw [keyR r hr]; exact ⟨fun hh => hh.2, fun hh => ⟨hd, hh⟩⟩⟩
  · rw [h2]
    refine .inl ⟨_, rfl, rfl, fun r h1 h2 hk => ?_⟩
    have := ((keyR r h1).1 hk).1 k (hat k y hy)
    omega
end
/-- What comes first in each law about a valid hall. -/
theorem guard_ok {h : Hall} (hk : OkHall h) : ((l06_Far h).bind fun y4 => (if y4 then some true else (r06_Check h).bind fun y5 => some (decide (¬y5 = 0)))) = some true ∨ (V h ∧ ((l06_Far h).bind fun y4 => (if y4 then some true else (r06_Check h).bind fun y5 => some (decide (¬y5 = 0)))) = some false) := by
  obtain ⟨b, hb1⟩ := Far_ok hk
  rw [hb1]
  simp only [Option.bind_some]
  cases b with
  | true => exact .inl rfl
  | false =>
    rw [if_neg (by simp)]
    rcases Check_ref hk with ⟨h1, h2⟩ | ⟨h1, h2⟩
    · rw [h2]; exact .inr ⟨h1, rfl⟩
    · rw [h2]; exact .inl rfl
theorem need_plain (hw : l06_works = some true) (h : Hall) (comb rate : Int) (hk : OkHall h) (_ : In64 comb) (_ : In64 rate) : l06_HallsNeed h comb rate = some true := by
  unfold l06_HallsNeed
  rw [← Option.bind_assoc]
  rcases guard_ok hk with g | ⟨hv, g⟩
  · rw [g]; simp [hw]
  · rw [g]
    simp only [Option.bind_some, Bool.false_or]
    by_cases q : comb < 0 ∨ h.Combs.length ≤ comb
    · rw [if_pos (by simpa using q), hw]; rfl
    · rw [if_neg (by simpa using q)]
      obtain ⟨c, rfl⟩ : ∃ c : Nat, comb = c := ⟨comb.toNat, by omega⟩
      have hc : c < h.Combs.length := by omega
      rcases need_ok hv hc with ⟨r, h1, rfl, h3⟩ | ⟨m, h1, h2, h3, h4⟩
      · rw [h1]
        simp only [Option.bind_some]
        rw [if_pos (by simp)]
        by_cases q2 : rate < 0 ∨ 1000 < rate
        · rw [if_pos (by simpa using q2), hw]; rfl
        · rw [if_neg (by simpa using q2), At_prog hv hc]
          simp only [Option.bind_some]
          rcases keeps_prog (at_V hv hc (r := rate) (by omega)) (c := c) (by rw [at_len]; exact hc) with ⟨k1, _⟩ | ⟨_, k2⟩
          · exact absurd k1 (h3 rate (by omega) (by omega))
          · rw [k2, hw]; rfl
      · rw [h1]
        simp only [Option.bind_some]
        rw [if_neg (by simp), if_neg (by simp; omega), At_prog hv hc]
        simp only [Option.bind_some]
        rcases keeps_prog (at_V hv hc (r := m) (by omega)) (c := c) (by rw [at_len]; exact hc) with ⟨k1, k2⟩ | ⟨k1, _⟩
        · rw [k2]
          simp only [Option.bind_some]
          rw [if_neg (by simp)]
          by_cases q3 : m = 0
          · rw [if_pos (by simpa using q3), hw]; rfl
          · rw [if_neg (by simpa using q3), wr_small (by omega) (by omega), At_prog hv hc]
            simp only [Option.bind_some]
            rcases keeps_prog (at_V hv hc (r := m - 1) (by omega)) (c := c) (by rw [at_len]; exact hc) with ⟨k1, k2⟩ | ⟨_, k2⟩
            · have := (h4 (m - 1) (by omega)).1 k1
              omega
            · rw [k2, hw]; rfl
        · exact absurd ((h4 m h2).2 (Int.le_refl _)) k1
end Go.Nw.HM
